-- printed by a program of this session (wip/gp) out of the translation; Lean checks it
import Derived.Test.YthkcgimnagpmaaaPAx0
import Derived.Test.YthkcgimnagpmaaaPAx2
import Derived.Test.YthkcgimnagpmaaaPAx7
import Derived.Test.YthkcgimnagpmaaaPAx9
namespace Go.Proofs.Ythkcgimnagpmaaa.PA
open Go.RowKit Go.Proofs.YthkcgimnagpmaaaW.PrintWords Go.Proofs.YthkcgimnagpmaaaW.PrintLast Go.Proofs.YthkcgimnagpmaaaW.PrintMore Go.Proofs.YthkcgimnagpmaaaSq
attribute [local go_sem] max2_int min2_int max_two min_two max_three min_three max_four min_four   -- for this text's walks alone
attribute [local go_sem] Go.Proofs.YthkcgimnagpmaaaGp.str_geq Go.Proofs.YthkcgimnagpmaaaGp.str_gtr Go.Proofs.YthkcgimnagpmaaaGp.str_leq
set_option linter.unusedVariables false
set_option linter.unusedSimpArgs false

set_option maxHeartbeats 8000000
set_option maxRecDepth 100000
/-! ### spec_l1Cur_places: function 67 -/
def spec_l1Cur_places.f (s0_0 : List Int) (s0_1 : Int) (s0_2 : Int) : Option (Int × Int × Int) := (spec_l1Cur_pick.f s0_0 s0_1 s0_2 8).bind fun bt990 => (if bt990.1 = 0 then ((spec_l1Cur_among.f s0_0 bt990.2.1 bt990.2.2 (([(-1), 0, 64, 65, 4096, 4097] : List Int))).bind fun bt996 => (some (bt996.1, bt996.2.1, bt996.2.2))) else (if bt990.1 = 1 then ((spec_l1Cur_pick.f s0_0 bt990.2.1 bt990.2.2 4096).bind fun bt999 => (some (wrap64 (1 + bt999.1), bt999.2.1, bt999.2.2))) else ((spec_l1Cur_pick.f s0_0 bt990.2.1 bt990.2.2 24).bind fun bt1002 => (some (wrap64 (1 + bt1002.1), bt1002.2.1, bt1002.2.2)))))
theorem spec_l1Cur_places.calls (g : Nat) (s0_0 : List Int) (s0_1 : Int) (s0_2 : Int) (r1 : Int) (r2 : Int) (r3 : Int) (w0 w : World) (hI : IsS81 w0 w g s0_0 s0_1 s0_2) (hB : Below w0.heap.size w0 w) (h : spec_l1Cur_places.f s0_0 s0_1 s0_2 = some (r1, r2, r3)) :
  Calls Try.prog 67 #[.pointer (some ⟨g, 0, none⟩)] w fun e w' => e = .returned (.int .i64 r1) ∧ IsS81 w0 w' g s0_0 r2 r3 ∧ Below w0.heap.size w0 w' ∧ KeepBut w w' g none := by
 have HI0 := am hI; have HK := am (KeepBut.refl w g none); have HL := am hB.size; clear hI; have HW0 := am hB.size; have HB := am hB; clear hB; have H : ((spec_l1Cur_pick.f s0_0 s0_1 s0_2 8).bind fun bt990 => (if bt990.1 = 0 then ((spec_l1Cur_among.f s0_0 bt990.2.1 bt990.2.2 (([(-1), 0, 64, 65, 4096, 4097] : List Int))).bind fun bt996 => (some (bt996.1, bt996.2.1, bt996.2.2))) else (if bt990.1 = 1 then ((spec_l1Cur_pick.f s0_0 bt990.2.1 bt990.2.2 4096).bind fun bt999 => (some (wrap64 (1 + bt999.1), bt999.2.1, bt999.2.2))) else ((spec_l1Cur_pick.f s0_0 bt990.2.1 bt990.2.2 24).bind fun bt1002 => (some (wrap64 (1 + bt1002.1), bt1002.2.1, bt1002.2.2)))))) = some (r1, r2, r3) := h; clear h; replace H := Option.bind_eq_some_iff.mp H; obtain ⟨⟨t990, t991, t992⟩, A20, H⟩ := H; (try dsimp -simprocs only at H); have A2 := am A20; clear A20
 by_cases c3 : t990 = 0
 ·rw [if_pos c3] at H
  have c3b0 : (t990 == 0) = true := beq_iff_eq.mpr c3; have c3b1 : (t990 != 0) = false := bne_eq_false_iff_eq.mpr c3; clear c3; obtain ⟨y993, hy993⟩ : ∃ y_ : List Int, y_ = (([(-1), 0, 64, 65, 4096, 4097] : List Int)) := ⟨_, rfl⟩
  replace H : ((spec_l1Cur_among.f s0_0 t991 t992 y993).bind fun bt996 => (some (bt996.1, bt996.2.1, bt996.2.2))) = some (r1, r2, r3) := by first | (rw [hy993]; with_reducible exact H) | (have H2_ := (Option.bind_some _ _).symm.trans H; rw [hy993]; with_reducible exact H2_) | (have H2_ := (Option.bind_some _ _).symm.trans H; with_reducible exact H2_) | with_reducible exact H | (rw [hy993]; exact H) | exact H
  have Ny993 := am hy993; clear hy993; replace H := Option.bind_eq_some_iff.mp H; obtain ⟨⟨t996, t997, t998⟩, A40, H⟩ := H; (try dsimp -simprocs only at H); have A4 := am A40; clear A40
  simp only [Option.some.injEq, Prod.mk.injEq] at H
  obtain ⟨rfl, rfl, rfl⟩ := H
  go_enter Try.func67, Try.ntmps67
  go_wp2_with (first | ((with_reducible refine gate_callee (f := 101) rfl ?_); refine gL (some 4) Try.func101 #[.pointer (some ⟨g, 0, none⟩), .int .i64 8] ?_; (with_reducible refine (spec_l1Cur_pick.calls g s0_0 s0_1 s0_2 8 t990 t991 t992 w0 _ ?side1 ?side2 A2.out).mono ?_); (case side1 => repeat (first | (with_reducible first | exact HI0.out | apply IsS81.alloc | apply IsS81.drewN | apply IsS81.drew | apply IsS81.set_1 | apply IsS81.set_2) | exact HI0.out)); (case side2 => repeat (first | (with_reducible first | exact HB.out | apply below_alloc | apply pw_below_drewN | apply below_drew1 | refine below_set ?_ (IsS81.ge HI0.out)) | exact HB.out)); rintro e w5 ⟨rfl, hi, hb, hk⟩; refine ⟨_, rfl, ?_⟩; have n0_ := am (KeepBut.trans (by repeat (first | (with_reducible first | exact HK.out | apply KeepBut.set_ | apply keep_drewN | apply keep_drew | apply keep_alloc) | exact HK.out)) hk (.inl rfl)); have n1_ := am (hb); have n2_ := am (hi); clear HK HB HI0; revert n0_ n1_ n2_; intro HK HB HI0; (try clear hb); (try clear hb2); (try clear hk); (try clear hi)) | ((with_reducible refine gate_dst (N := 8) rfl ?_); refine Kd.R_lit (Kd.int .i64) _ 3 ?hg (N := 8) ?hd (xs := ([(-1), 0, 64, 65, 4096, 4097] : List Int)) (inner := [.int .i64 (-1), .int .i64 0, .int .i64 64, .int .i64 65, .int .i64 4096, .int .i64 4097]) (ok := fun _ => True) (okp := fun _ => True) ?hr ?hp (fun _ hk => hk) trivial (Below.refl _ _) (Nat.le_refl _) (by simp) ?_; (case hd => rfl); (case hg => rfl); (case hr => first | (go_simp; done) | (go_simp; rfl)); (case hp => exact (Reps.one (show Kd.M (Kd.int .i64) _ _ _ (-1) [.int .i64 (-1)] from rfl) (Reps.one (show Kd.M (Kd.int .i64) _ _ _ 0 [.int .i64 0] from rfl) (Reps.one (show Kd.M (Kd.int .i64) _ _ _ 64 [.int .i64 64] from rfl) (Reps.one (show Kd.M (Kd.int .i64) _ _ _ 65 [.int .i64 65] from rfl) (Reps.one (show Kd.M (Kd.int .i64) _ _ _ 4096 [.int .i64 4096] from rfl) (Reps.one (show Kd.M (Kd.int .i64) _ _ _ 4097 [.int .i64 4097] from rfl) (Reps.none _ _)))))))); intro v994 w6 ho7 hb hg_ hnew_; clear hg_ hnew_; (first | rw [← Ny993.out] at ho7 | (simp only [Int.reduceToNat] at ho7; rw [← Ny993.out] at ho7)); have n0_ := am (Kd.R_lower ho7 (keep_size (w := w) (g := g) (row := none) (by repeat (first | (with_reducible first | exact HK.out | apply KeepBut.set_ | apply keep_drewN | apply keep_drew | apply keep_alloc) | exact HK.out)))); have n1_ := am (IsS81.below (by repeat (first | (with_reducible first | exact HI0.out | apply IsS81.alloc | apply IsS81.drewN | apply IsS81.drew | apply IsS81.set_1 | apply IsS81.set_2) | exact HI0.out)) hb); have n2_ := am (KeepBut.trans (by repeat (first | (with_reducible first | exact HK.out | apply KeepBut.set_ | apply keep_drewN | apply keep_drew | apply keep_alloc) | exact HK.out)) (KeepBut.of_below hb g none) (.inl rfl)); have n3_ := am (below_step (by repeat (first | (with_reducible first | exact HB.out | apply below_alloc | apply pw_below_drewN | apply below_drew1 | refine below_set ?_ (IsS81.ge HI0.out)) | exact HB.out)) hb); clear HI0 HK HB; revert n0_ n1_ n2_ n3_; intro HO995 HI0 HK HB; clear hb ho7; obtain ⟨Ao8, co8, eo8⟩ := Kd.R_slice HO995.out; subst eo8) | ((with_reducible refine gate_callee (f := 68) rfl ?_); refine gL (some 9) Try.func68 #[.pointer (some ⟨g, 0, none⟩), .slice Ao8 y993.length co8] ?_; (with_reducible refine (spec_l1Cur_among.calls g s0_0 t991 t992 _ _ y993 t996 t997 t998 w0 _ ?side1 ?side2 ?side3 ?side4 ?side5 A4.out).mono ?_); (case side1 => repeat (first | (with_reducible first | exact HI0.out | apply IsS81.alloc | apply IsS81.drewN | apply IsS81.drew | apply IsS81.set_1 | apply IsS81.set_2) | exact HI0.out)); (case side2 => repeat (first | (with_reducible first | exact HB.out | apply below_alloc | apply pw_below_drewN | apply below_drew1 | refine below_set ?_ (IsS81.ge HI0.out)) | exact HB.out)); (case side3 => exact Cz ((Kd.R_reads' HO995.out).2.2)); (case side4 => exact (Kd.R_reads' HO995.out).2.1); (case side5 => exact far_slice (IsS81.own_ne HI0.out HO995.out (by decide))); rintro e w9 ⟨rfl, hi, hb, hk⟩; refine ⟨_, rfl, ?_⟩; have n0_ := am (Kd.R_mono (Kd.R_keep (IsS81.apart (show IsS81 w0 _ g s0_0 t991 t992 from by repeat (first | (with_reducible first | exact HI0.out | apply IsS81.alloc | apply IsS81.drewN | apply IsS81.drew | apply IsS81.set_1 | apply IsS81.set_2) | exact HI0.out)) (Rz HO995.out) (by decide)) hk (fun _ h => h.2)) (fun _ h => h.1)); have n1_ := am (KeepBut.trans (by repeat (first | (with_reducible first | exact HK.out | apply KeepBut.set_ | apply keep_drewN | apply keep_drew | apply keep_alloc) | exact HK.out)) hk (.inl rfl)); have n2_ := am (hb); have n3_ := am (hi); clear HO995 HK HB HI0; revert n0_ n1_ n2_ n3_; intro HO995 HK HB HI0; (try clear hb); (try clear hb2); (try clear hk); (try clear hi)))
  go_ret
  exact ⟨eZ, by repeat (first | (with_reducible first | exact HI0.out | apply IsS81.alloc | apply IsS81.drewN | apply IsS81.drew | apply IsS81.set_1 | apply IsS81.set_2) | exact HI0.out), by repeat (first | (with_reducible first | exact HB.out | apply below_alloc | apply pw_below_drewN | apply below_drew1 | refine below_set ?_ (IsS81.ge HI0.out)) | exact HB.out), by repeat (first | (with_reducible first | exact HK.out | apply KeepBut.set_ | apply keep_drewN | apply keep_drew | apply keep_alloc) | exact HK.out)⟩
 ·rw [if_neg c3] at H
  have c3b0 : (t990 == 0) = false := beq_eq_false_iff_ne.mpr c3; have c3b1 : (t990 != 0) = true := bne_iff_ne.mpr c3
  by_cases c10 : t990 = 1
  ·rw [if_pos c10] at H
   have c10b0 : (t990 == 1) = true := beq_iff_eq.mpr c10; have c10b1 : (t990 != 1) = false := bne_eq_false_iff_eq.mpr c10; clear c10; replace H := Option.bind_eq_some_iff.mp H; obtain ⟨⟨t999, t1000, t1001⟩, A110, H⟩ := H; (try dsimp -simprocs only at H); have A11 := am A110; clear A110
   simp only [Option.some.injEq, Prod.mk.injEq] at H
   obtain ⟨rfl, rfl, rfl⟩ := H
   go_enter Try.func67, Try.ntmps67
   go_wp2_with (first | ((with_reducible refine gate_callee (f := 101) rfl ?_); refine gL (some 4) Try.func101 #[.pointer (some ⟨g, 0, none⟩), .int .i64 8] ?_; (with_reducible refine (spec_l1Cur_pick.calls g s0_0 s0_1 s0_2 8 t990 t991 t992 w0 _ ?side1 ?side2 A2.out).mono ?_); (case side1 => repeat (first | (with_reducible first | exact HI0.out | apply IsS81.alloc | apply IsS81.drewN | apply IsS81.drew | apply IsS81.set_1 | apply IsS81.set_2) | exact HI0.out)); (case side2 => repeat (first | (with_reducible first | exact HB.out | apply below_alloc | apply pw_below_drewN | apply below_drew1 | refine below_set ?_ (IsS81.ge HI0.out)) | exact HB.out)); rintro e w12 ⟨rfl, hi, hb, hk⟩; refine ⟨_, rfl, ?_⟩; have n0_ := am (KeepBut.trans (by repeat (first | (with_reducible first | exact HK.out | apply KeepBut.set_ | apply keep_drewN | apply keep_drew | apply keep_alloc) | exact HK.out)) hk (.inl rfl)); have n1_ := am (hb); have n2_ := am (hi); clear HK HB HI0; revert n0_ n1_ n2_; intro HK HB HI0; (try clear hb); (try clear hb2); (try clear hk); (try clear hi)) | ((with_reducible refine gate_callee (f := 101) rfl ?_); refine gL (some 13) Try.func101 #[.pointer (some ⟨g, 0, none⟩), .int .i64 4096] ?_; (with_reducible refine (spec_l1Cur_pick.calls g s0_0 t991 t992 4096 t999 t1000 t1001 w0 _ ?side1 ?side2 A11.out).mono ?_); (case side1 => repeat (first | (with_reducible first | exact HI0.out | apply IsS81.alloc | apply IsS81.drewN | apply IsS81.drew | apply IsS81.set_1 | apply IsS81.set_2) | exact HI0.out)); (case side2 => repeat (first | (with_reducible first | exact HB.out | apply below_alloc | apply pw_below_drewN | apply below_drew1 | refine below_set ?_ (IsS81.ge HI0.out)) | exact HB.out)); rintro e w13 ⟨rfl, hi, hb, hk⟩; refine ⟨_, rfl, ?_⟩; have n0_ := am (KeepBut.trans (by repeat (first | (with_reducible first | exact HK.out | apply KeepBut.set_ | apply keep_drewN | apply keep_drew | apply keep_alloc) | exact HK.out)) hk (.inl rfl)); have n1_ := am (hb); have n2_ := am (hi); clear HK HB HI0; revert n0_ n1_ n2_; intro HK HB HI0; (try clear hb); (try clear hb2); (try clear hk); (try clear hi)))
   go_ret
   exact ⟨eZ, by repeat (first | (with_reducible first | exact HI0.out | apply IsS81.alloc | apply IsS81.drewN | apply IsS81.drew | apply IsS81.set_1 | apply IsS81.set_2) | exact HI0.out), by repeat (first | (with_reducible first | exact HB.out | apply below_alloc | apply pw_below_drewN | apply below_drew1 | refine below_set ?_ (IsS81.ge HI0.out)) | exact HB.out), by repeat (first | (with_reducible first | exact HK.out | apply KeepBut.set_ | apply keep_drewN | apply keep_drew | apply keep_alloc) | exact HK.out)⟩
  ·rw [if_neg c10] at H
   have c10b0 : (t990 == 1) = false := beq_eq_false_iff_ne.mpr c10; have c10b1 : (t990 != 1) = true := bne_iff_ne.mpr c10; replace H := Option.bind_eq_some_iff.mp H; obtain ⟨⟨t1002, t1003, t1004⟩, A140, H⟩ := H; (try dsimp -simprocs only at H); have A14 := am A140; clear A140
   simp only [Option.some.injEq, Prod.mk.injEq] at H
   obtain ⟨rfl, rfl, rfl⟩ := H
   go_enter Try.func67, Try.ntmps67
   go_wp2_with (first | ((with_reducible refine gate_callee (f := 101) rfl ?_); refine gL (some 4) Try.func101 #[.pointer (some ⟨g, 0, none⟩), .int .i64 8] ?_; (with_reducible refine (spec_l1Cur_pick.calls g s0_0 s0_1 s0_2 8 t990 t991 t992 w0 _ ?side1 ?side2 A2.out).mono ?_); (case side1 => repeat (first | (with_reducible first | exact HI0.out | apply IsS81.alloc | apply IsS81.drewN | apply IsS81.drew | apply IsS81.set_1 | apply IsS81.set_2) | exact HI0.out)); (case side2 => repeat (first | (with_reducible first | exact HB.out | apply below_alloc | apply pw_below_drewN | apply below_drew1 | refine below_set ?_ (IsS81.ge HI0.out)) | exact HB.out)); rintro e w15 ⟨rfl, hi, hb, hk⟩; refine ⟨_, rfl, ?_⟩; have n0_ := am (KeepBut.trans (by repeat (first | (with_reducible first | exact HK.out | apply KeepBut.set_ | apply keep_drewN | apply keep_drew | apply keep_alloc) | exact HK.out)) hk (.inl rfl)); have n1_ := am (hb); have n2_ := am (hi); clear HK HB HI0; revert n0_ n1_ n2_; intro HK HB HI0; (try clear hb); (try clear hb2); (try clear hk); (try clear hi)) | ((with_reducible refine gate_callee (f := 101) rfl ?_); refine gL (some 16) Try.func101 #[.pointer (some ⟨g, 0, none⟩), .int .i64 24] ?_; (with_reducible refine (spec_l1Cur_pick.calls g s0_0 t991 t992 24 t1002 t1003 t1004 w0 _ ?side1 ?side2 A14.out).mono ?_); (case side1 => repeat (first | (with_reducible first | exact HI0.out | apply IsS81.alloc | apply IsS81.drewN | apply IsS81.drew | apply IsS81.set_1 | apply IsS81.set_2) | exact HI0.out)); (case side2 => repeat (first | (with_reducible first | exact HB.out | apply below_alloc | apply pw_below_drewN | apply below_drew1 | refine below_set ?_ (IsS81.ge HI0.out)) | exact HB.out)); rintro e w16 ⟨rfl, hi, hb, hk⟩; refine ⟨_, rfl, ?_⟩; have n0_ := am (KeepBut.trans (by repeat (first | (with_reducible first | exact HK.out | apply KeepBut.set_ | apply keep_drewN | apply keep_drew | apply keep_alloc) | exact HK.out)) hk (.inl rfl)); have n1_ := am (hb); have n2_ := am (hi); clear HK HB HI0; revert n0_ n1_ n2_; intro HK HB HI0; (try clear hb); (try clear hb2); (try clear hk); (try clear hi)))
   go_ret
   exact ⟨eZ, by repeat (first | (with_reducible first | exact HI0.out | apply IsS81.alloc | apply IsS81.drewN | apply IsS81.drew | apply IsS81.set_1 | apply IsS81.set_2) | exact HI0.out), by repeat (first | (with_reducible first | exact HB.out | apply below_alloc | apply pw_below_drewN | apply below_drew1 | refine below_set ?_ (IsS81.ge HI0.out)) | exact HB.out), by repeat (first | (with_reducible first | exact HK.out | apply KeepBut.set_ | apply keep_drewN | apply keep_drew | apply keep_alloc) | exact HK.out)⟩

/-! ### spec_DrawPlainSeed: function 13 -/
def spec_DrawPlainSeed.f (k : Nat) (l0 : List Int) : Option (List ByteArray × Int × Int × Int) := (spec_l1Cur_seed9.f l0 0 0).bind fun bt1006 => ((spec_l1Cur_anyKeys.f k l0 bt1006.2.1 bt1006.2.2 7).bind fun bt1009 => ((spec_l1Cur_places.f l0 bt1009.2.1 bt1009.2.2).bind fun bt1014 => ((spec_l1Cur_among.f l0 bt1014.2.1 bt1014.2.2 (([(-1), 0, 1, 5, 20, 100, 101] : List Int))).bind fun bt1020 => (some (bt1009.1, bt1014.1, bt1006.1, wrap64 (bt1006.1 + bt1020.1))))))
theorem spec_DrawPlainSeed.mono : ∀ a0 k, LeO (spec_DrawPlainSeed.f k a0) (spec_DrawPlainSeed.f (k + 1) a0) := by
 intro a0 k
 unfold spec_DrawPlainSeed.f
 repeat' first | (with_reducible first | exact spec_l1Cur_anyKeys.mono _ _ _ _ _ | exact LeO.refl _ | exact LeO.none _ | refine LeO.ite ?_ ?_ | refine LeO.bind ?_ (fun _ => ?_)) | exact LeO.none _ | refine LeO.ite ?_ ?_ | refine LeO.bind ?_ (fun _ => ?_)
theorem spec_DrawPlainSeed.calls (k : Nat) (A0 : Option Addr) (c0 : Nat) (l0 : List Int) (r1 : List ByteArray) (r2 : Int) (r3 : Int) (r4 : Int) (w : World) (hr0 : Kd.C (Kd.int .u8) w A0 l0.length l0) (hc0 : l0.length ≤ c0) (h : spec_DrawPlainSeed.f k l0 = some (r1, r2, r3, r4)) :
  Calls Try.prog 13 #[.slice A0 l0.length c0] w fun e w' => ∃ v0_ : Value, e = .returned (.tuple #[v0_, .int .i64 r2, .int .i64 r3, .int .i64 r4]) ∧ Kd.R Kd.string 9 w' w.heap.size (fun _ => True) v0_ r1 ∧ Below w.heap.size w w' := by
 have hu81 := Try.underlying81; have HR0 := am hr0; have HC0 := am hc0; clear hr0 hc0; have HB := am (Below.refl w.heap.size w); have H : ((spec_l1Cur_seed9.f l0 0 0).bind fun bt1006 => ((spec_l1Cur_anyKeys.f k l0 bt1006.2.1 bt1006.2.2 7).bind fun bt1009 => ((spec_l1Cur_places.f l0 bt1009.2.1 bt1009.2.2).bind fun bt1014 => ((spec_l1Cur_among.f l0 bt1014.2.1 bt1014.2.2 (([(-1), 0, 1, 5, 20, 100, 101] : List Int))).bind fun bt1020 => (some (bt1009.1, bt1014.1, bt1006.1, wrap64 (bt1006.1 + bt1020.1))))))) = some (r1, r2, r3, r4) := h; clear h; replace H := Option.bind_eq_some_iff.mp H; obtain ⟨⟨t1006, t1007, t1008⟩, A20, H⟩ := H; (try dsimp -simprocs only at H); have A2 := am A20; clear A20; replace H := Option.bind_eq_some_iff.mp H; obtain ⟨⟨t1009, t1012, t1013⟩, A30, H⟩ := H; (try dsimp -simprocs only at H); have A3 := am A30; clear A30; replace H := Option.bind_eq_some_iff.mp H; obtain ⟨⟨t1014, t1015, t1016⟩, A40, H⟩ := H; (try dsimp -simprocs only at H); have A4 := am A40; clear A40; obtain ⟨y1017, hy1017⟩ : ∃ y_ : List Int, y_ = (([(-1), 0, 1, 5, 20, 100, 101] : List Int)) := ⟨_, rfl⟩
 replace H : ((spec_l1Cur_among.f l0 t1015 t1016 y1017).bind fun bt1020 => (some (t1009, t1014, t1006, wrap64 (t1006 + bt1020.1)))) = some (r1, r2, r3, r4) := by first | (rw [hy1017]; with_reducible exact H) | (have H2_ := (Option.bind_some _ _).symm.trans H; rw [hy1017]; with_reducible exact H2_) | (have H2_ := (Option.bind_some _ _).symm.trans H; with_reducible exact H2_) | with_reducible exact H | (rw [hy1017]; exact H) | exact H
 have Ny1017 := am hy1017; clear hy1017; replace H := Option.bind_eq_some_iff.mp H; obtain ⟨⟨t1020, t1021, t1022⟩, A50, H⟩ := H; (try dsimp -simprocs only at H); have A5 := am A50; clear A50
 simp only [Option.some.injEq, Prod.mk.injEq] at H
 obtain ⟨rfl, rfl, rfl, rfl⟩ := H
 go_enter Try.func13, Try.ntmps13
 go_wp2_with (first | ((with_reducible refine gate_dst (N := 10) rfl ?_); refine bE 10 #[.slice A0 l0.length c0, .int .i64 0, .int .u64 0] 81 ?_; intro gb1005 hg w6 hbox hb; have n0_ := Bb HB hb; have n1_ := am (hbox); have n2_ := Gl HB hg; have n3_ := Gl HB hg; clear HB; revert n0_ n1_ n2_ n3_; intro HB BK1005 GW1005 GE1005; clear hb hbox hg; have HI1005 := am (show IsS81 w _ gb1005 l0 0 0 from ⟨A0, c0, BK1005.out, GE1005.out, HR0.out⟩); clear BK1005) | ((with_reducible refine gate_callee (f := 65) rfl ?_); refine gL (some 12) Try.func65 #[.pointer (some ⟨gb1005, 0, none⟩)] ?_; (with_reducible refine (spec_l1Cur_seed9.calls gb1005 l0 0 0 t1006 t1007 t1008 w _ ?side1 ?side2 A2.out).mono ?_); (case side1 => repeat (first | (with_reducible first | exact HI1005.out | apply IsS81.alloc | apply IsS81.drewN | apply IsS81.drew | apply IsS81.set_1 | apply IsS81.set_2) | exact HI1005.out)); (case side2 => repeat (first | (with_reducible first | exact HB.out | apply below_alloc | apply pw_below_drewN | apply below_drew1 | refine below_set ?_ (IsS81.ge HI1005.out)) | exact HB.out)); rintro e w7 ⟨rfl, hi, hb, hk⟩; refine ⟨_, rfl, ?_⟩; have n0_ := am (hb); have n1_ := am (hi); clear HB HI1005; revert n0_ n1_; intro HB HI1005; (try clear hb); (try clear hb2); (try clear hk); (try clear hi)) | ((with_reducible refine gate_callee (f := 66) rfl ?_); refine gL (some 14) Try.func66 #[.pointer (some ⟨gb1005, 0, none⟩), .int .i64 7] ?_; (with_reducible refine (spec_l1Cur_anyKeys.calls k gb1005 l0 t1007 t1008 7 t1009 t1012 t1013 w _ ?side1 ?side2 A3.out).mono ?_); (case side1 => repeat (first | (with_reducible first | exact HI1005.out | apply IsS81.alloc | apply IsS81.drewN | apply IsS81.drew | apply IsS81.set_1 | apply IsS81.set_2) | exact HI1005.out)); (case side2 => repeat (first | (with_reducible first | exact HB.out | apply below_alloc | apply pw_below_drewN | apply below_drew1 | refine below_set ?_ (IsS81.ge HI1005.out)) | exact HB.out)); rintro e w8 ⟨v1010, rfl, ho0, hi, hb, hk⟩; refine ⟨_, rfl, ?_⟩; have n0_ := am (Kd.R_lower ho0 (below_size (by repeat (first | (with_reducible first | exact HB.out | apply below_alloc | apply pw_below_drewN | apply below_drew1 | refine below_set ?_ (IsS81.ge HI1005.out)) | exact HB.out)))); have n1_ := am (hb); have n2_ := am (hi); clear HB HI1005; revert n0_ n1_ n2_; intro HO1011 HB HI1005; (try clear hb); (try clear hb2); (try clear hk); (try clear hi); (try clear ho0)) | ((with_reducible refine gate_callee (f := 67) rfl ?_); refine gL (some 16) Try.func67 #[.pointer (some ⟨gb1005, 0, none⟩)] ?_; (with_reducible refine (spec_l1Cur_places.calls gb1005 l0 t1012 t1013 t1014 t1015 t1016 w _ ?side1 ?side2 A4.out).mono ?_); (case side1 => repeat (first | (with_reducible first | exact HI1005.out | apply IsS81.alloc | apply IsS81.drewN | apply IsS81.drew | apply IsS81.set_1 | apply IsS81.set_2) | exact HI1005.out)); (case side2 => repeat (first | (with_reducible first | exact HB.out | apply below_alloc | apply pw_below_drewN | apply below_drew1 | refine below_set ?_ (IsS81.ge HI1005.out)) | exact HB.out)); rintro e w9 ⟨rfl, hi, hb, hk⟩; refine ⟨_, rfl, ?_⟩; have n0_ := am (Kd.R_mono (Kd.R_keep (IsS81.apart (show IsS81 w _ gb1005 l0 t1012 t1013 from by repeat (first | (with_reducible first | exact HI1005.out | apply IsS81.alloc | apply IsS81.drewN | apply IsS81.drew | apply IsS81.set_1 | apply IsS81.set_2) | exact HI1005.out)) (Rz HO1011.out) (by decide)) hk (fun _ h => h.2)) (fun _ h => h.1)); have n1_ := am (hb); have n2_ := am (hi); clear HO1011 HB HI1005; revert n0_ n1_ n2_; intro HO1011 HB HI1005; (try clear hb); (try clear hb2); (try clear hk); (try clear hi)) | ((with_reducible refine gate_dst (N := 20) rfl ?_); refine Kd.R_lit (Kd.int .i64) _ 3 ?hg (N := 20) ?hd (xs := ([(-1), 0, 1, 5, 20, 100, 101] : List Int)) (inner := [.int .i64 (-1), .int .i64 0, .int .i64 1, .int .i64 5, .int .i64 20, .int .i64 100, .int .i64 101]) (ok := fun _ => True) (okp := fun _ => True) ?hr ?hp (fun _ hk => hk) trivial (Below.refl _ _) (Nat.le_refl _) (by simp) ?_; (case hd => rfl); (case hg => rfl); (case hr => first | (go_simp; done) | (go_simp; rfl)); (case hp => exact (Reps.one (show Kd.M (Kd.int .i64) _ _ _ (-1) [.int .i64 (-1)] from rfl) (Reps.one (show Kd.M (Kd.int .i64) _ _ _ 0 [.int .i64 0] from rfl) (Reps.one (show Kd.M (Kd.int .i64) _ _ _ 1 [.int .i64 1] from rfl) (Reps.one (show Kd.M (Kd.int .i64) _ _ _ 5 [.int .i64 5] from rfl) (Reps.one (show Kd.M (Kd.int .i64) _ _ _ 20 [.int .i64 20] from rfl) (Reps.one (show Kd.M (Kd.int .i64) _ _ _ 100 [.int .i64 100] from rfl) (Reps.one (show Kd.M (Kd.int .i64) _ _ _ 101 [.int .i64 101] from rfl) (Reps.none _ _))))))))); intro v1018 w10 ho11 hb hg_ hnew_; clear hg_ hnew_; (first | rw [← Ny1017.out] at ho11 | (simp only [Int.reduceToNat] at ho11; rw [← Ny1017.out] at ho11)); have n0_ := Rb HO1011 hb; have n1_ := am (Kd.R_lower ho11 (below_size (by repeat (first | (with_reducible first | exact HB.out | apply below_alloc | apply pw_below_drewN | apply below_drew1 | refine below_set ?_ (IsS81.ge HI1005.out)) | exact HB.out)))); have n2_ := am (IsS81.below (by repeat (first | (with_reducible first | exact HI1005.out | apply IsS81.alloc | apply IsS81.drewN | apply IsS81.drew | apply IsS81.set_1 | apply IsS81.set_2) | exact HI1005.out)) hb); have n3_ := am (below_step (by repeat (first | (with_reducible first | exact HB.out | apply below_alloc | apply pw_below_drewN | apply below_drew1 | refine below_set ?_ (IsS81.ge HI1005.out)) | exact HB.out)) hb); clear HO1011 HI1005 HB; revert n0_ n1_ n2_ n3_; intro HO1011 HO1019 HI1005 HB; clear hb ho11; obtain ⟨Ao12, co12, eo12⟩ := Kd.R_slice HO1019.out; subst eo12) | ((with_reducible refine gate_callee (f := 68) rfl ?_); refine gL (some 21) Try.func68 #[.pointer (some ⟨gb1005, 0, none⟩), .slice Ao12 y1017.length co12] ?_; (with_reducible refine (spec_l1Cur_among.calls gb1005 l0 t1015 t1016 _ _ y1017 t1020 t1021 t1022 w _ ?side1 ?side2 ?side3 ?side4 ?side5 A5.out).mono ?_); (case side1 => repeat (first | (with_reducible first | exact HI1005.out | apply IsS81.alloc | apply IsS81.drewN | apply IsS81.drew | apply IsS81.set_1 | apply IsS81.set_2) | exact HI1005.out)); (case side2 => repeat (first | (with_reducible first | exact HB.out | apply below_alloc | apply pw_below_drewN | apply below_drew1 | refine below_set ?_ (IsS81.ge HI1005.out)) | exact HB.out)); (case side3 => exact Cz ((Kd.R_reads' HO1019.out).2.2)); (case side4 => exact (Kd.R_reads' HO1019.out).2.1); (case side5 => exact far_slice (IsS81.own_ne HI1005.out HO1019.out (by decide))); rintro e w13 ⟨rfl, hi, hb, hk⟩; refine ⟨_, rfl, ?_⟩; have n0_ := am (Kd.R_mono (Kd.R_keep (IsS81.apart (show IsS81 w _ gb1005 l0 t1015 t1016 from by repeat (first | (with_reducible first | exact HI1005.out | apply IsS81.alloc | apply IsS81.drewN | apply IsS81.drew | apply IsS81.set_1 | apply IsS81.set_2) | exact HI1005.out)) (Rz HO1011.out) (by decide)) hk (fun _ h => h.2)) (fun _ h => h.1)); have n1_ := am (Kd.R_mono (Kd.R_keep (IsS81.apart (show IsS81 w _ gb1005 l0 t1015 t1016 from by repeat (first | (with_reducible first | exact HI1005.out | apply IsS81.alloc | apply IsS81.drewN | apply IsS81.drew | apply IsS81.set_1 | apply IsS81.set_2) | exact HI1005.out)) (Rz HO1019.out) (by decide)) hk (fun _ h => h.2)) (fun _ h => h.1)); have n2_ := am (hb); have n3_ := am (hi); clear HO1011 HO1019 HB HI1005; revert n0_ n1_ n2_ n3_; intro HO1011 HO1019 HB HI1005; (try clear hb); (try clear hb2); (try clear hk); (try clear hi)))
 refine bodyPost_ret (results_list (rs := [.tmp 2, .tmp 3, .tmp 4, .tmp 5]) rfl (by simp) (.tmp (.tmp (.tmp (.tmp .nil))))) rfl ?_; exact ⟨_, eZ, Rz HO1011.out, by repeat (first | (with_reducible first | exact HB.out | apply below_alloc | apply pw_below_drewN | apply below_drew1 | refine below_set ?_ (IsS81.ge HI1005.out)) | exact HB.out)⟩

-- NOT PRINTED: function 72 (impl_PlainSeed_1)

/-! ### impl_PlainSeed_1: function 72 -/
def impl_PlainSeed_1.l0 : Nat → Int → List Int → List ByteArray → Int → Int → Int → Option (Bool)
 | 0, _, _, _, _, _, _ => none
 | k + 1, x0, x5, x9, x10, x11, x3000 => if x11 < x10 then (if 0 ≤ x11 then (if x11 < (x9.length : Int) then ((impl_place.f k x0 0 (rdOf ByteArray.empty x9 x11) x3000).bind fun t1034 => (if x5.length < 17592186044416 then (impl_PlainSeed_1.l0 k x0 (x5 ++ [t1034]) x9 x10 (wrap64 (x11 + 1)) x3000) else (none))) else (none)) else (none)) else ((impl_distinct.f x5).bind fun t1038 => (some t1038))
def impl_PlainSeed_1.f (k : Nat) (a0 : Int) (l1_0 : List ByteArray) (a2_0 : Int) : Option (Bool) := impl_PlainSeed_1.l0 k a0 (([] : List Int)) l1_0 (l1_0.length : Int) 0 a2_0
theorem impl_PlainSeed_1.mono_l : ∀ k, (∀ y0 y1 y2 y3 y4 y5, LeO (impl_PlainSeed_1.l0 k y0 y1 y2 y3 y4 y5) (impl_PlainSeed_1.l0 (k + 1) y0 y1 y2 y3 y4 y5))
 | 0 => fun _ _ _ _ _ _ r h => by simp [impl_PlainSeed_1.l0] at h
 | k + 1 => by
  have ih0 := impl_PlainSeed_1.mono_l k
  ·intro y0 y1 y2 y3 y4 y5
   unfold impl_PlainSeed_1.l0
   repeat' first | (with_reducible first | exact ih0 _ _ _ _ _ _ | exact impl_place.mono _ _ _ _ _ | exact LeO.refl _ | exact LeO.none _ | refine LeO.ite ?_ ?_ | refine LeO.bind ?_ (fun _ => ?_)) | exact LeO.none _ | refine LeO.ite ?_ ?_ | refine LeO.bind ?_ (fun _ => ?_)
theorem impl_PlainSeed_1.mono : ∀ a0 a1 a2 k, LeO (impl_PlainSeed_1.f k a0 a1 a2) (impl_PlainSeed_1.f (k + 1) a0 a1 a2) := by
 intro a0 a1 a2 k; have ih0 := impl_PlainSeed_1.mono_l k
 unfold impl_PlainSeed_1.f
 repeat' first | (with_reducible first | exact ih0 _ _ _ _ _ _ | exact impl_place.mono _ _ _ _ _ | exact LeO.refl _ | exact LeO.none _ | refine LeO.ite ?_ ?_ | refine LeO.bind ?_ (fun _ => ?_)) | exact LeO.none _ | refine LeO.ite ?_ ?_ | refine LeO.bind ?_ (fun _ => ?_)
theorem impl_PlainSeed_1.calls (k : Nat) (a0 : Int) (g1 : Nat) (A1_0 : Option Addr) (c1_0 : Nat) (l1_0 : List ByteArray) (g2 : Nat) (a2_0 : Int) (r : Bool) (w : World) (hb1 : w.heap[g1]? = some (.cells #[.slice A1_0 l1_0.length c1_0] 24 (0, 0))) (hr1_0 : Kd.C Kd.string w A1_0 l1_0.length l1_0) (hc1_0 : l1_0.length ≤ c1_0) (hb2 : w.heap[g2]? = some (.cells #[.int .i64 a2_0] 3 (0, 0))) (h : impl_PlainSeed_1.f k a0 l1_0 a2_0 = some r) :
  Calls Try.prog 72 #[.int .i64 a0, .pointer (some ⟨g1, 0, none⟩), .pointer (some ⟨g2, 0, none⟩)] w fun e w' => e = .returned (.bool r) ∧ Below w.heap.size w w' := by
 have HR1_0 := am hr1_0; have HC1_0 := am hc1_0; clear hr1_0 hc1_0; have BK1 := am hb1; clear hb1; have BK2 := am hb2; clear hb2; have HB := am (Below.refl w.heap.size w); have H : (impl_PlainSeed_1.l0 k a0 (([] : List Int)) l1_0 (l1_0.length : Int) 0 a2_0) = some r := h; clear h; obtain ⟨y1030, hy1030⟩ : ∃ y_ : List Int, y_ = (([] : List Int)) := ⟨_, rfl⟩
 replace H : (impl_PlainSeed_1.l0 k a0 y1030 l1_0 (l1_0.length : Int) 0 a2_0) = some r := by first | (rw [hy1030]; with_reducible exact H) | (have H2_ := (Option.bind_some _ _).symm.trans H; rw [hy1030]; with_reducible exact H2_) | (have H2_ := (Option.bind_some _ _).symm.trans H; with_reducible exact H2_) | with_reducible exact H | (rw [hy1030]; exact H) | exact H
 have Ny1030 := am hy1030; clear hy1030; have H' := am H; clear H
 go_enter Try.func72, Try.ntmps72
 go_wp2_with (first | ((with_reducible refine gate_dst (N := 8) rfl ?_); refine Kd.R_lit (Kd.int .i64) _ 3 ?hg (N := 8) ?hd (xs := ([] : List Int)) (inner := []) (ok := fun _ => True) (okp := fun _ => True) ?hr ?hp (fun _ hk => hk) trivial (Below.refl _ _) (Nat.le_refl _) (by simp) ?_; (case hd => rfl); (case hg => rfl); (case hr => first | (go_simp; done) | (go_simp; rfl)); (case hp => exact (Reps.none _ _)); intro v1031 w4 ho5 hb hg_ hnew_; clear hg_ hnew_; (first | rw [← Ny1030.out] at ho5 | (simp only [Int.reduceToNat] at ho5; rw [← Ny1030.out] at ho5)); have n0_ := Rm (Kd.R_newB ho5 (g := g2) (o := .cells #[.int .i64 a2_0] 3 (0, 0)) (Kz BK2.out)) HB; have n1_ := Kb BK1 hb; have n2_ := Kb BK2 hb; have n3_ := Bc HB hb; clear BK1 BK2 HB; revert n0_ n1_ n2_ n3_; intro HO1032 BK1 BK2 HB; clear hb ho5; obtain ⟨hcz6_0, hfz6_0⟩ := cf1 (w := w4) BK1))
 (try simp only [aP])
 go_loopg [5, 11] k (fun kq v5 v11 w' => ∃ (x5_1 : List Int) (x11_1 : Int), v11 = .int .i64 x11_1 ∧ Aside0 (impl_PlainSeed_1.l0 kq a0 x5_1 l1_0 (l1_0.length : Int) x11_1 a2_0 = some r) ∧ Aside0 (kq ≤ k) ∧ Aside0 (Kd.R (Kd.int .i64) 3 w' w.heap.size (fun k_ => k_ ≠ g2) v5 x5_1) ∧ Aside0 (w'.heap[g1]? = some (.cells #[(.slice A1_0 l1_0.length c1_0)] 24 (0, 0))) ∧ Aside0 (w'.heap[g2]? = some (.cells #[.int .i64 a2_0] 3 (0, 0))) ∧ Aside0 (Below w.heap.size w w'))
 case atStart => exact ⟨(y1030), (0), wZ, H', ⟨Nat.le_refl _⟩, ⟨Rz (Kd.R_mono HO1032.out (fun _ hk => hk.2))⟩, ⟨Kz BK1.out⟩, ⟨Kz BK2.out⟩, ⟨Bq⟩⟩
 case round =>
  clear H'
  try clear c1
  try clear p2
  try clear hcz6_0
  try clear hfz6_0
  obtain ⟨x5_1, x11_1, rfl, HA, HK1, HO_5, BK1, BK2, HB⟩ := hrel; cases gk with
  | zero => exact absurd HA.out (by simp [impl_PlainSeed_1.l0])
  | succ k1 =>
   have H := HA.out; clear HA
   simp only [impl_PlainSeed_1.l0] at H
   by_cases c7 : x11_1 < (l1_0.length : Int)
   ·rw [if_pos c7] at H
    have c7b0 : decide (x11_1 < (l1_0.length : Int)) = true := decide_eq_true c7; clear c7
    by_cases c8 : 0 ≤ x11_1
    ·rw [if_pos c8] at H
     have c8b0 : decide (0 ≤ x11_1) = true := decide_eq_true c8; clear c8
     by_cases c9 : x11_1 < (l1_0.length : Int)
     ·rw [if_pos c9] at H
      have c9b0 : decide (x11_1 < (l1_0.length : Int)) = true := decide_eq_true c9; clear c9; replace H := Option.bind_eq_some_iff.mp H; obtain ⟨t1034, A100, H⟩ := H; (try dsimp -simprocs only at H); have A10 := am A100; clear A100
      by_cases c11 : x5_1.length < 17592186044416
      ·rw [if_pos c11] at H
       have LMc11 := am c11; clear c11; obtain ⟨y1035, hy1035⟩ : ∃ y_ : List Int, y_ = (x5_1 ++ [t1034]) := ⟨_, rfl⟩
       replace H : (impl_PlainSeed_1.l0 k1 a0 y1035 l1_0 (l1_0.length : Int) (wrap64 (x11_1 + 1)) a2_0) = some r := by first | (rw [hy1035]; with_reducible exact H) | (have H2_ := (Option.bind_some _ _).symm.trans H; rw [hy1035]; with_reducible exact H2_) | (have H2_ := (Option.bind_some _ _).symm.trans H; with_reducible exact H2_) | with_reducible exact H | (rw [hy1035]; exact H) | exact H
       have Ny1035 := am hy1035; clear hy1035; have H' := am H; clear H; have p1033 : 0 ≤ (x11_1 : Int) := dT; have q1033 : x11_1 < (l1_0.length : Int) := dT; obtain ⟨ad1033, e1033, hx1033_0⟩ := Kd.at_string HR1_0.out x11_1 p1033 q1033; cases e1033; replace hx1033_0 := (HB.out.cell (World.block_lt_of_cell? w _ hx1033_0)).trans hx1033_0; replace p1033 := eq_true p1033; replace q1033 := eq_true q1033; obtain ⟨hcz12_0, hfz12_0⟩ := cf1 (w := wr) BK2
       go_wp2_with (first | ((with_reducible refine gate_callee (f := 73) rfl ?_); refine gL (some 19) Try.func73 #[.int .i64 a0, .int .i64 0, .string (rdOf ByteArray.empty l1_0 x11_1), .int .i64 a2_0] ?_; (with_reducible refine (impl_place.calls k1 a0 0 (rdOf ByteArray.empty l1_0 x11_1) a2_0 t1034 _ A10.out).mono ?_); rintro e w' ⟨rfl, ⟨nd, rfl⟩⟩; refine ⟨_, rfl, ?_⟩) | ((with_reducible refine gate_builtin (b := .append) (xs := #[.tmp 15, .tmp 20]) rfl ?_); at_builtin; refine Kd.R_append (Kd.int .i64) (w0 := w) w.heap.size rfl (.tmp 15) (.tmp 20) 32 3 (.int .i64 0) 8 rfl Try.underlying32 info3 rfl (by decide) (by omega) u5 x5_1 t1034 [.int .i64 t1034] (fun k_ => k_ ≠ g2) (fun _ => False) rfl rfl ?aP (fun _ hk => hk.elim) ?aF ?aO ?aB ?aS ?aL ?_; (case aP => exact rfl); (case aB => exact (Bq)); (case aF => exact (fun k_ hk => Kd.freshB (g := g2) (o := .cells #[.int .i64 a2_0] 3 (0, 0)) (Kz BK2.out) k_ hk)); (case aO => exact (Rz HO_5.out)); (case aS => exact (below_size (w := w) (Bq))); (case aL => have := LMc11.out; omega); intro v1036 w13 ho hb hg hat; rw [← Ny1035.out] at ho; have n0_ := am (blk_grown (g := g1) (o := .cells #[.slice (some ad1033) l1_0.length c1_0] 24 (0, 0)) (Kz BK1.out) hg (Kd.R_ne HO_5.out BK1.out (by decide))); have n1_ := am (blk_grown (g := g2) (o := .cells #[.int .i64 a2_0] 3 (0, 0)) (Kz BK2.out) hg (Kd.R_away HO_5.out (fun _ hk => hk))); have n2_ := am (hb); have n3_ := am (ho); clear BK1 BK2 HB HO_5; revert n0_ n1_ n2_ n3_; intro BK1 BK2 HB HO1037; clear ho hb hg hat))
       go_roundg k1
       case measure => have := HK1.out; omega
       case rel => exact ⟨(y1035), (wrap64 (x11_1 + 1)), wZ, H', ⟨by have := HK1.out; omega⟩, ⟨Rz HO1037.out⟩, ⟨Kz BK1.out⟩, ⟨Kz BK2.out⟩, ⟨Bq⟩⟩
      ·rw [if_neg c11] at H
       exact absurd H (by simp)
     ·rw [if_neg c9] at H
      exact absurd H (by simp)
    ·rw [if_neg c8] at H
     exact absurd H (by simp)
   ·rw [if_neg c7] at H
    have c7b0 : decide (x11_1 < (l1_0.length : Int)) = false := decide_eq_false c7; clear c7; replace H := Option.bind_eq_some_iff.mp H; obtain ⟨t1038, A140, H⟩ := H; (try dsimp -simprocs only at H); have A14 := am A140; clear A140; obtain rfl := Option.some.inj H; obtain ⟨Ao15, co15, eo15⟩ := Kd.R_slice HO_5.out; subst eo15
    go_wp2_with (first | ((with_reducible refine gate_callee (f := 74) rfl ?_); refine gL (some 24) Try.func74 #[.slice Ao15 x5_1.length co15] ?_; (with_reducible refine (impl_distinct.calls _ _ x5_1 t1038 _ ?side1 ?side2 A14.out).mono ?_); (case side1 => exact Cz ((Kd.R_reads' HO_5.out).2.2)); (case side2 => exact (Kd.R_reads' HO_5.out).2.1); rintro e w16 ⟨rfl, hb⟩; refine ⟨_, rfl, ?_⟩; have n0_ := Rb HO_5 hb; have n1_ := Kb BK1 hb; have n2_ := Kb BK2 hb; have n3_ := Bc HB hb; clear HO_5 BK1 BK2 HB; revert n0_ n1_ n2_ n3_; intro HO_5 BK1 BK2 HB; (try clear hb); (try clear hb2); (try clear hk); (try clear hi)))
    go_ret
    exact ⟨eZ, Bq⟩

/-! ### impl_firstSeed_at_impl_PlainSeed_1: function 1000005 -/
mutual
def impl_firstSeed_at_impl_PlainSeed_1.j0 : Nat → Int → Int → Bool → List ByteArray → Int → Option (Int × Bool)
 | 0, _, _, _, _, _ => none
 | k + 1, x0, x1, x25, x4000, x5000 => if x25 = true then (some (0, false)) else (impl_firstSeed_at_impl_PlainSeed_1.l0 k x1 x0 x4000 x5000)
def impl_firstSeed_at_impl_PlainSeed_1.l0 : Nat → Int → Int → List ByteArray → Int → Option (Int × Bool)
 | 0, _, _, _, _ => none
 | k + 1, x1, x8, x4000, x5000 => if x8 < x1 then ((impl_PlainSeed_1.f k x8 x4000 x5000).bind fun t1039 => (if t1039 = true then (some (x8, true)) else (impl_firstSeed_at_impl_PlainSeed_1.l0 k x1 (wrap64 (x8 + 1)) x4000 x5000))) else (some (0, false))
end
def impl_firstSeed_at_impl_PlainSeed_1.f (k : Nat) (a0 : Int) (a1 : Int)  (l3_0 : List ByteArray) (a4_0 : Int) : Option (Int × Bool) := if a0 < 0 then (impl_firstSeed_at_impl_PlainSeed_1.j0 k a0 a1 true l3_0 a4_0) else (if a0 > a1 then (impl_firstSeed_at_impl_PlainSeed_1.j0 k a0 a1 true l3_0 a4_0) else (if a1 > 10000 then (impl_firstSeed_at_impl_PlainSeed_1.j0 k a0 a1 true l3_0 a4_0) else (impl_firstSeed_at_impl_PlainSeed_1.j0 k a0 a1 (decide (a1 > (wrap64 (a0 + 100)))) l3_0 a4_0)))
theorem impl_firstSeed_at_impl_PlainSeed_1.mono_l : ∀ k, (∀ y0 y1 y2 y3 y4, LeO (impl_firstSeed_at_impl_PlainSeed_1.j0 k y0 y1 y2 y3 y4) (impl_firstSeed_at_impl_PlainSeed_1.j0 (k + 1) y0 y1 y2 y3 y4)) ∧ (∀ y0 y1 y2 y3, LeO (impl_firstSeed_at_impl_PlainSeed_1.l0 k y0 y1 y2 y3) (impl_firstSeed_at_impl_PlainSeed_1.l0 (k + 1) y0 y1 y2 y3))
 | 0 => ⟨fun _ _ _ _ _ r h => by simp [impl_firstSeed_at_impl_PlainSeed_1.j0] at h, fun _ _ _ _ r h => by simp [impl_firstSeed_at_impl_PlainSeed_1.l0] at h⟩
 | k + 1 => by
  obtain ⟨ih0, ih1⟩ := impl_firstSeed_at_impl_PlainSeed_1.mono_l k; refine ⟨?_, ?_⟩
  ·intro y0 y1 y2 y3 y4
   unfold impl_firstSeed_at_impl_PlainSeed_1.j0
   repeat' first | (with_reducible first | exact ih0 _ _ _ _ _ | exact ih1 _ _ _ _ | exact impl_PlainSeed_1.mono _ _ _ _ | exact LeO.refl _ | exact LeO.none _ | refine LeO.ite ?_ ?_ | refine LeO.bind ?_ (fun _ => ?_)) | exact LeO.none _ | refine LeO.ite ?_ ?_ | refine LeO.bind ?_ (fun _ => ?_)
  ·intro y0 y1 y2 y3
   unfold impl_firstSeed_at_impl_PlainSeed_1.l0
   repeat' first | (with_reducible first | exact ih0 _ _ _ _ _ | exact ih1 _ _ _ _ | exact impl_PlainSeed_1.mono _ _ _ _ | exact LeO.refl _ | exact LeO.none _ | refine LeO.ite ?_ ?_ | refine LeO.bind ?_ (fun _ => ?_)) | exact LeO.none _ | refine LeO.ite ?_ ?_ | refine LeO.bind ?_ (fun _ => ?_)
theorem impl_firstSeed_at_impl_PlainSeed_1.mono : ∀ a0 a1 a2 a3 k, LeO (impl_firstSeed_at_impl_PlainSeed_1.f k a0 a1 a2 a3) (impl_firstSeed_at_impl_PlainSeed_1.f (k + 1) a0 a1 a2 a3) := by
 intro a0 a1 a2 a3 k; obtain ⟨ih0, ih1⟩ := impl_firstSeed_at_impl_PlainSeed_1.mono_l k
 unfold impl_firstSeed_at_impl_PlainSeed_1.f
 repeat' first | (with_reducible first | exact ih0 _ _ _ _ _ | exact ih1 _ _ _ _ | exact impl_PlainSeed_1.mono _ _ _ _ | exact LeO.refl _ | exact LeO.none _ | refine LeO.ite ?_ ?_ | refine LeO.bind ?_ (fun _ => ?_)) | exact LeO.none _ | refine LeO.ite ?_ ?_ | refine LeO.bind ?_ (fun _ => ?_)
theorem impl_firstSeed_at_impl_PlainSeed_1.calls (k : Nat) (a0 : Int) (a1 : Int)  (g3 : Nat) (A3_0 : Option Addr) (c3_0 : Nat) (l3_0 : List ByteArray) (g4 : Nat) (a4_0 : Int) (r1 : Int) (r2 : Bool) (w : World) (hb3 : w.heap[g3]? = some (.cells #[.slice A3_0 l3_0.length c3_0] 24 (0, 0))) (hr3_0 : Kd.C Kd.string w A3_0 l3_0.length l3_0) (hc3_0 : l3_0.length ≤ c3_0) (hb4 : w.heap[g4]? = some (.cells #[.int .i64 a4_0] 3 (0, 0))) (h : impl_firstSeed_at_impl_PlainSeed_1.f k a0 a1 l3_0 a4_0 = some (r1, r2)) :
  Calls Try.prog 71 #[.int .i64 a0, .int .i64 a1, .func (.func 72) #[] #[.pointer (some ⟨g3, 0, none⟩), .pointer (some ⟨g4, 0, none⟩)]] w fun e w' => e = .returned (.tuple #[.int .i64 r1, .bool r2]) ∧ Below w.heap.size w w' := by
 have HR3_0 := am hr3_0; have HC3_0 := am hc3_0; clear hr3_0 hc3_0; have BK3 := am hb3; clear hb3; have BK4 := am hb4; clear hb4; have HB := am (Below.refl w.heap.size w); have H : (if a0 < 0 then (impl_firstSeed_at_impl_PlainSeed_1.j0 k a0 a1 true l3_0 a4_0) else (if a0 > a1 then (impl_firstSeed_at_impl_PlainSeed_1.j0 k a0 a1 true l3_0 a4_0) else (if a1 > 10000 then (impl_firstSeed_at_impl_PlainSeed_1.j0 k a0 a1 true l3_0 a4_0) else (impl_firstSeed_at_impl_PlainSeed_1.j0 k a0 a1 (decide (a1 > (wrap64 (a0 + 100)))) l3_0 a4_0)))) = some (r1, r2) := h; clear h; have HC6 := am H; clear H
 go_enter Try.func71, Try.ntmps71
 go_upto_region 1 with (fail)
 go_cut [25] (fun v25 wc => ∃ (kq : Nat) (x25_5 : Bool), v25 = .bool x25_5 ∧ Aside0 (impl_firstSeed_at_impl_PlainSeed_1.j0 kq a0 a1 x25_5 l3_0 a4_0 = some (r1, r2)) ∧ Aside0 (kq ≤ k) ∧ Aside0 (wc.heap[g3]? = some (.cells #[(.slice A3_0 l3_0.length c3_0)] 24 (0, 0))) ∧ Aside0 (wc.heap[g4]? = some (.cells #[.int .i64 a4_0] 3 (0, 0))) ∧ Aside0 (Below w.heap.size w wc))
 case first =>
  have H := HC6.out; clear HC6
  by_cases c7 : a0 < 0
  ·rw [if_pos c7] at H
   have c7b0 : decide (a0 < 0) = true := decide_eq_true c7; clear c7
   (first | rw [c7b0] | (simp only [i64_w, i32_w]; rw [c7b0]) | skip)
   have H' := am H; clear H
   go_wp2
   go_meet
   case rel => exact ⟨_, (true), wZ, H', ⟨by first | omega | exact Nat.le_refl _⟩, ⟨Kz BK3.out⟩, ⟨Kz BK4.out⟩, ⟨Bq⟩⟩
  ·rw [if_neg c7] at H
   have c7b0 : decide (a0 < 0) = false := decide_eq_false c7; clear c7
   (first | rw [c7b0] | (simp only [i64_w, i32_w]; rw [c7b0]) | skip)
   by_cases c8 : a0 > a1
   ·rw [if_pos c8] at H
    have c8b0 : decide (a1 < a0) = true := decide_eq_true c8; clear c8; have H' := am H; clear H
    go_wp2
    go_meet
    case rel => exact ⟨_, (true), wZ, H', ⟨by first | omega | exact Nat.le_refl _⟩, ⟨Kz BK3.out⟩, ⟨Kz BK4.out⟩, ⟨Bq⟩⟩
   ·rw [if_neg c8] at H
    have c8b0 : decide (a1 < a0) = false := decide_eq_false c8; clear c8
    by_cases c9 : a1 > 10000
    ·rw [if_pos c9] at H
     have c9b0 : decide (10000 < a1) = true := decide_eq_true c9; clear c9; have H' := am H; clear H
     go_wp2
     go_meet
     case rel => exact ⟨_, (true), wZ, H', ⟨by first | omega | exact Nat.le_refl _⟩, ⟨Kz BK3.out⟩, ⟨Kz BK4.out⟩, ⟨Bq⟩⟩
    ·rw [if_neg c9] at H
     have c9b0 : decide (10000 < a1) = false := decide_eq_false c9; clear c9; have H' := am H; clear H
     go_wp2
     go_meet
     case rel => exact ⟨_, (decide (a1 > (wrap64 (a0 + 100)))), wZ, H', ⟨by first | omega | exact Nat.le_refl _⟩, ⟨Kz BK3.out⟩, ⟨Kz BK4.out⟩, ⟨Bq⟩⟩
 case rest =>
  clear HC6
  try clear p2
  try clear c3
  try clear p6
  try clear c7
  try clear c7b0
  try clear c8
  try clear c8b0
  try clear c9
  try clear c9b0
  obtain ⟨kq, x25_5, rfl, HA, HJ5, BK3, BK4, HB⟩ := hcut; cases kq with
  | zero => exact absurd HA.out (by simp [impl_firstSeed_at_impl_PlainSeed_1.j0])
  | succ kj5 =>
   have H := HA.out; clear HA
   simp only [impl_firstSeed_at_impl_PlainSeed_1.j0] at H
   by_cases c10 : x25_5 = true
   ·subst c10
    rw [if_pos rfl] at H
    simp only [Option.some.injEq, Prod.mk.injEq] at H
    obtain ⟨rfl, rfl⟩ := H
    go_wp2
    go_ret2
    exact ⟨eZ, Bq⟩
   ·replace c10 := Bool.eq_false_iff.mpr c10
    subst c10
    rw [if_neg (show ¬ (false = true) by decide)] at H; have H' := am H; clear H
    go_wp2
    go_loopg [8] kj5 (fun kq v8 w' => ∃ (x8_2 : Int), v8 = .int .i64 x8_2 ∧ Aside0 (impl_firstSeed_at_impl_PlainSeed_1.l0 kq a1 x8_2 l3_0 a4_0 = some (r1, r2)) ∧ Aside0 (kq ≤ kj5) ∧ Aside0 (w'.heap[g3]? = some (.cells #[(.slice A3_0 l3_0.length c3_0)] 24 (0, 0))) ∧ Aside0 (w'.heap[g4]? = some (.cells #[.int .i64 a4_0] 3 (0, 0))) ∧ Aside0 (Below w.heap.size w w'))
    case atStart => exact ⟨(a0), wZ, H', ⟨Nat.le_refl _⟩, ⟨Kz BK3.out⟩, ⟨Kz BK4.out⟩, ⟨Bq⟩⟩
    case round =>
     clear H'
     try clear c1
     try clear p2
     try clear c3
     try clear p6
     try clear c7
     try clear c7b0
     try clear c8
     try clear c8b0
     try clear c9
     try clear c9b0
     try clear c10
     try clear p2
     try clear p6
     obtain ⟨x8_2, rfl, HA, HK2, BK3, BK4, HB⟩ := hrel; cases gk with
     | zero => exact absurd HA.out (by simp [impl_firstSeed_at_impl_PlainSeed_1.l0])
     | succ k2 =>
      have H := HA.out; clear HA
      simp only [impl_firstSeed_at_impl_PlainSeed_1.l0] at H
      by_cases c11 : x8_2 < a1
      ·rw [if_pos c11] at H
       have c11b0 : decide (x8_2 < a1) = true := decide_eq_true c11; clear c11; replace H := Option.bind_eq_some_iff.mp H; obtain ⟨t1039, A120, H⟩ := H; (try dsimp -simprocs only at H); have A12 := am A120; clear A120
       by_cases c13 : t1039 = true
       ·subst c13
        rw [if_pos rfl] at H
        simp only [Option.some.injEq, Prod.mk.injEq] at H
        obtain ⟨rfl, rfl⟩ := H
        go_wp2_with (first | (go_at_call 72; (with_reducible refine (impl_PlainSeed_1.calls k2 x8_2 g3 A3_0 c3_0 l3_0 g4 a4_0 true _ ?side1 ?side2 ?side3 ?side4 A12.out).mono ?_); (case side1 => exact Kz BK3.out); (case side2 => exact Cz (Kd.C_below HR3_0.out HB.out)); (case side3 => exact HC3_0.out); (case side4 => exact Kz BK4.out); rintro e w14 ⟨rfl, hb⟩; have n0_ := Kb BK3 hb; have n1_ := Kb BK4 hb; have n2_ := Bc HB hb; clear BK3 BK4 HB; revert n0_ n1_ n2_; intro BK3 BK4 HB; (try clear hb); (try clear hb2); (try clear hk); (try clear hi)))
        go_ret2
        exact ⟨eZ, Bq⟩
       ·replace c13 := Bool.eq_false_iff.mpr c13
        subst c13
        rw [if_neg (show ¬ (false = true) by decide)] at H; have H' := am H; clear H
        go_wp2_with (first | (go_at_call 72; (with_reducible refine (impl_PlainSeed_1.calls k2 x8_2 g3 A3_0 c3_0 l3_0 g4 a4_0 false _ ?side1 ?side2 ?side3 ?side4 A12.out).mono ?_); (case side1 => exact Kz BK3.out); (case side2 => exact Cz (Kd.C_below HR3_0.out HB.out)); (case side3 => exact HC3_0.out); (case side4 => exact Kz BK4.out); rintro e w15 ⟨rfl, hb⟩; have n0_ := Kb BK3 hb; have n1_ := Kb BK4 hb; have n2_ := Bc HB hb; clear BK3 BK4 HB; revert n0_ n1_ n2_; intro BK3 BK4 HB; (try clear hb); (try clear hb2); (try clear hk); (try clear hi)))
        go_roundg k2
        case measure => have := HJ5.out; have := HK2.out; omega
        case rel => exact ⟨(wrap64 (x8_2 + 1)), wZ, H', ⟨by have := HJ5.out; have := HK2.out; omega⟩, ⟨Kz BK3.out⟩, ⟨Kz BK4.out⟩, ⟨Bq⟩⟩
      ·rw [if_neg c11] at H
       have c11b0 : decide (x8_2 < a1) = false := decide_eq_false c11; clear c11
       simp only [Option.some.injEq, Prod.mk.injEq] at H
       obtain ⟨rfl, rfl⟩ := H
       go_wp2
       go_ret2
       exact ⟨eZ, Bq⟩

/-! ### impl_PlainSeed: function 14 -/
def impl_PlainSeed.f (k : Nat) (l0 : List ByteArray) (a1 : Int) (a2 : Int) (a3 : Int) : Option (Int × Bool) := (impl_AreKeys.f k l0).bind fun t1042 => (if t1042 = true then ((impl_in.f a1 1 4096).bind fun t1043 => (if t1043 = true then ((impl_firstSeed_at_impl_PlainSeed_1.f k a2 a3 l0 a1).bind fun bt1044 => (some (bt1044.1, bt1044.2))) else (some (0, false)))) else (some (0, false)))
theorem impl_PlainSeed.mono : ∀ a0 a1 a2 a3 k, LeO (impl_PlainSeed.f k a0 a1 a2 a3) (impl_PlainSeed.f (k + 1) a0 a1 a2 a3) := by
 intro a0 a1 a2 a3 k
 unfold impl_PlainSeed.f
 repeat' first | (with_reducible first | exact impl_AreKeys.mono _ _ | exact impl_firstSeed_at_impl_PlainSeed_1.mono _ _ _ _ _ | exact LeO.refl _ | exact LeO.none _ | refine LeO.ite ?_ ?_ | refine LeO.bind ?_ (fun _ => ?_)) | exact LeO.none _ | refine LeO.ite ?_ ?_ | refine LeO.bind ?_ (fun _ => ?_)
theorem impl_PlainSeed.calls (k : Nat) (A0 : Option Addr) (c0 : Nat) (l0 : List ByteArray) (a1 : Int) (a2 : Int) (a3 : Int) (r1 : Int) (r2 : Bool) (w : World) (hr0 : Kd.C Kd.string w A0 l0.length l0) (hc0 : l0.length ≤ c0) (h : impl_PlainSeed.f k l0 a1 a2 a3 = some (r1, r2)) :
  Calls Try.prog 14 #[.slice A0 l0.length c0, .int .i64 a1, .int .i64 a2, .int .i64 a3] w fun e w' => e = .returned (.tuple #[.int .i64 r1, .bool r2]) ∧ Below w.heap.size w w' := by
 have HR0 := am hr0; have HC0 := am hc0; clear hr0 hc0; have HB := am (Below.refl w.heap.size w); have H : ((impl_AreKeys.f k l0).bind fun t1042 => (if t1042 = true then ((impl_in.f a1 1 4096).bind fun t1043 => (if t1043 = true then ((impl_firstSeed_at_impl_PlainSeed_1.f k a2 a3 l0 a1).bind fun bt1044 => (some (bt1044.1, bt1044.2))) else (some (0, false)))) else (some (0, false)))) = some (r1, r2) := h; clear h; replace H := Option.bind_eq_some_iff.mp H; obtain ⟨t1042, A50, H⟩ := H; (try dsimp -simprocs only at H); have A5 := am A50; clear A50
 by_cases c6 : t1042 = true
 ·subst c6
  rw [if_pos rfl] at H; replace H := Option.bind_eq_some_iff.mp H; obtain ⟨t1043, A70, H⟩ := H; (try dsimp -simprocs only at H); have A7 := am A70; clear A70
  by_cases c8 : t1043 = true
  ·subst c8
   rw [if_pos rfl] at H; replace H := Option.bind_eq_some_iff.mp H; obtain ⟨⟨t1044, t1045⟩, A90, H⟩ := H; (try dsimp -simprocs only at H); have A9 := am A90; clear A90
   simp only [Option.some.injEq, Prod.mk.injEq] at H
   obtain ⟨rfl, rfl⟩ := H
   go_enter Try.func14, Try.ntmps14
   go_wp2_with (first | ((with_reducible refine gate_dst (N := 4) rfl ?_); refine bE 4 #[.slice A0 l0.length c0] 24 ?_; intro gb1040 hg w10 hbox hb; have n0_ := Bb HB hb; have n1_ := am (hbox); have n2_ := Gl HB hg; have n3_ := Gl HB hg; clear HB; revert n0_ n1_ n2_ n3_; intro HB BK1040 GW1040 GE1040; clear hb hbox hg) | ((with_reducible refine gate_dst (N := 5) rfl ?_); refine bE 5 #[.int .i64 a1] 3 ?_; intro gb1041 hg w11 hbox hb; have n0_ := Kb BK1040 hb; have n1_ := Bc HB hb; have n2_ := am (hbox); have n3_ := Gm HB hg; have n4_ := Gm HB hg; have n5_ := Nl BK1040 hg; have n6_ := Ng BK1040 hg; clear BK1040 HB; revert n0_ n1_ n2_ n3_ n4_ n5_ n6_; intro BK1040 HB BK1041 GW1041 GE1041 NB1040_1041 NB1041_1040; clear hb hbox hg; have hnb12 := NB1040_1041.out; have hnc12 := NB1041_1040.out; obtain ⟨hcz13_0, hfz13_0⟩ := cf1 (w := w11) BK1040) | ((with_reducible refine gate_callee (f := 69) rfl ?_); refine gL (some 11) Try.func69 #[.slice A0 l0.length c0] ?_; (with_reducible refine (impl_AreKeys.calls k _ _ l0 true _ ?side1 ?side2 A5.out).mono ?_); (case side1 => exact Cz (Kd.C_below HR0.out HB.out)); (case side2 => exact HC0.out); rintro e w' ⟨rfl, ⟨nd, rfl⟩⟩; refine ⟨_, rfl, ?_⟩; obtain ⟨hcz14_0, hfz14_0⟩ := cf1 (w := w11) BK1041) | (go_at_call 70; (with_reducible refine (impl_in.calls a1 1 4096 true _ A7.out).mono ?_); rintro e w' ⟨rfl, ⟨nd, rfl⟩⟩) | ((with_reducible refine gate_callee (f := 71) rfl ?_); refine gL (some 21) Try.func71 #[.int .i64 a2, .int .i64 a3, .func (.func 72) #[] #[.pointer (some ⟨gb1040, 0, none⟩), .pointer (some ⟨gb1041, 0, none⟩)]] ?_; (with_reducible refine (impl_firstSeed_at_impl_PlainSeed_1.calls k a2 a3  gb1040 A0 c0 l0 gb1041 a1 t1044 t1045 _ ?side1 ?side2 ?side3 ?side4 A9.out).mono ?_); (case side1 => exact Kz BK1040.out); (case side2 => exact Cz (Kd.C_below HR0.out (Bq))); (case side3 => exact HC0.out); (case side4 => exact Kz BK1041.out); rintro e w15 ⟨rfl, hb⟩; refine ⟨_, rfl, ?_⟩; have n0_ := Kb BK1040 hb; have n1_ := Kb BK1041 hb; have n2_ := Bc HB hb; clear BK1040 BK1041 HB; revert n0_ n1_ n2_; intro BK1040 BK1041 HB; (try clear hb); (try clear hb2); (try clear hk); (try clear hi)))
   go_ret2
   exact ⟨eZ, Bq⟩
  ·replace c8 := Bool.eq_false_iff.mpr c8
   subst c8
   rw [if_neg (show ¬ (false = true) by decide)] at H
   simp only [Option.some.injEq, Prod.mk.injEq] at H
   obtain ⟨rfl, rfl⟩ := H
   go_enter Try.func14, Try.ntmps14
   go_wp2_with (first | ((with_reducible refine gate_dst (N := 4) rfl ?_); refine bE 4 #[.slice A0 l0.length c0] 24 ?_; intro gb1040 hg w16 hbox hb; have n0_ := Bb HB hb; have n1_ := am (hbox); have n2_ := Gl HB hg; have n3_ := Gl HB hg; clear HB; revert n0_ n1_ n2_ n3_; intro HB BK1040 GW1040 GE1040; clear hb hbox hg) | ((with_reducible refine gate_dst (N := 5) rfl ?_); refine bE 5 #[.int .i64 a1] 3 ?_; intro gb1041 hg w17 hbox hb; have n0_ := Kb BK1040 hb; have n1_ := Bc HB hb; have n2_ := am (hbox); have n3_ := Gm HB hg; have n4_ := Gm HB hg; have n5_ := Nl BK1040 hg; have n6_ := Ng BK1040 hg; clear BK1040 HB; revert n0_ n1_ n2_ n3_ n4_ n5_ n6_; intro BK1040 HB BK1041 GW1041 GE1041 NB1040_1041 NB1041_1040; clear hb hbox hg; have hnb18 := NB1040_1041.out; have hnc18 := NB1041_1040.out; obtain ⟨hcz19_0, hfz19_0⟩ := cf1 (w := w17) BK1040) | ((with_reducible refine gate_callee (f := 69) rfl ?_); refine gL (some 11) Try.func69 #[.slice A0 l0.length c0] ?_; (with_reducible refine (impl_AreKeys.calls k _ _ l0 true _ ?side1 ?side2 A5.out).mono ?_); (case side1 => exact Cz (Kd.C_below HR0.out HB.out)); (case side2 => exact HC0.out); rintro e w' ⟨rfl, ⟨nd, rfl⟩⟩; refine ⟨_, rfl, ?_⟩; obtain ⟨hcz20_0, hfz20_0⟩ := cf1 (w := w17) BK1041) | (go_at_call 70; (with_reducible refine (impl_in.calls a1 1 4096 false _ A7.out).mono ?_); rintro e w' ⟨rfl, ⟨nd, rfl⟩⟩))
   go_ret2
   exact ⟨eZ, Bq⟩
 ·replace c6 := Bool.eq_false_iff.mpr c6
  subst c6
  rw [if_neg (show ¬ (false = true) by decide)] at H
  simp only [Option.some.injEq, Prod.mk.injEq] at H
  obtain ⟨rfl, rfl⟩ := H
  go_enter Try.func14, Try.ntmps14
  go_wp2_with (first | ((with_reducible refine gate_dst (N := 4) rfl ?_); refine bE 4 #[.slice A0 l0.length c0] 24 ?_; intro gb1040 hg w21 hbox hb; have n0_ := Bb HB hb; have n1_ := am (hbox); have n2_ := Gl HB hg; have n3_ := Gl HB hg; clear HB; revert n0_ n1_ n2_ n3_; intro HB BK1040 GW1040 GE1040; clear hb hbox hg) | ((with_reducible refine gate_dst (N := 5) rfl ?_); refine bE 5 #[.int .i64 a1] 3 ?_; intro gb1041 hg w22 hbox hb; have n0_ := Kb BK1040 hb; have n1_ := Bc HB hb; have n2_ := am (hbox); have n3_ := Gm HB hg; have n4_ := Gm HB hg; have n5_ := Nl BK1040 hg; have n6_ := Ng BK1040 hg; clear BK1040 HB; revert n0_ n1_ n2_ n3_ n4_ n5_ n6_; intro BK1040 HB BK1041 GW1041 GE1041 NB1040_1041 NB1041_1040; clear hb hbox hg; have hnb23 := NB1040_1041.out; have hnc23 := NB1041_1040.out; obtain ⟨hcz24_0, hfz24_0⟩ := cf1 (w := w22) BK1040) | ((with_reducible refine gate_callee (f := 69) rfl ?_); refine gL (some 11) Try.func69 #[.slice A0 l0.length c0] ?_; (with_reducible refine (impl_AreKeys.calls k _ _ l0 false _ ?side1 ?side2 A5.out).mono ?_); (case side1 => exact Cz (Kd.C_below HR0.out HB.out)); (case side2 => exact HC0.out); rintro e w' ⟨rfl, ⟨nd, rfl⟩⟩; refine ⟨_, rfl, ?_⟩))
  go_ret2
  exact ⟨eZ, Bq⟩

/-! ### spec_biPlaces: function 142 -/
def spec_biPlaces.l0 : Nat → Int → Int → Int → List Int → List ByteArray → Int → Int → Option (List Int)
 | 0, _, _, _, _, _, _, _ => none
 | k + 1, x0, x1, x3, x9, x12, x13, x14 => if x14 < x13 then (if 0 ≤ x14 then (if x14 < (x12.length : Int) then ((spec_biPlace.f k x0 x1 (rdOf ByteArray.empty x12 x14) x3).bind fun t1047 => (if x9.length < 17592186044416 then (spec_biPlaces.l0 k x0 x1 x3 (x9 ++ [t1047]) x12 x13 (wrap64 (x14 + 1))) else (none))) else (none)) else (none)) else (some x9)
def spec_biPlaces.f (k : Nat) (a0 : Int) (a1 : Int) (l2 : List ByteArray) (a3 : Int) : Option (List Int) := spec_biPlaces.l0 k a0 a1 a3 ([] : List Int) l2 (l2.length : Int) 0
theorem spec_biPlaces.mono_l : ∀ k, (∀ y0 y1 y2 y3 y4 y5 y6, LeO (spec_biPlaces.l0 k y0 y1 y2 y3 y4 y5 y6) (spec_biPlaces.l0 (k + 1) y0 y1 y2 y3 y4 y5 y6))
 | 0 => fun _ _ _ _ _ _ _ r h => by simp [spec_biPlaces.l0] at h
 | k + 1 => by
  have ih0 := spec_biPlaces.mono_l k
  ·intro y0 y1 y2 y3 y4 y5 y6
   unfold spec_biPlaces.l0
   repeat' first | (with_reducible first | exact ih0 _ _ _ _ _ _ _ | exact spec_biPlace.mono _ _ _ _ _ | exact LeO.refl _ | exact LeO.none _ | refine LeO.ite ?_ ?_ | refine LeO.bind ?_ (fun _ => ?_)) | exact LeO.none _ | refine LeO.ite ?_ ?_ | refine LeO.bind ?_ (fun _ => ?_)
theorem spec_biPlaces.mono : ∀ a0 a1 a2 a3 k, LeO (spec_biPlaces.f k a0 a1 a2 a3) (spec_biPlaces.f (k + 1) a0 a1 a2 a3) := by
 intro a0 a1 a2 a3 k; have ih0 := spec_biPlaces.mono_l k
 unfold spec_biPlaces.f
 repeat' first | (with_reducible first | exact ih0 _ _ _ _ _ _ _ | exact spec_biPlace.mono _ _ _ _ _ | exact LeO.refl _ | exact LeO.none _ | refine LeO.ite ?_ ?_ | refine LeO.bind ?_ (fun _ => ?_)) | exact LeO.none _ | refine LeO.ite ?_ ?_ | refine LeO.bind ?_ (fun _ => ?_)
theorem spec_biPlaces.calls (k : Nat) (a0 : Int) (a1 : Int) (A2 : Option Addr) (c2 : Nat) (l2 : List ByteArray) (a3 : Int) (r : List Int) (w : World) (hr2 : Kd.C Kd.string w A2 l2.length l2) (hc2 : l2.length ≤ c2) (h : spec_biPlaces.f k a0 a1 l2 a3 = some r) :
  Calls Try.prog 142 #[.int .i64 a0, .int .i64 a1, .slice A2 l2.length c2, .int .i64 a3] w fun e w' => ∃ v0_ : Value, e = .returned (v0_) ∧ Kd.R (Kd.int .i64) 3 w' w.heap.size (fun _ => True) v0_ r ∧ Below w.heap.size w w' := by
 have HR2 := am hr2; have HC2 := am hc2; clear hr2 hc2; have HB := am (Below.refl w.heap.size w); have H : (spec_biPlaces.l0 k a0 a1 a3 ([] : List Int) l2 (l2.length : Int) 0) = some r := h; clear h; have H' := am H; clear H
 go_enter Try.func142, Try.ntmps142
 go_wp2
 go_loopg [9, 14] k (fun kq v9 v14 w' => ∃ (x9_1 : List Int) (x14_1 : Int), v14 = .int .i64 x14_1 ∧ Aside0 (spec_biPlaces.l0 kq a0 a1 a3 x9_1 l2 (l2.length : Int) x14_1 = some r) ∧ Aside0 (kq ≤ k) ∧ Aside0 (Kd.R (Kd.int .i64) 3 w' w.heap.size (fun _ => True) v9 x9_1) ∧ Aside0 (Below w.heap.size w w'))
 case atStart => exact ⟨(([] : List Int)), (0), wZ, H', ⟨Nat.le_refl _⟩, ⟨nZ⟩, ⟨Bz HB.out⟩⟩
 case round =>
  clear H'
  try clear c1
  try clear c2
  try clear p2
  obtain ⟨x9_1, x14_1, rfl, HA, HK1, HO_9, HB⟩ := hrel; cases gk with
  | zero => exact absurd HA.out (by simp [spec_biPlaces.l0])
  | succ k1 =>
   have H := HA.out; clear HA
   simp only [spec_biPlaces.l0] at H
   by_cases c5 : x14_1 < (l2.length : Int)
   ·rw [if_pos c5] at H
    have c5b0 : decide (x14_1 < (l2.length : Int)) = true := decide_eq_true c5; clear c5
    by_cases c6 : 0 ≤ x14_1
    ·rw [if_pos c6] at H
     have c6b0 : decide (0 ≤ x14_1) = true := decide_eq_true c6; clear c6
     by_cases c7 : x14_1 < (l2.length : Int)
     ·rw [if_pos c7] at H
      have c7b0 : decide (x14_1 < (l2.length : Int)) = true := decide_eq_true c7; clear c7; replace H := Option.bind_eq_some_iff.mp H; obtain ⟨t1047, A80, H⟩ := H; (try dsimp -simprocs only at H); have A8 := am A80; clear A80
      by_cases c9 : x9_1.length < 17592186044416
      ·rw [if_pos c9] at H
       have LMc9 := am c9; clear c9; obtain ⟨y1048, hy1048⟩ : ∃ y_ : List Int, y_ = (x9_1 ++ [t1047]) := ⟨_, rfl⟩
       replace H : (spec_biPlaces.l0 k1 a0 a1 a3 y1048 l2 (l2.length : Int) (wrap64 (x14_1 + 1))) = some r := by first | (rw [hy1048]; with_reducible exact H) | (have H2_ := (Option.bind_some _ _).symm.trans H; rw [hy1048]; with_reducible exact H2_) | (have H2_ := (Option.bind_some _ _).symm.trans H; with_reducible exact H2_) | with_reducible exact H | (rw [hy1048]; exact H) | exact H
       have Ny1048 := am hy1048; clear hy1048; have H' := am H; clear H; have p1046 : 0 ≤ (x14_1 : Int) := dT; have q1046 : x14_1 < (l2.length : Int) := dT; obtain ⟨ad1046, e1046, hx1046_0⟩ := Kd.at_string HR2.out x14_1 p1046 q1046; cases e1046; replace hx1046_0 := (HB.out.cell (World.block_lt_of_cell? w _ hx1046_0)).trans hx1046_0; replace p1046 := eq_true p1046; replace q1046 := eq_true q1046
       go_wp2_with (first | ((with_reducible refine gate_callee (f := 154) rfl ?_); refine gL (some 23) Try.func154 #[.int .i64 a0, .int .i64 a1, .string (rdOf ByteArray.empty l2 x14_1), .int .i64 a3] ?_; (with_reducible refine (spec_biPlace.calls k1 a0 a1 (rdOf ByteArray.empty l2 x14_1) a3 t1047 _ A8.out).mono ?_); rintro e w' ⟨rfl, ⟨nd, rfl⟩⟩; refine ⟨_, rfl, ?_⟩) | ((with_reducible refine gate_builtin (b := .append) (xs := #[.tmp 18, .tmp 24]) rfl ?_); at_builtin; refine Kd.R_append (Kd.int .i64) (w0 := w) w.heap.size rfl (.tmp 18) (.tmp 24) 32 3 (.int .i64 0) 8 rfl Try.underlying32 info3 rfl (by decide) (by omega) u9 x9_1 t1047 [.int .i64 t1047] (fun _ => True) (fun _ => False) rfl rfl ?aP (fun _ hk => hk.elim) ?aF ?aO ?aB ?aS ?aL ?_; (case aP => exact rfl); (case aB => exact (Bz HB.out)); (case aF => exact (fun _ _ => trivial)); (case aO => exact (Rz HO_9.out)); (case aS => exact (below_size (Bz HB.out))); (case aL => have := LMc9.out; omega); intro v1049 w10 ho hb hg hat; rw [← Ny1048.out] at ho; have n0_ := am (hb); have n1_ := am (ho); clear HB HO_9; revert n0_ n1_; intro HB HO1050; clear ho hb hg hat))
       go_roundg k1
       case measure => have := HK1.out; omega
       case rel => exact ⟨(y1048), (wrap64 (x14_1 + 1)), wZ, H', ⟨by have := HK1.out; omega⟩, ⟨Rz HO1050.out⟩, ⟨Bz HB.out⟩⟩
      ·rw [if_neg c9] at H
       exact absurd H (by simp)
     ·rw [if_neg c7] at H
      exact absurd H (by simp)
    ·rw [if_neg c6] at H
     exact absurd H (by simp)
   ·rw [if_neg c5] at H
    have c5b0 : decide (x14_1 < (l2.length : Int)) = false := decide_eq_false c5; clear c5; obtain rfl := Option.some.inj H
    go_wp2
    go_ret
    exact ⟨_, eZ, Rz HO_9.out, Bz HB.out⟩

/-! ### spec_pfPlain: function 78 -/
def spec_pfPlain.l0 : Nat → List Int → List Int → Int → Int → Option (Bool)
 | 0, _, _, _, _ => none
 | k + 1, x7, x14, x15, x16 => if x16 < x15 then (if 0 ≤ x16 then (if x16 < (x14.length : Int) then (if x16 ≤ (x7.length : Int) then ((spec_l1Has.f k (x7.take (x16 : Int).toNat) (rd x14 x16)).bind fun t1059 => (if t1059 = true then (some false) else (spec_pfPlain.l0 k x7 x14 x15 (wrap64 (x16 + 1))))) else (none)) else (none)) else (none)) else (some true)
def spec_pfPlain.f (k : Nat) (a0 : Int) (l1 : List ByteArray) (a2 : Int) : Option (Bool) := (spec_biPlaces.f k a0 0 l1 a2).bind fun t1051 => (spec_pfPlain.l0 k t1051 t1051 (t1051.length : Int) 0)
theorem spec_pfPlain.mono_l : ∀ k, (∀ y0 y1 y2 y3, LeO (spec_pfPlain.l0 k y0 y1 y2 y3) (spec_pfPlain.l0 (k + 1) y0 y1 y2 y3))
 | 0 => fun _ _ _ _ r h => by simp [spec_pfPlain.l0] at h
 | k + 1 => by
  have ih0 := spec_pfPlain.mono_l k
  ·intro y0 y1 y2 y3
   unfold spec_pfPlain.l0
   repeat' first | (with_reducible first | exact ih0 _ _ _ _ | exact spec_biPlaces.mono _ _ _ _ _ | exact spec_l1Has.mono _ _ _ | exact LeO.refl _ | exact LeO.none _ | refine LeO.ite ?_ ?_ | refine LeO.bind ?_ (fun _ => ?_)) | exact LeO.none _ | refine LeO.ite ?_ ?_ | refine LeO.bind ?_ (fun _ => ?_)
theorem spec_pfPlain.mono : ∀ a0 a1 a2 k, LeO (spec_pfPlain.f k a0 a1 a2) (spec_pfPlain.f (k + 1) a0 a1 a2) := by
 intro a0 a1 a2 k; have ih0 := spec_pfPlain.mono_l k
 unfold spec_pfPlain.f
 repeat' first | (with_reducible first | exact ih0 _ _ _ _ | exact spec_biPlaces.mono _ _ _ _ _ | exact spec_l1Has.mono _ _ _ | exact LeO.refl _ | exact LeO.none _ | refine LeO.ite ?_ ?_ | refine LeO.bind ?_ (fun _ => ?_)) | exact LeO.none _ | refine LeO.ite ?_ ?_ | refine LeO.bind ?_ (fun _ => ?_)
theorem spec_pfPlain.calls (k : Nat) (a0 : Int) (A1 : Option Addr) (c1 : Nat) (l1 : List ByteArray) (a2 : Int) (r : Bool) (w : World) (hr1 : Kd.C Kd.string w A1 l1.length l1) (hc1 : l1.length ≤ c1) (h : spec_pfPlain.f k a0 l1 a2 = some r) :
  Calls Try.prog 78 #[.int .i64 a0, .slice A1 l1.length c1, .int .i64 a2] w fun e w' => e = .returned (.bool r) ∧ Below w.heap.size w w' := by
 have HR1 := am hr1; have HC1 := am hc1; clear hr1 hc1; have HB := am (Below.refl w.heap.size w); have H : ((spec_biPlaces.f k a0 0 l1 a2).bind fun t1051 => (spec_pfPlain.l0 k t1051 t1051 (t1051.length : Int) 0)) = some r := h; clear h; replace H := Option.bind_eq_some_iff.mp H; obtain ⟨t1051, A40, H⟩ := H; (try dsimp -simprocs only at H); have A4 := am A40; clear A40; have H' := am H; clear H
 go_enter Try.func78, Try.ntmps78
 go_wp2_with (first | ((with_reducible refine gate_callee (f := 142) rfl ?_); refine gL (some 13) Try.func142 #[.int .i64 a0, .int .i64 0, .slice A1 l1.length c1, .int .i64 a2] ?_; (with_reducible refine (spec_biPlaces.calls k a0 0 _ _ l1 a2 t1051 _ ?side1 ?side2 A4.out).mono ?_); (case side1 => exact Cz HR1.out); (case side2 => exact HC1.out); rintro e w5 ⟨v1052, rfl, ho0, hb⟩; refine ⟨_, rfl, ?_⟩; have n0_ := Rl ho0 HB; have n1_ := Bb HB hb; clear HB; revert n0_ n1_; intro HO1053 HB; (try clear hb); (try clear hb2); (try clear hk); (try clear hi); (try clear ho0); obtain ⟨Ao6, co6, eo6⟩ := Kd.R_slice HO1053.out; subst eo6))
 (try simp only [aP])
 go_loopg [16] k (fun kq v16 w' => ∃ (x16_1 : Int), v16 = .int .i64 x16_1 ∧ Aside0 (spec_pfPlain.l0 kq t1051 t1051 (t1051.length : Int) x16_1 = some r) ∧ Aside0 (kq ≤ k) ∧ Aside0 (Kd.R (Kd.int .i64) 3 w' w.heap.size (fun _ => True) (.slice Ao6 t1051.length co6) t1051) ∧ Aside0 (Kd.R (Kd.int .i64) 3 w' w.heap.size (fun _ => True) (.slice Ao6 t1051.length co6) t1051) ∧ Aside0 (Below w.heap.size w w'))
 case atStart => exact ⟨(0), wZ, H', ⟨Nat.le_refl _⟩, ⟨Rz HO1053.out⟩, ⟨Rz HO1053.out⟩, ⟨Bz HB.out⟩⟩
 case round =>
  clear H'
  try clear c1
  try clear p2
  obtain ⟨x16_1, rfl, HA, HK1, HO_7, HO_14, HB⟩ := hrel; cases gk with
  | zero => exact absurd HA.out (by simp [spec_pfPlain.l0])
  | succ k1 =>
   have H := HA.out; clear HA
   simp only [spec_pfPlain.l0] at H
   by_cases c7 : x16_1 < (t1051.length : Int)
   ·rw [if_pos c7] at H
    have c7b0 : decide (x16_1 < (t1051.length : Int)) = true := decide_eq_true c7; clear c7
    by_cases c8 : 0 ≤ x16_1
    ·rw [if_pos c8] at H
     have c8b0 : decide (0 ≤ x16_1) = true := decide_eq_true c8; clear c8
     by_cases c9 : x16_1 < (t1051.length : Int)
     ·rw [if_pos c9] at H
      have c9b0 : decide (x16_1 < (t1051.length : Int)) = true := decide_eq_true c9; clear c9; have c10b0 := eq_true (dT : 0 ≤ x16_1)
      by_cases c11 : x16_1 ≤ (t1051.length : Int)
      ·rw [if_pos c11] at H
       have c11b0 := eq_true c11; have c11b1 : decide (x16_1 ≤ (t1051.length : Int)) = true := decide_eq_true c11; clear c11; obtain ⟨y1055, hy1055⟩ : ∃ y_ : List Int, y_ = (t1051.take (x16_1 : Int).toNat) := ⟨_, rfl⟩
       replace H : ((spec_l1Has.f k1 y1055 (rd t1051 x16_1)).bind fun t1059 => (if t1059 = true then (some false) else (spec_pfPlain.l0 k1 t1051 t1051 (t1051.length : Int) (wrap64 (x16_1 + 1))))) = some r := by first | (rw [hy1055]; with_reducible exact H) | (have H2_ := (Option.bind_some _ _).symm.trans H; rw [hy1055]; with_reducible exact H2_) | (have H2_ := (Option.bind_some _ _).symm.trans H; with_reducible exact H2_) | with_reducible exact H | (rw [hy1055]; exact H) | exact H
       have Ny1055 := am hy1055; clear hy1055; replace H := Option.bind_eq_some_iff.mp H; obtain ⟨t1059, A120, H⟩ := H; (try dsimp -simprocs only at H); have A12 := am A120; clear A120
       by_cases c13 : t1059 = true
       ·subst c13
        rw [if_pos rfl] at H; obtain rfl := Option.some.inj H; obtain ⟨ad1054, e1054, hx1054_0⟩ := Kd.at_int (Kd.R_reads' HO_14.out).2.2 x16_1 dT dT; cases e1054; have p1054 := eT (0 ≤ (x16_1 : Int)); have q1054 := eT (x16_1 < (t1051.length : Int)); have q14 : (x16_1 : Int) ≤ ((t1051.length : Int) : Int) := dT; obtain ⟨i014, hi014, _, hsz14, _⟩ := info_parts info3; have hroom14 : t1051.length ≤ co6 := (Kd.R_reads' HO_7.out).2.1; have hC14 : Kd.C (Kd.int .i64) _ (some ad1054) t1051.length t1051 := (Kd.R_reads' HO_7.out).2.2; have hcut14 := cut_to (P := Try.prog) 32 3 .i64 Try.underlying32 hi014 (some ad1054) t1051.length co6 x16_1 (dT) q14 hroom14; have hr14 := Kd.C_take (m := (x16_1 : Int).toNat) hC14 (by omega); have hy14 : y1055.length = (x16_1 : Int).toNat := (by rw [Ny1055.out, List.length_take]; omega); rw [← Ny1055.out] at hr14; rw [← hy14] at hcut14; have HR1058 := am hr14; have HC1058 := am (show y1055.length ≤ co6 from by omega); clear hr14 hC14 hroom14 hi014 hsz14; have KY14 := am hy14; clear hy14; have KL14 := am (show (x16_1 : Int).toNat ≤ t1051.length from by omega); replace q14 := eq_true q14
        go_wp2_with (first | ((with_reducible refine gate_callee (f := 143) rfl ?_); refine gL (some 25) Try.func143 #[.slice (some ad1054) y1055.length co6, .int .i64 (rd t1051 x16_1)] ?_; (with_reducible refine (spec_l1Has.calls k1 _ _ y1055 (rd t1051 x16_1) true _ ?side1 ?side2 A12.out).mono ?_); (case side1 => repeat (first | exact (by repeat (first | (with_reducible exact HR1058.out) | (with_reducible refine Kd.C_alloc ?_ _) | (with_reducible refine Kd.C_drewN ?_ _) | (with_reducible refine Kd.C_drew ?_) | exact HR1058.out)) | (with_reducible refine Kd.C_alloc ?_ _) | (with_reducible refine Kd.C_drewN ?_ _) | (with_reducible refine Kd.C_drew ?_))); (case side2 => exact HC1058.out); rintro e w' ⟨rfl, ⟨nd, rfl⟩⟩; refine ⟨_, rfl, ?_⟩))
        go_ret
        exact ⟨eZ, Bz HB.out⟩
       ·replace c13 := Bool.eq_false_iff.mpr c13
        subst c13
        rw [if_neg (show ¬ (false = true) by decide)] at H; have H' := am H; clear H; obtain ⟨ad1054, e1054, hx1054_0⟩ := Kd.at_int (Kd.R_reads' HO_14.out).2.2 x16_1 dT dT; cases e1054; have p1054 := eT (0 ≤ (x16_1 : Int)); have q1054 := eT (x16_1 < (t1051.length : Int)); have q15 : (x16_1 : Int) ≤ ((t1051.length : Int) : Int) := dT; obtain ⟨i015, hi015, _, hsz15, _⟩ := info_parts info3; have hroom15 : t1051.length ≤ co6 := (Kd.R_reads' HO_7.out).2.1; have hC15 : Kd.C (Kd.int .i64) _ (some ad1054) t1051.length t1051 := (Kd.R_reads' HO_7.out).2.2; have hcut15 := cut_to (P := Try.prog) 32 3 .i64 Try.underlying32 hi015 (some ad1054) t1051.length co6 x16_1 (dT) q15 hroom15; have hr15 := Kd.C_take (m := (x16_1 : Int).toNat) hC15 (by omega); have hy15 : y1055.length = (x16_1 : Int).toNat := (by rw [Ny1055.out, List.length_take]; omega); rw [← Ny1055.out] at hr15; rw [← hy15] at hcut15; have HR1058 := am hr15; have HC1058 := am (show y1055.length ≤ co6 from by omega); clear hr15 hC15 hroom15 hi015 hsz15; have KY15 := am hy15; clear hy15; have KL15 := am (show (x16_1 : Int).toNat ≤ t1051.length from by omega); replace q15 := eq_true q15
        go_wp2_with (first | ((with_reducible refine gate_callee (f := 143) rfl ?_); refine gL (some 25) Try.func143 #[.slice (some ad1054) y1055.length co6, .int .i64 (rd t1051 x16_1)] ?_; (with_reducible refine (spec_l1Has.calls k1 _ _ y1055 (rd t1051 x16_1) false _ ?side1 ?side2 A12.out).mono ?_); (case side1 => repeat (first | exact (by repeat (first | (with_reducible exact HR1058.out) | (with_reducible refine Kd.C_alloc ?_ _) | (with_reducible refine Kd.C_drewN ?_ _) | (with_reducible refine Kd.C_drew ?_) | exact HR1058.out)) | (with_reducible refine Kd.C_alloc ?_ _) | (with_reducible refine Kd.C_drewN ?_ _) | (with_reducible refine Kd.C_drew ?_))); (case side2 => exact HC1058.out); rintro e w' ⟨rfl, ⟨nd, rfl⟩⟩; refine ⟨_, rfl, ?_⟩))
        go_roundg k1
        case measure => have := HK1.out; omega
        case rel => exact ⟨(wrap64 (x16_1 + 1)), wZ, H', ⟨by have := HK1.out; omega⟩, ⟨Rz HO_7.out⟩, ⟨Rz HO_14.out⟩, ⟨Bz HB.out⟩⟩
      ·rw [if_neg c11] at H
       exact absurd H (by simp)
     ·rw [if_neg c9] at H
      exact absurd H (by simp)
    ·rw [if_neg c8] at H
     exact absurd H (by simp)
   ·rw [if_neg c7] at H
    have c7b0 : decide (x16_1 < (t1051.length : Int)) = false := decide_eq_false c7; clear c7; obtain rfl := Option.some.inj H
    go_wp2
    go_ret
    exact ⟨eZ, Bz HB.out⟩

/-! ### spec_PlainSeed: function 15 -/
mutual
def spec_PlainSeed.j0 : Nat → List ByteArray → Int → Int → Int → Bool → Option (Int × Bool)
 | 0, _, _, _, _, _ => none
 | k + 1, x0, x1, x2, x3, x32 => if x32 = true then (some (0, false)) else (spec_PlainSeed.l0 k x0 x1 x3 x2)
def spec_PlainSeed.l0 : Nat → List ByteArray → Int → Int → Int → Option (Int × Bool)
 | 0, _, _, _, _ => none
 | k + 1, x0, x1, x3, x10 => if x10 < x3 then ((spec_pfPlain.f k x10 x0 x1).bind fun t1065 => (if t1065 = true then (some (x10, true)) else (spec_PlainSeed.l0 k x0 x1 x3 (wrap64 (x10 + 1))))) else (some (0, false))
end
def spec_PlainSeed.f (k : Nat) (l0 : List ByteArray) (a1 : Int) (a2 : Int) (a3 : Int) : Option (Int × Bool) := (spec_biKeys.f k l0).bind fun t1060 => (if t1060 = true then ((spec_l1In.f a1 1 4096).bind fun t1061 => (if t1061 = true then ((spec_l1In.f a3 0 10000).bind fun t1062 => (if t1062 = true then ((spec_l1Most.f 0 (wrap64 (a3 - 100))).bind fun t1063 => ((spec_l1In.f a2 t1063 a3).bind fun t1064 => (spec_PlainSeed.j0 k l0 a1 a2 a3 (!t1064)))) else (spec_PlainSeed.j0 k l0 a1 a2 a3 true))) else (spec_PlainSeed.j0 k l0 a1 a2 a3 true))) else (spec_PlainSeed.j0 k l0 a1 a2 a3 true))
theorem spec_PlainSeed.mono_l : ∀ k, (∀ y0 y1 y2 y3 y4, LeO (spec_PlainSeed.j0 k y0 y1 y2 y3 y4) (spec_PlainSeed.j0 (k + 1) y0 y1 y2 y3 y4)) ∧ (∀ y0 y1 y2 y3, LeO (spec_PlainSeed.l0 k y0 y1 y2 y3) (spec_PlainSeed.l0 (k + 1) y0 y1 y2 y3))
 | 0 => ⟨fun _ _ _ _ _ r h => by simp [spec_PlainSeed.j0] at h, fun _ _ _ _ r h => by simp [spec_PlainSeed.l0] at h⟩
 | k + 1 => by
  obtain ⟨ih0, ih1⟩ := spec_PlainSeed.mono_l k; refine ⟨?_, ?_⟩
  ·intro y0 y1 y2 y3 y4
   unfold spec_PlainSeed.j0
   repeat' first | (with_reducible first | exact ih0 _ _ _ _ _ | exact ih1 _ _ _ _ | exact spec_biKeys.mono _ _ | exact spec_pfPlain.mono _ _ _ _ | exact LeO.refl _ | exact LeO.none _ | refine LeO.ite ?_ ?_ | refine LeO.bind ?_ (fun _ => ?_)) | exact LeO.none _ | refine LeO.ite ?_ ?_ | refine LeO.bind ?_ (fun _ => ?_)
  ·intro y0 y1 y2 y3
   unfold spec_PlainSeed.l0
   repeat' first | (with_reducible first | exact ih0 _ _ _ _ _ | exact ih1 _ _ _ _ | exact spec_biKeys.mono _ _ | exact spec_pfPlain.mono _ _ _ _ | exact LeO.refl _ | exact LeO.none _ | refine LeO.ite ?_ ?_ | refine LeO.bind ?_ (fun _ => ?_)) | exact LeO.none _ | refine LeO.ite ?_ ?_ | refine LeO.bind ?_ (fun _ => ?_)
theorem spec_PlainSeed.mono : ∀ a0 a1 a2 a3 k, LeO (spec_PlainSeed.f k a0 a1 a2 a3) (spec_PlainSeed.f (k + 1) a0 a1 a2 a3) := by
 intro a0 a1 a2 a3 k; obtain ⟨ih0, ih1⟩ := spec_PlainSeed.mono_l k
 unfold spec_PlainSeed.f
 repeat' first | (with_reducible first | exact ih0 _ _ _ _ _ | exact ih1 _ _ _ _ | exact spec_biKeys.mono _ _ | exact spec_pfPlain.mono _ _ _ _ | exact LeO.refl _ | exact LeO.none _ | refine LeO.ite ?_ ?_ | refine LeO.bind ?_ (fun _ => ?_)) | exact LeO.none _ | refine LeO.ite ?_ ?_ | refine LeO.bind ?_ (fun _ => ?_)
theorem spec_PlainSeed.calls (k : Nat) (A0 : Option Addr) (c0 : Nat) (l0 : List ByteArray) (a1 : Int) (a2 : Int) (a3 : Int) (r1 : Int) (r2 : Bool) (w : World) (hr0 : Kd.C Kd.string w A0 l0.length l0) (hc0 : l0.length ≤ c0) (h : spec_PlainSeed.f k l0 a1 a2 a3 = some (r1, r2)) :
  Calls Try.prog 15 #[.slice A0 l0.length c0, .int .i64 a1, .int .i64 a2, .int .i64 a3] w fun e w' => e = .returned (.tuple #[.int .i64 r1, .bool r2]) ∧ Below w.heap.size w w' := by
 have HR0 := am hr0; have HC0 := am hc0; clear hr0 hc0; have HB := am (Below.refl w.heap.size w); have H : ((spec_biKeys.f k l0).bind fun t1060 => (if t1060 = true then ((spec_l1In.f a1 1 4096).bind fun t1061 => (if t1061 = true then ((spec_l1In.f a3 0 10000).bind fun t1062 => (if t1062 = true then ((spec_l1Most.f 0 (wrap64 (a3 - 100))).bind fun t1063 => ((spec_l1In.f a2 t1063 a3).bind fun t1064 => (spec_PlainSeed.j0 k l0 a1 a2 a3 (!t1064)))) else (spec_PlainSeed.j0 k l0 a1 a2 a3 true))) else (spec_PlainSeed.j0 k l0 a1 a2 a3 true))) else (spec_PlainSeed.j0 k l0 a1 a2 a3 true))) = some (r1, r2) := h; clear h; have HC5 := am H; clear H
 go_enter Try.func15, Try.ntmps15
 go_upto_region 1 with (fail)
 go_cut [32] (fun v32 wc => ∃ (kq : Nat) (x32_4 : Bool), v32 = .bool x32_4 ∧ Aside0 (spec_PlainSeed.j0 kq l0 a1 a2 a3 x32_4 = some (r1, r2)) ∧ Aside0 (kq ≤ k) ∧ Aside0 (Below w.heap.size w wc))
 case first =>
  have H := HC5.out; clear HC5; replace H := Option.bind_eq_some_iff.mp H; obtain ⟨t1060, A60, H⟩ := H; (try dsimp -simprocs only at H); have A6 := am A60; clear A60
  by_cases c7 : t1060 = true
  ·subst c7
   rw [if_pos rfl] at H; replace H := Option.bind_eq_some_iff.mp H; obtain ⟨t1061, A80, H⟩ := H; (try dsimp -simprocs only at H); have A8 := am A80; clear A80
   by_cases c9 : t1061 = true
   ·subst c9
    rw [if_pos rfl] at H; replace H := Option.bind_eq_some_iff.mp H; obtain ⟨t1062, A100, H⟩ := H; (try dsimp -simprocs only at H); have A10 := am A100; clear A100
    by_cases c11 : t1062 = true
    ·subst c11
     rw [if_pos rfl] at H; replace H := Option.bind_eq_some_iff.mp H; obtain ⟨t1063, A120, H⟩ := H; (try dsimp -simprocs only at H); have A12 := am A120; clear A120; replace H := Option.bind_eq_some_iff.mp H; obtain ⟨t1064, A130, H⟩ := H; (try dsimp -simprocs only at H); have A13 := am A130; clear A130; have H' := am H; clear H
     go_wp2_with (first | ((with_reducible refine gate_callee (f := 75) rfl ?_); refine gL (some 12) Try.func75 #[.slice A0 l0.length c0] ?_; (with_reducible refine (spec_biKeys.calls k _ _ l0 true _ ?side1 ?side2 A6.out).mono ?_); (case side1 => exact Cz (Kd.C_below HR0.out HB.out)); (case side2 => exact HC0.out); rintro e w' ⟨rfl, ⟨nd, rfl⟩⟩; refine ⟨_, rfl, ?_⟩) | (go_at_call 76; (with_reducible refine (spec_l1In.calls a1 1 4096 true _ A8.out).mono ?_); rintro e w' ⟨rfl, ⟨nd, rfl⟩⟩) | (go_at_call 76; (with_reducible refine (spec_l1In.calls a3 0 10000 true _ A10.out).mono ?_); rintro e w' ⟨rfl, ⟨nd, rfl⟩⟩) | (go_at_call 77; (with_reducible refine (spec_l1Most.calls 0 (wrap64 (a3 - 100)) t1063 _ A12.out).mono ?_); rintro e w' ⟨rfl, ⟨nd, rfl⟩⟩) | (go_at_call 76; (with_reducible refine (spec_l1In.calls a2 t1063 a3 t1064 _ A13.out).mono ?_); rintro e w' ⟨rfl, ⟨nd, rfl⟩⟩))
     go_meet
     case rel => exact ⟨_, (!t1064), wZ, H', ⟨by first | omega | exact Nat.le_refl _⟩, ⟨Bz HB.out⟩⟩
    ·replace c11 := Bool.eq_false_iff.mpr c11
     subst c11
     rw [if_neg (show ¬ (false = true) by decide)] at H; have H' := am H; clear H
     go_wp2_with (first | ((with_reducible refine gate_callee (f := 75) rfl ?_); refine gL (some 12) Try.func75 #[.slice A0 l0.length c0] ?_; (with_reducible refine (spec_biKeys.calls k _ _ l0 true _ ?side1 ?side2 A6.out).mono ?_); (case side1 => exact Cz (Kd.C_below HR0.out HB.out)); (case side2 => exact HC0.out); rintro e w' ⟨rfl, ⟨nd, rfl⟩⟩; refine ⟨_, rfl, ?_⟩) | (go_at_call 76; (with_reducible refine (spec_l1In.calls a1 1 4096 true _ A8.out).mono ?_); rintro e w' ⟨rfl, ⟨nd, rfl⟩⟩) | (go_at_call 76; (with_reducible refine (spec_l1In.calls a3 0 10000 false _ A10.out).mono ?_); rintro e w' ⟨rfl, ⟨nd, rfl⟩⟩))
     go_meet
     case rel => exact ⟨_, (true), wZ, H', ⟨by first | omega | exact Nat.le_refl _⟩, ⟨Bz HB.out⟩⟩
   ·replace c9 := Bool.eq_false_iff.mpr c9
    subst c9
    rw [if_neg (show ¬ (false = true) by decide)] at H; have H' := am H; clear H
    go_wp2_with (first | ((with_reducible refine gate_callee (f := 75) rfl ?_); refine gL (some 12) Try.func75 #[.slice A0 l0.length c0] ?_; (with_reducible refine (spec_biKeys.calls k _ _ l0 true _ ?side1 ?side2 A6.out).mono ?_); (case side1 => exact Cz (Kd.C_below HR0.out HB.out)); (case side2 => exact HC0.out); rintro e w' ⟨rfl, ⟨nd, rfl⟩⟩; refine ⟨_, rfl, ?_⟩) | (go_at_call 76; (with_reducible refine (spec_l1In.calls a1 1 4096 false _ A8.out).mono ?_); rintro e w' ⟨rfl, ⟨nd, rfl⟩⟩))
    go_meet
    case rel => exact ⟨_, (true), wZ, H', ⟨by first | omega | exact Nat.le_refl _⟩, ⟨Bz HB.out⟩⟩
  ·replace c7 := Bool.eq_false_iff.mpr c7
   subst c7
   rw [if_neg (show ¬ (false = true) by decide)] at H; have H' := am H; clear H
   go_wp2_with (first | ((with_reducible refine gate_callee (f := 75) rfl ?_); refine gL (some 12) Try.func75 #[.slice A0 l0.length c0] ?_; (with_reducible refine (spec_biKeys.calls k _ _ l0 false _ ?side1 ?side2 A6.out).mono ?_); (case side1 => exact Cz (Kd.C_below HR0.out HB.out)); (case side2 => exact HC0.out); rintro e w' ⟨rfl, ⟨nd, rfl⟩⟩; refine ⟨_, rfl, ?_⟩))
   go_meet
   case rel => exact ⟨_, (true), wZ, H', ⟨by first | omega | exact Nat.le_refl _⟩, ⟨Bz HB.out⟩⟩
 case rest =>
  clear HC5
  try clear c1
  try clear p2
  try clear p6
  try clear c7
  try clear c9
  try clear c11
  obtain ⟨kq, x32_4, rfl, HA, HJ4, HB⟩ := hcut; cases kq with
  | zero => exact absurd HA.out (by simp [spec_PlainSeed.j0])
  | succ kj4 =>
   have H := HA.out; clear HA
   simp only [spec_PlainSeed.j0] at H
   by_cases c14 : x32_4 = true
   ·subst c14
    rw [if_pos rfl] at H
    simp only [Option.some.injEq, Prod.mk.injEq] at H
    obtain ⟨rfl, rfl⟩ := H
    go_wp2
    go_ret2
    exact ⟨eZ, Bz HB.out⟩
   ·replace c14 := Bool.eq_false_iff.mpr c14
    subst c14
    rw [if_neg (show ¬ (false = true) by decide)] at H; have H' := am H; clear H
    go_wp2
    go_loopg [10] kj4 (fun kq v10 w' => ∃ (x10_2 : Int), v10 = .int .i64 x10_2 ∧ Aside0 (spec_PlainSeed.l0 kq l0 a1 a3 x10_2 = some (r1, r2)) ∧ Aside0 (kq ≤ kj4) ∧ Aside0 (Below w.heap.size w w'))
    case atStart => exact ⟨(a2), wZ, H', ⟨Nat.le_refl _⟩, ⟨Bz HB.out⟩⟩
    case round =>
     clear H'
     try clear c1
     try clear p2
     try clear p6
     try clear c7
     try clear c9
     try clear c11
     try clear c14
     try clear p2
     try clear p6
     obtain ⟨x10_2, rfl, HA, HK2, HB⟩ := hrel; cases gk with
     | zero => exact absurd HA.out (by simp [spec_PlainSeed.l0])
     | succ k2 =>
      have H := HA.out; clear HA
      simp only [spec_PlainSeed.l0] at H
      by_cases c15 : x10_2 < a3
      ·rw [if_pos c15] at H
       have c15b0 : decide (x10_2 < a3) = true := decide_eq_true c15; clear c15; replace H := Option.bind_eq_some_iff.mp H; obtain ⟨t1065, A160, H⟩ := H; (try dsimp -simprocs only at H); have A16 := am A160; clear A160
       by_cases c17 : t1065 = true
       ·subst c17
        rw [if_pos rfl] at H
        simp only [Option.some.injEq, Prod.mk.injEq] at H
        obtain ⟨rfl, rfl⟩ := H
        go_wp2_with (first | ((with_reducible refine gate_callee (f := 78) rfl ?_); refine gL (some 42) Try.func78 #[.int .i64 x10_2, .slice A0 l0.length c0, .int .i64 a1] ?_; (with_reducible refine (spec_pfPlain.calls k2 x10_2 _ _ l0 a1 true _ ?side1 ?side2 A16.out).mono ?_); (case side1 => exact Cz (Kd.C_below HR0.out HB.out)); (case side2 => exact HC0.out); rintro e w18 ⟨rfl, hb⟩; refine ⟨_, rfl, ?_⟩; have n0_ := Bb HB hb; clear HB; revert n0_; intro HB; (try clear hb); (try clear hb2); (try clear hk); (try clear hi)))
        go_ret2
        exact ⟨eZ, Bz HB.out⟩
       ·replace c17 := Bool.eq_false_iff.mpr c17
        subst c17
        rw [if_neg (show ¬ (false = true) by decide)] at H; have H' := am H; clear H
        go_wp2_with (first | ((with_reducible refine gate_callee (f := 78) rfl ?_); refine gL (some 42) Try.func78 #[.int .i64 x10_2, .slice A0 l0.length c0, .int .i64 a1] ?_; (with_reducible refine (spec_pfPlain.calls k2 x10_2 _ _ l0 a1 false _ ?side1 ?side2 A16.out).mono ?_); (case side1 => exact Cz (Kd.C_below HR0.out HB.out)); (case side2 => exact HC0.out); rintro e w19 ⟨rfl, hb⟩; refine ⟨_, rfl, ?_⟩; have n0_ := Bb HB hb; clear HB; revert n0_; intro HB; (try clear hb); (try clear hb2); (try clear hk); (try clear hi)))
        go_roundg k2
        case measure => have := HJ4.out; have := HK2.out; omega
        case rel => exact ⟨(wrap64 (x10_2 + 1)), wZ, H', ⟨by have := HJ4.out; have := HK2.out; omega⟩, ⟨Bz HB.out⟩⟩
      ·rw [if_neg c15] at H
       have c15b0 : decide (x10_2 < a3) = false := decide_eq_false c15; clear c15
       simp only [Option.some.injEq, Prod.mk.injEq] at H
       obtain ⟨rfl, rfl⟩ := H
       go_wp2
       go_ret2
       exact ⟨eZ, Bz HB.out⟩

/-! ### impl_hashesOk: function 79 -/
def impl_hashesOk.f (k : Nat) (a0 : Int) (a1 : Int) (l2 : List ByteArray) : Option (Bool) := (impl_isSeed.f a0).bind fun t1066 => (if t1066 = true then ((impl_in.f a1 0 9).bind fun t1067 => (if t1067 = true then ((impl_AreKeys.f k l2).bind fun t1068 => (some t1068)) else (some false))) else (some false))
theorem impl_hashesOk.mono : ∀ a0 a1 a2 k, LeO (impl_hashesOk.f k a0 a1 a2) (impl_hashesOk.f (k + 1) a0 a1 a2) := by
 intro a0 a1 a2 k
 unfold impl_hashesOk.f
 repeat' first | (with_reducible first | exact impl_AreKeys.mono _ _ | exact LeO.refl _ | exact LeO.none _ | refine LeO.ite ?_ ?_ | refine LeO.bind ?_ (fun _ => ?_)) | exact LeO.none _ | refine LeO.ite ?_ ?_ | refine LeO.bind ?_ (fun _ => ?_)
theorem impl_hashesOk.calls (k : Nat) (a0 : Int) (a1 : Int) (A2 : Option Addr) (c2 : Nat) (l2 : List ByteArray) (r : Bool) (w : World) (hr2 : Kd.C Kd.string w A2 l2.length l2) (hc2 : l2.length ≤ c2) (h : impl_hashesOk.f k a0 a1 l2 = some r) :
  Calls Try.prog 79 #[.int .i64 a0, .int .i64 a1, .slice A2 l2.length c2] w fun e w' => e = .returned (.bool r) ∧ Drawn0 w w' := by
 have HR2 := am hr2; have HC2 := am hc2; clear hr2 hc2; have H : ((impl_isSeed.f a0).bind fun t1066 => (if t1066 = true then ((impl_in.f a1 0 9).bind fun t1067 => (if t1067 = true then ((impl_AreKeys.f k l2).bind fun t1068 => (some t1068)) else (some false))) else (some false))) = some r := h; clear h; replace H := Option.bind_eq_some_iff.mp H; obtain ⟨t1066, A40, H⟩ := H; (try dsimp -simprocs only at H); have A4 := am A40; clear A40
 by_cases c5 : t1066 = true
 ·subst c5
  rw [if_pos rfl] at H; replace H := Option.bind_eq_some_iff.mp H; obtain ⟨t1067, A60, H⟩ := H; (try dsimp -simprocs only at H); have A6 := am A60; clear A60
  by_cases c7 : t1067 = true
  ·subst c7
   rw [if_pos rfl] at H; replace H := Option.bind_eq_some_iff.mp H; obtain ⟨t1068, A80, H⟩ := H; (try dsimp -simprocs only at H); have A8 := am A80; clear A80; obtain rfl := Option.some.inj H
   go_enter Try.func79, Try.ntmps79
   go_wp2_with (first | ((with_reducible refine gate_callee (f := 80) rfl ?_); refine gL (some 8) Try.func80 #[.int .i64 a0] ?_; (with_reducible refine (impl_isSeed.calls a0 true _ A4.out).mono ?_); rintro e w' ⟨rfl, ⟨nd, rfl⟩⟩; refine ⟨_, rfl, ?_⟩) | (go_at_call 70; (with_reducible refine (impl_in.calls a1 0 9 true _ A6.out).mono ?_); rintro e w' ⟨rfl, ⟨nd, rfl⟩⟩) | (go_at_call 69; (with_reducible refine (impl_AreKeys.calls k _ _ l2 t1068 _ ?side1 ?side2 A8.out).mono ?_); (case side1 => exact Cz HR2.out); (case side2 => exact HC2.out); rintro e w' ⟨rfl, ⟨nd, rfl⟩⟩))
   go_ret
   exact ⟨by first | rfl | (simp; done) | (simp [*]; done), by repeat (first | exact Drawn0.refl _ | apply Drawn0.step)⟩
  ·replace c7 := Bool.eq_false_iff.mpr c7
   subst c7
   rw [if_neg (show ¬ (false = true) by decide)] at H; obtain rfl := Option.some.inj H
   go_enter Try.func79, Try.ntmps79
   go_wp2_with (first | ((with_reducible refine gate_callee (f := 80) rfl ?_); refine gL (some 8) Try.func80 #[.int .i64 a0] ?_; (with_reducible refine (impl_isSeed.calls a0 true _ A4.out).mono ?_); rintro e w' ⟨rfl, ⟨nd, rfl⟩⟩; refine ⟨_, rfl, ?_⟩) | (go_at_call 70; (with_reducible refine (impl_in.calls a1 0 9 false _ A6.out).mono ?_); rintro e w' ⟨rfl, ⟨nd, rfl⟩⟩))
   go_ret
   exact ⟨by first | rfl | (simp; done) | (simp [*]; done), by repeat (first | exact Drawn0.refl _ | apply Drawn0.step)⟩
 ·replace c5 := Bool.eq_false_iff.mpr c5
  subst c5
  rw [if_neg (show ¬ (false = true) by decide)] at H; obtain rfl := Option.some.inj H
  go_enter Try.func79, Try.ntmps79
  go_wp2_with (first | ((with_reducible refine gate_callee (f := 80) rfl ?_); refine gL (some 8) Try.func80 #[.int .i64 a0] ?_; (with_reducible refine (impl_isSeed.calls a0 false _ A4.out).mono ?_); rintro e w' ⟨rfl, ⟨nd, rfl⟩⟩; refine ⟨_, rfl, ?_⟩))
  go_ret
  exact ⟨by first | rfl | (simp; done) | (simp [*]; done), by repeat (first | exact Drawn0.refl _ | apply Drawn0.step)⟩

/-! ### impl_CollisionOf: function 16 -/
mutual
def impl_CollisionOf.j0 : Nat → Int → Int → List ByteArray → Int → Bool → Option (Int × Int × Bool)
 | 0, _, _, _, _, _ => none
 | k + 1, x0, x1, x2, x3, x22 => if x22 = true then (some (0, 0, false)) else (impl_CollisionOf.l0 k x0 x1 x2 x3 (x2.length : Int) 0)
def impl_CollisionOf.l0 : Nat → Int → Int → List ByteArray → Int → Int → Int → Option (Int × Int × Bool)
 | 0, _, _, _, _, _, _ => none
 | k + 1, x0, x1, x2, x3, x24, x25 => if x25 < x24 then (impl_CollisionOf.l1 k x0 x1 x2 x3 x25 (wrap64 (x25 + 1)) x24 x25) else (some (0, 0, false))
def impl_CollisionOf.l1 : Nat → Int → Int → List ByteArray → Int → Int → Int → Int → Int → Option (Int × Int × Bool)
 | 0, _, _, _, _, _, _, _, _ => none
 | k + 1, x0, x1, x2, x3, x11, x12, x24, x25 => if x12 < (x2.length : Int) then (if 0 ≤ x11 then (if x11 < (x2.length : Int) then ((impl_place.f k x0 x1 (rdOf ByteArray.empty x2 x11) x3).bind fun t1072 => (if 0 ≤ x12 then ((impl_place.f k x0 x1 (rdOf ByteArray.empty x2 x12) x3).bind fun t1074 => (if t1072 = t1074 then (some (x11, x12, true)) else (impl_CollisionOf.l1 k x0 x1 x2 x3 x11 (wrap64 (x12 + 1)) x24 x25))) else (none))) else (none)) else (none)) else (impl_CollisionOf.l0 k x0 x1 x2 x3 x24 (wrap64 (x25 + 1)))
end
def impl_CollisionOf.f (k : Nat) (a0 : Int) (a1 : Int) (l2 : List ByteArray) (a3 : Int) : Option (Int × Int × Bool) := (impl_hashesOk.f k a0 a1 l2).bind fun t1069 => (if t1069 = true then ((impl_in.f a3 1 4096).bind fun t1070 => (impl_CollisionOf.j0 k a0 a1 l2 a3 (!t1070))) else (impl_CollisionOf.j0 k a0 a1 l2 a3 true))
theorem impl_CollisionOf.mono_l : ∀ k, (∀ y0 y1 y2 y3 y4, LeO (impl_CollisionOf.j0 k y0 y1 y2 y3 y4) (impl_CollisionOf.j0 (k + 1) y0 y1 y2 y3 y4)) ∧ (∀ y0 y1 y2 y3 y4 y5, LeO (impl_CollisionOf.l0 k y0 y1 y2 y3 y4 y5) (impl_CollisionOf.l0 (k + 1) y0 y1 y2 y3 y4 y5)) ∧ (∀ y0 y1 y2 y3 y4 y5 y6 y7, LeO (impl_CollisionOf.l1 k y0 y1 y2 y3 y4 y5 y6 y7) (impl_CollisionOf.l1 (k + 1) y0 y1 y2 y3 y4 y5 y6 y7))
 | 0 => ⟨fun _ _ _ _ _ r h => by simp [impl_CollisionOf.j0] at h, fun _ _ _ _ _ _ r h => by simp [impl_CollisionOf.l0] at h, fun _ _ _ _ _ _ _ _ r h => by simp [impl_CollisionOf.l1] at h⟩
 | k + 1 => by
  obtain ⟨ih0, ih1, ih2⟩ := impl_CollisionOf.mono_l k; refine ⟨?_, ?_, ?_⟩
  ·intro y0 y1 y2 y3 y4
   unfold impl_CollisionOf.j0
   repeat' first | (with_reducible first | exact ih0 _ _ _ _ _ | exact ih1 _ _ _ _ _ _ | exact ih2 _ _ _ _ _ _ _ _ | exact impl_hashesOk.mono _ _ _ _ | exact impl_place.mono _ _ _ _ _ | exact LeO.refl _ | exact LeO.none _ | refine LeO.ite ?_ ?_ | refine LeO.bind ?_ (fun _ => ?_)) | exact LeO.none _ | refine LeO.ite ?_ ?_ | refine LeO.bind ?_ (fun _ => ?_)
  ·intro y0 y1 y2 y3 y4 y5
   unfold impl_CollisionOf.l0
   repeat' first | (with_reducible first | exact ih0 _ _ _ _ _ | exact ih1 _ _ _ _ _ _ | exact ih2 _ _ _ _ _ _ _ _ | exact impl_hashesOk.mono _ _ _ _ | exact impl_place.mono _ _ _ _ _ | exact LeO.refl _ | exact LeO.none _ | refine LeO.ite ?_ ?_ | refine LeO.bind ?_ (fun _ => ?_)) | exact LeO.none _ | refine LeO.ite ?_ ?_ | refine LeO.bind ?_ (fun _ => ?_)
  ·intro y0 y1 y2 y3 y4 y5 y6 y7
   unfold impl_CollisionOf.l1
   repeat' first | (with_reducible first | exact ih0 _ _ _ _ _ | exact ih1 _ _ _ _ _ _ | exact ih2 _ _ _ _ _ _ _ _ | exact impl_hashesOk.mono _ _ _ _ | exact impl_place.mono _ _ _ _ _ | exact LeO.refl _ | exact LeO.none _ | refine LeO.ite ?_ ?_ | refine LeO.bind ?_ (fun _ => ?_)) | exact LeO.none _ | refine LeO.ite ?_ ?_ | refine LeO.bind ?_ (fun _ => ?_)
theorem impl_CollisionOf.mono : ∀ a0 a1 a2 a3 k, LeO (impl_CollisionOf.f k a0 a1 a2 a3) (impl_CollisionOf.f (k + 1) a0 a1 a2 a3) := by
 intro a0 a1 a2 a3 k; obtain ⟨ih0, ih1, ih2⟩ := impl_CollisionOf.mono_l k
 unfold impl_CollisionOf.f
 repeat' first | (with_reducible first | exact ih0 _ _ _ _ _ | exact ih1 _ _ _ _ _ _ | exact ih2 _ _ _ _ _ _ _ _ | exact impl_hashesOk.mono _ _ _ _ | exact impl_place.mono _ _ _ _ _ | exact LeO.refl _ | exact LeO.none _ | refine LeO.ite ?_ ?_ | refine LeO.bind ?_ (fun _ => ?_)) | exact LeO.none _ | refine LeO.ite ?_ ?_ | refine LeO.bind ?_ (fun _ => ?_)
theorem impl_CollisionOf.calls (k : Nat) (a0 : Int) (a1 : Int) (A2 : Option Addr) (c2 : Nat) (l2 : List ByteArray) (a3 : Int) (r1 : Int) (r2 : Int) (r3 : Bool) (w : World) (hr2 : Kd.C Kd.string w A2 l2.length l2) (hc2 : l2.length ≤ c2) (h : impl_CollisionOf.f k a0 a1 l2 a3 = some (r1, r2, r3)) :
  Calls Try.prog 16 #[.int .i64 a0, .int .i64 a1, .slice A2 l2.length c2, .int .i64 a3] w fun e w' => e = .returned (.tuple #[.int .i64 r1, .int .i64 r2, .bool r3]) ∧ Drawn0 w w' := by
 have HR2 := am hr2; have HC2 := am hc2; clear hr2 hc2; have H : ((impl_hashesOk.f k a0 a1 l2).bind fun t1069 => (if t1069 = true then ((impl_in.f a3 1 4096).bind fun t1070 => (impl_CollisionOf.j0 k a0 a1 l2 a3 (!t1070))) else (impl_CollisionOf.j0 k a0 a1 l2 a3 true))) = some (r1, r2, r3) := h; clear h; have HC5 := am H; clear H
 go_enter Try.func16, Try.ntmps16
 go_upto_region 1 with (fail)
 repeat (go_quiet (fail); go_upto_region 1 with (fail))
 go_cut [22] (fun v22 wc => ∃ (kq : Nat) (x22_4 : Bool), v22 = .bool x22_4 ∧ Aside0 (impl_CollisionOf.j0 kq a0 a1 l2 a3 x22_4 = some (r1, r2, r3)) ∧ Aside0 (kq ≤ k) ∧ Drawn0 w wc)
 case first =>
  have H := HC5.out; clear HC5; replace H := Option.bind_eq_some_iff.mp H; obtain ⟨t1069, A60, H⟩ := H; (try dsimp -simprocs only at H); have A6 := am A60; clear A60
  by_cases c7 : t1069 = true
  ·subst c7
   rw [if_pos rfl] at H; replace H := Option.bind_eq_some_iff.mp H; obtain ⟨t1070, A80, H⟩ := H; (try dsimp -simprocs only at H); have A8 := am A80; clear A80; have H' := am H; clear H
   go_wp2_with (first | (go_at_call 79; (with_reducible refine (impl_hashesOk.calls k a0 a1 _ _ l2 true _ ?side1 ?side2 A6.out).mono ?_); (case side1 => exact Cz HR2.out); (case side2 => exact HC2.out); rintro e w' ⟨rfl, ⟨nd, rfl⟩⟩; (try exact yZ)) | (go_at_call 70; (with_reducible refine (impl_in.calls a3 1 4096 t1070 _ A8.out).mono ?_); rintro e w' ⟨rfl, ⟨nd, rfl⟩⟩; (try exact yZ)))
   repeat (go_quiet (first | (go_at_call 79; (with_reducible refine (impl_hashesOk.calls k a0 a1 _ _ l2 true _ ?side1 ?side2 A6.out).mono ?_); (case side1 => exact Cz HR2.out); (case side2 => exact HC2.out); rintro e w' ⟨rfl, ⟨nd, rfl⟩⟩; (try exact yZ)) | (go_at_call 70; (with_reducible refine (impl_in.calls a3 1 4096 t1070 _ A8.out).mono ?_); rintro e w' ⟨rfl, ⟨nd, rfl⟩⟩; (try exact yZ))); try go_wp2_with (first | (go_at_call 79; (with_reducible refine (impl_hashesOk.calls k a0 a1 _ _ l2 true _ ?side1 ?side2 A6.out).mono ?_); (case side1 => exact Cz HR2.out); (case side2 => exact HC2.out); rintro e w' ⟨rfl, ⟨nd, rfl⟩⟩; (try exact yZ)) | (go_at_call 70; (with_reducible refine (impl_in.calls a3 1 4096 t1070 _ A8.out).mono ?_); rintro e w' ⟨rfl, ⟨nd, rfl⟩⟩; (try exact yZ))))
   go_meet
   case rel => exact ⟨_, (!t1070), wZ, H', ⟨by first | omega | exact Nat.le_refl _⟩, by repeat (first | exact Drawn0.refl _ | apply Drawn0.step)⟩
  ·replace c7 := Bool.eq_false_iff.mpr c7
   subst c7
   rw [if_neg (show ¬ (false = true) by decide)] at H; have H' := am H; clear H
   go_wp2_with (first | (go_at_call 79; (with_reducible refine (impl_hashesOk.calls k a0 a1 _ _ l2 false _ ?side1 ?side2 A6.out).mono ?_); (case side1 => exact Cz HR2.out); (case side2 => exact HC2.out); rintro e w' ⟨rfl, ⟨nd, rfl⟩⟩; (try exact yZ)))
   repeat (go_quiet (first | (go_at_call 79; (with_reducible refine (impl_hashesOk.calls k a0 a1 _ _ l2 false _ ?side1 ?side2 A6.out).mono ?_); (case side1 => exact Cz HR2.out); (case side2 => exact HC2.out); rintro e w' ⟨rfl, ⟨nd, rfl⟩⟩; (try exact yZ))); try go_wp2_with (first | (go_at_call 79; (with_reducible refine (impl_hashesOk.calls k a0 a1 _ _ l2 false _ ?side1 ?side2 A6.out).mono ?_); (case side1 => exact Cz HR2.out); (case side2 => exact HC2.out); rintro e w' ⟨rfl, ⟨nd, rfl⟩⟩; (try exact yZ))))
   go_meet
   case rel => exact ⟨_, (true), wZ, H', ⟨by first | omega | exact Nat.le_refl _⟩, by repeat (first | exact Drawn0.refl _ | apply Drawn0.step)⟩
 case rest =>
  clear HC5
  try clear c1
  try clear c2
  try clear p2
  try clear c7
  obtain ⟨kq, x22_4, rfl, HA, HJ4, ⟨mc4, rfl⟩⟩ := hcut; cases kq with
  | zero => exact absurd HA.out (by simp [impl_CollisionOf.j0])
  | succ kj4 =>
   have H := HA.out; clear HA
   simp only [impl_CollisionOf.j0] at H
   by_cases c9 : x22_4 = true
   ·subst c9
    rw [if_pos rfl] at H
    simp only [Option.some.injEq, Prod.mk.injEq] at H
    obtain ⟨rfl, rfl, rfl⟩ := H
    go_wp2
    repeat (go_quiet (fail); try go_wp2)
    go_ret3
    exact ⟨by first | rfl | (simp; done) | (simp [*]; done), by repeat (first | exact Drawn0.refl _ | apply Drawn0.step)⟩
   ·replace c9 := Bool.eq_false_iff.mpr c9
    subst c9
    rw [if_neg (show ¬ (false = true) by decide)] at H; have H' := am H; clear H
    go_wp2
    repeat (go_quiet (fail); try go_wp2)
    go_loopg [25] kj4 (fun kq v25 w' => ∃ (x25_2 : Int), v25 = .int .i64 x25_2 ∧ Aside0 (impl_CollisionOf.l0 kq a0 a1 l2 a3 (l2.length : Int) x25_2 = some (r1, r2, r3)) ∧ Aside0 (kq ≤ kj4) ∧ Drawn0 w w')
    case atStart => exact ⟨(0), wZ, H', ⟨Nat.le_refl _⟩, by repeat (first | exact Drawn0.refl _ | apply Drawn0.step)⟩
    case round =>
     clear H'
     try clear c1
     try clear c2
     try clear p2
     try clear c4
     try clear c7
     try clear c9
     try clear p2
     obtain ⟨x25_2, rfl, HA, HK2, ⟨m2, rfl⟩⟩ := hrel; cases gk with
     | zero => exact absurd HA.out (by simp [impl_CollisionOf.l0])
     | succ k2 =>
      have H := HA.out; clear HA
      simp only [impl_CollisionOf.l0] at H
      by_cases c10 : x25_2 < (l2.length : Int)
      ·rw [if_pos c10] at H
       have c10b0 : decide (x25_2 < (l2.length : Int)) = true := decide_eq_true c10; clear c10; have H' := am H; clear H
       go_wp2
       repeat (go_quiet (fail); try go_wp2)
       go_loopg [12] k2 (fun kq v12 w' => ∃ (x12_3 : Int), v12 = .int .i64 x12_3 ∧ Aside0 (impl_CollisionOf.l1 kq a0 a1 l2 a3 x25_2 x12_3 (l2.length : Int) x25_2 = some (r1, r2, r3)) ∧ Aside0 (kq ≤ k2) ∧ Drawn0 w w')
       case atStart => exact ⟨(wrap64 (x25_2 + 1)), wZ, H', ⟨Nat.le_refl _⟩, by repeat (first | exact Drawn0.refl _ | apply Drawn0.step)⟩
       case round =>
        clear H'
        try clear c1
        try clear c2
        try clear p2
        try clear c4
        try clear p6
        try clear c7
        try clear c9
        try clear c10
        try clear c10b0
        try clear p2
        obtain ⟨x12_3, rfl, HA, HK3, ⟨m3, rfl⟩⟩ := hrel; cases gk with
        | zero => exact absurd HA.out (by simp [impl_CollisionOf.l1])
        | succ k3 =>
         have H := HA.out; clear HA
         simp only [impl_CollisionOf.l1] at H
         by_cases c11 : x12_3 < (l2.length : Int)
         ·rw [if_pos c11] at H
          have c11b0 : decide (x12_3 < (l2.length : Int)) = true := decide_eq_true c11; clear c11
          by_cases c12 : 0 ≤ x25_2
          ·rw [if_pos c12] at H
           have c12b0 : decide (0 ≤ x25_2) = true := decide_eq_true c12; clear c12
           by_cases c13 : x25_2 < (l2.length : Int)
           ·rw [if_pos c13] at H
            have c13b0 : decide (x25_2 < (l2.length : Int)) = true := decide_eq_true c13; clear c13; replace H := Option.bind_eq_some_iff.mp H; obtain ⟨t1072, A140, H⟩ := H; (try dsimp -simprocs only at H); have A14 := am A140; clear A140
            by_cases c15 : 0 ≤ x12_3
            ·rw [if_pos c15] at H
             have c15b0 : decide (0 ≤ x12_3) = true := decide_eq_true c15; clear c15; replace H := Option.bind_eq_some_iff.mp H; obtain ⟨t1074, A160, H⟩ := H; (try dsimp -simprocs only at H); have A16 := am A160; clear A160
             by_cases c17 : t1072 = t1074
             ·rw [if_pos c17] at H
              have c17b0 : (t1072 == t1074) = true := beq_iff_eq.mpr c17; have c17b1 : (t1072 != t1074) = false := bne_eq_false_iff_eq.mpr c17; clear c17
              simp only [Option.some.injEq, Prod.mk.injEq] at H
              obtain ⟨rfl, rfl, rfl⟩ := H; obtain ⟨ad1071, e1071, hx1071_0⟩ := Kd.at_string HR2.out x25_2 dT dT; cases e1071; have p1071 := eT (0 ≤ (x25_2 : Int)); have q1071 := eT (x25_2 < (l2.length : Int))
              go_wp2_with (first | (go_at_call 73; (with_reducible refine (impl_place.calls k3 a0 a1 (rdOf ByteArray.empty l2 x25_2) a3 t1072 _ A14.out).mono ?_); rintro e w' ⟨rfl, ⟨nd, rfl⟩⟩; (try exact yZ); have p1073 : 0 ≤ (x12_3 : Int) := dT; have q1073 : x12_3 < (l2.length : Int) := dT; obtain ⟨ad1073, e1073, hx1073_0⟩ := Kd.at_string HR2.out x12_3 p1073 q1073; obtain rfl : ad1071 = ad1073 := (by injection e1073); replace p1073 := eq_true p1073; replace q1073 := eq_true q1073) | (go_at_call 73; (with_reducible refine (impl_place.calls k3 a0 a1 (rdOf ByteArray.empty l2 x12_3) a3 t1074 _ A16.out).mono ?_); rintro e w' ⟨rfl, ⟨nd, rfl⟩⟩; (try exact yZ)))
              repeat (go_quiet (first | (go_at_call 73; (with_reducible refine (impl_place.calls k3 a0 a1 (rdOf ByteArray.empty l2 x25_2) a3 t1072 _ A14.out).mono ?_); rintro e w' ⟨rfl, ⟨nd, rfl⟩⟩; (try exact yZ); have p1073 : 0 ≤ (x12_3 : Int) := dT; have q1073 : x12_3 < (l2.length : Int) := dT; obtain ⟨ad1073, e1073, hx1073_0⟩ := Kd.at_string HR2.out x12_3 p1073 q1073; obtain rfl : ad1071 = ad1073 := (by injection e1073); replace p1073 := eq_true p1073; replace q1073 := eq_true q1073) | (go_at_call 73; (with_reducible refine (impl_place.calls k3 a0 a1 (rdOf ByteArray.empty l2 x12_3) a3 t1074 _ A16.out).mono ?_); rintro e w' ⟨rfl, ⟨nd, rfl⟩⟩; (try exact yZ))); try go_wp2_with (first | (go_at_call 73; (with_reducible refine (impl_place.calls k3 a0 a1 (rdOf ByteArray.empty l2 x25_2) a3 t1072 _ A14.out).mono ?_); rintro e w' ⟨rfl, ⟨nd, rfl⟩⟩; (try exact yZ); have p1073 : 0 ≤ (x12_3 : Int) := dT; have q1073 : x12_3 < (l2.length : Int) := dT; obtain ⟨ad1073, e1073, hx1073_0⟩ := Kd.at_string HR2.out x12_3 p1073 q1073; obtain rfl : ad1071 = ad1073 := (by injection e1073); replace p1073 := eq_true p1073; replace q1073 := eq_true q1073) | (go_at_call 73; (with_reducible refine (impl_place.calls k3 a0 a1 (rdOf ByteArray.empty l2 x12_3) a3 t1074 _ A16.out).mono ?_); rintro e w' ⟨rfl, ⟨nd, rfl⟩⟩; (try exact yZ))))
              go_ret3
              exact ⟨by first | rfl | (simp; done) | (simp [*]; done), by repeat (first | exact Drawn0.refl _ | apply Drawn0.step)⟩
             ·rw [if_neg c17] at H
              have c17b0 : (t1072 == t1074) = false := beq_eq_false_iff_ne.mpr c17; have c17b1 : (t1072 != t1074) = true := bne_iff_ne.mpr c17; have H' := am H; clear H; obtain ⟨ad1071, e1071, hx1071_0⟩ := Kd.at_string HR2.out x25_2 dT dT; cases e1071; have p1071 := eT (0 ≤ (x25_2 : Int)); have q1071 := eT (x25_2 < (l2.length : Int))
              go_wp2_with (first | (go_at_call 73; (with_reducible refine (impl_place.calls k3 a0 a1 (rdOf ByteArray.empty l2 x25_2) a3 t1072 _ A14.out).mono ?_); rintro e w' ⟨rfl, ⟨nd, rfl⟩⟩; (try exact yZ); have p1073 : 0 ≤ (x12_3 : Int) := dT; have q1073 : x12_3 < (l2.length : Int) := dT; obtain ⟨ad1073, e1073, hx1073_0⟩ := Kd.at_string HR2.out x12_3 p1073 q1073; obtain rfl : ad1071 = ad1073 := (by injection e1073); replace p1073 := eq_true p1073; replace q1073 := eq_true q1073) | (go_at_call 73; (with_reducible refine (impl_place.calls k3 a0 a1 (rdOf ByteArray.empty l2 x12_3) a3 t1074 _ A16.out).mono ?_); rintro e w' ⟨rfl, ⟨nd, rfl⟩⟩; (try exact yZ)))
              repeat (go_quiet (first | (go_at_call 73; (with_reducible refine (impl_place.calls k3 a0 a1 (rdOf ByteArray.empty l2 x25_2) a3 t1072 _ A14.out).mono ?_); rintro e w' ⟨rfl, ⟨nd, rfl⟩⟩; (try exact yZ); have p1073 : 0 ≤ (x12_3 : Int) := dT; have q1073 : x12_3 < (l2.length : Int) := dT; obtain ⟨ad1073, e1073, hx1073_0⟩ := Kd.at_string HR2.out x12_3 p1073 q1073; obtain rfl : ad1071 = ad1073 := (by injection e1073); replace p1073 := eq_true p1073; replace q1073 := eq_true q1073) | (go_at_call 73; (with_reducible refine (impl_place.calls k3 a0 a1 (rdOf ByteArray.empty l2 x12_3) a3 t1074 _ A16.out).mono ?_); rintro e w' ⟨rfl, ⟨nd, rfl⟩⟩; (try exact yZ))); try go_wp2_with (first | (go_at_call 73; (with_reducible refine (impl_place.calls k3 a0 a1 (rdOf ByteArray.empty l2 x25_2) a3 t1072 _ A14.out).mono ?_); rintro e w' ⟨rfl, ⟨nd, rfl⟩⟩; (try exact yZ); have p1073 : 0 ≤ (x12_3 : Int) := dT; have q1073 : x12_3 < (l2.length : Int) := dT; obtain ⟨ad1073, e1073, hx1073_0⟩ := Kd.at_string HR2.out x12_3 p1073 q1073; obtain rfl : ad1071 = ad1073 := (by injection e1073); replace p1073 := eq_true p1073; replace q1073 := eq_true q1073) | (go_at_call 73; (with_reducible refine (impl_place.calls k3 a0 a1 (rdOf ByteArray.empty l2 x12_3) a3 t1074 _ A16.out).mono ?_); rintro e w' ⟨rfl, ⟨nd, rfl⟩⟩; (try exact yZ))))
              go_roundg k3
              case measure => have := HJ4.out; have := HK2.out; have := HK3.out; omega
              case rel => exact ⟨(wrap64 (x12_3 + 1)), wZ, H', ⟨by have := HJ4.out; have := HK2.out; have := HK3.out; omega⟩, by repeat (first | exact Drawn0.refl _ | apply Drawn0.step)⟩
            ·rw [if_neg c15] at H
             exact absurd H (by simp)
           ·rw [if_neg c13] at H
            exact absurd H (by simp)
          ·rw [if_neg c12] at H
           exact absurd H (by simp)
         ·rw [if_neg c11] at H
          have c11b0 : decide (x12_3 < (l2.length : Int)) = false := decide_eq_false c11; clear c11; have H' := am H; clear H
          go_wp2
          repeat (go_quiet (fail); try go_wp2)
          go_roundg k3
          case measure => have := HJ4.out; have := HK2.out; have := HK3.out; omega
          case rel => exact ⟨(wrap64 (x25_2 + 1)), wZ, H', ⟨by have := HJ4.out; have := HK2.out; have := HK3.out; omega⟩, by repeat (first | exact Drawn0.refl _ | apply Drawn0.step)⟩
      ·rw [if_neg c10] at H
       have c10b0 : decide (x25_2 < (l2.length : Int)) = false := decide_eq_false c10; clear c10
       simp only [Option.some.injEq, Prod.mk.injEq] at H
       obtain ⟨rfl, rfl, rfl⟩ := H
       go_wp2
       repeat (go_quiet (fail); try go_wp2)
       go_ret3
       exact ⟨by first | rfl | (simp; done) | (simp [*]; done), by repeat (first | exact Drawn0.refl _ | apply Drawn0.step)⟩

/-! ### impl_PlaceOf: function 17 -/
def impl_PlaceOf.f (k : Nat) (a0 : Int) (a1 : Int) (a2 : ByteArray) (a3 : Int) : Option (Int × Bool) := (impl_isSeed.f a0).bind fun t1075 => (if t1075 = true then ((impl_in.f a1 0 9).bind fun t1076 => (if t1076 = true then ((impl_IsKey.f k a2).bind fun t1077 => (if t1077 = true then ((impl_in.f a3 1 4096).bind fun t1078 => (if t1078 = true then ((impl_place.f k a0 a1 a2 a3).bind fun t1079 => (some (t1079, true))) else (some (0, false)))) else (some (0, false)))) else (some (0, false)))) else (some (0, false)))
theorem impl_PlaceOf.mono : ∀ a0 a1 a2 a3 k, LeO (impl_PlaceOf.f k a0 a1 a2 a3) (impl_PlaceOf.f (k + 1) a0 a1 a2 a3) := by
 intro a0 a1 a2 a3 k
 unfold impl_PlaceOf.f
 repeat' first | (with_reducible first | exact impl_IsKey.mono _ _ | exact impl_place.mono _ _ _ _ _ | exact LeO.refl _ | exact LeO.none _ | refine LeO.ite ?_ ?_ | refine LeO.bind ?_ (fun _ => ?_)) | exact LeO.none _ | refine LeO.ite ?_ ?_ | refine LeO.bind ?_ (fun _ => ?_)
theorem impl_PlaceOf.calls (k : Nat) (a0 : Int) (a1 : Int) (a2 : ByteArray) (a3 : Int) (r1 : Int) (r2 : Bool) (w : World) (h : impl_PlaceOf.f k a0 a1 a2 a3 = some (r1, r2)) :
  Calls Try.prog 17 #[.int .i64 a0, .int .i64 a1, .string a2, .int .i64 a3] w fun e w' => e = .returned (.tuple #[.int .i64 r1, .bool r2]) ∧ Drawn0 w w' := by
 have H : ((impl_isSeed.f a0).bind fun t1075 => (if t1075 = true then ((impl_in.f a1 0 9).bind fun t1076 => (if t1076 = true then ((impl_IsKey.f k a2).bind fun t1077 => (if t1077 = true then ((impl_in.f a3 1 4096).bind fun t1078 => (if t1078 = true then ((impl_place.f k a0 a1 a2 a3).bind fun t1079 => (some (t1079, true))) else (some (0, false)))) else (some (0, false)))) else (some (0, false)))) else (some (0, false)))) = some (r1, r2) := h; clear h; replace H := Option.bind_eq_some_iff.mp H; obtain ⟨t1075, A50, H⟩ := H; (try dsimp -simprocs only at H); have A5 := am A50; clear A50
 by_cases c6 : t1075 = true
 ·subst c6
  rw [if_pos rfl] at H; replace H := Option.bind_eq_some_iff.mp H; obtain ⟨t1076, A70, H⟩ := H; (try dsimp -simprocs only at H); have A7 := am A70; clear A70
  by_cases c8 : t1076 = true
  ·subst c8
   rw [if_pos rfl] at H; replace H := Option.bind_eq_some_iff.mp H; obtain ⟨t1077, A90, H⟩ := H; (try dsimp -simprocs only at H); have A9 := am A90; clear A90
   by_cases c10 : t1077 = true
   ·subst c10
    rw [if_pos rfl] at H; replace H := Option.bind_eq_some_iff.mp H; obtain ⟨t1078, A110, H⟩ := H; (try dsimp -simprocs only at H); have A11 := am A110; clear A110
    by_cases c12 : t1078 = true
    ·subst c12
     rw [if_pos rfl] at H; replace H := Option.bind_eq_some_iff.mp H; obtain ⟨t1079, A130, H⟩ := H; (try dsimp -simprocs only at H); have A13 := am A130; clear A130
     simp only [Option.some.injEq, Prod.mk.injEq] at H
     obtain ⟨rfl, rfl⟩ := H
     go_enter Try.func17, Try.ntmps17
     go_wp2_with (first | ((with_reducible refine gate_callee (f := 80) rfl ?_); refine gL (some 11) Try.func80 #[.int .i64 a0] ?_; (with_reducible refine (impl_isSeed.calls a0 true _ A5.out).mono ?_); rintro e w' ⟨rfl, ⟨nd, rfl⟩⟩; refine ⟨_, rfl, ?_⟩) | (go_at_call 70; (with_reducible refine (impl_in.calls a1 0 9 true _ A7.out).mono ?_); rintro e w' ⟨rfl, ⟨nd, rfl⟩⟩) | (go_at_call 81; (with_reducible refine (impl_IsKey.calls k a2 true _ A9.out).mono ?_); rintro e w' ⟨rfl, ⟨nd, rfl⟩⟩) | (go_at_call 70; (with_reducible refine (impl_in.calls a3 1 4096 true _ A11.out).mono ?_); rintro e w' ⟨rfl, ⟨nd, rfl⟩⟩) | ((with_reducible refine gate_callee (f := 73) rfl ?_); refine gL (some 32) Try.func73 #[.int .i64 a0, .int .i64 a1, .string a2, .int .i64 a3] ?_; (with_reducible refine (impl_place.calls k a0 a1 a2 a3 t1079 _ A13.out).mono ?_); rintro e w' ⟨rfl, ⟨nd, rfl⟩⟩; refine ⟨_, rfl, ?_⟩))
     go_ret2
     exact ⟨by first | rfl | (simp; done) | (simp [*]; done), by repeat (first | exact Drawn0.refl _ | apply Drawn0.step)⟩
    ·replace c12 := Bool.eq_false_iff.mpr c12
     subst c12
     rw [if_neg (show ¬ (false = true) by decide)] at H
     simp only [Option.some.injEq, Prod.mk.injEq] at H
     obtain ⟨rfl, rfl⟩ := H
     go_enter Try.func17, Try.ntmps17
     go_wp2_with (first | ((with_reducible refine gate_callee (f := 80) rfl ?_); refine gL (some 11) Try.func80 #[.int .i64 a0] ?_; (with_reducible refine (impl_isSeed.calls a0 true _ A5.out).mono ?_); rintro e w' ⟨rfl, ⟨nd, rfl⟩⟩; refine ⟨_, rfl, ?_⟩) | (go_at_call 70; (with_reducible refine (impl_in.calls a1 0 9 true _ A7.out).mono ?_); rintro e w' ⟨rfl, ⟨nd, rfl⟩⟩) | (go_at_call 81; (with_reducible refine (impl_IsKey.calls k a2 true _ A9.out).mono ?_); rintro e w' ⟨rfl, ⟨nd, rfl⟩⟩) | (go_at_call 70; (with_reducible refine (impl_in.calls a3 1 4096 false _ A11.out).mono ?_); rintro e w' ⟨rfl, ⟨nd, rfl⟩⟩))
     go_ret2
     exact ⟨by first | rfl | (simp; done) | (simp [*]; done), by repeat (first | exact Drawn0.refl _ | apply Drawn0.step)⟩
   ·replace c10 := Bool.eq_false_iff.mpr c10
    subst c10
    rw [if_neg (show ¬ (false = true) by decide)] at H
    simp only [Option.some.injEq, Prod.mk.injEq] at H
    obtain ⟨rfl, rfl⟩ := H
    go_enter Try.func17, Try.ntmps17
    go_wp2_with (first | ((with_reducible refine gate_callee (f := 80) rfl ?_); refine gL (some 11) Try.func80 #[.int .i64 a0] ?_; (with_reducible refine (impl_isSeed.calls a0 true _ A5.out).mono ?_); rintro e w' ⟨rfl, ⟨nd, rfl⟩⟩; refine ⟨_, rfl, ?_⟩) | (go_at_call 70; (with_reducible refine (impl_in.calls a1 0 9 true _ A7.out).mono ?_); rintro e w' ⟨rfl, ⟨nd, rfl⟩⟩) | (go_at_call 81; (with_reducible refine (impl_IsKey.calls k a2 false _ A9.out).mono ?_); rintro e w' ⟨rfl, ⟨nd, rfl⟩⟩))
    go_ret2
    exact ⟨by first | rfl | (simp; done) | (simp [*]; done), by repeat (first | exact Drawn0.refl _ | apply Drawn0.step)⟩
  ·replace c8 := Bool.eq_false_iff.mpr c8
   subst c8
   rw [if_neg (show ¬ (false = true) by decide)] at H
   simp only [Option.some.injEq, Prod.mk.injEq] at H
   obtain ⟨rfl, rfl⟩ := H
   go_enter Try.func17, Try.ntmps17
   go_wp2_with (first | ((with_reducible refine gate_callee (f := 80) rfl ?_); refine gL (some 11) Try.func80 #[.int .i64 a0] ?_; (with_reducible refine (impl_isSeed.calls a0 true _ A5.out).mono ?_); rintro e w' ⟨rfl, ⟨nd, rfl⟩⟩; refine ⟨_, rfl, ?_⟩) | (go_at_call 70; (with_reducible refine (impl_in.calls a1 0 9 false _ A7.out).mono ?_); rintro e w' ⟨rfl, ⟨nd, rfl⟩⟩))
   go_ret2
   exact ⟨by first | rfl | (simp; done) | (simp [*]; done), by repeat (first | exact Drawn0.refl _ | apply Drawn0.step)⟩
 ·replace c6 := Bool.eq_false_iff.mpr c6
  subst c6
  rw [if_neg (show ¬ (false = true) by decide)] at H
  simp only [Option.some.injEq, Prod.mk.injEq] at H
  obtain ⟨rfl, rfl⟩ := H
  go_enter Try.func17, Try.ntmps17
  go_wp2_with (first | ((with_reducible refine gate_callee (f := 80) rfl ?_); refine gL (some 11) Try.func80 #[.int .i64 a0] ?_; (with_reducible refine (impl_isSeed.calls a0 false _ A5.out).mono ?_); rintro e w' ⟨rfl, ⟨nd, rfl⟩⟩; refine ⟨_, rfl, ?_⟩))
  go_ret2
  exact ⟨by first | rfl | (simp; done) | (simp [*]; done), by repeat (first | exact Drawn0.refl _ | apply Drawn0.step)⟩

/-! ### impl_LoadsOf: function 18 -/
mutual
def impl_LoadsOf.j0 : Nat → Int → Int → List ByteArray → Int → Bool → Option (List Int × Bool)
 | 0, _, _, _, _, _ => none
 | k + 1, x0, x1, x2, x3, x22 => if x22 = true then (some (([] : List Int), false)) else (if 0 ≤ x3 then (if (x3 : Int).toNat ≤ 35184372088832 then (impl_LoadsOf.l0 k x0 x1 x3 (List.replicate (x3 : Int).toNat 0) x2 (x2.length : Int) 0) else (none)) else (none))
def impl_LoadsOf.l0 : Nat → Int → Int → Int → List Int → List ByteArray → Int → Int → Option (List Int × Bool)
 | 0, _, _, _, _, _, _, _ => none
 | k + 1, x0, x1, x3, x10, x25, x26, x27 => if x27 < x26 then (if 0 ≤ x27 then (if x27 < (x25.length : Int) then ((impl_place.f k x0 x1 (rdOf ByteArray.empty x25 x27) x3).bind fun t1086 => (if 0 ≤ t1086 then (if t1086 < (x10.length : Int) then (impl_LoadsOf.l0 k x0 x1 x3 (x10.set (t1086 : Int).toNat (wrap64 ((rd x10 t1086) + 1))) x25 x26 (wrap64 (x27 + 1))) else (none)) else (none))) else (none)) else (none)) else (some (x10, true))
end
def impl_LoadsOf.f (k : Nat) (a0 : Int) (a1 : Int) (l2 : List ByteArray) (a3 : Int) : Option (List Int × Bool) := (impl_hashesOk.f k a0 a1 l2).bind fun t1080 => (if t1080 = true then ((impl_in.f a3 1 64).bind fun t1081 => (impl_LoadsOf.j0 k a0 a1 l2 a3 (!t1081))) else (impl_LoadsOf.j0 k a0 a1 l2 a3 true))
theorem impl_LoadsOf.mono_l : ∀ k, (∀ y0 y1 y2 y3 y4, LeO (impl_LoadsOf.j0 k y0 y1 y2 y3 y4) (impl_LoadsOf.j0 (k + 1) y0 y1 y2 y3 y4)) ∧ (∀ y0 y1 y2 y3 y4 y5 y6, LeO (impl_LoadsOf.l0 k y0 y1 y2 y3 y4 y5 y6) (impl_LoadsOf.l0 (k + 1) y0 y1 y2 y3 y4 y5 y6))
 | 0 => ⟨fun _ _ _ _ _ r h => by simp [impl_LoadsOf.j0] at h, fun _ _ _ _ _ _ _ r h => by simp [impl_LoadsOf.l0] at h⟩
 | k + 1 => by
  obtain ⟨ih0, ih1⟩ := impl_LoadsOf.mono_l k; refine ⟨?_, ?_⟩
  ·intro y0 y1 y2 y3 y4
   unfold impl_LoadsOf.j0
   repeat' first | (with_reducible first | exact ih0 _ _ _ _ _ | exact ih1 _ _ _ _ _ _ _ | exact impl_hashesOk.mono _ _ _ _ | exact impl_place.mono _ _ _ _ _ | exact LeO.refl _ | exact LeO.none _ | refine LeO.ite ?_ ?_ | refine LeO.bind ?_ (fun _ => ?_)) | exact LeO.none _ | refine LeO.ite ?_ ?_ | refine LeO.bind ?_ (fun _ => ?_)
  ·intro y0 y1 y2 y3 y4 y5 y6
   unfold impl_LoadsOf.l0
   repeat' first | (with_reducible first | exact ih0 _ _ _ _ _ | exact ih1 _ _ _ _ _ _ _ | exact impl_hashesOk.mono _ _ _ _ | exact impl_place.mono _ _ _ _ _ | exact LeO.refl _ | exact LeO.none _ | refine LeO.ite ?_ ?_ | refine LeO.bind ?_ (fun _ => ?_)) | exact LeO.none _ | refine LeO.ite ?_ ?_ | refine LeO.bind ?_ (fun _ => ?_)
theorem impl_LoadsOf.mono : ∀ a0 a1 a2 a3 k, LeO (impl_LoadsOf.f k a0 a1 a2 a3) (impl_LoadsOf.f (k + 1) a0 a1 a2 a3) := by
 intro a0 a1 a2 a3 k; obtain ⟨ih0, ih1⟩ := impl_LoadsOf.mono_l k
 unfold impl_LoadsOf.f
 repeat' first | (with_reducible first | exact ih0 _ _ _ _ _ | exact ih1 _ _ _ _ _ _ _ | exact impl_hashesOk.mono _ _ _ _ | exact impl_place.mono _ _ _ _ _ | exact LeO.refl _ | exact LeO.none _ | refine LeO.ite ?_ ?_ | refine LeO.bind ?_ (fun _ => ?_)) | exact LeO.none _ | refine LeO.ite ?_ ?_ | refine LeO.bind ?_ (fun _ => ?_)
theorem impl_LoadsOf.calls (k : Nat) (a0 : Int) (a1 : Int) (A2 : Option Addr) (c2 : Nat) (l2 : List ByteArray) (a3 : Int) (r1 : List Int) (r2 : Bool) (w : World) (hr2 : Kd.C Kd.string w A2 l2.length l2) (hc2 : l2.length ≤ c2) (h : impl_LoadsOf.f k a0 a1 l2 a3 = some (r1, r2)) :
  Calls Try.prog 18 #[.int .i64 a0, .int .i64 a1, .slice A2 l2.length c2, .int .i64 a3] w fun e w' => ∃ v0_ : Value, e = .returned (.tuple #[v0_, .bool r2]) ∧ Kd.R (Kd.int .i64) 3 w' w.heap.size (fun _ => True) v0_ r1 ∧ Below w.heap.size w w' := by
 have HR2 := am hr2; have HC2 := am hc2; clear hr2 hc2; have HB := am (Below.refl w.heap.size w); have H : ((impl_hashesOk.f k a0 a1 l2).bind fun t1080 => (if t1080 = true then ((impl_in.f a3 1 64).bind fun t1081 => (impl_LoadsOf.j0 k a0 a1 l2 a3 (!t1081))) else (impl_LoadsOf.j0 k a0 a1 l2 a3 true))) = some (r1, r2) := h; clear h; have HC5 := am H; clear H
 go_enter Try.func18, Try.ntmps18
 go_upto_region 1 with (fail)
 go_cut [22] (fun v22 wc => ∃ (kq : Nat) (x22_4 : Bool), v22 = .bool x22_4 ∧ Aside0 (impl_LoadsOf.j0 kq a0 a1 l2 a3 x22_4 = some (r1, r2)) ∧ Aside0 (kq ≤ k) ∧ Aside0 (Below w.heap.size w wc))
 case first =>
  have H := HC5.out; clear HC5; replace H := Option.bind_eq_some_iff.mp H; obtain ⟨t1080, A60, H⟩ := H; (try dsimp -simprocs only at H); have A6 := am A60; clear A60
  by_cases c7 : t1080 = true
  ·subst c7
   rw [if_pos rfl] at H; replace H := Option.bind_eq_some_iff.mp H; obtain ⟨t1081, A80, H⟩ := H; (try dsimp -simprocs only at H); have A8 := am A80; clear A80; have H' := am H; clear H
   go_wp2_with (first | ((with_reducible refine gate_callee (f := 79) rfl ?_); refine gL (some 16) Try.func79 #[.int .i64 a0, .int .i64 a1, .slice A2 l2.length c2] ?_; (with_reducible refine (impl_hashesOk.calls k a0 a1 _ _ l2 true _ ?side1 ?side2 A6.out).mono ?_); (case side1 => exact Cz (Kd.C_below HR2.out HB.out)); (case side2 => exact HC2.out); rintro e w' ⟨rfl, ⟨nd, rfl⟩⟩; refine ⟨_, rfl, ?_⟩) | (go_at_call 70; (with_reducible refine (impl_in.calls a3 1 64 t1081 _ A8.out).mono ?_); rintro e w' ⟨rfl, ⟨nd, rfl⟩⟩))
   go_meet
   case rel => exact ⟨_, (!t1081), wZ, H', ⟨by first | omega | exact Nat.le_refl _⟩, ⟨Bz HB.out⟩⟩
  ·replace c7 := Bool.eq_false_iff.mpr c7
   subst c7
   rw [if_neg (show ¬ (false = true) by decide)] at H; have H' := am H; clear H
   go_wp2_with (first | ((with_reducible refine gate_callee (f := 79) rfl ?_); refine gL (some 16) Try.func79 #[.int .i64 a0, .int .i64 a1, .slice A2 l2.length c2] ?_; (with_reducible refine (impl_hashesOk.calls k a0 a1 _ _ l2 false _ ?side1 ?side2 A6.out).mono ?_); (case side1 => exact Cz (Kd.C_below HR2.out HB.out)); (case side2 => exact HC2.out); rintro e w' ⟨rfl, ⟨nd, rfl⟩⟩; refine ⟨_, rfl, ?_⟩))
   go_meet
   case rel => exact ⟨_, (true), wZ, H', ⟨by first | omega | exact Nat.le_refl _⟩, ⟨Bz HB.out⟩⟩
 case rest =>
  clear HC5
  try clear c1
  try clear c2
  try clear p2
  try clear c7
  obtain ⟨kq, x22_4, rfl, HA, HJ4, HB⟩ := hcut; cases kq with
  | zero => exact absurd HA.out (by simp [impl_LoadsOf.j0])
  | succ kj4 =>
   have H := HA.out; clear HA
   simp only [impl_LoadsOf.j0] at H
   by_cases c9 : x22_4 = true
   ·subst c9
    rw [if_pos rfl] at H
    simp only [Option.some.injEq, Prod.mk.injEq] at H
    obtain ⟨rfl, rfl⟩ := H
    go_wp2
    go_ret2
    exact ⟨_, eZ, nZ, Bz HB.out⟩
   ·replace c9 := Bool.eq_false_iff.mpr c9
    subst c9
    rw [if_neg (show ¬ (false = true) by decide)] at H
    by_cases c10 : 0 ≤ a3
    ·rw [if_pos c10] at H
     have c10b0 := eq_true c10; have c10b1 : decide (0 ≤ a3) = true := decide_eq_true c10; clear c10
     by_cases c11 : (a3 : Int).toNat ≤ 35184372088832
     ·rw [if_pos c11] at H
      have c11b0 := eq_true c11; have c11b1 : decide ((a3 : Int).toNat ≤ 35184372088832) = true := decide_eq_true c11; clear c11; obtain ⟨y1082, hy1082⟩ : ∃ y_ : List Int, y_ = (List.replicate (a3 : Int).toNat 0) := ⟨_, rfl⟩
      replace H : (impl_LoadsOf.l0 kj4 a0 a1 a3 y1082 l2 (l2.length : Int) 0) = some (r1, r2) := by first | (rw [hy1082]; with_reducible exact H) | (have H2_ := (Option.bind_some _ _).symm.trans H; rw [hy1082]; with_reducible exact H2_) | (have H2_ := (Option.bind_some _ _).symm.trans H; with_reducible exact H2_) | with_reducible exact H | (rw [hy1082]; exact H) | exact H
      have Ny1082 := am hy1082; clear hy1082; have H' := am H; clear H
      go_wp2_with (first | ((with_reducible refine gate_dst (N := 24) rfl ?_); refine Kd.R_make (Kd.int .i64) _ 3 rfl (N := 24) rfl 32 _ _ rfl a3 rfl rfl Try.underlying32 (.int .i64 0) 8 info3 rfl (by decide) (by omega) 0 (ok := fun _ => True) (okp := fun _ => True) rfl (fun _ hk => hk) trivial (dT) (Nat.le_trans (Nat.mul_le_mul_right _ (dT : a3.toNat ≤ 35184372088832)) (by omega)) (Below.refl _ _) (Nat.le_refl _) ?_; intro v1083 w12 ho13 hb hg_ hnew_; clear hg_ hnew_; (first | rw [← Ny1082.out] at ho13 | (simp only [Int.reduceToNat] at ho13; rw [← Ny1082.out] at ho13)); have n0_ := Rl ho13 HB; have n1_ := Bb HB hb; clear HB; revert n0_ n1_; intro HO1084 HB; clear hb ho13))
      (try simp only [aP])
      go_loopg [27] kj4 (fun kq v27 w' => ∃ (x10_2 : List Int) (x27_2 : Int), v27 = .int .i64 x27_2 ∧ Aside0 (impl_LoadsOf.l0 kq a0 a1 a3 x10_2 l2 (l2.length : Int) x27_2 = some (r1, r2)) ∧ Aside0 (kq ≤ kj4) ∧ Aside0 (Kd.R (Kd.int .i64) 3 w' w.heap.size (fun _ => True) v1083 x10_2) ∧ Aside0 (Below w.heap.size w w'))
      case atStart => exact ⟨(y1082), (0), wZ, H', ⟨Nat.le_refl _⟩, ⟨Rz HO1084.out⟩, ⟨Bz HB.out⟩⟩
      case round =>
       clear H'
       try clear c1
       try clear c2
       try clear p2
       try clear c7
       try clear c9
       try clear c10
       try clear c10b0
       try clear c10b1
       try clear c11
       try clear c11b0
       try clear c11b1
       try clear p2
       obtain ⟨x10_2, x27_2, rfl, HA, HK2, HO_10, HB⟩ := hrel; cases gk with
       | zero => exact absurd HA.out (by simp [impl_LoadsOf.l0])
       | succ k2 =>
        have H := HA.out; clear HA
        simp only [impl_LoadsOf.l0] at H
        by_cases c14 : x27_2 < (l2.length : Int)
        ·rw [if_pos c14] at H
         have c14b0 : decide (x27_2 < (l2.length : Int)) = true := decide_eq_true c14; clear c14
         by_cases c15 : 0 ≤ x27_2
         ·rw [if_pos c15] at H
          have c15b0 : decide (0 ≤ x27_2) = true := decide_eq_true c15; clear c15
          by_cases c16 : x27_2 < (l2.length : Int)
          ·rw [if_pos c16] at H
           have c16b0 : decide (x27_2 < (l2.length : Int)) = true := decide_eq_true c16; clear c16; replace H := Option.bind_eq_some_iff.mp H; obtain ⟨t1086, A170, H⟩ := H; (try dsimp -simprocs only at H); have A17 := am A170; clear A170
           by_cases c18 : 0 ≤ t1086
           ·rw [if_pos c18] at H
            have c18b0 : decide (0 ≤ t1086) = true := decide_eq_true c18; clear c18
            by_cases c19 : t1086 < (x10_2.length : Int)
            ·rw [if_pos c19] at H
             have c19b0 : decide (t1086 < (x10_2.length : Int)) = true := decide_eq_true c19; clear c19; obtain ⟨y1088, hy1088⟩ : ∃ y_ : List Int, y_ = (x10_2.set (t1086 : Int).toNat (wrap64 ((rd x10_2 t1086) + 1))) := ⟨_, rfl⟩
             replace H : (impl_LoadsOf.l0 k2 a0 a1 a3 y1088 l2 (l2.length : Int) (wrap64 (x27_2 + 1))) = some (r1, r2) := by first | (rw [hy1088]; with_reducible exact H) | (have H2_ := (Option.bind_some _ _).symm.trans H; rw [hy1088]; with_reducible exact H2_) | (have H2_ := (Option.bind_some _ _).symm.trans H; with_reducible exact H2_) | with_reducible exact H | (rw [hy1088]; exact H) | exact H
             have Ny1088 := am hy1088; clear hy1088; have H' := am H; clear H; have p1085 : 0 ≤ (x27_2 : Int) := dT; have q1085 : x27_2 < (l2.length : Int) := dT; obtain ⟨ad1085, e1085, hx1085_0⟩ := Kd.at_string HR2.out x27_2 p1085 q1085; cases e1085; replace hx1085_0 := (HB.out.cell (World.block_lt_of_cell? w _ hx1085_0)).trans hx1085_0; replace p1085 := eq_true p1085; replace q1085 := eq_true q1085
             go_wp2_with (first | ((with_reducible refine gate_callee (f := 73) rfl ?_); refine gL (some 36) Try.func73 #[.int .i64 a0, .int .i64 a1, .string (rdOf ByteArray.empty l2 x27_2), .int .i64 a3] ?_; (with_reducible refine (impl_place.calls k2 a0 a1 (rdOf ByteArray.empty l2 x27_2) a3 t1086 _ A17.out).mono ?_); rintro e w' ⟨rfl, ⟨nd, rfl⟩⟩; refine ⟨_, rfl, ?_⟩; (try (rw [drewN_self wr]; generalize hq_ : World.drewN wr _ = wr; have n0_ : Aside0 (Kd.R (Kd.int .i64) 3 wr w.heap.size (fun _ => True) v1083 x10_2) := ⟨by rw [← hq_]; exact (Rz HO_10.out)⟩; have n1_ : Aside0 (Below w.heap.size w wr) := ⟨by rw [← hq_]; exact (Bz HB.out)⟩; clear HO_10 HB hq_; revert n0_ n1_; intro HO_10 HB)); obtain ⟨Ao21, co21, eo21⟩ := Kd.R_slice HO_10.out; subst eo21; obtain ⟨ad1087, e1087, hx1087_0⟩ := Kd.at_int (Kd.R_reads' HO_10.out).2.2 t1086 dT dT; cases e1087; have p1087 := eT (0 ≤ (t1086 : Int)); have q1087 := eT (t1086 < (x10_2.length : Int)); have p20 : 0 ≤ (t1086 : Int) := dT; have q20 : (t1086 : Int) < ((x10_2.length : Int) : Int) := dT; obtain ⟨go20, co20, eo20, gb20, gl20, cl20, HG20⟩ := Kd.R_form HO_10.out (by omega); (first | cases eo20 | (injection eo20 with ea_ en_ ec_; (first | subst ea_ | (injection ea_ with ea_; subst ea_)); subst ec_; clear en_)); have GB20 := am gb20; have GG20 := am HG20; clear gb20 gl20 HG20; (first | simp only [add_plain] at hx1087_0 | skip); obtain ⟨hx20_0, hf20_0⟩ := Kd.R_celln 0 HO_10.out (t1086 : Int) p20 q20; replace p20 := eq_true p20; replace q20 := eq_true q20; obtain ⟨hy22_, hz22_⟩ := Kd.R_celln 0 HO_10.out (t1086 : Int) (dT) (dT); have HP22 := Kd.R_putg HO_10.out (t1086 : Int) (wrap64 ((rd x10_2 t1086) + 1))) | ((with_reducible refine gate_store (t := 3) (p := 40) rfl ?_); refine store_event (t := 3) (p := 40) (v := ?vo_w23) (w1 := (wr.setCell ⟨go20, (t1086 : Int).toNat, none⟩ (.int .i64 (wrap64 ((rd x10_2 t1086) + 1))))) ?hg ?ho ?hn ?hr ?_; (case ho => rfl); (case hg => rfl); (case hn => rfl); (case hr => first | (go_simp; done) | (go_simp; rfl)); intro w23 hw; have hg : wr.grownBy w23 (some go20) := (by rw [hw]; exact HP22.2); have hp_ : Kd.R (Kd.int .i64) 3 w23 w.heap.size (fun _ => True) (.slice (some ⟨go20, 0, none⟩) x10_2.length co21) y1088 := (by rw [hw, Ny1088.out]; exact HP22.1); clear HP22; have n0_ := am (hp_); have n1_ := am ((by rw [hw]; exact below_set (HB.out) GB20.out : Below w.heap.size w w23)); clear HO_10 HB; revert n0_ n1_; intro HO_10 HB; clear hg hw hp_))
             go_roundg k2
             case measure => have := HJ4.out; have := HK2.out; omega
             case rel => exact ⟨(y1088), (wrap64 (x27_2 + 1)), wZ, H', ⟨by have := HJ4.out; have := HK2.out; omega⟩, ⟨Rz HO_10.out⟩, ⟨Bz HB.out⟩⟩
            ·rw [if_neg c19] at H
             exact absurd H (by simp)
           ·rw [if_neg c18] at H
            exact absurd H (by simp)
          ·rw [if_neg c16] at H
           exact absurd H (by simp)
         ·rw [if_neg c15] at H
          exact absurd H (by simp)
        ·rw [if_neg c14] at H
         have c14b0 : decide (x27_2 < (l2.length : Int)) = false := decide_eq_false c14; clear c14
         simp only [Option.some.injEq, Prod.mk.injEq] at H
         obtain ⟨rfl, rfl⟩ := H
         go_wp2
         go_ret2
         exact ⟨_, eZ, Rz HO_10.out, Bz HB.out⟩
     ·rw [if_neg c11] at H
      exact absurd H (by simp)
    ·rw [if_neg c10] at H
     exact absurd H (by simp)

end Go.Proofs.Ythkcgimnagpmaaa.PA
