-- printed by a program of this session (wip/gp) out of the translation; Lean checks it
import Derived.Test.YthkcgimnagpmaaaPAx0
import Derived.Test.YthkcgimnagpmaaaPAx2
import Derived.Test.YthkcgimnagpmaaaPAx7
import Derived.Test.YthkcgimnagpmaaaPAx9
import Derived.Test.YthkcgimnagpmaaaPAx10
import Derived.Test.YthkcgimnagpmaaaPAx12
namespace Go.Proofs.Ythkcgimnagpmaaa.PA
open Go.RowKit Go.Proofs.YthkcgimnagpmaaaW.PrintWords Go.Proofs.YthkcgimnagpmaaaW.PrintLast Go.Proofs.YthkcgimnagpmaaaW.PrintMore Go.Proofs.YthkcgimnagpmaaaSq
attribute [local go_sem] max2_int min2_int max_two min_two max_three min_three max_four min_four   -- for this text's walks alone
attribute [local go_sem] Go.Proofs.YthkcgimnagpmaaaGp.str_geq Go.Proofs.YthkcgimnagpmaaaGp.str_gtr Go.Proofs.YthkcgimnagpmaaaGp.str_leq
set_option linter.unusedVariables false
set_option linter.unusedSimpArgs false

set_option maxHeartbeats 8000000
set_option maxRecDepth 100000
/-! ### spec_DrawFirstSeed: function 49 -/
def spec_DrawFirstSeed.f (k : Nat) (l0 : List Int) : Option (List ByteArray × Int × Int × Int) := (spec_l1Cur_seed9.f l0 0 0).bind fun bt757 => ((spec_l1Cur_anyKeys.f k l0 bt757.2.1 bt757.2.2 8).bind fun bt760 => ((spec_l1Cur_segment.f l0 bt760.2.1 bt760.2.2).bind fun bt765 => ((spec_l1Cur_among.f l0 bt765.2.1 bt765.2.2 (([(-1), 0, 1, 5, 20, 100, 101] : List Int))).bind fun bt771 => (some (bt760.1, bt765.1, bt757.1, wrap64 (bt757.1 + bt771.1))))))
theorem spec_DrawFirstSeed.mono : ∀ a0 k, LeO (spec_DrawFirstSeed.f k a0) (spec_DrawFirstSeed.f (k + 1) a0) := by
 intro a0 k
 unfold spec_DrawFirstSeed.f
 repeat' first | (with_reducible first | exact spec_l1Cur_anyKeys.mono _ _ _ _ _ | exact LeO.refl _ | exact LeO.none _ | refine LeO.ite ?_ ?_ | refine LeO.bind ?_ (fun _ => ?_)) | exact LeO.none _ | refine LeO.ite ?_ ?_ | refine LeO.bind ?_ (fun _ => ?_)
theorem spec_DrawFirstSeed.calls (k : Nat) (A0 : Option Addr) (c0 : Nat) (l0 : List Int) (r1 : List ByteArray) (r2 : Int) (r3 : Int) (r4 : Int) (w : World) (hr0 : Kd.C (Kd.int .u8) w A0 l0.length l0) (hc0 : l0.length ≤ c0) (h : spec_DrawFirstSeed.f k l0 = some (r1, r2, r3, r4)) :
  Calls Try.prog 49 #[.slice A0 l0.length c0] w fun e w' => ∃ v0_ : Value, e = .returned (.tuple #[v0_, .int .i64 r2, .int .i64 r3, .int .i64 r4]) ∧ Kd.R Kd.string 9 w' w.heap.size (fun _ => True) v0_ r1 ∧ Below w.heap.size w w' := by
 have hu81 := Try.underlying81; have HR0 := am hr0; have HC0 := am hc0; clear hr0 hc0; have HB := am (Below.refl w.heap.size w); have H : ((spec_l1Cur_seed9.f l0 0 0).bind fun bt757 => ((spec_l1Cur_anyKeys.f k l0 bt757.2.1 bt757.2.2 8).bind fun bt760 => ((spec_l1Cur_segment.f l0 bt760.2.1 bt760.2.2).bind fun bt765 => ((spec_l1Cur_among.f l0 bt765.2.1 bt765.2.2 (([(-1), 0, 1, 5, 20, 100, 101] : List Int))).bind fun bt771 => (some (bt760.1, bt765.1, bt757.1, wrap64 (bt757.1 + bt771.1))))))) = some (r1, r2, r3, r4) := h; clear h; replace H := Option.bind_eq_some_iff.mp H; obtain ⟨⟨t757, t758, t759⟩, A20, H⟩ := H; (try dsimp -simprocs only at H); have A2 := am A20; clear A20; replace H := Option.bind_eq_some_iff.mp H; obtain ⟨⟨t760, t763, t764⟩, A30, H⟩ := H; (try dsimp -simprocs only at H); have A3 := am A30; clear A30; replace H := Option.bind_eq_some_iff.mp H; obtain ⟨⟨t765, t766, t767⟩, A40, H⟩ := H; (try dsimp -simprocs only at H); have A4 := am A40; clear A40; obtain ⟨y768, hy768⟩ : ∃ y_ : List Int, y_ = (([(-1), 0, 1, 5, 20, 100, 101] : List Int)) := ⟨_, rfl⟩
 replace H : ((spec_l1Cur_among.f l0 t766 t767 y768).bind fun bt771 => (some (t760, t765, t757, wrap64 (t757 + bt771.1)))) = some (r1, r2, r3, r4) := by first | (rw [hy768]; with_reducible exact H) | (have H2_ := (Option.bind_some _ _).symm.trans H; rw [hy768]; with_reducible exact H2_) | (have H2_ := (Option.bind_some _ _).symm.trans H; with_reducible exact H2_) | with_reducible exact H | (rw [hy768]; exact H) | exact H
 have Ny768 := am hy768; clear hy768; replace H := Option.bind_eq_some_iff.mp H; obtain ⟨⟨t771, t772, t773⟩, A50, H⟩ := H; (try dsimp -simprocs only at H); have A5 := am A50; clear A50
 simp only [Option.some.injEq, Prod.mk.injEq] at H
 obtain ⟨rfl, rfl, rfl, rfl⟩ := H
 go_enter Try.func49, Try.ntmps49
 go_wp2_with (first | ((with_reducible refine gate_dst (N := 10) rfl ?_); refine bE 10 #[.slice A0 l0.length c0, .int .i64 0, .int .u64 0] 81 ?_; intro gb756 hg w6 hbox hb; have n0_ := Bb HB hb; have n1_ := am (hbox); have n2_ := Gl HB hg; have n3_ := Gl HB hg; clear HB; revert n0_ n1_ n2_ n3_; intro HB BK756 GW756 GE756; clear hb hbox hg; have HI756 := am (show IsS81 w _ gb756 l0 0 0 from ⟨A0, c0, BK756.out, GE756.out, HR0.out⟩); clear BK756) | ((with_reducible refine gate_callee (f := 65) rfl ?_); refine gL (some 12) Try.func65 #[.pointer (some ⟨gb756, 0, none⟩)] ?_; (with_reducible refine (spec_l1Cur_seed9.calls gb756 l0 0 0 t757 t758 t759 w _ ?side1 ?side2 A2.out).mono ?_); (case side1 => repeat (first | (with_reducible first | exact HI756.out | apply IsS81.alloc | apply IsS81.drewN | apply IsS81.drew | apply IsS81.set_1 | apply IsS81.set_2) | exact HI756.out)); (case side2 => repeat (first | (with_reducible first | exact HB.out | apply below_alloc | apply pw_below_drewN | apply below_drew1 | refine below_set ?_ (IsS81.ge HI756.out)) | exact HB.out)); rintro e w7 ⟨rfl, hi, hb, hk⟩; refine ⟨_, rfl, ?_⟩; have n0_ := am (hb); have n1_ := am (hi); clear HB HI756; revert n0_ n1_; intro HB HI756; (try clear hb); (try clear hb2); (try clear hk); (try clear hi)) | ((with_reducible refine gate_callee (f := 66) rfl ?_); refine gL (some 14) Try.func66 #[.pointer (some ⟨gb756, 0, none⟩), .int .i64 8] ?_; (with_reducible refine (spec_l1Cur_anyKeys.calls k gb756 l0 t758 t759 8 t760 t763 t764 w _ ?side1 ?side2 A3.out).mono ?_); (case side1 => repeat (first | (with_reducible first | exact HI756.out | apply IsS81.alloc | apply IsS81.drewN | apply IsS81.drew | apply IsS81.set_1 | apply IsS81.set_2) | exact HI756.out)); (case side2 => repeat (first | (with_reducible first | exact HB.out | apply below_alloc | apply pw_below_drewN | apply below_drew1 | refine below_set ?_ (IsS81.ge HI756.out)) | exact HB.out)); rintro e w8 ⟨v761, rfl, ho0, hi, hb, hk⟩; refine ⟨_, rfl, ?_⟩; have n0_ := am (Kd.R_lower ho0 (below_size (by repeat (first | (with_reducible first | exact HB.out | apply below_alloc | apply pw_below_drewN | apply below_drew1 | refine below_set ?_ (IsS81.ge HI756.out)) | exact HB.out)))); have n1_ := am (hb); have n2_ := am (hi); clear HB HI756; revert n0_ n1_ n2_; intro HO762 HB HI756; (try clear hb); (try clear hb2); (try clear hk); (try clear hi); (try clear ho0)) | ((with_reducible refine gate_callee (f := 111) rfl ?_); refine gL (some 16) Try.func111 #[.pointer (some ⟨gb756, 0, none⟩)] ?_; (with_reducible refine (spec_l1Cur_segment.calls gb756 l0 t763 t764 t765 t766 t767 w _ ?side1 ?side2 A4.out).mono ?_); (case side1 => repeat (first | (with_reducible first | exact HI756.out | apply IsS81.alloc | apply IsS81.drewN | apply IsS81.drew | apply IsS81.set_1 | apply IsS81.set_2) | exact HI756.out)); (case side2 => repeat (first | (with_reducible first | exact HB.out | apply below_alloc | apply pw_below_drewN | apply below_drew1 | refine below_set ?_ (IsS81.ge HI756.out)) | exact HB.out)); rintro e w9 ⟨rfl, hi, hb, hk⟩; refine ⟨_, rfl, ?_⟩; have n0_ := am (Kd.R_mono (Kd.R_keep (IsS81.apart (show IsS81 w _ gb756 l0 t763 t764 from by repeat (first | (with_reducible first | exact HI756.out | apply IsS81.alloc | apply IsS81.drewN | apply IsS81.drew | apply IsS81.set_1 | apply IsS81.set_2) | exact HI756.out)) (Rz HO762.out) (by decide)) hk (fun _ h => h.2)) (fun _ h => h.1)); have n1_ := am (hb); have n2_ := am (hi); clear HO762 HB HI756; revert n0_ n1_ n2_; intro HO762 HB HI756; (try clear hb); (try clear hb2); (try clear hk); (try clear hi)) | ((with_reducible refine gate_dst (N := 20) rfl ?_); refine Kd.R_lit (Kd.int .i64) _ 3 ?hg (N := 20) ?hd (xs := ([(-1), 0, 1, 5, 20, 100, 101] : List Int)) (inner := [.int .i64 (-1), .int .i64 0, .int .i64 1, .int .i64 5, .int .i64 20, .int .i64 100, .int .i64 101]) (ok := fun _ => True) (okp := fun _ => True) ?hr ?hp (fun _ hk => hk) trivial (Below.refl _ _) (Nat.le_refl _) (by simp) ?_; (case hd => rfl); (case hg => rfl); (case hr => first | (go_simp; done) | (go_simp; rfl)); (case hp => exact (Reps.one (show Kd.M (Kd.int .i64) _ _ _ (-1) [.int .i64 (-1)] from rfl) (Reps.one (show Kd.M (Kd.int .i64) _ _ _ 0 [.int .i64 0] from rfl) (Reps.one (show Kd.M (Kd.int .i64) _ _ _ 1 [.int .i64 1] from rfl) (Reps.one (show Kd.M (Kd.int .i64) _ _ _ 5 [.int .i64 5] from rfl) (Reps.one (show Kd.M (Kd.int .i64) _ _ _ 20 [.int .i64 20] from rfl) (Reps.one (show Kd.M (Kd.int .i64) _ _ _ 100 [.int .i64 100] from rfl) (Reps.one (show Kd.M (Kd.int .i64) _ _ _ 101 [.int .i64 101] from rfl) (Reps.none _ _))))))))); intro v769 w10 ho11 hb hg_ hnew_; clear hg_ hnew_; (first | rw [← Ny768.out] at ho11 | (simp only [Int.reduceToNat] at ho11; rw [← Ny768.out] at ho11)); have n0_ := Rb HO762 hb; have n1_ := am (Kd.R_lower ho11 (below_size (by repeat (first | (with_reducible first | exact HB.out | apply below_alloc | apply pw_below_drewN | apply below_drew1 | refine below_set ?_ (IsS81.ge HI756.out)) | exact HB.out)))); have n2_ := am (IsS81.below (by repeat (first | (with_reducible first | exact HI756.out | apply IsS81.alloc | apply IsS81.drewN | apply IsS81.drew | apply IsS81.set_1 | apply IsS81.set_2) | exact HI756.out)) hb); have n3_ := am (below_step (by repeat (first | (with_reducible first | exact HB.out | apply below_alloc | apply pw_below_drewN | apply below_drew1 | refine below_set ?_ (IsS81.ge HI756.out)) | exact HB.out)) hb); clear HO762 HI756 HB; revert n0_ n1_ n2_ n3_; intro HO762 HO770 HI756 HB; clear hb ho11; obtain ⟨Ao12, co12, eo12⟩ := Kd.R_slice HO770.out; subst eo12) | ((with_reducible refine gate_callee (f := 68) rfl ?_); refine gL (some 21) Try.func68 #[.pointer (some ⟨gb756, 0, none⟩), .slice Ao12 y768.length co12] ?_; (with_reducible refine (spec_l1Cur_among.calls gb756 l0 t766 t767 _ _ y768 t771 t772 t773 w _ ?side1 ?side2 ?side3 ?side4 ?side5 A5.out).mono ?_); (case side1 => repeat (first | (with_reducible first | exact HI756.out | apply IsS81.alloc | apply IsS81.drewN | apply IsS81.drew | apply IsS81.set_1 | apply IsS81.set_2) | exact HI756.out)); (case side2 => repeat (first | (with_reducible first | exact HB.out | apply below_alloc | apply pw_below_drewN | apply below_drew1 | refine below_set ?_ (IsS81.ge HI756.out)) | exact HB.out)); (case side3 => exact Cz ((Kd.R_reads' HO770.out).2.2)); (case side4 => exact (Kd.R_reads' HO770.out).2.1); (case side5 => exact far_slice (IsS81.own_ne HI756.out HO770.out (by decide))); rintro e w13 ⟨rfl, hi, hb, hk⟩; refine ⟨_, rfl, ?_⟩; have n0_ := am (Kd.R_mono (Kd.R_keep (IsS81.apart (show IsS81 w _ gb756 l0 t766 t767 from by repeat (first | (with_reducible first | exact HI756.out | apply IsS81.alloc | apply IsS81.drewN | apply IsS81.drew | apply IsS81.set_1 | apply IsS81.set_2) | exact HI756.out)) (Rz HO762.out) (by decide)) hk (fun _ h => h.2)) (fun _ h => h.1)); have n1_ := am (Kd.R_mono (Kd.R_keep (IsS81.apart (show IsS81 w _ gb756 l0 t766 t767 from by repeat (first | (with_reducible first | exact HI756.out | apply IsS81.alloc | apply IsS81.drewN | apply IsS81.drew | apply IsS81.set_1 | apply IsS81.set_2) | exact HI756.out)) (Rz HO770.out) (by decide)) hk (fun _ h => h.2)) (fun _ h => h.1)); have n2_ := am (hb); have n3_ := am (hi); clear HO762 HO770 HB HI756; revert n0_ n1_ n2_ n3_; intro HO762 HO770 HB HI756; (try clear hb); (try clear hb2); (try clear hk); (try clear hi)))
 refine bodyPost_ret (results_list (rs := [.tmp 2, .tmp 3, .tmp 4, .tmp 5]) rfl (by simp) (.tmp (.tmp (.tmp (.tmp .nil))))) rfl ?_; exact ⟨_, eZ, Rz HO762.out, by repeat (first | (with_reducible first | exact HB.out | apply below_alloc | apply pw_below_drewN | apply below_drew1 | refine below_set ?_ (IsS81.ge HI756.out)) | exact HB.out)⟩

-- NOT PRINTED: function 122 (impl_FirstSeed_1)

/-! ### impl_FirstSeed_1: function 122 -/
def impl_FirstSeed_1.f (k : Nat) (a0 : Int) (l1_0 : List ByteArray) (a2_0 : Int) : Option (Bool) := (impl_peels.f k a0 l1_0 a2_0).bind fun t778 => (some t778)
theorem impl_FirstSeed_1.mono : ∀ a0 a1 a2 k, LeO (impl_FirstSeed_1.f k a0 a1 a2) (impl_FirstSeed_1.f (k + 1) a0 a1 a2) := by
 intro a0 a1 a2 k
 unfold impl_FirstSeed_1.f
 repeat' first | (with_reducible first | exact impl_peels.mono _ _ _ _ | exact LeO.refl _ | exact LeO.none _ | refine LeO.ite ?_ ?_ | refine LeO.bind ?_ (fun _ => ?_)) | exact LeO.none _ | refine LeO.ite ?_ ?_ | refine LeO.bind ?_ (fun _ => ?_)
theorem impl_FirstSeed_1.calls (k : Nat) (a0 : Int) (g1 : Nat) (A1_0 : Option Addr) (c1_0 : Nat) (l1_0 : List ByteArray) (g2 : Nat) (a2_0 : Int) (r : Bool) (w : World) (hb1 : w.heap[g1]? = some (.cells #[.slice A1_0 l1_0.length c1_0] 24 (0, 0))) (hr1_0 : Kd.C Kd.string w A1_0 l1_0.length l1_0) (hc1_0 : l1_0.length ≤ c1_0) (hb2 : w.heap[g2]? = some (.cells #[.int .i64 a2_0] 3 (0, 0))) (h : impl_FirstSeed_1.f k a0 l1_0 a2_0 = some r) :
  Calls Try.prog 122 #[.int .i64 a0, .pointer (some ⟨g1, 0, none⟩), .pointer (some ⟨g2, 0, none⟩)] w fun e w' => e = .returned (.bool r) ∧ Below w.heap.size w w' := by
 have HR1_0 := am hr1_0; have HC1_0 := am hc1_0; clear hr1_0 hc1_0; have BK1 := am hb1; clear hb1; have BK2 := am hb2; clear hb2; have HB := am (Below.refl w.heap.size w); have H : ((impl_peels.f k a0 l1_0 a2_0).bind fun t778 => (some t778)) = some r := h; clear h; replace H := Option.bind_eq_some_iff.mp H; obtain ⟨t778, A40, H⟩ := H; (try dsimp -simprocs only at H); have A4 := am A40; clear A40; obtain rfl := Option.some.inj H; obtain ⟨hcz5_0, hfz5_0⟩ := cf1 (w := w) BK1; obtain ⟨hcz6_0, hfz6_0⟩ := cf1 (w := w) BK2
 go_enter Try.func122, Try.ntmps122
 go_wp2_with (first | ((with_reducible refine gate_callee (f := 113) rfl ?_); refine gL (some 8) Try.func113 #[.int .i64 a0, .slice A1_0 l1_0.length c1_0, .int .i64 a2_0] ?_; (with_reducible refine (impl_peels.calls k a0 _ _ l1_0 a2_0 t778 _ ?side1 ?side2 A4.out).mono ?_); (case side1 => exact Cz HR1_0.out); (case side2 => exact HC1_0.out); rintro e w7 ⟨rfl, hb⟩; refine ⟨_, rfl, ?_⟩; have n0_ := Kb BK1 hb; have n1_ := Kb BK2 hb; have n2_ := Bc HB hb; clear BK1 BK2 HB; revert n0_ n1_ n2_; intro BK1 BK2 HB; (try clear hb); (try clear hb2); (try clear hk); (try clear hi)))
 go_ret
 exact ⟨eZ, Bq⟩

/-! ### impl_firstSeed_at_impl_FirstSeed_1: function 1000004 -/
mutual
def impl_firstSeed_at_impl_FirstSeed_1.j0 : Nat → Int → Int → Bool → List ByteArray → Int → Option (Int × Bool)
 | 0, _, _, _, _, _ => none
 | k + 1, x0, x1, x25, x4000, x5000 => if x25 = true then (some (0, false)) else (impl_firstSeed_at_impl_FirstSeed_1.l0 k x1 x0 x4000 x5000)
def impl_firstSeed_at_impl_FirstSeed_1.l0 : Nat → Int → Int → List ByteArray → Int → Option (Int × Bool)
 | 0, _, _, _, _ => none
 | k + 1, x1, x8, x4000, x5000 => if x8 < x1 then ((impl_FirstSeed_1.f k x8 x4000 x5000).bind fun t779 => (if t779 = true then (some (x8, true)) else (impl_firstSeed_at_impl_FirstSeed_1.l0 k x1 (wrap64 (x8 + 1)) x4000 x5000))) else (some (0, false))
end
def impl_firstSeed_at_impl_FirstSeed_1.f (k : Nat) (a0 : Int) (a1 : Int)  (l3_0 : List ByteArray) (a4_0 : Int) : Option (Int × Bool) := if a0 < 0 then (impl_firstSeed_at_impl_FirstSeed_1.j0 k a0 a1 true l3_0 a4_0) else (if a0 > a1 then (impl_firstSeed_at_impl_FirstSeed_1.j0 k a0 a1 true l3_0 a4_0) else (if a1 > 10000 then (impl_firstSeed_at_impl_FirstSeed_1.j0 k a0 a1 true l3_0 a4_0) else (impl_firstSeed_at_impl_FirstSeed_1.j0 k a0 a1 (decide (a1 > (wrap64 (a0 + 100)))) l3_0 a4_0)))
theorem impl_firstSeed_at_impl_FirstSeed_1.mono_l : ∀ k, (∀ y0 y1 y2 y3 y4, LeO (impl_firstSeed_at_impl_FirstSeed_1.j0 k y0 y1 y2 y3 y4) (impl_firstSeed_at_impl_FirstSeed_1.j0 (k + 1) y0 y1 y2 y3 y4)) ∧ (∀ y0 y1 y2 y3, LeO (impl_firstSeed_at_impl_FirstSeed_1.l0 k y0 y1 y2 y3) (impl_firstSeed_at_impl_FirstSeed_1.l0 (k + 1) y0 y1 y2 y3))
 | 0 => ⟨fun _ _ _ _ _ r h => by simp [impl_firstSeed_at_impl_FirstSeed_1.j0] at h, fun _ _ _ _ r h => by simp [impl_firstSeed_at_impl_FirstSeed_1.l0] at h⟩
 | k + 1 => by
  obtain ⟨ih0, ih1⟩ := impl_firstSeed_at_impl_FirstSeed_1.mono_l k; refine ⟨?_, ?_⟩
  ·intro y0 y1 y2 y3 y4
   unfold impl_firstSeed_at_impl_FirstSeed_1.j0
   repeat' first | (with_reducible first | exact ih0 _ _ _ _ _ | exact ih1 _ _ _ _ | exact impl_FirstSeed_1.mono _ _ _ _ | exact LeO.refl _ | exact LeO.none _ | refine LeO.ite ?_ ?_ | refine LeO.bind ?_ (fun _ => ?_)) | exact LeO.none _ | refine LeO.ite ?_ ?_ | refine LeO.bind ?_ (fun _ => ?_)
  ·intro y0 y1 y2 y3
   unfold impl_firstSeed_at_impl_FirstSeed_1.l0
   repeat' first | (with_reducible first | exact ih0 _ _ _ _ _ | exact ih1 _ _ _ _ | exact impl_FirstSeed_1.mono _ _ _ _ | exact LeO.refl _ | exact LeO.none _ | refine LeO.ite ?_ ?_ | refine LeO.bind ?_ (fun _ => ?_)) | exact LeO.none _ | refine LeO.ite ?_ ?_ | refine LeO.bind ?_ (fun _ => ?_)
theorem impl_firstSeed_at_impl_FirstSeed_1.mono : ∀ a0 a1 a2 a3 k, LeO (impl_firstSeed_at_impl_FirstSeed_1.f k a0 a1 a2 a3) (impl_firstSeed_at_impl_FirstSeed_1.f (k + 1) a0 a1 a2 a3) := by
 intro a0 a1 a2 a3 k; obtain ⟨ih0, ih1⟩ := impl_firstSeed_at_impl_FirstSeed_1.mono_l k
 unfold impl_firstSeed_at_impl_FirstSeed_1.f
 repeat' first | (with_reducible first | exact ih0 _ _ _ _ _ | exact ih1 _ _ _ _ | exact impl_FirstSeed_1.mono _ _ _ _ | exact LeO.refl _ | exact LeO.none _ | refine LeO.ite ?_ ?_ | refine LeO.bind ?_ (fun _ => ?_)) | exact LeO.none _ | refine LeO.ite ?_ ?_ | refine LeO.bind ?_ (fun _ => ?_)
theorem impl_firstSeed_at_impl_FirstSeed_1.calls (k : Nat) (a0 : Int) (a1 : Int)  (g3 : Nat) (A3_0 : Option Addr) (c3_0 : Nat) (l3_0 : List ByteArray) (g4 : Nat) (a4_0 : Int) (r1 : Int) (r2 : Bool) (w : World) (hb3 : w.heap[g3]? = some (.cells #[.slice A3_0 l3_0.length c3_0] 24 (0, 0))) (hr3_0 : Kd.C Kd.string w A3_0 l3_0.length l3_0) (hc3_0 : l3_0.length ≤ c3_0) (hb4 : w.heap[g4]? = some (.cells #[.int .i64 a4_0] 3 (0, 0))) (h : impl_firstSeed_at_impl_FirstSeed_1.f k a0 a1 l3_0 a4_0 = some (r1, r2)) :
  Calls Try.prog 71 #[.int .i64 a0, .int .i64 a1, .func (.func 122) #[] #[.pointer (some ⟨g3, 0, none⟩), .pointer (some ⟨g4, 0, none⟩)]] w fun e w' => e = .returned (.tuple #[.int .i64 r1, .bool r2]) ∧ Below w.heap.size w w' := by
 have HR3_0 := am hr3_0; have HC3_0 := am hc3_0; clear hr3_0 hc3_0; have BK3 := am hb3; clear hb3; have BK4 := am hb4; clear hb4; have HB := am (Below.refl w.heap.size w); have H : (if a0 < 0 then (impl_firstSeed_at_impl_FirstSeed_1.j0 k a0 a1 true l3_0 a4_0) else (if a0 > a1 then (impl_firstSeed_at_impl_FirstSeed_1.j0 k a0 a1 true l3_0 a4_0) else (if a1 > 10000 then (impl_firstSeed_at_impl_FirstSeed_1.j0 k a0 a1 true l3_0 a4_0) else (impl_firstSeed_at_impl_FirstSeed_1.j0 k a0 a1 (decide (a1 > (wrap64 (a0 + 100)))) l3_0 a4_0)))) = some (r1, r2) := h; clear h; have HC6 := am H; clear H
 go_enter Try.func71, Try.ntmps71
 go_upto_region 1 with (fail)
 go_cut [25] (fun v25 wc => ∃ (kq : Nat) (x25_5 : Bool), v25 = .bool x25_5 ∧ Aside0 (impl_firstSeed_at_impl_FirstSeed_1.j0 kq a0 a1 x25_5 l3_0 a4_0 = some (r1, r2)) ∧ Aside0 (kq ≤ k) ∧ Aside0 (wc.heap[g3]? = some (.cells #[(.slice A3_0 l3_0.length c3_0)] 24 (0, 0))) ∧ Aside0 (wc.heap[g4]? = some (.cells #[.int .i64 a4_0] 3 (0, 0))) ∧ Aside0 (Below w.heap.size w wc))
 case first =>
  have H := HC6.out; clear HC6
  by_cases c7 : a0 < 0
  ·rw [if_pos c7] at H
   have c7b0 : decide (a0 < 0) = true := decide_eq_true c7; clear c7
   (first | rw [c7b0] | (simp only [i64_w, i32_w]; rw [c7b0]) | skip)
   have H' := am H; clear H
   go_wp2
   go_meet
   case rel => exact ⟨_, (true), wZ, H', ⟨by first | omega | exact Nat.le_refl _⟩, ⟨Kz BK3.out⟩, ⟨Kz BK4.out⟩, ⟨Bq⟩⟩
  ·rw [if_neg c7] at H
   have c7b0 : decide (a0 < 0) = false := decide_eq_false c7; clear c7
   (first | rw [c7b0] | (simp only [i64_w, i32_w]; rw [c7b0]) | skip)
   by_cases c8 : a0 > a1
   ·rw [if_pos c8] at H
    have c8b0 : decide (a1 < a0) = true := decide_eq_true c8; clear c8; have H' := am H; clear H
    go_wp2
    go_meet
    case rel => exact ⟨_, (true), wZ, H', ⟨by first | omega | exact Nat.le_refl _⟩, ⟨Kz BK3.out⟩, ⟨Kz BK4.out⟩, ⟨Bq⟩⟩
   ·rw [if_neg c8] at H
    have c8b0 : decide (a1 < a0) = false := decide_eq_false c8; clear c8
    by_cases c9 : a1 > 10000
    ·rw [if_pos c9] at H
     have c9b0 : decide (10000 < a1) = true := decide_eq_true c9; clear c9; have H' := am H; clear H
     go_wp2
     go_meet
     case rel => exact ⟨_, (true), wZ, H', ⟨by first | omega | exact Nat.le_refl _⟩, ⟨Kz BK3.out⟩, ⟨Kz BK4.out⟩, ⟨Bq⟩⟩
    ·rw [if_neg c9] at H
     have c9b0 : decide (10000 < a1) = false := decide_eq_false c9; clear c9; have H' := am H; clear H
     go_wp2
     go_meet
     case rel => exact ⟨_, (decide (a1 > (wrap64 (a0 + 100)))), wZ, H', ⟨by first | omega | exact Nat.le_refl _⟩, ⟨Kz BK3.out⟩, ⟨Kz BK4.out⟩, ⟨Bq⟩⟩
 case rest =>
  clear HC6
  try clear p2
  try clear c3
  try clear p6
  try clear c7
  try clear c7b0
  try clear c8
  try clear c8b0
  try clear c9
  try clear c9b0
  obtain ⟨kq, x25_5, rfl, HA, HJ5, BK3, BK4, HB⟩ := hcut; cases kq with
  | zero => exact absurd HA.out (by simp [impl_firstSeed_at_impl_FirstSeed_1.j0])
  | succ kj5 =>
   have H := HA.out; clear HA
   simp only [impl_firstSeed_at_impl_FirstSeed_1.j0] at H
   by_cases c10 : x25_5 = true
   ·subst c10
    rw [if_pos rfl] at H
    simp only [Option.some.injEq, Prod.mk.injEq] at H
    obtain ⟨rfl, rfl⟩ := H
    go_wp2
    go_ret2
    exact ⟨eZ, Bq⟩
   ·replace c10 := Bool.eq_false_iff.mpr c10
    subst c10
    rw [if_neg (show ¬ (false = true) by decide)] at H; have H' := am H; clear H
    go_wp2
    go_loopg [8] kj5 (fun kq v8 w' => ∃ (x8_2 : Int), v8 = .int .i64 x8_2 ∧ Aside0 (impl_firstSeed_at_impl_FirstSeed_1.l0 kq a1 x8_2 l3_0 a4_0 = some (r1, r2)) ∧ Aside0 (kq ≤ kj5) ∧ Aside0 (w'.heap[g3]? = some (.cells #[(.slice A3_0 l3_0.length c3_0)] 24 (0, 0))) ∧ Aside0 (w'.heap[g4]? = some (.cells #[.int .i64 a4_0] 3 (0, 0))) ∧ Aside0 (Below w.heap.size w w'))
    case atStart => exact ⟨(a0), wZ, H', ⟨Nat.le_refl _⟩, ⟨Kz BK3.out⟩, ⟨Kz BK4.out⟩, ⟨Bq⟩⟩
    case round =>
     clear H'
     try clear c1
     try clear p2
     try clear c3
     try clear p6
     try clear c7
     try clear c7b0
     try clear c8
     try clear c8b0
     try clear c9
     try clear c9b0
     try clear c10
     try clear p2
     try clear p6
     obtain ⟨x8_2, rfl, HA, HK2, BK3, BK4, HB⟩ := hrel; cases gk with
     | zero => exact absurd HA.out (by simp [impl_firstSeed_at_impl_FirstSeed_1.l0])
     | succ k2 =>
      have H := HA.out; clear HA
      simp only [impl_firstSeed_at_impl_FirstSeed_1.l0] at H
      by_cases c11 : x8_2 < a1
      ·rw [if_pos c11] at H
       have c11b0 : decide (x8_2 < a1) = true := decide_eq_true c11; clear c11; replace H := Option.bind_eq_some_iff.mp H; obtain ⟨t779, A120, H⟩ := H; (try dsimp -simprocs only at H); have A12 := am A120; clear A120
       by_cases c13 : t779 = true
       ·subst c13
        rw [if_pos rfl] at H
        simp only [Option.some.injEq, Prod.mk.injEq] at H
        obtain ⟨rfl, rfl⟩ := H
        go_wp2_with (first | (go_at_call 122; (with_reducible refine (impl_FirstSeed_1.calls k2 x8_2 g3 A3_0 c3_0 l3_0 g4 a4_0 true _ ?side1 ?side2 ?side3 ?side4 A12.out).mono ?_); (case side1 => exact Kz BK3.out); (case side2 => exact Cz (Kd.C_below HR3_0.out HB.out)); (case side3 => exact HC3_0.out); (case side4 => exact Kz BK4.out); rintro e w14 ⟨rfl, hb⟩; have n0_ := Kb BK3 hb; have n1_ := Kb BK4 hb; have n2_ := Bc HB hb; clear BK3 BK4 HB; revert n0_ n1_ n2_; intro BK3 BK4 HB; (try clear hb); (try clear hb2); (try clear hk); (try clear hi)))
        go_ret2
        exact ⟨eZ, Bq⟩
       ·replace c13 := Bool.eq_false_iff.mpr c13
        subst c13
        rw [if_neg (show ¬ (false = true) by decide)] at H; have H' := am H; clear H
        go_wp2_with (first | (go_at_call 122; (with_reducible refine (impl_FirstSeed_1.calls k2 x8_2 g3 A3_0 c3_0 l3_0 g4 a4_0 false _ ?side1 ?side2 ?side3 ?side4 A12.out).mono ?_); (case side1 => exact Kz BK3.out); (case side2 => exact Cz (Kd.C_below HR3_0.out HB.out)); (case side3 => exact HC3_0.out); (case side4 => exact Kz BK4.out); rintro e w15 ⟨rfl, hb⟩; have n0_ := Kb BK3 hb; have n1_ := Kb BK4 hb; have n2_ := Bc HB hb; clear BK3 BK4 HB; revert n0_ n1_ n2_; intro BK3 BK4 HB; (try clear hb); (try clear hb2); (try clear hk); (try clear hi)))
        go_roundg k2
        case measure => have := HJ5.out; have := HK2.out; omega
        case rel => exact ⟨(wrap64 (x8_2 + 1)), wZ, H', ⟨by have := HJ5.out; have := HK2.out; omega⟩, ⟨Kz BK3.out⟩, ⟨Kz BK4.out⟩, ⟨Bq⟩⟩
      ·rw [if_neg c11] at H
       have c11b0 : decide (x8_2 < a1) = false := decide_eq_false c11; clear c11
       simp only [Option.some.injEq, Prod.mk.injEq] at H
       obtain ⟨rfl, rfl⟩ := H
       go_wp2
       go_ret2
       exact ⟨eZ, Bq⟩

/-! ### impl_FirstSeed: function 50 -/
def impl_FirstSeed.f (k : Nat) (l0 : List ByteArray) (a1 : Int) (a2 : Int) (a3 : Int) : Option (Int × Bool) := (impl_AreKeys.f k l0).bind fun t782 => (if t782 = true then ((impl_segmentOk.f a1).bind fun t783 => (if t783 = true then ((impl_firstSeed_at_impl_FirstSeed_1.f k a2 a3 l0 a1).bind fun bt784 => (some (bt784.1, bt784.2))) else (some (0, false)))) else (some (0, false)))
theorem impl_FirstSeed.mono : ∀ a0 a1 a2 a3 k, LeO (impl_FirstSeed.f k a0 a1 a2 a3) (impl_FirstSeed.f (k + 1) a0 a1 a2 a3) := by
 intro a0 a1 a2 a3 k
 unfold impl_FirstSeed.f
 repeat' first | (with_reducible first | exact impl_AreKeys.mono _ _ | exact impl_firstSeed_at_impl_FirstSeed_1.mono _ _ _ _ _ | exact LeO.refl _ | exact LeO.none _ | refine LeO.ite ?_ ?_ | refine LeO.bind ?_ (fun _ => ?_)) | exact LeO.none _ | refine LeO.ite ?_ ?_ | refine LeO.bind ?_ (fun _ => ?_)
theorem impl_FirstSeed.calls (k : Nat) (A0 : Option Addr) (c0 : Nat) (l0 : List ByteArray) (a1 : Int) (a2 : Int) (a3 : Int) (r1 : Int) (r2 : Bool) (w : World) (hr0 : Kd.C Kd.string w A0 l0.length l0) (hc0 : l0.length ≤ c0) (h : impl_FirstSeed.f k l0 a1 a2 a3 = some (r1, r2)) :
  Calls Try.prog 50 #[.slice A0 l0.length c0, .int .i64 a1, .int .i64 a2, .int .i64 a3] w fun e w' => e = .returned (.tuple #[.int .i64 r1, .bool r2]) ∧ Below w.heap.size w w' := by
 have HR0 := am hr0; have HC0 := am hc0; clear hr0 hc0; have HB := am (Below.refl w.heap.size w); have H : ((impl_AreKeys.f k l0).bind fun t782 => (if t782 = true then ((impl_segmentOk.f a1).bind fun t783 => (if t783 = true then ((impl_firstSeed_at_impl_FirstSeed_1.f k a2 a3 l0 a1).bind fun bt784 => (some (bt784.1, bt784.2))) else (some (0, false)))) else (some (0, false)))) = some (r1, r2) := h; clear h; replace H := Option.bind_eq_some_iff.mp H; obtain ⟨t782, A50, H⟩ := H; (try dsimp -simprocs only at H); have A5 := am A50; clear A50
 by_cases c6 : t782 = true
 ·subst c6
  rw [if_pos rfl] at H; replace H := Option.bind_eq_some_iff.mp H; obtain ⟨t783, A70, H⟩ := H; (try dsimp -simprocs only at H); have A7 := am A70; clear A70
  by_cases c8 : t783 = true
  ·subst c8
   rw [if_pos rfl] at H; replace H := Option.bind_eq_some_iff.mp H; obtain ⟨⟨t784, t785⟩, A90, H⟩ := H; (try dsimp -simprocs only at H); have A9 := am A90; clear A90
   simp only [Option.some.injEq, Prod.mk.injEq] at H
   obtain ⟨rfl, rfl⟩ := H
   go_enter Try.func50, Try.ntmps50
   go_wp2_with (first | ((with_reducible refine gate_dst (N := 4) rfl ?_); refine bE 4 #[.slice A0 l0.length c0] 24 ?_; intro gb780 hg w10 hbox hb; have n0_ := Bb HB hb; have n1_ := am (hbox); have n2_ := Gl HB hg; have n3_ := Gl HB hg; clear HB; revert n0_ n1_ n2_ n3_; intro HB BK780 GW780 GE780; clear hb hbox hg) | ((with_reducible refine gate_dst (N := 5) rfl ?_); refine bE 5 #[.int .i64 a1] 3 ?_; intro gb781 hg w11 hbox hb; have n0_ := Kb BK780 hb; have n1_ := Bc HB hb; have n2_ := am (hbox); have n3_ := Gm HB hg; have n4_ := Gm HB hg; have n5_ := Nl BK780 hg; have n6_ := Ng BK780 hg; clear BK780 HB; revert n0_ n1_ n2_ n3_ n4_ n5_ n6_; intro BK780 HB BK781 GW781 GE781 NB780_781 NB781_780; clear hb hbox hg; have hnb12 := NB780_781.out; have hnc12 := NB781_780.out; obtain ⟨hcz13_0, hfz13_0⟩ := cf1 (w := w11) BK780) | ((with_reducible refine gate_callee (f := 69) rfl ?_); refine gL (some 11) Try.func69 #[.slice A0 l0.length c0] ?_; (with_reducible refine (impl_AreKeys.calls k _ _ l0 true _ ?side1 ?side2 A5.out).mono ?_); (case side1 => exact Cz (Kd.C_below HR0.out HB.out)); (case side2 => exact HC0.out); rintro e w' ⟨rfl, ⟨nd, rfl⟩⟩; refine ⟨_, rfl, ?_⟩; obtain ⟨hcz14_0, hfz14_0⟩ := cf1 (w := w11) BK781) | (go_at_call 112; (with_reducible refine (impl_segmentOk.calls a1 true _ A7.out).mono ?_); rintro e w' ⟨rfl, ⟨nd, rfl⟩⟩) | ((with_reducible refine gate_callee (f := 71) rfl ?_); refine gL (some 21) Try.func71 #[.int .i64 a2, .int .i64 a3, .func (.func 122) #[] #[.pointer (some ⟨gb780, 0, none⟩), .pointer (some ⟨gb781, 0, none⟩)]] ?_; (with_reducible refine (impl_firstSeed_at_impl_FirstSeed_1.calls k a2 a3  gb780 A0 c0 l0 gb781 a1 t784 t785 _ ?side1 ?side2 ?side3 ?side4 A9.out).mono ?_); (case side1 => exact Kz BK780.out); (case side2 => exact Cz (Kd.C_below HR0.out (Bq))); (case side3 => exact HC0.out); (case side4 => exact Kz BK781.out); rintro e w15 ⟨rfl, hb⟩; refine ⟨_, rfl, ?_⟩; have n0_ := Kb BK780 hb; have n1_ := Kb BK781 hb; have n2_ := Bc HB hb; clear BK780 BK781 HB; revert n0_ n1_ n2_; intro BK780 BK781 HB; (try clear hb); (try clear hb2); (try clear hk); (try clear hi)))
   go_ret2
   exact ⟨eZ, Bq⟩
  ·replace c8 := Bool.eq_false_iff.mpr c8
   subst c8
   rw [if_neg (show ¬ (false = true) by decide)] at H
   simp only [Option.some.injEq, Prod.mk.injEq] at H
   obtain ⟨rfl, rfl⟩ := H
   go_enter Try.func50, Try.ntmps50
   go_wp2_with (first | ((with_reducible refine gate_dst (N := 4) rfl ?_); refine bE 4 #[.slice A0 l0.length c0] 24 ?_; intro gb780 hg w16 hbox hb; have n0_ := Bb HB hb; have n1_ := am (hbox); have n2_ := Gl HB hg; have n3_ := Gl HB hg; clear HB; revert n0_ n1_ n2_ n3_; intro HB BK780 GW780 GE780; clear hb hbox hg) | ((with_reducible refine gate_dst (N := 5) rfl ?_); refine bE 5 #[.int .i64 a1] 3 ?_; intro gb781 hg w17 hbox hb; have n0_ := Kb BK780 hb; have n1_ := Bc HB hb; have n2_ := am (hbox); have n3_ := Gm HB hg; have n4_ := Gm HB hg; have n5_ := Nl BK780 hg; have n6_ := Ng BK780 hg; clear BK780 HB; revert n0_ n1_ n2_ n3_ n4_ n5_ n6_; intro BK780 HB BK781 GW781 GE781 NB780_781 NB781_780; clear hb hbox hg; have hnb18 := NB780_781.out; have hnc18 := NB781_780.out; obtain ⟨hcz19_0, hfz19_0⟩ := cf1 (w := w17) BK780) | ((with_reducible refine gate_callee (f := 69) rfl ?_); refine gL (some 11) Try.func69 #[.slice A0 l0.length c0] ?_; (with_reducible refine (impl_AreKeys.calls k _ _ l0 true _ ?side1 ?side2 A5.out).mono ?_); (case side1 => exact Cz (Kd.C_below HR0.out HB.out)); (case side2 => exact HC0.out); rintro e w' ⟨rfl, ⟨nd, rfl⟩⟩; refine ⟨_, rfl, ?_⟩; obtain ⟨hcz20_0, hfz20_0⟩ := cf1 (w := w17) BK781) | (go_at_call 112; (with_reducible refine (impl_segmentOk.calls a1 false _ A7.out).mono ?_); rintro e w' ⟨rfl, ⟨nd, rfl⟩⟩))
   go_ret2
   exact ⟨eZ, Bq⟩
 ·replace c6 := Bool.eq_false_iff.mpr c6
  subst c6
  rw [if_neg (show ¬ (false = true) by decide)] at H
  simp only [Option.some.injEq, Prod.mk.injEq] at H
  obtain ⟨rfl, rfl⟩ := H
  go_enter Try.func50, Try.ntmps50
  go_wp2_with (first | ((with_reducible refine gate_dst (N := 4) rfl ?_); refine bE 4 #[.slice A0 l0.length c0] 24 ?_; intro gb780 hg w21 hbox hb; have n0_ := Bb HB hb; have n1_ := am (hbox); have n2_ := Gl HB hg; have n3_ := Gl HB hg; clear HB; revert n0_ n1_ n2_ n3_; intro HB BK780 GW780 GE780; clear hb hbox hg) | ((with_reducible refine gate_dst (N := 5) rfl ?_); refine bE 5 #[.int .i64 a1] 3 ?_; intro gb781 hg w22 hbox hb; have n0_ := Kb BK780 hb; have n1_ := Bc HB hb; have n2_ := am (hbox); have n3_ := Gm HB hg; have n4_ := Gm HB hg; have n5_ := Nl BK780 hg; have n6_ := Ng BK780 hg; clear BK780 HB; revert n0_ n1_ n2_ n3_ n4_ n5_ n6_; intro BK780 HB BK781 GW781 GE781 NB780_781 NB781_780; clear hb hbox hg; have hnb23 := NB780_781.out; have hnc23 := NB781_780.out; obtain ⟨hcz24_0, hfz24_0⟩ := cf1 (w := w22) BK780) | ((with_reducible refine gate_callee (f := 69) rfl ?_); refine gL (some 11) Try.func69 #[.slice A0 l0.length c0] ?_; (with_reducible refine (impl_AreKeys.calls k _ _ l0 false _ ?side1 ?side2 A5.out).mono ?_); (case side1 => exact Cz (Kd.C_below HR0.out HB.out)); (case side2 => exact HC0.out); rintro e w' ⟨rfl, ⟨nd, rfl⟩⟩; refine ⟨_, rfl, ?_⟩))
  go_ret2
  exact ⟨eZ, Bq⟩

/-! ### spec_FirstSeed: function 51 -/
mutual
def spec_FirstSeed.j0 : Nat → List ByteArray → Int → Int → Int → Bool → Option (Int × Bool)
 | 0, _, _, _, _, _ => none
 | k + 1, x0, x1, x2, x3, x28 => if x28 = true then (some (0, false)) else (spec_FirstSeed.l0 k x0 x1 x3 x2)
def spec_FirstSeed.l0 : Nat → List ByteArray → Int → Int → Int → Option (Int × Bool)
 | 0, _, _, _, _ => none
 | k + 1, x0, x1, x3, x10 => if x10 < x3 then ((spec_pePeels.f k x10 x0 x1).bind fun t790 => (if t790 = true then (some (x10, true)) else (spec_FirstSeed.l0 k x0 x1 x3 (wrap64 (x10 + 1))))) else (some (0, false))
end
def spec_FirstSeed.f (k : Nat) (l0 : List ByteArray) (a1 : Int) (a2 : Int) (a3 : Int) : Option (Int × Bool) := (spec_peKeyed.f k 0 l0 a1).bind fun t786 => (if t786 = true then ((spec_l1In.f a3 0 10000).bind fun t787 => (if t787 = true then ((spec_l1Most.f 0 (wrap64 (a3 - 100))).bind fun t788 => ((spec_l1In.f a2 t788 a3).bind fun t789 => (spec_FirstSeed.j0 k l0 a1 a2 a3 (!t789)))) else (spec_FirstSeed.j0 k l0 a1 a2 a3 true))) else (spec_FirstSeed.j0 k l0 a1 a2 a3 true))
theorem spec_FirstSeed.mono_l : ∀ k, (∀ y0 y1 y2 y3 y4, LeO (spec_FirstSeed.j0 k y0 y1 y2 y3 y4) (spec_FirstSeed.j0 (k + 1) y0 y1 y2 y3 y4)) ∧ (∀ y0 y1 y2 y3, LeO (spec_FirstSeed.l0 k y0 y1 y2 y3) (spec_FirstSeed.l0 (k + 1) y0 y1 y2 y3))
 | 0 => ⟨fun _ _ _ _ _ r h => by simp [spec_FirstSeed.j0] at h, fun _ _ _ _ r h => by simp [spec_FirstSeed.l0] at h⟩
 | k + 1 => by
  obtain ⟨ih0, ih1⟩ := spec_FirstSeed.mono_l k; refine ⟨?_, ?_⟩
  ·intro y0 y1 y2 y3 y4
   unfold spec_FirstSeed.j0
   repeat' first | (with_reducible first | exact ih0 _ _ _ _ _ | exact ih1 _ _ _ _ | exact spec_peKeyed.mono _ _ _ _ | exact spec_pePeels.mono _ _ _ _ | exact LeO.refl _ | exact LeO.none _ | refine LeO.ite ?_ ?_ | refine LeO.bind ?_ (fun _ => ?_)) | exact LeO.none _ | refine LeO.ite ?_ ?_ | refine LeO.bind ?_ (fun _ => ?_)
  ·intro y0 y1 y2 y3
   unfold spec_FirstSeed.l0
   repeat' first | (with_reducible first | exact ih0 _ _ _ _ _ | exact ih1 _ _ _ _ | exact spec_peKeyed.mono _ _ _ _ | exact spec_pePeels.mono _ _ _ _ | exact LeO.refl _ | exact LeO.none _ | refine LeO.ite ?_ ?_ | refine LeO.bind ?_ (fun _ => ?_)) | exact LeO.none _ | refine LeO.ite ?_ ?_ | refine LeO.bind ?_ (fun _ => ?_)
theorem spec_FirstSeed.mono : ∀ a0 a1 a2 a3 k, LeO (spec_FirstSeed.f k a0 a1 a2 a3) (spec_FirstSeed.f (k + 1) a0 a1 a2 a3) := by
 intro a0 a1 a2 a3 k; obtain ⟨ih0, ih1⟩ := spec_FirstSeed.mono_l k
 unfold spec_FirstSeed.f
 repeat' first | (with_reducible first | exact ih0 _ _ _ _ _ | exact ih1 _ _ _ _ | exact spec_peKeyed.mono _ _ _ _ | exact spec_pePeels.mono _ _ _ _ | exact LeO.refl _ | exact LeO.none _ | refine LeO.ite ?_ ?_ | refine LeO.bind ?_ (fun _ => ?_)) | exact LeO.none _ | refine LeO.ite ?_ ?_ | refine LeO.bind ?_ (fun _ => ?_)
theorem spec_FirstSeed.calls (k : Nat) (A0 : Option Addr) (c0 : Nat) (l0 : List ByteArray) (a1 : Int) (a2 : Int) (a3 : Int) (r1 : Int) (r2 : Bool) (w : World) (hr0 : Kd.C Kd.string w A0 l0.length l0) (hc0 : l0.length ≤ c0) (h : spec_FirstSeed.f k l0 a1 a2 a3 = some (r1, r2)) :
  Calls Try.prog 51 #[.slice A0 l0.length c0, .int .i64 a1, .int .i64 a2, .int .i64 a3] w fun e w' => e = .returned (.tuple #[.int .i64 r1, .bool r2]) ∧ Below w.heap.size w w' := by
 have HR0 := am hr0; have HC0 := am hc0; clear hr0 hc0; have HB := am (Below.refl w.heap.size w); have H : ((spec_peKeyed.f k 0 l0 a1).bind fun t786 => (if t786 = true then ((spec_l1In.f a3 0 10000).bind fun t787 => (if t787 = true then ((spec_l1Most.f 0 (wrap64 (a3 - 100))).bind fun t788 => ((spec_l1In.f a2 t788 a3).bind fun t789 => (spec_FirstSeed.j0 k l0 a1 a2 a3 (!t789)))) else (spec_FirstSeed.j0 k l0 a1 a2 a3 true))) else (spec_FirstSeed.j0 k l0 a1 a2 a3 true))) = some (r1, r2) := h; clear h; have HC5 := am H; clear H
 go_enter Try.func51, Try.ntmps51
 go_upto_region 1 with (fail)
 go_cut [28] (fun v28 wc => ∃ (kq : Nat) (x28_4 : Bool), v28 = .bool x28_4 ∧ Aside0 (spec_FirstSeed.j0 kq l0 a1 a2 a3 x28_4 = some (r1, r2)) ∧ Aside0 (kq ≤ k) ∧ Aside0 (Below w.heap.size w wc))
 case first =>
  have H := HC5.out; clear HC5; replace H := Option.bind_eq_some_iff.mp H; obtain ⟨t786, A60, H⟩ := H; (try dsimp -simprocs only at H); have A6 := am A60; clear A60
  by_cases c7 : t786 = true
  ·subst c7
   rw [if_pos rfl] at H; replace H := Option.bind_eq_some_iff.mp H; obtain ⟨t787, A80, H⟩ := H; (try dsimp -simprocs only at H); have A8 := am A80; clear A80
   by_cases c9 : t787 = true
   ·subst c9
    rw [if_pos rfl] at H; replace H := Option.bind_eq_some_iff.mp H; obtain ⟨t788, A100, H⟩ := H; (try dsimp -simprocs only at H); have A10 := am A100; clear A100; replace H := Option.bind_eq_some_iff.mp H; obtain ⟨t789, A110, H⟩ := H; (try dsimp -simprocs only at H); have A11 := am A110; clear A110; have H' := am H; clear H
    go_wp2_with (first | ((with_reducible refine gate_callee (f := 114) rfl ?_); refine gL (some 13) Try.func114 #[.int .i64 0, .slice A0 l0.length c0, .int .i64 a1] ?_; (with_reducible refine (spec_peKeyed.calls k 0 _ _ l0 a1 true _ ?side1 ?side2 A6.out).mono ?_); (case side1 => exact Cz (Kd.C_below HR0.out HB.out)); (case side2 => exact HC0.out); rintro e w' ⟨rfl, ⟨nd, rfl⟩⟩; refine ⟨_, rfl, ?_⟩) | (go_at_call 76; (with_reducible refine (spec_l1In.calls a3 0 10000 true _ A8.out).mono ?_); rintro e w' ⟨rfl, ⟨nd, rfl⟩⟩) | (go_at_call 77; (with_reducible refine (spec_l1Most.calls 0 (wrap64 (a3 - 100)) t788 _ A10.out).mono ?_); rintro e w' ⟨rfl, ⟨nd, rfl⟩⟩) | (go_at_call 76; (with_reducible refine (spec_l1In.calls a2 t788 a3 t789 _ A11.out).mono ?_); rintro e w' ⟨rfl, ⟨nd, rfl⟩⟩))
    go_meet
    case rel => exact ⟨_, (!t789), wZ, H', ⟨by first | omega | exact Nat.le_refl _⟩, ⟨Bz HB.out⟩⟩
   ·replace c9 := Bool.eq_false_iff.mpr c9
    subst c9
    rw [if_neg (show ¬ (false = true) by decide)] at H; have H' := am H; clear H
    go_wp2_with (first | ((with_reducible refine gate_callee (f := 114) rfl ?_); refine gL (some 13) Try.func114 #[.int .i64 0, .slice A0 l0.length c0, .int .i64 a1] ?_; (with_reducible refine (spec_peKeyed.calls k 0 _ _ l0 a1 true _ ?side1 ?side2 A6.out).mono ?_); (case side1 => exact Cz (Kd.C_below HR0.out HB.out)); (case side2 => exact HC0.out); rintro e w' ⟨rfl, ⟨nd, rfl⟩⟩; refine ⟨_, rfl, ?_⟩) | (go_at_call 76; (with_reducible refine (spec_l1In.calls a3 0 10000 false _ A8.out).mono ?_); rintro e w' ⟨rfl, ⟨nd, rfl⟩⟩))
    go_meet
    case rel => exact ⟨_, (true), wZ, H', ⟨by first | omega | exact Nat.le_refl _⟩, ⟨Bz HB.out⟩⟩
  ·replace c7 := Bool.eq_false_iff.mpr c7
   subst c7
   rw [if_neg (show ¬ (false = true) by decide)] at H; have H' := am H; clear H
   go_wp2_with (first | ((with_reducible refine gate_callee (f := 114) rfl ?_); refine gL (some 13) Try.func114 #[.int .i64 0, .slice A0 l0.length c0, .int .i64 a1] ?_; (with_reducible refine (spec_peKeyed.calls k 0 _ _ l0 a1 false _ ?side1 ?side2 A6.out).mono ?_); (case side1 => exact Cz (Kd.C_below HR0.out HB.out)); (case side2 => exact HC0.out); rintro e w' ⟨rfl, ⟨nd, rfl⟩⟩; refine ⟨_, rfl, ?_⟩))
   go_meet
   case rel => exact ⟨_, (true), wZ, H', ⟨by first | omega | exact Nat.le_refl _⟩, ⟨Bz HB.out⟩⟩
 case rest =>
  clear HC5
  try clear c1
  try clear p2
  try clear c5
  try clear p6
  try clear c7
  try clear c9
  try clear c11
  obtain ⟨kq, x28_4, rfl, HA, HJ4, HB⟩ := hcut; cases kq with
  | zero => exact absurd HA.out (by simp [spec_FirstSeed.j0])
  | succ kj4 =>
   have H := HA.out; clear HA
   simp only [spec_FirstSeed.j0] at H
   by_cases c12 : x28_4 = true
   ·subst c12
    rw [if_pos rfl] at H
    simp only [Option.some.injEq, Prod.mk.injEq] at H
    obtain ⟨rfl, rfl⟩ := H
    go_wp2
    go_ret2
    exact ⟨eZ, Bz HB.out⟩
   ·replace c12 := Bool.eq_false_iff.mpr c12
    subst c12
    rw [if_neg (show ¬ (false = true) by decide)] at H; have H' := am H; clear H
    go_wp2
    go_loopg [10] kj4 (fun kq v10 w' => ∃ (x10_2 : Int), v10 = .int .i64 x10_2 ∧ Aside0 (spec_FirstSeed.l0 kq l0 a1 a3 x10_2 = some (r1, r2)) ∧ Aside0 (kq ≤ kj4) ∧ Aside0 (Below w.heap.size w w'))
    case atStart => exact ⟨(a2), wZ, H', ⟨Nat.le_refl _⟩, ⟨Bz HB.out⟩⟩
    case round =>
     clear H'
     try clear c1
     try clear p2
     try clear c5
     try clear p6
     try clear c7
     try clear c9
     try clear c11
     try clear c12
     try clear p2
     try clear p6
     obtain ⟨x10_2, rfl, HA, HK2, HB⟩ := hrel; cases gk with
     | zero => exact absurd HA.out (by simp [spec_FirstSeed.l0])
     | succ k2 =>
      have H := HA.out; clear HA
      simp only [spec_FirstSeed.l0] at H
      by_cases c13 : x10_2 < a3
      ·rw [if_pos c13] at H
       have c13b0 : decide (x10_2 < a3) = true := decide_eq_true c13; clear c13; replace H := Option.bind_eq_some_iff.mp H; obtain ⟨t790, A140, H⟩ := H; (try dsimp -simprocs only at H); have A14 := am A140; clear A140
       by_cases c15 : t790 = true
       ·subst c15
        rw [if_pos rfl] at H
        simp only [Option.some.injEq, Prod.mk.injEq] at H
        obtain ⟨rfl, rfl⟩ := H
        go_wp2_with (first | ((with_reducible refine gate_callee (f := 115) rfl ?_); refine gL (some 38) Try.func115 #[.int .i64 x10_2, .slice A0 l0.length c0, .int .i64 a1] ?_; (with_reducible refine (spec_pePeels.calls k2 x10_2 _ _ l0 a1 true _ ?side1 ?side2 A14.out).mono ?_); (case side1 => exact Cz (Kd.C_below HR0.out HB.out)); (case side2 => exact HC0.out); rintro e w16 ⟨rfl, hb⟩; refine ⟨_, rfl, ?_⟩; have n0_ := Bb HB hb; clear HB; revert n0_; intro HB; (try clear hb); (try clear hb2); (try clear hk); (try clear hi)))
        go_ret2
        exact ⟨eZ, Bz HB.out⟩
       ·replace c15 := Bool.eq_false_iff.mpr c15
        subst c15
        rw [if_neg (show ¬ (false = true) by decide)] at H; have H' := am H; clear H
        go_wp2_with (first | ((with_reducible refine gate_callee (f := 115) rfl ?_); refine gL (some 38) Try.func115 #[.int .i64 x10_2, .slice A0 l0.length c0, .int .i64 a1] ?_; (with_reducible refine (spec_pePeels.calls k2 x10_2 _ _ l0 a1 false _ ?side1 ?side2 A14.out).mono ?_); (case side1 => exact Cz (Kd.C_below HR0.out HB.out)); (case side2 => exact HC0.out); rintro e w17 ⟨rfl, hb⟩; refine ⟨_, rfl, ?_⟩; have n0_ := Bb HB hb; clear HB; revert n0_; intro HB; (try clear hb); (try clear hb2); (try clear hk); (try clear hi)))
        go_roundg k2
        case measure => have := HJ4.out; have := HK2.out; omega
        case rel => exact ⟨(wrap64 (x10_2 + 1)), wZ, H', ⟨by have := HJ4.out; have := HK2.out; omega⟩, ⟨Bz HB.out⟩⟩
      ·rw [if_neg c13] at H
       have c13b0 : decide (x10_2 < a3) = false := decide_eq_false c13; clear c13
       simp only [Option.some.injEq, Prod.mk.injEq] at H
       obtain ⟨rfl, rfl⟩ := H
       go_wp2
       go_ret2
       exact ⟨eZ, Bz HB.out⟩

/-! ### laws_FnFirstSeedPeels: function 9 -/
mutual
def laws_FnFirstSeedPeels.j0 : Nat → List ByteArray → Int → Int → Int → Int → Bool → Bool → Option (Bool)
 | 0, _, _, _, _, _, _, _ => none
 | k + 1, x5, x6, x7, x8, x9, x12, x51 => if x51 = true then (some false) else (if x12 = true then (laws_FnFirstSeedPeels.l0 k x5 x6 x8 x9 x7) else (some true))
def laws_FnFirstSeedPeels.l0 : Nat → List ByteArray → Int → Int → Int → Int → Option (Bool)
 | 0, _, _, _, _, _ => none
 | k + 1, x5, x6, x8, x9, x13 => if x13 ≤ x9 then ((impl_HyperOf.f k x13 x5 x6).bind fun bt802 => ((impl_PeelOrder.f k bt802.1 bt802.2.1).bind fun bt808 => (if bt802.2.2 = true then (if (bt808.2 != (x13 == x9)) = true then (some false) else (laws_FnFirstSeedPeels.l0 k x5 x6 x8 x9 (wrap64 (x13 + 1)))) else (some false)))) else (some (decide (x9 < x8)))
end
def laws_FnFirstSeedPeels.f (k : Nat) (l0 : List Int) (l1 : List Int) : Option (Bool) := (laws_big.f l0 l1).bind fun t791 => (if t791 = true then (some true) else ((spec_DrawFirstSeed.f k l0).bind fun bt792 => ((impl_FirstSeed.f k bt792.1 bt792.2.1 bt792.2.2.1 bt792.2.2.2).bind fun bt798 => ((spec_FirstSeed.f k bt792.1 bt792.2.1 bt792.2.2.1 bt792.2.2.2).bind fun bt800 => (if (bt798.2 != bt800.2) = true then (laws_FnFirstSeedPeels.j0 k bt792.1 bt792.2.1 bt792.2.2.1 bt792.2.2.2 bt798.1 bt800.2 true) else (laws_FnFirstSeedPeels.j0 k bt792.1 bt792.2.1 bt792.2.2.1 bt792.2.2.2 bt798.1 bt800.2 (bt798.1 != bt800.1)))))))
theorem laws_FnFirstSeedPeels.mono_l : ∀ k, (∀ y0 y1 y2 y3 y4 y5 y6, LeO (laws_FnFirstSeedPeels.j0 k y0 y1 y2 y3 y4 y5 y6) (laws_FnFirstSeedPeels.j0 (k + 1) y0 y1 y2 y3 y4 y5 y6)) ∧ (∀ y0 y1 y2 y3 y4, LeO (laws_FnFirstSeedPeels.l0 k y0 y1 y2 y3 y4) (laws_FnFirstSeedPeels.l0 (k + 1) y0 y1 y2 y3 y4))
 | 0 => ⟨fun _ _ _ _ _ _ _ r h => by simp [laws_FnFirstSeedPeels.j0] at h, fun _ _ _ _ _ r h => by simp [laws_FnFirstSeedPeels.l0] at h⟩
 | k + 1 => by
  obtain ⟨ih0, ih1⟩ := laws_FnFirstSeedPeels.mono_l k; refine ⟨?_, ?_⟩
  ·intro y0 y1 y2 y3 y4 y5 y6
   unfold laws_FnFirstSeedPeels.j0
   repeat' first | (with_reducible first | exact ih0 _ _ _ _ _ _ _ | exact ih1 _ _ _ _ _ | exact impl_FirstSeed.mono _ _ _ _ _ | exact impl_HyperOf.mono _ _ _ _ | exact impl_PeelOrder.mono _ _ _ | exact spec_DrawFirstSeed.mono _ _ | exact spec_FirstSeed.mono _ _ _ _ _ | exact LeO.refl _ | exact LeO.none _ | refine LeO.ite ?_ ?_ | refine LeO.bind ?_ (fun _ => ?_)) | exact LeO.none _ | refine LeO.ite ?_ ?_ | refine LeO.bind ?_ (fun _ => ?_)
  ·intro y0 y1 y2 y3 y4
   unfold laws_FnFirstSeedPeels.l0
   repeat' first | (with_reducible first | exact ih0 _ _ _ _ _ _ _ | exact ih1 _ _ _ _ _ | exact impl_FirstSeed.mono _ _ _ _ _ | exact impl_HyperOf.mono _ _ _ _ | exact impl_PeelOrder.mono _ _ _ | exact spec_DrawFirstSeed.mono _ _ | exact spec_FirstSeed.mono _ _ _ _ _ | exact LeO.refl _ | exact LeO.none _ | refine LeO.ite ?_ ?_ | refine LeO.bind ?_ (fun _ => ?_)) | exact LeO.none _ | refine LeO.ite ?_ ?_ | refine LeO.bind ?_ (fun _ => ?_)
theorem laws_FnFirstSeedPeels.mono : ∀ a0 a1 k, LeO (laws_FnFirstSeedPeels.f k a0 a1) (laws_FnFirstSeedPeels.f (k + 1) a0 a1) := by
 intro a0 a1 k; obtain ⟨ih0, ih1⟩ := laws_FnFirstSeedPeels.mono_l k
 unfold laws_FnFirstSeedPeels.f
 repeat' first | (with_reducible first | exact ih0 _ _ _ _ _ _ _ | exact ih1 _ _ _ _ _ | exact impl_FirstSeed.mono _ _ _ _ _ | exact impl_HyperOf.mono _ _ _ _ | exact impl_PeelOrder.mono _ _ _ | exact spec_DrawFirstSeed.mono _ _ | exact spec_FirstSeed.mono _ _ _ _ _ | exact LeO.refl _ | exact LeO.none _ | refine LeO.ite ?_ ?_ | refine LeO.bind ?_ (fun _ => ?_)) | exact LeO.none _ | refine LeO.ite ?_ ?_ | refine LeO.bind ?_ (fun _ => ?_)
theorem laws_FnFirstSeedPeels.calls (k : Nat) (A0 : Option Addr) (c0 : Nat) (l0 : List Int) (A1 : Option Addr) (c1 : Nat) (l1 : List Int) (r : Bool) (w : World) (hr0 : Kd.C (Kd.int .u8) w A0 l0.length l0) (hc0 : l0.length ≤ c0) (hr1 : Kd.C (Kd.int .u8) w A1 l1.length l1) (hc1 : l1.length ≤ c1) (h : laws_FnFirstSeedPeels.f k l0 l1 = some r) :
  Calls Try.prog 9 #[.slice A0 l0.length c0, .slice A1 l1.length c1] w fun e w' => e = .returned (.bool r) ∧ Below w.heap.size w w' := by
 have hu37 := Try.underlying37; have HR0 := am hr0; have HC0 := am hc0; clear hr0 hc0; have HR1 := am hr1; have HC1 := am hc1; clear hr1 hc1; have HB := am (Below.refl w.heap.size w); have H : ((laws_big.f l0 l1).bind fun t791 => (if t791 = true then (some true) else ((spec_DrawFirstSeed.f k l0).bind fun bt792 => ((impl_FirstSeed.f k bt792.1 bt792.2.1 bt792.2.2.1 bt792.2.2.2).bind fun bt798 => ((spec_FirstSeed.f k bt792.1 bt792.2.1 bt792.2.2.1 bt792.2.2.2).bind fun bt800 => (if (bt798.2 != bt800.2) = true then (laws_FnFirstSeedPeels.j0 k bt792.1 bt792.2.1 bt792.2.2.1 bt792.2.2.2 bt798.1 bt800.2 true) else (laws_FnFirstSeedPeels.j0 k bt792.1 bt792.2.1 bt792.2.2.1 bt792.2.2.2 bt798.1 bt800.2 (bt798.1 != bt800.1)))))))) = some r := h; clear h; replace H := Option.bind_eq_some_iff.mp H; obtain ⟨t791, A30, H⟩ := H; (try dsimp -simprocs only at H); have A3 := am A30; clear A30
 by_cases c4 : t791 = true
 ·subst c4
  rw [if_pos rfl] at H; obtain rfl := Option.some.inj H
  go_enter Try.func9, Try.ntmps9
  go_wp2_with (first | ((with_reducible refine gate_callee (f := 12) rfl ?_); refine gL (some 20) Try.func12 #[.slice A0 l0.length c0, .slice A1 l1.length c1] ?_; (with_reducible refine (laws_big.calls _ _ l0 _ _ l1 true _ ?side1 ?side2 ?side3 ?side4 A3.out).mono ?_); (case side1 => exact Cz HR0.out); (case side2 => exact HC0.out); (case side3 => exact Cz HR1.out); (case side4 => exact HC1.out); rintro e w' ⟨rfl, ⟨nd, rfl⟩⟩; refine ⟨_, rfl, ?_⟩))
  go_ret
  exact ⟨eZ, Bz HB.out⟩
 ·replace c4 := Bool.eq_false_iff.mpr c4
  subst c4
  rw [if_neg (show ¬ (false = true) by decide)] at H; replace H := Option.bind_eq_some_iff.mp H; obtain ⟨⟨t792, t793, t794, t795⟩, A50, H⟩ := H; (try dsimp -simprocs only at H); have A5 := am A50; clear A50; replace H := Option.bind_eq_some_iff.mp H; obtain ⟨⟨t798, t799⟩, A60, H⟩ := H; (try dsimp -simprocs only at H); have A6 := am A60; clear A60; replace H := Option.bind_eq_some_iff.mp H; obtain ⟨⟨t800, t801⟩, A70, H⟩ := H; (try dsimp -simprocs only at H); have A7 := am A70; clear A70; have HC8 := am H; clear H
  go_enter Try.func9, Try.ntmps9
  go_upto_region 6 with (first | ((with_reducible refine gate_callee (f := 12) rfl ?_); refine gL (some 20) Try.func12 #[.slice A0 l0.length c0, .slice A1 l1.length c1] ?_; (with_reducible refine (laws_big.calls _ _ l0 _ _ l1 false _ ?side1 ?side2 ?side3 ?side4 A3.out).mono ?_); (case side1 => exact Cz HR0.out); (case side2 => exact HC0.out); (case side3 => exact Cz HR1.out); (case side4 => exact HC1.out); rintro e w' ⟨rfl, ⟨nd, rfl⟩⟩; refine ⟨_, rfl, ?_⟩) | ((with_reducible refine gate_callee (f := 49) rfl ?_); refine gL (some 23) Try.func49 #[.slice A0 l0.length c0] ?_; (with_reducible refine (spec_DrawFirstSeed.calls k _ _ l0 t792 t793 t794 t795 _ ?side1 ?side2 A5.out).mono ?_); (case side1 => exact Cz HR0.out); (case side2 => exact HC0.out); rintro e w9 ⟨v796, rfl, ho0, hb⟩; refine ⟨_, rfl, ?_⟩; have n0_ := Rl ho0 HB; have n1_ := Bb HB hb; clear HB; revert n0_ n1_; intro HO797 HB; (try clear hb); (try clear hb2); (try clear hk); (try clear hi); (try clear ho0); obtain ⟨Ao10, co10, eo10⟩ := Kd.R_slice HO797.out; subst eo10) | ((with_reducible refine gate_callee (f := 50) rfl ?_); refine gL (some 33) Try.func50 #[.slice Ao10 t792.length co10, .int .i64 t793, .int .i64 t794, .int .i64 t795] ?_; (with_reducible refine (impl_FirstSeed.calls k _ _ t792 t793 t794 t795 t798 t799 _ ?side1 ?side2 A6.out).mono ?_); (case side1 => exact Cz ((Kd.R_reads' HO797.out).2.2)); (case side2 => exact (Kd.R_reads' HO797.out).2.1); rintro e w11 ⟨rfl, hb⟩; refine ⟨_, rfl, ?_⟩; have n0_ := Rb HO797 hb; have n1_ := Bb HB hb; clear HO797 HB; revert n0_ n1_; intro HO797 HB; (try clear hb); (try clear hb2); (try clear hk); (try clear hi)) | ((with_reducible refine gate_callee (f := 51) rfl ?_); refine gL (some 41) Try.func51 #[.slice Ao10 t792.length co10, .int .i64 t793, .int .i64 t794, .int .i64 t795] ?_; (with_reducible refine (spec_FirstSeed.calls k _ _ t792 t793 t794 t795 t800 t801 _ ?side1 ?side2 A7.out).mono ?_); (case side1 => exact Cz ((Kd.R_reads' HO797.out).2.2)); (case side2 => exact (Kd.R_reads' HO797.out).2.1); rintro e w12 ⟨rfl, hb⟩; refine ⟨_, rfl, ?_⟩; have n0_ := Rb HO797 hb; have n1_ := Bb HB hb; clear HO797 HB; revert n0_ n1_; intro HO797 HB; (try clear hb); (try clear hb2); (try clear hk); (try clear hi)))
  (try simp only [aP])
  go_cut [51] (fun v51 wc => ∃ (kq : Nat) (x51_7 : Bool), v51 = .bool x51_7 ∧ Aside0 (laws_FnFirstSeedPeels.j0 kq t792 t793 t794 t795 t798 t801 x51_7 = some r) ∧ Aside0 (kq ≤ k) ∧ Aside0 (Kd.R Kd.string 9 wc w.heap.size (fun _ => True) (.slice Ao10 t792.length co10) t792) ∧ Aside0 (Below w.heap.size w wc))
  case first =>
   have H := HC8.out; clear HC8
   by_cases c13 : (t799 != t801) = true
   ·rw [if_pos c13] at H
    have c13b0 : (t799 != t801) = true := c13
    (try (have c13b1 : decide (t799 = t801) = false := by simpa using c13))
    (try (have c13b2 : (t799 == t801) = false := by simpa using c13))
    (try (have c13b3 : ¬ (t799 = t801) := by simpa using c13))
    clear c13
    (first | rw [c13b0] | (simp only [i64_w, i32_w]; rw [c13b0]) | skip)
    have H' := am H; clear H
    go_wp2
    go_meet
    case rel => exact ⟨_, (true), wZ, H', ⟨by first | omega | exact Nat.le_refl _⟩, ⟨Rz HO797.out⟩, ⟨Bz HB.out⟩⟩
   ·rw [if_neg c13] at H
    have c13b0 : (t799 != t801) = false := by simpa using c13
    (try (have c13b1 : decide (t799 = t801) = true := by simpa using c13))
    (try (have c13b2 : (t799 == t801) = true := by simpa using c13))
    clear c13
    (first | rw [c13b0] | (simp only [i64_w, i32_w]; rw [c13b0]) | skip)
    have H' := am H; clear H
    go_wp2
    go_meet
    case rel => exact ⟨_, ((t798 != t800)), wZ, H', ⟨by first | omega | exact Nat.le_refl _⟩, ⟨Rz HO797.out⟩, ⟨Bz HB.out⟩⟩
  case rest =>
   clear HC8
   try clear c1
   try clear p2
   try clear c4
   try clear c5
   try clear c9
   try clear c12
   try clear c13
   try clear c13b0
   try clear c13b1
   try clear c13b2
   obtain ⟨kq, x51_7, rfl, HA, HJ7, HO_5, HB⟩ := hcut; cases kq with
   | zero => exact absurd HA.out (by simp [laws_FnFirstSeedPeels.j0])
   | succ kj7 =>
    have H := HA.out; clear HA
    simp only [laws_FnFirstSeedPeels.j0] at H
    by_cases c14 : x51_7 = true
    ·subst c14
     rw [if_pos rfl] at H; obtain rfl := Option.some.inj H
     go_wp2
     go_ret
     exact ⟨eZ, Bz HB.out⟩
    ·replace c14 := Bool.eq_false_iff.mpr c14
     subst c14
     rw [if_neg (show ¬ (false = true) by decide)] at H
     by_cases c15 : t801 = true
     ·subst c15
      rw [if_pos rfl] at H; have H' := am H; clear H
      go_wp2
      go_loopg [13] kj7 (fun kq v13 w' => ∃ (x13_2 : Int), v13 = .int .i64 x13_2 ∧ Aside0 (laws_FnFirstSeedPeels.l0 kq t792 t793 t795 t798 x13_2 = some r) ∧ Aside0 (kq ≤ kj7) ∧ Aside0 (Kd.R Kd.string 9 w' w.heap.size (fun _ => True) (.slice Ao10 t792.length co10) t792) ∧ Aside0 (Below w.heap.size w w'))
      case atStart => exact ⟨(t794), wZ, H', ⟨Nat.le_refl _⟩, ⟨Rz HO_5.out⟩, ⟨Bz HB.out⟩⟩
      case round =>
       clear H'
       try clear c1
       try clear p2
       try clear c4
       try clear c5
       try clear c9
       try clear c12
       try clear c13
       try clear c13b0
       try clear c13b1
       try clear c13b2
       try clear c14
       try clear c15
       try clear p2
       obtain ⟨x13_2, rfl, HA, HK2, HO_5, HB⟩ := hrel; cases gk with
       | zero => exact absurd HA.out (by simp [laws_FnFirstSeedPeels.l0])
       | succ k2 =>
        have H := HA.out; clear HA
        simp only [laws_FnFirstSeedPeels.l0] at H
        by_cases c16 : x13_2 ≤ t798
        ·rw [if_pos c16] at H
         have c16b0 : decide (x13_2 ≤ t798) = true := decide_eq_true c16; clear c16; replace H := Option.bind_eq_some_iff.mp H; obtain ⟨⟨t802, t803, t806⟩, A170, H⟩ := H; (try dsimp -simprocs only at H); have A17 := am A170; clear A170; replace H := Option.bind_eq_some_iff.mp H; obtain ⟨⟨t808, t811⟩, A180, H⟩ := H; (try dsimp -simprocs only at H); have A18 := am A180; clear A180
         by_cases c19 : t806 = true
         ·subst c19
          rw [if_pos rfl] at H
          by_cases c20 : (t811 != (x13_2 == t798)) = true
          ·rw [if_pos c20] at H
           have c20b0 : (t811 != (x13_2 == t798)) = true := c20
           (try (have c20b1 : decide (t811 = (x13_2 == t798)) = false := by simpa using c20))
           (try (have c20b2 : (t811 == (x13_2 == t798)) = false := by simpa using c20))
           (try (have c20b3 : ¬ (t811 = (x13_2 == t798)) := by simpa using c20))
           clear c20; obtain rfl := Option.some.inj H
           go_wp2_with (first | ((with_reducible refine gate_callee (f := 40) rfl ?_); refine gL (some 64) Try.func40 #[.int .i64 x13_2, .slice Ao10 t792.length co10, .int .i64 t793] ?_; (with_reducible refine (impl_HyperOf.calls k2 x13_2 _ _ t792 t793 t802 t803 true _ ?side1 ?side2 A17.out).mono ?_); (case side1 => exact Cz ((Kd.R_reads' HO_5.out).2.2)); (case side2 => exact (Kd.R_reads' HO_5.out).2.1); rintro e w21 ⟨v804, rfl, ho0, hb⟩; refine ⟨_, rfl, ?_⟩; have n0_ := Rb HO_5 hb; have n1_ := am (Kd.S_lower ho0 (below_size (Bz HB.out))); have n2_ := Bb HB hb; clear HO_5 HB; revert n0_ n1_ n2_; intro HO_5 HO805 HB; (try clear hb); (try clear hb2); (try clear hk); (try clear hi); (try clear ho0)) | ((with_reducible refine gate_dst (N := 14) rfl ?_); refine bE 14 #[.int .i64 0, .slice none 0 0] 37 ?_; intro gb807 hg w22 hbox hb; have n0_ := Rb HO_5 hb; have n1_ := am (Kd.S_below (by (with_reducible repeat (first | apply Kd.S_alloc | apply Kd.S_drewN | apply Kd.S_drew)); exact HO805.out) hb); have n2_ := Bb HB hb; have n3_ := am (hbox); have n4_ := Gl HB hg; have n5_ := Gl HB hg; clear HO_5 HO805 HB; revert n0_ n1_ n2_ n3_ n4_ n5_; intro HO_5 HO805 HB BK807 GW807 GE807; clear hb hbox hg; obtain ⟨hcz23_0, hcz23_1, hfz23_0, hfz23_1⟩ := cf2 (w := w22) BK807; obtain ⟨Ao24, co24, eo24⟩ := Kd.S_slice HO805.out; subst eo24) | ((with_reducible refine gate_callee (f := 41) rfl ?_); refine gL (some 69) Try.func41 #[.agg #[.int .i64 t802, .slice Ao24 t803.length co24]] ?_; (with_reducible refine (impl_PeelOrder.calls k2 t802 _ _ t803 t808 t811 _ ?side1 ?side2 A18.out).mono ?_); (case side1 => refine (Kd.S_reads' (e := 32) (base := w.heap.size) (ok := fun k_ => True) (n := t803.length) (c := co24) ?_).2.2; exact (by (with_reducible repeat (first | apply Kd.S_alloc | apply Kd.S_drewN | apply Kd.S_drew)); exact (Kd.S_mono (Kd.S_far (p := ⟨gb807, 1, none⟩) (Kd.S_far (p := ⟨gb807, 0, none⟩) (Kd.S_types HO805.out BK807.out (by decide)) (fun _ hk => hk.2) (.int .i64 t802)) (fun _ hk => hk.2) (.slice Ao24 t803.length co24)) (fun _ h_ => h_.1)))); (case side2 => exact (Kd.S_reads' HO805.out).2.1); rintro e w25 ⟨v809, rfl, ho0, hb⟩; refine ⟨_, rfl, ?_⟩; have n0_ := am (Kd.R_below (Rz (Kd.R_mono (Kd.R_far (p := ⟨gb807, 1, none⟩) (Kd.R_far (p := ⟨gb807, 0, none⟩) (Kd.R_types HO_5.out BK807.out (by decide)) (fun _ hk => hk.2) (.int .i64 t802)) (fun _ hk => hk.2) (.slice Ao24 t803.length co24)) (fun _ h_ => h_.1))) hb); have n1_ := am (Kd.S_below (by (with_reducible repeat (first | apply Kd.S_alloc | apply Kd.S_drewN | apply Kd.S_drew)); exact (Kd.S_mono (Kd.S_far (p := ⟨gb807, 1, none⟩) (Kd.S_far (p := ⟨gb807, 0, none⟩) (Kd.S_types HO805.out BK807.out (by decide)) (fun _ hk => hk.2) (.int .i64 t802)) (fun _ hk => hk.2) (.slice Ao24 t803.length co24)) (fun _ h_ => h_.1))) hb); have n2_ := Rm ho0 HB; have n3_ := am (blk_below (g := gb807) (o := .cells #[.int .i64 t802, .slice Ao24 t803.length co24] 37 (0, 0)) (by (with_reducible repeat (first | refine blk_drewN ?_ _ | refine blk_drew ?_ | refine blk_alloc ?_ _)); refine blk_put (cs := #[.int .i64 t802, .slice none 0 0]) ?_ 1 _ rfl; (with_reducible repeat (first | refine blk_drewN ?_ _ | refine blk_drew ?_ | refine blk_alloc ?_ _)); refine blk_put (cs := #[.int .i64 0, .slice none 0 0]) ?_ 0 _ rfl; exact Kz BK807.out) hb); have n4_ := Bc HB hb; clear HO_5 HO805 BK807 HB; revert n0_ n1_ n2_ n3_ n4_; intro HO_5 HO805 HO810 BK807 HB; (try clear hb); (try clear hb2); (try clear hk); (try clear hi); (try clear ho0)))
           go_ret
           exact ⟨eZ, Bq⟩
          ·rw [if_neg c20] at H
           have c20b0 : (t811 != (x13_2 == t798)) = false := by simpa using c20
           (try (have c20b1 : decide (t811 = (x13_2 == t798)) = true := by simpa using c20))
           (try (have c20b2 : (t811 == (x13_2 == t798)) = true := by simpa using c20))
           clear c20; have H' := am H; clear H
           go_wp2_with (first | ((with_reducible refine gate_callee (f := 40) rfl ?_); refine gL (some 64) Try.func40 #[.int .i64 x13_2, .slice Ao10 t792.length co10, .int .i64 t793] ?_; (with_reducible refine (impl_HyperOf.calls k2 x13_2 _ _ t792 t793 t802 t803 true _ ?side1 ?side2 A17.out).mono ?_); (case side1 => exact Cz ((Kd.R_reads' HO_5.out).2.2)); (case side2 => exact (Kd.R_reads' HO_5.out).2.1); rintro e w26 ⟨v804, rfl, ho0, hb⟩; refine ⟨_, rfl, ?_⟩; have n0_ := Rb HO_5 hb; have n1_ := am (Kd.S_lower ho0 (below_size (Bz HB.out))); have n2_ := Bb HB hb; clear HO_5 HB; revert n0_ n1_ n2_; intro HO_5 HO805 HB; (try clear hb); (try clear hb2); (try clear hk); (try clear hi); (try clear ho0)) | ((with_reducible refine gate_dst (N := 14) rfl ?_); refine bE 14 #[.int .i64 0, .slice none 0 0] 37 ?_; intro gb807 hg w27 hbox hb; have n0_ := Rb HO_5 hb; have n1_ := am (Kd.S_below (by (with_reducible repeat (first | apply Kd.S_alloc | apply Kd.S_drewN | apply Kd.S_drew)); exact HO805.out) hb); have n2_ := Bb HB hb; have n3_ := am (hbox); have n4_ := Gl HB hg; have n5_ := Gl HB hg; clear HO_5 HO805 HB; revert n0_ n1_ n2_ n3_ n4_ n5_; intro HO_5 HO805 HB BK807 GW807 GE807; clear hb hbox hg; obtain ⟨hcz28_0, hcz28_1, hfz28_0, hfz28_1⟩ := cf2 (w := w27) BK807; obtain ⟨Ao29, co29, eo29⟩ := Kd.S_slice HO805.out; subst eo29) | ((with_reducible refine gate_callee (f := 41) rfl ?_); refine gL (some 69) Try.func41 #[.agg #[.int .i64 t802, .slice Ao29 t803.length co29]] ?_; (with_reducible refine (impl_PeelOrder.calls k2 t802 _ _ t803 t808 t811 _ ?side1 ?side2 A18.out).mono ?_); (case side1 => refine (Kd.S_reads' (e := 32) (base := w.heap.size) (ok := fun k_ => True) (n := t803.length) (c := co29) ?_).2.2; exact (by (with_reducible repeat (first | apply Kd.S_alloc | apply Kd.S_drewN | apply Kd.S_drew)); exact (Kd.S_mono (Kd.S_far (p := ⟨gb807, 1, none⟩) (Kd.S_far (p := ⟨gb807, 0, none⟩) (Kd.S_types HO805.out BK807.out (by decide)) (fun _ hk => hk.2) (.int .i64 t802)) (fun _ hk => hk.2) (.slice Ao29 t803.length co29)) (fun _ h_ => h_.1)))); (case side2 => exact (Kd.S_reads' HO805.out).2.1); rintro e w30 ⟨v809, rfl, ho0, hb⟩; refine ⟨_, rfl, ?_⟩; have n0_ := am (Kd.R_below (Rz (Kd.R_mono (Kd.R_far (p := ⟨gb807, 1, none⟩) (Kd.R_far (p := ⟨gb807, 0, none⟩) (Kd.R_types HO_5.out BK807.out (by decide)) (fun _ hk => hk.2) (.int .i64 t802)) (fun _ hk => hk.2) (.slice Ao29 t803.length co29)) (fun _ h_ => h_.1))) hb); have n1_ := am (Kd.S_below (by (with_reducible repeat (first | apply Kd.S_alloc | apply Kd.S_drewN | apply Kd.S_drew)); exact (Kd.S_mono (Kd.S_far (p := ⟨gb807, 1, none⟩) (Kd.S_far (p := ⟨gb807, 0, none⟩) (Kd.S_types HO805.out BK807.out (by decide)) (fun _ hk => hk.2) (.int .i64 t802)) (fun _ hk => hk.2) (.slice Ao29 t803.length co29)) (fun _ h_ => h_.1))) hb); have n2_ := Rm ho0 HB; have n3_ := am (blk_below (g := gb807) (o := .cells #[.int .i64 t802, .slice Ao29 t803.length co29] 37 (0, 0)) (by (with_reducible repeat (first | refine blk_drewN ?_ _ | refine blk_drew ?_ | refine blk_alloc ?_ _)); refine blk_put (cs := #[.int .i64 t802, .slice none 0 0]) ?_ 1 _ rfl; (with_reducible repeat (first | refine blk_drewN ?_ _ | refine blk_drew ?_ | refine blk_alloc ?_ _)); refine blk_put (cs := #[.int .i64 0, .slice none 0 0]) ?_ 0 _ rfl; exact Kz BK807.out) hb); have n4_ := Bc HB hb; clear HO_5 HO805 BK807 HB; revert n0_ n1_ n2_ n3_ n4_; intro HO_5 HO805 HO810 BK807 HB; (try clear hb); (try clear hb2); (try clear hk); (try clear hi); (try clear ho0)))
           go_roundg k2
           case measure => have := HJ7.out; have := HK2.out; omega
           case rel => exact ⟨(wrap64 (x13_2 + 1)), wZ, H', ⟨by have := HJ7.out; have := HK2.out; omega⟩, ⟨Rz HO_5.out⟩, ⟨Bq⟩⟩
         ·replace c19 := Bool.eq_false_iff.mpr c19
          subst c19
          rw [if_neg (show ¬ (false = true) by decide)] at H; obtain rfl := Option.some.inj H
          go_wp2_with (first | ((with_reducible refine gate_callee (f := 40) rfl ?_); refine gL (some 64) Try.func40 #[.int .i64 x13_2, .slice Ao10 t792.length co10, .int .i64 t793] ?_; (with_reducible refine (impl_HyperOf.calls k2 x13_2 _ _ t792 t793 t802 t803 false _ ?side1 ?side2 A17.out).mono ?_); (case side1 => exact Cz ((Kd.R_reads' HO_5.out).2.2)); (case side2 => exact (Kd.R_reads' HO_5.out).2.1); rintro e w31 ⟨v804, rfl, ho0, hb⟩; refine ⟨_, rfl, ?_⟩; have n0_ := Rb HO_5 hb; have n1_ := am (Kd.S_lower ho0 (below_size (Bz HB.out))); have n2_ := Bb HB hb; clear HO_5 HB; revert n0_ n1_ n2_; intro HO_5 HO805 HB; (try clear hb); (try clear hb2); (try clear hk); (try clear hi); (try clear ho0)) | ((with_reducible refine gate_dst (N := 14) rfl ?_); refine bE 14 #[.int .i64 0, .slice none 0 0] 37 ?_; intro gb807 hg w32 hbox hb; have n0_ := Rb HO_5 hb; have n1_ := am (Kd.S_below (by (with_reducible repeat (first | apply Kd.S_alloc | apply Kd.S_drewN | apply Kd.S_drew)); exact HO805.out) hb); have n2_ := Bb HB hb; have n3_ := am (hbox); have n4_ := Gl HB hg; have n5_ := Gl HB hg; clear HO_5 HO805 HB; revert n0_ n1_ n2_ n3_ n4_ n5_; intro HO_5 HO805 HB BK807 GW807 GE807; clear hb hbox hg; obtain ⟨hcz33_0, hcz33_1, hfz33_0, hfz33_1⟩ := cf2 (w := w32) BK807; obtain ⟨Ao34, co34, eo34⟩ := Kd.S_slice HO805.out; subst eo34) | ((with_reducible refine gate_callee (f := 41) rfl ?_); refine gL (some 69) Try.func41 #[.agg #[.int .i64 t802, .slice Ao34 t803.length co34]] ?_; (with_reducible refine (impl_PeelOrder.calls k2 t802 _ _ t803 t808 t811 _ ?side1 ?side2 A18.out).mono ?_); (case side1 => refine (Kd.S_reads' (e := 32) (base := w.heap.size) (ok := fun k_ => True) (n := t803.length) (c := co34) ?_).2.2; exact (by (with_reducible repeat (first | apply Kd.S_alloc | apply Kd.S_drewN | apply Kd.S_drew)); exact (Kd.S_mono (Kd.S_far (p := ⟨gb807, 1, none⟩) (Kd.S_far (p := ⟨gb807, 0, none⟩) (Kd.S_types HO805.out BK807.out (by decide)) (fun _ hk => hk.2) (.int .i64 t802)) (fun _ hk => hk.2) (.slice Ao34 t803.length co34)) (fun _ h_ => h_.1)))); (case side2 => exact (Kd.S_reads' HO805.out).2.1); rintro e w35 ⟨v809, rfl, ho0, hb⟩; refine ⟨_, rfl, ?_⟩; have n0_ := am (Kd.R_below (Rz (Kd.R_mono (Kd.R_far (p := ⟨gb807, 1, none⟩) (Kd.R_far (p := ⟨gb807, 0, none⟩) (Kd.R_types HO_5.out BK807.out (by decide)) (fun _ hk => hk.2) (.int .i64 t802)) (fun _ hk => hk.2) (.slice Ao34 t803.length co34)) (fun _ h_ => h_.1))) hb); have n1_ := am (Kd.S_below (by (with_reducible repeat (first | apply Kd.S_alloc | apply Kd.S_drewN | apply Kd.S_drew)); exact (Kd.S_mono (Kd.S_far (p := ⟨gb807, 1, none⟩) (Kd.S_far (p := ⟨gb807, 0, none⟩) (Kd.S_types HO805.out BK807.out (by decide)) (fun _ hk => hk.2) (.int .i64 t802)) (fun _ hk => hk.2) (.slice Ao34 t803.length co34)) (fun _ h_ => h_.1))) hb); have n2_ := Rm ho0 HB; have n3_ := am (blk_below (g := gb807) (o := .cells #[.int .i64 t802, .slice Ao34 t803.length co34] 37 (0, 0)) (by (with_reducible repeat (first | refine blk_drewN ?_ _ | refine blk_drew ?_ | refine blk_alloc ?_ _)); refine blk_put (cs := #[.int .i64 t802, .slice none 0 0]) ?_ 1 _ rfl; (with_reducible repeat (first | refine blk_drewN ?_ _ | refine blk_drew ?_ | refine blk_alloc ?_ _)); refine blk_put (cs := #[.int .i64 0, .slice none 0 0]) ?_ 0 _ rfl; exact Kz BK807.out) hb); have n4_ := Bc HB hb; clear HO_5 HO805 BK807 HB; revert n0_ n1_ n2_ n3_ n4_; intro HO_5 HO805 HO810 BK807 HB; (try clear hb); (try clear hb2); (try clear hk); (try clear hi); (try clear ho0)))
          go_ret
          exact ⟨eZ, Bq⟩
        ·rw [if_neg c16] at H
         have c16b0 : decide (x13_2 ≤ t798) = false := decide_eq_false c16; clear c16; obtain rfl := Option.some.inj H
         go_wp2
         go_ret
         exact ⟨eZ, Bz HB.out⟩
     ·replace c15 := Bool.eq_false_iff.mpr c15
      subst c15
      rw [if_neg (show ¬ (false = true) by decide)] at H; obtain rfl := Option.some.inj H
      go_wp2
      go_ret
      exact ⟨eZ, Bz HB.out⟩

/-- THE ONE PURE STATEMENT of laws_FnFirstSeedPeels: yours. -/
def laws_FnFirstSeedPeels.Pure : Prop := ∀ (l0 : List Int) (l1 : List Int), l0.length ≤ maxLen → l0.length * 1 ≤ 140737488351232 → (∀ x ∈ l0, (Lit.int .u8 x).wf = true) → l1.length ≤ maxLen → l1.length * 1 ≤ 140737488351232 → (∀ x ∈ l1, (Lit.int .u8 x).wf = true) → ∃ k, laws_FnFirstSeedPeels.f k l0 l1 = some true
theorem laws_FnFirstSeedPeels.walk (P : laws_FnFirstSeedPeels.Pure) (a0 : Option Addr) (len0 cap0 : Nat) (z0 : List Int) (a1 : Option Addr) (len1 cap1 : Nat) (z1 : List Int) (w : World) (w0 : (a0 = none ∧ len0 = 0 ∧ cap0 = 0 ∧ z0 = []) ∨ ∃ x, a0 = some x ∧ len0 ≤ cap0 ∧ cap0 ≤ maxLen ∧ z0.length = cap0 ∧ (∀ i, i < z0.length → w.cell? (x.add i) = some (.int .u8 (z0.getD i 0))) ∧ ∀ n ∈ z0, (Lit.int .u8 n).wf = true) (y0 : len0 * 1 ≤ 140737488351232) (w1 : (a1 = none ∧ len1 = 0 ∧ cap1 = 0 ∧ z1 = []) ∨ ∃ x, a1 = some x ∧ len1 ≤ cap1 ∧ cap1 ≤ maxLen ∧ z1.length = cap1 ∧ (∀ i, i < z1.length → w.cell? (x.add i) = some (.int .u8 (z1.getD i 0))) ∧ ∀ n ∈ z1, (Lit.int .u8 n).wf = true) (y1 : len1 * 1 ≤ 140737488351232) :
  Calls Try.prog 9 #[.slice a0 len0 cap0, .slice a1 len1 cap1] w fun e w' => e = .returned (.bool true) ∧ Below w.heap.size w w' := by
 obtain ⟨l0, rfl, hr0, hm0, hw0, hc0⟩ := ReadsInt.ofRowC w0; obtain ⟨l1, rfl, hr1, hm1, hw1, hc1⟩ := ReadsInt.ofRowC w1; obtain ⟨k, h⟩ := P l0 l1 hm0 y0 hw0 hm1 y1 hw1; refine (laws_FnFirstSeedPeels.calls k _ _ l0 _ _ l1 true w (Kd.C_of_reads (d := (0 : Int)) (h1 := fun _ => rfl) hr0) hc0 (Kd.C_of_reads (d := (0 : Int)) (h1 := fun _ => rfl) hr1) hc1 h).mono ?_; rintro e w' ⟨rfl, hd⟩; exact ⟨rfl, hd⟩

end Go.Proofs.Ythkcgimnagpmaaa.PA
