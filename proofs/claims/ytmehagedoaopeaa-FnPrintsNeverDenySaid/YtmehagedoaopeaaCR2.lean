import Derived.Test.YtmehagedoaopeaaCR1
namespace Go.Proofs.Ytmehagedoaopeaa.PR
open Go.RowKit Go.Proofs.YtmehagedoaopeaaW.PrintWords Go.Proofs.YtmehagedoaopeaaW.PrintLast Go.Proofs.YtmehagedoaopeaaW.PrintMore Go.Proofs.YtmehagedoaopeaaSq
attribute [local go_sem] max2_int min2_int max_two min_two max_three min_three max_four min_four   -- for this text's walks alone
attribute [local go_sem] Go.Proofs.YtmehagedoaopeaaGp.str_geq Go.Proofs.YtmehagedoaopeaaGp.str_gtr Go.Proofs.YtmehagedoaopeaaGp.str_leq
set_option linter.unusedVariables false
set_option linter.unusedSimpArgs false

set_option maxHeartbeats 8000000
set_option maxRecDepth 100000
def spec_l1Cur_text.f (k : Nat) (s0_0 : List Int) (s0_1 : Int) (s0_2 : Int) : Option (ByteArray × Int × Int) := (spec_l1Cur_pick.f s0_0 s0_1 s0_2 16).bind fun bt224 => (if bt224.1 = 0 then (some ((⟨#[]⟩ : ByteArray), bt224.2.1, bt224.2.2)) else (if bt224.1 = 1 then ((spec_l1Cur_key.f k s0_0 bt224.2.1 bt224.2.2).bind fun bt227 => (if bt227.1.size + 1 ≤ 9223372036854775807 then (some (bt227.1 ++ (⟨#[32]⟩ : ByteArray), bt227.2.1, bt227.2.2)) else (none))) else (if bt224.1 = 2 then (some ((⟨#[97, 97, 97, 97, 97, 97, 97, 97, 97, 97, 97, 97, 97]⟩ : ByteArray), bt224.2.1, bt224.2.2)) else (if bt224.1 = 3 then ((spec_l1Cur_of.f s0_0 bt224.2.1 bt224.2.2 (([(⟨#[126]⟩ : ByteArray), (⟨#[125]⟩ : ByteArray), (⟨#[97, 126]⟩ : ByteArray), (⟨#[127]⟩ : ByteArray)] : List ByteArray))).bind fun bt233 => (some (bt233.1, bt233.2.1, bt233.2.2))) else ((spec_l1Cur_key.f k s0_0 bt224.2.1 bt224.2.2).bind fun bt236 => (some (bt236.1, bt236.2.1, bt236.2.2)))))))
theorem spec_l1Cur_text.calls (k : Nat) (g : Nat) (s0_0 : List Int) (s0_1 : Int) (s0_2 : Int) (r1 : ByteArray) (r2 : Int) (r3 : Int) (w0 w : World) (hI : IsS90 w0 w g s0_0 s0_1 s0_2) (hB : Below w0.heap.size w0 w) (h : spec_l1Cur_text.f k s0_0 s0_1 s0_2 = some (r1, r2, r3)) :
  Calls Try.prog 131 #[.pointer (some ⟨g, 0, none⟩)] w fun e w' => e = .returned (.string r1) ∧ IsS90 w0 w' g s0_0 r2 r3 ∧ Below w0.heap.size w0 w' ∧ KeepBut w w' g none := by
 have HI0 := am hI; have HK := am (KeepBut.refl w g none); have HL := am hB.size; clear hI; have HW0 := am hB.size; have HB := am hB; clear hB; have H : ((spec_l1Cur_pick.f s0_0 s0_1 s0_2 16).bind fun bt224 => (if bt224.1 = 0 then (some ((⟨#[]⟩ : ByteArray), bt224.2.1, bt224.2.2)) else (if bt224.1 = 1 then ((spec_l1Cur_key.f k s0_0 bt224.2.1 bt224.2.2).bind fun bt227 => (if bt227.1.size + 1 ≤ 9223372036854775807 then (some (bt227.1 ++ (⟨#[32]⟩ : ByteArray), bt227.2.1, bt227.2.2)) else (none))) else (if bt224.1 = 2 then (some ((⟨#[97, 97, 97, 97, 97, 97, 97, 97, 97, 97, 97, 97, 97]⟩ : ByteArray), bt224.2.1, bt224.2.2)) else (if bt224.1 = 3 then ((spec_l1Cur_of.f s0_0 bt224.2.1 bt224.2.2 (([(⟨#[126]⟩ : ByteArray), (⟨#[125]⟩ : ByteArray), (⟨#[97, 126]⟩ : ByteArray), (⟨#[127]⟩ : ByteArray)] : List ByteArray))).bind fun bt233 => (some (bt233.1, bt233.2.1, bt233.2.2))) else ((spec_l1Cur_key.f k s0_0 bt224.2.1 bt224.2.2).bind fun bt236 => (some (bt236.1, bt236.2.1, bt236.2.2)))))))) = some (r1, r2, r3) := h; clear h; obtain ⟨⟨t224, t225, t226⟩, A2, H⟩ := ob H; (try dsimp -simprocs only at H)
 by_cases c3 : t224 = 0
 ·rw [if_pos c3] at H
  have c3b0 : (t224 == 0) = true := beq_iff_eq.mpr c3; have c3b1 : (t224 != 0) = false := bne_eq_false_iff_eq.mpr c3; clear c3
  simp only [Option.some.injEq, Prod.mk.injEq] at H
  obtain ⟨rfl, rfl, rfl⟩ := H
  go_enter Try.func131, Try.ntmps131
  go_wp2_with (first | ((with_reducible refine gate_callee (f := 72) rfl ?_); refine gL (some 4) Try.func72 #[.pointer (some ⟨g, 0, none⟩), .int .i64 16] ?_; (with_reducible refine (spec_l1Cur_pick.calls g s0_0 s0_1 s0_2 16 t224 t225 t226 w0 _ ?side1 ?side2 A2.out).mono ?_); (case side1 => exact (IsS90.z)); (case side2 => repeat (first | (with_reducible first | exact HB.out | apply below_alloc | apply pw_below_drewN | apply below_drew1 | refine below_set ?_ (IsS90.ge HI0.out)) | exact HB.out)); rintro e w4 ⟨rfl, hi, hb, hk⟩; refine ⟨_, rfl, ?_⟩; have n0_ := am (KeepBut.trans (Kq) hk (.inl rfl)); have n1_ := am (hb); have n2_ := am (hi); clear HK HB HI0; revert n0_ n1_ n2_; intro HK HB HI0; (try clear hb); (try clear hb2); (try clear hk); (try clear hi)))
  go_ret
  exact ⟨eZ, IsS90.z, by repeat (first | (with_reducible first | exact HB.out | apply below_alloc | apply pw_below_drewN | apply below_drew1 | refine below_set ?_ (IsS90.ge HI0.out)) | exact HB.out), Kq⟩
 ·rw [if_neg c3] at H
  have c3b0 : (t224 == 0) = false := beq_eq_false_iff_ne.mpr c3; have c3b1 : (t224 != 0) = true := bne_iff_ne.mpr c3
  by_cases c5 : t224 = 1
  ·rw [if_pos c5] at H
   have c5b0 : (t224 == 1) = true := beq_iff_eq.mpr c5; have c5b1 : (t224 != 1) = false := bne_eq_false_iff_eq.mpr c5; clear c5; obtain ⟨⟨t227, t228, t229⟩, A6, H⟩ := ob H; (try dsimp -simprocs only at H)
   by_cases c7 : t227.size + 1 ≤ 9223372036854775807
   ·rw [if_pos c7] at H
    have c7b0 := eq_true c7; have c7b1 : decide (t227.size + 1 ≤ 9223372036854775807) = true := decide_eq_true c7
    try have c7b2 : (9223372036854775807 < t227.size + 1) = False := eq_false (Nat.not_lt.2 c7)
    simp only [Option.some.injEq, Prod.mk.injEq] at H
    obtain ⟨rfl, rfl, rfl⟩ := H
    go_enter Try.func131, Try.ntmps131
    go_wp2_with (first | ((with_reducible refine gate_callee (f := 72) rfl ?_); refine gL (some 4) Try.func72 #[.pointer (some ⟨g, 0, none⟩), .int .i64 16] ?_; (with_reducible refine (spec_l1Cur_pick.calls g s0_0 s0_1 s0_2 16 t224 t225 t226 w0 _ ?side1 ?side2 A2.out).mono ?_); (case side1 => exact (IsS90.z)); (case side2 => repeat (first | (with_reducible first | exact HB.out | apply below_alloc | apply pw_below_drewN | apply below_drew1 | refine below_set ?_ (IsS90.ge HI0.out)) | exact HB.out)); rintro e w8 ⟨rfl, hi, hb, hk⟩; refine ⟨_, rfl, ?_⟩; have n0_ := am (KeepBut.trans (Kq) hk (.inl rfl)); have n1_ := am (hb); have n2_ := am (hi); clear HK HB HI0; revert n0_ n1_ n2_; intro HK HB HI0; (try clear hb); (try clear hb2); (try clear hk); (try clear hi)) | ((with_reducible refine gate_callee (f := 171) rfl ?_); refine gL (some 10) Try.func171 #[.pointer (some ⟨g, 0, none⟩)] ?_; (with_reducible refine (spec_l1Cur_key.calls k g s0_0 t225 t226 t227 t228 t229 w0 _ ?side1 ?side2 A6.out).mono ?_); (case side1 => exact (IsS90.z)); (case side2 => repeat (first | (with_reducible first | exact HB.out | apply below_alloc | apply pw_below_drewN | apply below_drew1 | refine below_set ?_ (IsS90.ge HI0.out)) | exact HB.out)); rintro e w9 ⟨rfl, hi, hb, hk⟩; refine ⟨_, rfl, ?_⟩; have n0_ := am (KeepBut.trans (Kq) hk (.inl rfl)); have n1_ := am (hb); have n2_ := am (hi); clear HK HB HI0; revert n0_ n1_ n2_; intro HK HB HI0; (try clear hb); (try clear hb2); (try clear hk); (try clear hi)))
    go_ret
    exact ⟨eZ, IsS90.z, by repeat (first | (with_reducible first | exact HB.out | apply below_alloc | apply pw_below_drewN | apply below_drew1 | refine below_set ?_ (IsS90.ge HI0.out)) | exact HB.out), Kq⟩
   ·rw [if_neg c7] at H
    exact absurd H (by simp)
  ·rw [if_neg c5] at H
   have c5b0 : (t224 == 1) = false := beq_eq_false_iff_ne.mpr c5; have c5b1 : (t224 != 1) = true := bne_iff_ne.mpr c5
   by_cases c10 : t224 = 2
   ·rw [if_pos c10] at H
    have c10b0 : (t224 == 2) = true := beq_iff_eq.mpr c10; have c10b1 : (t224 != 2) = false := bne_eq_false_iff_eq.mpr c10; clear c10
    simp only [Option.some.injEq, Prod.mk.injEq] at H
    obtain ⟨rfl, rfl, rfl⟩ := H
    go_enter Try.func131, Try.ntmps131
    go_wp2_with (first | ((with_reducible refine gate_callee (f := 72) rfl ?_); refine gL (some 4) Try.func72 #[.pointer (some ⟨g, 0, none⟩), .int .i64 16] ?_; (with_reducible refine (spec_l1Cur_pick.calls g s0_0 s0_1 s0_2 16 t224 t225 t226 w0 _ ?side1 ?side2 A2.out).mono ?_); (case side1 => exact (IsS90.z)); (case side2 => repeat (first | (with_reducible first | exact HB.out | apply below_alloc | apply pw_below_drewN | apply below_drew1 | refine below_set ?_ (IsS90.ge HI0.out)) | exact HB.out)); rintro e w11 ⟨rfl, hi, hb, hk⟩; refine ⟨_, rfl, ?_⟩; have n0_ := am (KeepBut.trans (Kq) hk (.inl rfl)); have n1_ := am (hb); have n2_ := am (hi); clear HK HB HI0; revert n0_ n1_ n2_; intro HK HB HI0; (try clear hb); (try clear hb2); (try clear hk); (try clear hi)))
    go_ret
    exact ⟨eZ, IsS90.z, by repeat (first | (with_reducible first | exact HB.out | apply below_alloc | apply pw_below_drewN | apply below_drew1 | refine below_set ?_ (IsS90.ge HI0.out)) | exact HB.out), Kq⟩
   ·rw [if_neg c10] at H
    have c10b0 : (t224 == 2) = false := beq_eq_false_iff_ne.mpr c10; have c10b1 : (t224 != 2) = true := bne_iff_ne.mpr c10
    by_cases c12 : t224 = 3
    ·rw [if_pos c12] at H
     have c12b0 : (t224 == 3) = true := beq_iff_eq.mpr c12; have c12b1 : (t224 != 3) = false := bne_eq_false_iff_eq.mpr c12; clear c12; obtain ⟨y230, hy230⟩ : ∃ y_ : List ByteArray, y_ = (([(⟨#[126]⟩ : ByteArray), (⟨#[125]⟩ : ByteArray), (⟨#[97, 126]⟩ : ByteArray), (⟨#[127]⟩ : ByteArray)] : List ByteArray)) := ⟨_, rfl⟩
     replace H : ((spec_l1Cur_of.f s0_0 t225 t226 y230).bind fun bt233 => (some (bt233.1, bt233.2.1, bt233.2.2))) = some (r1, r2, r3) := by (try rw [hy230]); first | with_reducible exact H | exact (Option.bind_some _ _).symm.trans H | exact H
     have Ny230 := am hy230; clear hy230; obtain ⟨⟨t233, t234, t235⟩, A13, H⟩ := ob H; (try dsimp -simprocs only at H)
     simp only [Option.some.injEq, Prod.mk.injEq] at H
     obtain ⟨rfl, rfl, rfl⟩ := H
     go_enter Try.func131, Try.ntmps131
     go_wp2_with (first | ((with_reducible refine gate_callee (f := 72) rfl ?_); refine gL (some 4) Try.func72 #[.pointer (some ⟨g, 0, none⟩), .int .i64 16] ?_; (with_reducible refine (spec_l1Cur_pick.calls g s0_0 s0_1 s0_2 16 t224 t225 t226 w0 _ ?side1 ?side2 A2.out).mono ?_); (case side1 => exact (IsS90.z)); (case side2 => repeat (first | (with_reducible first | exact HB.out | apply below_alloc | apply pw_below_drewN | apply below_drew1 | refine below_set ?_ (IsS90.ge HI0.out)) | exact HB.out)); rintro e w14 ⟨rfl, hi, hb, hk⟩; refine ⟨_, rfl, ?_⟩; have n0_ := am (KeepBut.trans (Kq) hk (.inl rfl)); have n1_ := am (hb); have n2_ := am (hi); clear HK HB HI0; revert n0_ n1_ n2_; intro HK HB HI0; (try clear hb); (try clear hb2); (try clear hk); (try clear hi)) | ((with_reducible refine gate_dst (N := 17) rfl ?_); refine Kd.R_lit Kd.string _ 9 ?hg (N := 17) ?hd (xs := ([(⟨#[126]⟩ : ByteArray), (⟨#[125]⟩ : ByteArray), (⟨#[97, 126]⟩ : ByteArray), (⟨#[127]⟩ : ByteArray)] : List ByteArray)) (inner := [.string (⟨#[126]⟩ : ByteArray), .string (⟨#[125]⟩ : ByteArray), .string (⟨#[97, 126]⟩ : ByteArray), .string (⟨#[127]⟩ : ByteArray)]) (ok := fun _ => True) (okp := fun _ => True) ?hr ?hp (fun _ hk => hk) trivial (Below.refl _ _) (Nat.le_refl _) (by simp) ?_; (case hd => rfl); (case hg => rfl); (case hr => first | (go_simp; done) | (go_simp; rfl)); (case hp => exact (Reps.one (show Kd.M Kd.string _ _ _ (⟨#[126]⟩ : ByteArray) [.string (⟨#[126]⟩ : ByteArray)] from rfl) (Reps.one (show Kd.M Kd.string _ _ _ (⟨#[125]⟩ : ByteArray) [.string (⟨#[125]⟩ : ByteArray)] from rfl) (Reps.one (show Kd.M Kd.string _ _ _ (⟨#[97, 126]⟩ : ByteArray) [.string (⟨#[97, 126]⟩ : ByteArray)] from rfl) (Reps.one (show Kd.M Kd.string _ _ _ (⟨#[127]⟩ : ByteArray) [.string (⟨#[127]⟩ : ByteArray)] from rfl) (Reps.none _ _)))))); intro v231 w15 ho16 hb hg_ hnew_; clear hg_ hnew_; (first | rw [← Ny230.out] at ho16 | (simp only [Int.reduceToNat] at ho16; rw [← Ny230.out] at ho16)); have n0_ := am (Kd.R_lower ho16 (keep_size (w := w) (g := g) (row := none) (Kq))); have n1_ := am (IsS90.below (IsS90.z) hb); have n2_ := am (KeepBut.trans (Kq) (KeepBut.of_below hb g none) (.inl rfl)); have n3_ := am (below_step (by repeat (first | (with_reducible first | exact HB.out | apply below_alloc | apply pw_below_drewN | apply below_drew1 | refine below_set ?_ (IsS90.ge HI0.out)) | exact HB.out)) hb); clear HI0 HK HB; revert n0_ n1_ n2_ n3_; intro HO232 HI0 HK HB; clear hb ho16; obtain ⟨Ao17, co17, eo17⟩ := Kd.R_slice HO232.out; subst eo17) | ((with_reducible refine gate_callee (f := 130) rfl ?_); refine gL (some 18) Try.func130 #[.pointer (some ⟨g, 0, none⟩), .slice Ao17 y230.length co17] ?_; (with_reducible refine (spec_l1Cur_of.calls g s0_0 t225 t226 _ _ y230 t233 t234 t235 w0 _ ?side1 ?side2 ?side3 ?side4 ?side5 A13.out).mono ?_); (case side1 => exact (IsS90.z)); (case side2 => repeat (first | (with_reducible first | exact HB.out | apply below_alloc | apply pw_below_drewN | apply below_drew1 | refine below_set ?_ (IsS90.ge HI0.out)) | exact HB.out)); (case side3 => exact Cz ((Kd.R_reads' HO232.out).2.2)); (case side4 => exact (Kd.R_reads' HO232.out).2.1); (case side5 => exact far_slice (IsS90.own_ne HI0.out HO232.out (by decide))); rintro e w18 ⟨rfl, hi, hb, hk⟩; refine ⟨_, rfl, ?_⟩; have n0_ := am (Kd.R_mono (Kd.R_keep (IsS90.apart (show IsS90 w0 _ g s0_0 t225 t226 from IsS90.z) (Rz HO232.out) (by decide)) hk (fun _ h => h.2)) (fun _ h => h.1)); have n1_ := am (KeepBut.trans (Kq) hk (.inl rfl)); have n2_ := am (hb); have n3_ := am (hi); clear HO232 HK HB HI0; revert n0_ n1_ n2_ n3_; intro HO232 HK HB HI0; (try clear hb); (try clear hb2); (try clear hk); (try clear hi)))
     go_ret
     exact ⟨eZ, IsS90.z, by repeat (first | (with_reducible first | exact HB.out | apply below_alloc | apply pw_below_drewN | apply below_drew1 | refine below_set ?_ (IsS90.ge HI0.out)) | exact HB.out), Kq⟩
    ·rw [if_neg c12] at H
     have c12b0 : (t224 == 3) = false := beq_eq_false_iff_ne.mpr c12; have c12b1 : (t224 != 3) = true := bne_iff_ne.mpr c12; obtain ⟨⟨t236, t237, t238⟩, A19, H⟩ := ob H; (try dsimp -simprocs only at H)
     simp only [Option.some.injEq, Prod.mk.injEq] at H
     obtain ⟨rfl, rfl, rfl⟩ := H
     go_enter Try.func131, Try.ntmps131
     go_wp2_with (first | ((with_reducible refine gate_callee (f := 72) rfl ?_); refine gL (some 4) Try.func72 #[.pointer (some ⟨g, 0, none⟩), .int .i64 16] ?_; (with_reducible refine (spec_l1Cur_pick.calls g s0_0 s0_1 s0_2 16 t224 t225 t226 w0 _ ?side1 ?side2 A2.out).mono ?_); (case side1 => exact (IsS90.z)); (case side2 => repeat (first | (with_reducible first | exact HB.out | apply below_alloc | apply pw_below_drewN | apply below_drew1 | refine below_set ?_ (IsS90.ge HI0.out)) | exact HB.out)); rintro e w20 ⟨rfl, hi, hb, hk⟩; refine ⟨_, rfl, ?_⟩; have n0_ := am (KeepBut.trans (Kq) hk (.inl rfl)); have n1_ := am (hb); have n2_ := am (hi); clear HK HB HI0; revert n0_ n1_ n2_; intro HK HB HI0; (try clear hb); (try clear hb2); (try clear hk); (try clear hi)) | ((with_reducible refine gate_callee (f := 171) rfl ?_); refine gL (some 20) Try.func171 #[.pointer (some ⟨g, 0, none⟩)] ?_; (with_reducible refine (spec_l1Cur_key.calls k g s0_0 t225 t226 t236 t237 t238 w0 _ ?side1 ?side2 A19.out).mono ?_); (case side1 => exact (IsS90.z)); (case side2 => repeat (first | (with_reducible first | exact HB.out | apply below_alloc | apply pw_below_drewN | apply below_drew1 | refine below_set ?_ (IsS90.ge HI0.out)) | exact HB.out)); rintro e w21 ⟨rfl, hi, hb, hk⟩; refine ⟨_, rfl, ?_⟩; have n0_ := am (KeepBut.trans (Kq) hk (.inl rfl)); have n1_ := am (hb); have n2_ := am (hi); clear HK HB HI0; revert n0_ n1_ n2_; intro HK HB HI0; (try clear hb); (try clear hb2); (try clear hk); (try clear hi)))
     go_ret
     exact ⟨eZ, IsS90.z, by repeat (first | (with_reducible first | exact HB.out | apply below_alloc | apply pw_below_drewN | apply below_drew1 | refine below_set ?_ (IsS90.ge HI0.out)) | exact HB.out), Kq⟩

def spec_l1Cur_many.l0 : Nat → Int → List ByteArray → Int → List Int → Int → Int → Option (List ByteArray × Int × Int)
 | 0, _, _, _, _, _, _ => none
 | k + 1, x1, x5, x6, x1000, x1001, x1002 => if x6 < x1 then ((spec_l1PutS.f k x5 (strOfNums (([(wrap64 (97 + (wrap64 (Int.tdiv x6 10)))) % 256, (wrap64 (48 + (Int.tmod x6 10))) % 256] : List Int)))).bind fun t242 => (spec_l1Cur_many.l0 k x1 t242 (wrap64 (x6 + 1)) x1000 x1001 x1002)) else (some (x5, x1001, x1002))
def spec_l1Cur_many.f (k : Nat) (s0_0 : List Int) (s0_1 : Int) (s0_2 : Int) (a1 : Int) : Option (List ByteArray × Int × Int) := spec_l1Cur_many.l0 k a1 ([] : List ByteArray) 0 s0_0 s0_1 s0_2
theorem spec_l1Cur_many.calls (k : Nat) (g : Nat) (s0_0 : List Int) (s0_1 : Int) (s0_2 : Int) (a1 : Int) (r1 : List ByteArray) (r2 : Int) (r3 : Int) (w0 w : World) (hI : IsS90 w0 w g s0_0 s0_1 s0_2) (hB : Below w0.heap.size w0 w) (h : spec_l1Cur_many.f k s0_0 s0_1 s0_2 a1 = some (r1, r2, r3)) :
  Calls Try.prog 141 #[.pointer (some ⟨g, 0, none⟩), .int .i64 a1] w fun e w' => ∃ v0_ : Value, e = .returned (v0_) ∧ Kd.R Kd.string 9 w' w.heap.size (fun _ => True) v0_ r1 ∧ IsS90 w0 w' g s0_0 r2 r3 ∧ Below w0.heap.size w0 w' ∧ KeepBut w w' g none := by
 have HI0 := am hI; have HK := am (KeepBut.refl w g none); have HL := am hB.size; clear hI; have HW0 := am hB.size; have HB := am hB; clear hB; have H : (spec_l1Cur_many.l0 k a1 ([] : List ByteArray) 0 s0_0 s0_1 s0_2) = some (r1, r2, r3) := h; clear h; have H' := am H; clear H
 go_enter Try.func141, Try.ntmps141
 go_wp2
 go_loopg [5, 6] k (fun kq v5 v6 w' => ∃ (x5_1 : List ByteArray) (x6_1 : Int), v6 = .int .i64 x6_1 ∧ Aside0 (spec_l1Cur_many.l0 kq a1 x5_1 x6_1 s0_0 s0_1 s0_2 = some (r1, r2, r3)) ∧ Aside0 (kq ≤ k) ∧ Aside0 (Kd.R Kd.string 9 w' w.heap.size (fun _ => True) v5 x5_1) ∧ Aside0 (IsS90 w0 w' g s0_0 s0_1 s0_2) ∧ Aside0 (KeepBut w w' g none) ∧ Aside0 (Below w0.heap.size w0 w'))
 case atStart => exact ⟨(([] : List ByteArray)), (0), wZ, H', ⟨Nat.le_refl _⟩, ⟨nZ⟩, ⟨IsS90.z⟩, ⟨Kq⟩, ⟨by repeat (first | (with_reducible first | exact HB.out | apply below_alloc | apply pw_below_drewN | apply below_drew1 | refine below_set ?_ (IsS90.ge HI0.out)) | exact HB.out)⟩⟩
 case round =>
  clear H'
  try clear c1
  try clear p2
  obtain ⟨x5_1, x6_1, rfl, HA, HK1, HO_5, HI0, HK, HB⟩ := hrel; cases gk with
  | zero => exact absurd HA.out (by simp [spec_l1Cur_many.l0])
  | succ k1 =>
   have H := HA.out; clear HA
   simp only [spec_l1Cur_many.l0] at H
   by_cases c3 : x6_1 < a1
   ·rw [if_pos c3] at H
    have c3b0 : decide (x6_1 < a1) = true := decide_eq_true c3; clear c3; obtain ⟨y239, hy239⟩ : ∃ y_ : List Int, y_ = (([(wrap64 (97 + (wrap64 (Int.tdiv x6_1 10)))) % 256, (wrap64 (48 + (Int.tmod x6_1 10))) % 256] : List Int)) := ⟨_, rfl⟩
    replace H : ((spec_l1PutS.f k1 x5_1 (strOfNums y239)).bind fun t242 => (spec_l1Cur_many.l0 k1 a1 t242 (wrap64 (x6_1 + 1)) s0_0 s0_1 s0_2)) = some (r1, r2, r3) := by (try rw [hy239]); first | with_reducible exact H | exact (Option.bind_some _ _).symm.trans H | exact H
    have Ny239 := am hy239; clear hy239; obtain ⟨t242, A4, H⟩ := ob H; (try dsimp -simprocs only at H); have H' := am H; clear H
    go_wp2_with (first | ((with_reducible refine gate_dst (N := 21) rfl ?_); refine Kd.R_lit (Kd.int .u8) _ 5 ?hg (N := 21) ?hd (xs := ([(wrap64 (97 + (wrap64 (Int.tdiv x6_1 10)))) % 256, (wrap64 (48 + (Int.tmod x6_1 10))) % 256] : List Int)) (inner := [.int .u8 ((wrap64 (97 + (wrap64 (Int.tdiv x6_1 10)))) % 256), .int .u8 ((wrap64 (48 + (Int.tmod x6_1 10))) % 256)]) (ok := fun _ => True) (okp := fun _ => True) ?hr ?hp (fun _ hk => hk) trivial (Below.refl _ _) (Nat.le_refl _) (by simp) ?_; (case hd => rfl); (case hg => rfl); (case hr => first | (go_simp; done) | (go_simp; rfl)); (case hp => exact (Reps.one (show Kd.M (Kd.int .u8) _ _ _ ((wrap64 (97 + (wrap64 (Int.tdiv x6_1 10)))) % 256) [.int .u8 ((wrap64 (97 + (wrap64 (Int.tdiv x6_1 10)))) % 256)] from rfl) (Reps.one (show Kd.M (Kd.int .u8) _ _ _ ((wrap64 (48 + (Int.tmod x6_1 10))) % 256) [.int .u8 ((wrap64 (48 + (Int.tmod x6_1 10))) % 256)] from rfl) (Reps.none _ _)))); intro v240 w5 ho6 hb hg_ hnew_; clear hg_ hnew_; (first | rw [← Ny239.out] at ho6 | (simp only [Int.reduceToNat] at ho6; rw [← Ny239.out] at ho6)); have n0_ := Rb HO_5 hb; have n1_ := am (Kd.R_lower ho6 (keep_size (w := w) (g := g) (row := none) (Kq))); have n2_ := am (IsS90.below (IsS90.z) hb); have n3_ := am (KeepBut.trans (Kq) (KeepBut.of_below hb g none) (.inl rfl)); have n4_ := am (below_step (by repeat (first | (with_reducible first | exact HB.out | apply below_alloc | apply pw_below_drewN | apply below_drew1 | refine below_set ?_ (IsS90.ge HI0.out)) | exact HB.out)) hb); clear HO_5 HI0 HK HB; revert n0_ n1_ n2_ n3_ n4_; intro HO_5 HO241 HI0 HK HB; clear hb ho6; have hcv7 := own_string (P := Try.prog) Try.underlying22 Try.underlying5 Try.underlying9 (Kd.own_of_R HO241.out); obtain ⟨Ao8, co8, eo8⟩ := Kd.R_slice HO_5.out; subst eo8) | ((with_reducible refine gate_callee (f := 175) rfl ?_); refine gL (some 23) Try.func175 #[.slice Ao8 x5_1.length co8, .string (strOfNums y239)] ?_; (with_reducible refine (spec_l1PutS.calls k1 (fun k_ => some k_ = (.slice Ao8 x5_1.length co8 : Value).ownBlock) (.slice Ao8 x5_1.length co8) x5_1 (strOfNums y239) t242 w0 _ ?side1 ?side2 A4.out).mono ?_); (case side1 => repeat (first | (with_reducible first | exact HB.out | apply below_alloc | apply pw_below_drewN | apply below_drew1 | refine below_set ?_ (IsS90.ge HI0.out)) | exact HB.out)); (case side2 => exact Kd.R_lower (Kd.R_tight rfl HO_5.out) HL.out); rintro e w9 ⟨v243, rfl, ho0, hb, hkp⟩; refine ⟨_, rfl, ?_⟩; have n0_ := am (IsS90.kept (IsS90.z) hkp (fun hs_ => (fun e_ => (IsS90.own_ne HI0.out HO_5.out (by decide)) e_) hs_)); have n1_ := am (Kd.R_mono (ok' := fun k_ => True) (Kd.R_keptB ((Kd.R_apart' HO241.out (Kd.R_typed HO_5.out) (by decide))) hkp (fun k_ hk_ hs_ => (hk_.2) hs_)) (fun k_ hk_ => trivial)); have n2_ := am (Kd.R_mono (ok' := fun k_ => True) (Kd.R_raise (d := Kd.string) (b := w0.heap.size) (b' := w.heap.size) (fun _ _ _ _ h_ => h_) ho0 (fun k_ e_ => Or.elim (ho0.1 k_ e_) (fun hs_ => (fun e_ => Kd.R_base HO_5.out k_ e_.symm) hs_) (fun hn_ => Nat.le_trans (keep_size (w := w) (g := g) (row := none) (Kq)) hn_))) (fun k_ hk_ => trivial)); have n3_ := am (Kept.keepG (Kq) hkp (fun k_ hs_ => (fun e_ => .inr (Kd.R_base HO_5.out k_ e_.symm)) hs_)); have n4_ := am (hb); clear HI0 HO241 HK HB HO_5; revert n0_ n1_ n2_ n3_ n4_; intro HI0 HO241 HO244 HK HB; (try clear hb); (try clear hkp); (try clear ho0)))
    go_roundg k1
    case measure => have := HK1.out; omega
    case rel => exact ⟨(t242), (wrap64 (x6_1 + 1)), wZ, H', ⟨by have := HK1.out; omega⟩, ⟨Rz HO244.out⟩, ⟨IsS90.z⟩, ⟨Kq⟩, ⟨by repeat (first | (with_reducible first | exact HB.out | apply below_alloc | apply pw_below_drewN | apply below_drew1 | refine below_set ?_ (IsS90.ge HI0.out)) | exact HB.out)⟩⟩
   ·rw [if_neg c3] at H
    have c3b0 : decide (x6_1 < a1) = false := decide_eq_false c3; clear c3
    simp only [Option.some.injEq, Prod.mk.injEq] at H
    obtain ⟨rfl, rfl, rfl⟩ := H
    go_wp2
    go_ret
    exact ⟨_, eZ, Rz HO_5.out, IsS90.z, by repeat (first | (with_reducible first | exact HB.out | apply below_alloc | apply pw_below_drewN | apply below_drew1 | refine below_set ?_ (IsS90.ge HI0.out)) | exact HB.out), Kq⟩

def spec_l1Cur_anyKeys.f (k : Nat) (s0_0 : List Int) (s0_1 : Int) (s0_2 : Int) (a1 : Int) : Option (List ByteArray × Int × Int) := (spec_l1Cur_keys.f k s0_0 s0_1 s0_2 a1).bind fun bt245 => ((spec_l1Cur_pick.f s0_0 bt245.2.1 bt245.2.2 14).bind fun bt250 => (if bt250.1 = 0 then ((spec_l1Cur_text.f k s0_0 bt250.2.1 bt250.2.2).bind fun bt253 => (if bt245.1.length < 8796093022208 then (some ((bt245.1 ++ [bt253.1]), bt253.2.1, bt253.2.2)) else (none))) else (if bt250.1 = 1 then (if (bt245.1.length : Int) > 0 then ((spec_l1Cur_pick.f s0_0 bt250.2.1 bt250.2.2 (bt245.1.length : Int)).bind fun bt259 => (if 0 ≤ bt259.1 then (if bt259.1 < (bt245.1.length : Int) then (if bt245.1.length < 8796093022208 then (some ((bt245.1 ++ [rdOf ByteArray.empty bt245.1 bt259.1]), bt259.2.1, bt259.2.2)) else (none)) else (none)) else (none))) else (some (bt245.1, bt250.2.1, bt250.2.2))) else (if bt250.1 = 2 then ((spec_l1Cur_pick.f s0_0 bt250.2.1 bt250.2.2 2).bind fun bt266 => ((spec_l1Cur_many.f k s0_0 bt266.2.1 bt266.2.2 (wrap64 (40 + bt266.1))).bind fun bt269 => (some (bt269.1, bt269.2.1, bt269.2.2)))) else (some (bt245.1, bt250.2.1, bt250.2.2))))))
theorem spec_l1Cur_anyKeys.calls (k : Nat) (g : Nat) (s0_0 : List Int) (s0_1 : Int) (s0_2 : Int) (a1 : Int) (r1 : List ByteArray) (r2 : Int) (r3 : Int) (w0 w : World) (hI : IsS90 w0 w g s0_0 s0_1 s0_2) (hB : Below w0.heap.size w0 w) (h : spec_l1Cur_anyKeys.f k s0_0 s0_1 s0_2 a1 = some (r1, r2, r3)) :
  Calls Try.prog 70 #[.pointer (some ⟨g, 0, none⟩), .int .i64 a1] w fun e w' => ∃ v0_ : Value, e = .returned (v0_) ∧ Kd.R Kd.string 9 w' w.heap.size (fun _ => True) v0_ r1 ∧ IsS90 w0 w' g s0_0 r2 r3 ∧ Below w0.heap.size w0 w' ∧ KeepBut w w' g none := by
 have HI0 := am hI; have HK := am (KeepBut.refl w g none); have HL := am hB.size; clear hI; have HW0 := am hB.size; have HB := am hB; clear hB; have H : ((spec_l1Cur_keys.f k s0_0 s0_1 s0_2 a1).bind fun bt245 => ((spec_l1Cur_pick.f s0_0 bt245.2.1 bt245.2.2 14).bind fun bt250 => (if bt250.1 = 0 then ((spec_l1Cur_text.f k s0_0 bt250.2.1 bt250.2.2).bind fun bt253 => (if bt245.1.length < 8796093022208 then (some ((bt245.1 ++ [bt253.1]), bt253.2.1, bt253.2.2)) else (none))) else (if bt250.1 = 1 then (if (bt245.1.length : Int) > 0 then ((spec_l1Cur_pick.f s0_0 bt250.2.1 bt250.2.2 (bt245.1.length : Int)).bind fun bt259 => (if 0 ≤ bt259.1 then (if bt259.1 < (bt245.1.length : Int) then (if bt245.1.length < 8796093022208 then (some ((bt245.1 ++ [rdOf ByteArray.empty bt245.1 bt259.1]), bt259.2.1, bt259.2.2)) else (none)) else (none)) else (none))) else (some (bt245.1, bt250.2.1, bt250.2.2))) else (if bt250.1 = 2 then ((spec_l1Cur_pick.f s0_0 bt250.2.1 bt250.2.2 2).bind fun bt266 => ((spec_l1Cur_many.f k s0_0 bt266.2.1 bt266.2.2 (wrap64 (40 + bt266.1))).bind fun bt269 => (some (bt269.1, bt269.2.1, bt269.2.2)))) else (some (bt245.1, bt250.2.1, bt250.2.2))))))) = some (r1, r2, r3) := h; clear h; obtain ⟨⟨t245, t248, t249⟩, A3, H⟩ := ob H; (try dsimp -simprocs only at H); replace H := Option.bind_eq_some_iff.mp H; obtain ⟨⟨t250, t251, t252⟩, A40, H⟩ := H; (try dsimp -simprocs only at H)
 have A4 := am A40; clear A40
 by_cases c5 : t250 = 0
 ·rw [if_pos c5] at H
  have c5b0 : (t250 == 0) = true := beq_iff_eq.mpr c5; have c5b1 : (t250 != 0) = false := bne_eq_false_iff_eq.mpr c5; clear c5; obtain ⟨⟨t253, t254, t255⟩, A6, H⟩ := ob H; (try dsimp -simprocs only at H)
  by_cases c7 : t245.length < 8796093022208
  ·rw [if_pos c7] at H
   have LMc7 := am c7; clear c7; obtain ⟨y256, hy256⟩ : ∃ y_ : List ByteArray, y_ = (t245 ++ [t253]) := ⟨_, rfl⟩
   replace H : (some (y256, t254, t255)) = some (r1, r2, r3) := by (try rw [hy256]); first | with_reducible exact H | exact (Option.bind_some _ _).symm.trans H | exact H
   have Ny256 := am hy256; clear hy256
   simp only [Option.some.injEq, Prod.mk.injEq] at H
   obtain ⟨rfl, rfl, rfl⟩ := H
   go_enter Try.func70, Try.ntmps70
   go_wp2_with (first | ((with_reducible refine gate_callee (f := 128) rfl ?_); refine gL (some 8) Try.func128 #[.pointer (some ⟨g, 0, none⟩), .int .i64 a1] ?_; (with_reducible refine (spec_l1Cur_keys.calls k g s0_0 s0_1 s0_2 a1 t245 t248 t249 w0 _ ?side1 ?side2 A3.out).mono ?_); (case side1 => exact (IsS90.z)); (case side2 => repeat (first | (with_reducible first | exact HB.out | apply below_alloc | apply pw_below_drewN | apply below_drew1 | refine below_set ?_ (IsS90.ge HI0.out)) | exact HB.out)); rintro e w8 ⟨v246, rfl, ho0, hi, hb, hk⟩; refine ⟨_, rfl, ?_⟩; have n0_ := am (Kd.R_lower ho0 (keep_size (w := w) (g := g) (row := none) (Kq))); have n1_ := am (KeepBut.trans (Kq) hk (.inl rfl)); have n2_ := am (hb); have n3_ := am (hi); clear HK HB HI0; revert n0_ n1_ n2_ n3_; intro HO247 HK HB HI0; (try clear hb); (try clear hb2); (try clear hk); (try clear hi); (try clear ho0)) | ((with_reducible refine gate_callee (f := 72) rfl ?_); refine gL (some 10) Try.func72 #[.pointer (some ⟨g, 0, none⟩), .int .i64 14] ?_; (with_reducible refine (spec_l1Cur_pick.calls g s0_0 t248 t249 14 t250 t251 t252 w0 _ ?side1 ?side2 A4.out).mono ?_); (case side1 => exact (IsS90.z)); (case side2 => repeat (first | (with_reducible first | exact HB.out | apply below_alloc | apply pw_below_drewN | apply below_drew1 | refine below_set ?_ (IsS90.ge HI0.out)) | exact HB.out)); rintro e w9 ⟨rfl, hi, hb, hk⟩; refine ⟨_, rfl, ?_⟩; have n0_ := am (Kd.R_mono (Kd.R_keep (IsS90.apart (show IsS90 w0 _ g s0_0 t248 t249 from IsS90.z) (Rz HO247.out) (by decide)) hk (fun _ h => h.2)) (fun _ h => h.1)); have n1_ := am (KeepBut.trans (Kq) hk (.inl rfl)); have n2_ := am (hb); have n3_ := am (hi); clear HO247 HK HB HI0; revert n0_ n1_ n2_ n3_; intro HO247 HK HB HI0; (try clear hb); (try clear hb2); (try clear hk); (try clear hi)) | ((with_reducible refine gate_callee (f := 131) rfl ?_); refine gL (some 15) Try.func131 #[.pointer (some ⟨g, 0, none⟩)] ?_; (with_reducible refine (spec_l1Cur_text.calls k g s0_0 t251 t252 t253 t254 t255 w0 _ ?side1 ?side2 A6.out).mono ?_); (case side1 => exact (IsS90.z)); (case side2 => repeat (first | (with_reducible first | exact HB.out | apply below_alloc | apply pw_below_drewN | apply below_drew1 | refine below_set ?_ (IsS90.ge HI0.out)) | exact HB.out)); rintro e w10 ⟨rfl, hi, hb, hk⟩; refine ⟨_, rfl, ?_⟩; have n0_ := am (Kd.R_mono (Kd.R_keep (IsS90.apart (show IsS90 w0 _ g s0_0 t251 t252 from IsS90.z) (Rz HO247.out) (by decide)) hk (fun _ h => h.2)) (fun _ h => h.1)); have n1_ := am (KeepBut.trans (Kq) hk (.inl rfl)); have n2_ := am (hb); have n3_ := am (hi); clear HO247 HK HB HI0; revert n0_ n1_ n2_ n3_; intro HO247 HK HB HI0; (try clear hb); (try clear hb2); (try clear hk); (try clear hi)) | ((with_reducible refine gate_builtin (b := .append) (xs := #[.tmp 13, .tmp 16]) rfl ?_); at_builtin; refine Kd.R_append Kd.string w.heap.size rfl (.tmp 13) (.tmp 16) 36 9 (.string ⟨#[]⟩) 16 rfl Try.underlying36 info9 rfl (by decide) (by omega) v246 t245 t253 [.string t253] (fun _ => True) (fun _ => False) rfl rfl ?aP (fun _ hk => hk.elim) ?aF ?aO (Below.refl _ _) ?aS ?aL ?_; (case aP => exact rfl); (case aF => exact (fun _ _ => trivial)); (case aO => exact (Rz HO247.out)); (case aS => exact (keep_size (w := w) (g := g) (row := none) (Kq))); (case aL => have := LMc7.out; omega); intro v257 w11 ho hb hg hat; rw [← Ny256.out] at ho; have n0_ := am (IsS90.grown (IsS90.z) hg (IsS90.own_ne HI0.out HO247.out (by decide))); have n1_ := am (below_weaken (by repeat (first | (with_reducible first | exact HB.out | apply below_alloc | apply pw_below_drewN | apply below_drew1 | refine below_set ?_ (IsS90.ge HI0.out)) | exact HB.out)) HL.out hb); have n2_ := am (KeepBut.trans (Kq) (KeepBut.of_grown hg g) (Kd.R_base2 HO247.out)); have n3_ := am (ho); clear HI0 HB HK HO247; revert n0_ n1_ n2_ n3_; intro HI0 HB HK HO258; clear ho hb hg hat))
   go_ret
   exact ⟨_, eZ, Rz HO258.out, IsS90.z, by repeat (first | (with_reducible first | exact HB.out | apply below_alloc | apply pw_below_drewN | apply below_drew1 | refine below_set ?_ (IsS90.ge HI0.out)) | exact HB.out), Kq⟩
  ·rw [if_neg c7] at H
   exact absurd H (by simp)
 ·rw [if_neg c5] at H
  have c5b0 : (t250 == 0) = false := beq_eq_false_iff_ne.mpr c5; have c5b1 : (t250 != 0) = true := bne_iff_ne.mpr c5
  by_cases c12 : t250 = 1
  ·rw [if_pos c12] at H
   have c12b0 : (t250 == 1) = true := beq_iff_eq.mpr c12; have c12b1 : (t250 != 1) = false := bne_eq_false_iff_eq.mpr c12; clear c12
   by_cases c13 : (t245.length : Int) > 0
   ·rw [if_pos c13] at H
    have c13b0 : decide (0 < (t245.length : Int)) = true := decide_eq_true c13; have c13b1 : decide (0 < t245.length) = true := decide_eq_true (by omega); clear c13; obtain ⟨⟨t259, t260, t261⟩, A14, H⟩ := ob H; (try dsimp -simprocs only at H)
    by_cases c15 : 0 ≤ t259
    ·rw [if_pos c15] at H
     have c15b0 : decide (0 ≤ t259) = true := decide_eq_true c15; clear c15
     by_cases c16 : t259 < (t245.length : Int)
     ·rw [if_pos c16] at H
      have c16b0 : decide (t259 < (t245.length : Int)) = true := decide_eq_true c16; clear c16
      by_cases c17 : t245.length < 8796093022208
      ·rw [if_pos c17] at H
       have LMc17 := am c17; clear c17; obtain ⟨y263, hy263⟩ : ∃ y_ : List ByteArray, y_ = (t245 ++ [rdOf ByteArray.empty t245 t259]) := ⟨_, rfl⟩
       replace H : (some (y263, t260, t261)) = some (r1, r2, r3) := by (try rw [hy263]); first | with_reducible exact H | exact (Option.bind_some _ _).symm.trans H | exact H
       have Ny263 := am hy263; clear hy263
       simp only [Option.some.injEq, Prod.mk.injEq] at H
       obtain ⟨rfl, rfl, rfl⟩ := H
       go_enter Try.func70, Try.ntmps70
       go_wp2_with (first | ((with_reducible refine gate_callee (f := 128) rfl ?_); refine gL (some 8) Try.func128 #[.pointer (some ⟨g, 0, none⟩), .int .i64 a1] ?_; (with_reducible refine (spec_l1Cur_keys.calls k g s0_0 s0_1 s0_2 a1 t245 t248 t249 w0 _ ?side1 ?side2 A3.out).mono ?_); (case side1 => exact (IsS90.z)); (case side2 => repeat (first | (with_reducible first | exact HB.out | apply below_alloc | apply pw_below_drewN | apply below_drew1 | refine below_set ?_ (IsS90.ge HI0.out)) | exact HB.out)); rintro e w18 ⟨v246, rfl, ho0, hi, hb, hk⟩; refine ⟨_, rfl, ?_⟩; have n0_ := am (Kd.R_lower ho0 (keep_size (w := w) (g := g) (row := none) (Kq))); have n1_ := am (KeepBut.trans (Kq) hk (.inl rfl)); have n2_ := am (hb); have n3_ := am (hi); clear HK HB HI0; revert n0_ n1_ n2_ n3_; intro HO247 HK HB HI0; (try clear hb); (try clear hb2); (try clear hk); (try clear hi); (try clear ho0)) | ((with_reducible refine gate_callee (f := 72) rfl ?_); refine gL (some 10) Try.func72 #[.pointer (some ⟨g, 0, none⟩), .int .i64 14] ?_; (with_reducible refine (spec_l1Cur_pick.calls g s0_0 t248 t249 14 t250 t251 t252 w0 _ ?side1 ?side2 A4.out).mono ?_); (case side1 => exact (IsS90.z)); (case side2 => repeat (first | (with_reducible first | exact HB.out | apply below_alloc | apply pw_below_drewN | apply below_drew1 | refine below_set ?_ (IsS90.ge HI0.out)) | exact HB.out)); rintro e w19 ⟨rfl, hi, hb, hk⟩; refine ⟨_, rfl, ?_⟩; have n0_ := am (Kd.R_mono (Kd.R_keep (IsS90.apart (show IsS90 w0 _ g s0_0 t248 t249 from IsS90.z) (Rz HO247.out) (by decide)) hk (fun _ h => h.2)) (fun _ h => h.1)); have n1_ := am (KeepBut.trans (Kq) hk (.inl rfl)); have n2_ := am (hb); have n3_ := am (hi); clear HO247 HK HB HI0; revert n0_ n1_ n2_ n3_; intro HO247 HK HB HI0; (try clear hb); (try clear hb2); (try clear hk); (try clear hi); obtain ⟨Ao20, co20, eo20⟩ := Kd.R_slice HO247.out; subst eo20) | ((with_reducible refine gate_callee (f := 72) rfl ?_); refine gL (some 28) Try.func72 #[.pointer (some ⟨g, 0, none⟩), .int .i64 (t245.length : Int)] ?_; (with_reducible refine (spec_l1Cur_pick.calls g s0_0 t251 t252 (t245.length : Int) t259 t260 t261 w0 _ ?side1 ?side2 A14.out).mono ?_); (case side1 => exact (IsS90.z)); (case side2 => repeat (first | (with_reducible first | exact HB.out | apply below_alloc | apply pw_below_drewN | apply below_drew1 | refine below_set ?_ (IsS90.ge HI0.out)) | exact HB.out)); rintro e w21 ⟨rfl, hi, hb, hk⟩; refine ⟨_, rfl, ?_⟩; have n0_ := am (Kd.R_mono (Kd.R_keep (IsS90.apart (show IsS90 w0 _ g s0_0 t251 t252 from IsS90.z) (Rz HO247.out) (by decide)) hk (fun _ h => h.2)) (fun _ h => h.1)); have n1_ := am (KeepBut.trans (Kq) hk (.inl rfl)); have n2_ := am (hb); have n3_ := am (hi); clear HO247 HK HB HI0; revert n0_ n1_ n2_ n3_; intro HO247 HK HB HI0; (try clear hb); (try clear hb2); (try clear hk); (try clear hi); obtain ⟨ad262, e262, hx262_0⟩ := Kd.at_string (Kd.R_reads' HO247.out).2.2 t259 dT dT; cases e262; have p262 := eT (0 ≤ (t259 : Int)); have q262 := eT (t259 < (t245.length : Int))) | ((with_reducible refine gate_builtin (b := .append) (xs := #[.tmp 23, .tmp 31]) rfl ?_); at_builtin; refine Kd.R_append Kd.string w.heap.size rfl (.tmp 23) (.tmp 31) 36 9 (.string ⟨#[]⟩) 16 rfl Try.underlying36 info9 rfl (by decide) (by omega) (.slice (some ad262) t245.length co20) t245 (rdOf ByteArray.empty t245 t259) [.string (rdOf ByteArray.empty t245 t259)] (fun _ => True) (fun _ => False) rfl rfl ?aP (fun _ hk => hk.elim) ?aF ?aO (Below.refl _ _) ?aS ?aL ?_; (case aP => exact rfl); (case aF => exact (fun _ _ => trivial)); (case aO => exact (Rz HO247.out)); (case aS => exact (keep_size (w := w) (g := g) (row := none) (Kq))); (case aL => have := LMc17.out; omega); intro v264 w22 ho hb hg hat; rw [← Ny263.out] at ho; have n0_ := am (IsS90.grown (IsS90.z) hg (IsS90.own_ne HI0.out HO247.out (by decide))); have n1_ := am (below_weaken (by repeat (first | (with_reducible first | exact HB.out | apply below_alloc | apply pw_below_drewN | apply below_drew1 | refine below_set ?_ (IsS90.ge HI0.out)) | exact HB.out)) HL.out hb); have n2_ := am (KeepBut.trans (Kq) (KeepBut.of_grown hg g) (Kd.R_base2 HO247.out)); have n3_ := am (ho); clear HI0 HB HK HO247; revert n0_ n1_ n2_ n3_; intro HI0 HB HK HO265; clear ho hb hg hat))
       go_ret
       exact ⟨_, eZ, Rz HO265.out, IsS90.z, by repeat (first | (with_reducible first | exact HB.out | apply below_alloc | apply pw_below_drewN | apply below_drew1 | refine below_set ?_ (IsS90.ge HI0.out)) | exact HB.out), Kq⟩
      ·rw [if_neg c17] at H
       exact absurd H (by simp)
     ·rw [if_neg c16] at H
      exact absurd H (by simp)
    ·rw [if_neg c15] at H
     exact absurd H (by simp)
   ·rw [if_neg c13] at H
    have c13b0 : decide (0 < (t245.length : Int)) = false := decide_eq_false c13; have c13b1 : decide (0 < t245.length) = false := decide_eq_false (by omega); clear c13
    simp only [Option.some.injEq, Prod.mk.injEq] at H
    obtain ⟨rfl, rfl, rfl⟩ := H
    go_enter Try.func70, Try.ntmps70
    go_wp2_with (first | ((with_reducible refine gate_callee (f := 128) rfl ?_); refine gL (some 8) Try.func128 #[.pointer (some ⟨g, 0, none⟩), .int .i64 a1] ?_; (with_reducible refine (spec_l1Cur_keys.calls k g s0_0 s0_1 s0_2 a1 t245 t248 t249 w0 _ ?side1 ?side2 A3.out).mono ?_); (case side1 => exact (IsS90.z)); (case side2 => repeat (first | (with_reducible first | exact HB.out | apply below_alloc | apply pw_below_drewN | apply below_drew1 | refine below_set ?_ (IsS90.ge HI0.out)) | exact HB.out)); rintro e w23 ⟨v246, rfl, ho0, hi, hb, hk⟩; refine ⟨_, rfl, ?_⟩; have n0_ := am (Kd.R_lower ho0 (keep_size (w := w) (g := g) (row := none) (Kq))); have n1_ := am (KeepBut.trans (Kq) hk (.inl rfl)); have n2_ := am (hb); have n3_ := am (hi); clear HK HB HI0; revert n0_ n1_ n2_ n3_; intro HO247 HK HB HI0; (try clear hb); (try clear hb2); (try clear hk); (try clear hi); (try clear ho0)) | ((with_reducible refine gate_callee (f := 72) rfl ?_); refine gL (some 10) Try.func72 #[.pointer (some ⟨g, 0, none⟩), .int .i64 14] ?_; (with_reducible refine (spec_l1Cur_pick.calls g s0_0 t248 t249 14 t250 t251 t252 w0 _ ?side1 ?side2 A4.out).mono ?_); (case side1 => exact (IsS90.z)); (case side2 => repeat (first | (with_reducible first | exact HB.out | apply below_alloc | apply pw_below_drewN | apply below_drew1 | refine below_set ?_ (IsS90.ge HI0.out)) | exact HB.out)); rintro e w24 ⟨rfl, hi, hb, hk⟩; refine ⟨_, rfl, ?_⟩; have n0_ := am (Kd.R_mono (Kd.R_keep (IsS90.apart (show IsS90 w0 _ g s0_0 t248 t249 from IsS90.z) (Rz HO247.out) (by decide)) hk (fun _ h => h.2)) (fun _ h => h.1)); have n1_ := am (KeepBut.trans (Kq) hk (.inl rfl)); have n2_ := am (hb); have n3_ := am (hi); clear HO247 HK HB HI0; revert n0_ n1_ n2_ n3_; intro HO247 HK HB HI0; (try clear hb); (try clear hb2); (try clear hk); (try clear hi); obtain ⟨Ao25, co25, eo25⟩ := Kd.R_slice HO247.out; subst eo25))
    go_ret
    exact ⟨_, eZ, Rz HO247.out, IsS90.z, by repeat (first | (with_reducible first | exact HB.out | apply below_alloc | apply pw_below_drewN | apply below_drew1 | refine below_set ?_ (IsS90.ge HI0.out)) | exact HB.out), Kq⟩
  ·rw [if_neg c12] at H
   have c12b0 : (t250 == 1) = false := beq_eq_false_iff_ne.mpr c12; have c12b1 : (t250 != 1) = true := bne_iff_ne.mpr c12
   by_cases c26 : t250 = 2
   ·rw [if_pos c26] at H
    have c26b0 : (t250 == 2) = true := beq_iff_eq.mpr c26; have c26b1 : (t250 != 2) = false := bne_eq_false_iff_eq.mpr c26; clear c26; obtain ⟨⟨t266, t267, t268⟩, A27, H⟩ := ob H; (try dsimp -simprocs only at H); obtain ⟨⟨t269, t272, t273⟩, A28, H⟩ := ob H; (try dsimp -simprocs only at H)
    simp only [Option.some.injEq, Prod.mk.injEq] at H
    obtain ⟨rfl, rfl, rfl⟩ := H
    go_enter Try.func70, Try.ntmps70
    go_wp2_with (first | ((with_reducible refine gate_callee (f := 128) rfl ?_); refine gL (some 8) Try.func128 #[.pointer (some ⟨g, 0, none⟩), .int .i64 a1] ?_; (with_reducible refine (spec_l1Cur_keys.calls k g s0_0 s0_1 s0_2 a1 t245 t248 t249 w0 _ ?side1 ?side2 A3.out).mono ?_); (case side1 => exact (IsS90.z)); (case side2 => repeat (first | (with_reducible first | exact HB.out | apply below_alloc | apply pw_below_drewN | apply below_drew1 | refine below_set ?_ (IsS90.ge HI0.out)) | exact HB.out)); rintro e w29 ⟨v246, rfl, ho0, hi, hb, hk⟩; refine ⟨_, rfl, ?_⟩; have n0_ := am (Kd.R_lower ho0 (keep_size (w := w) (g := g) (row := none) (Kq))); have n1_ := am (KeepBut.trans (Kq) hk (.inl rfl)); have n2_ := am (hb); have n3_ := am (hi); clear HK HB HI0; revert n0_ n1_ n2_ n3_; intro HO247 HK HB HI0; (try clear hb); (try clear hb2); (try clear hk); (try clear hi); (try clear ho0)) | ((with_reducible refine gate_callee (f := 72) rfl ?_); refine gL (some 10) Try.func72 #[.pointer (some ⟨g, 0, none⟩), .int .i64 14] ?_; (with_reducible refine (spec_l1Cur_pick.calls g s0_0 t248 t249 14 t250 t251 t252 w0 _ ?side1 ?side2 A4.out).mono ?_); (case side1 => exact (IsS90.z)); (case side2 => repeat (first | (with_reducible first | exact HB.out | apply below_alloc | apply pw_below_drewN | apply below_drew1 | refine below_set ?_ (IsS90.ge HI0.out)) | exact HB.out)); rintro e w30 ⟨rfl, hi, hb, hk⟩; refine ⟨_, rfl, ?_⟩; have n0_ := am (Kd.R_mono (Kd.R_keep (IsS90.apart (show IsS90 w0 _ g s0_0 t248 t249 from IsS90.z) (Rz HO247.out) (by decide)) hk (fun _ h => h.2)) (fun _ h => h.1)); have n1_ := am (KeepBut.trans (Kq) hk (.inl rfl)); have n2_ := am (hb); have n3_ := am (hi); clear HO247 HK HB HI0; revert n0_ n1_ n2_ n3_; intro HO247 HK HB HI0; (try clear hb); (try clear hb2); (try clear hk); (try clear hi)) | ((with_reducible refine gate_callee (f := 72) rfl ?_); refine gL (some 37) Try.func72 #[.pointer (some ⟨g, 0, none⟩), .int .i64 2] ?_; (with_reducible refine (spec_l1Cur_pick.calls g s0_0 t251 t252 2 t266 t267 t268 w0 _ ?side1 ?side2 A27.out).mono ?_); (case side1 => exact (IsS90.z)); (case side2 => repeat (first | (with_reducible first | exact HB.out | apply below_alloc | apply pw_below_drewN | apply below_drew1 | refine below_set ?_ (IsS90.ge HI0.out)) | exact HB.out)); rintro e w31 ⟨rfl, hi, hb, hk⟩; refine ⟨_, rfl, ?_⟩; have n0_ := am (Kd.R_mono (Kd.R_keep (IsS90.apart (show IsS90 w0 _ g s0_0 t251 t252 from IsS90.z) (Rz HO247.out) (by decide)) hk (fun _ h => h.2)) (fun _ h => h.1)); have n1_ := am (KeepBut.trans (Kq) hk (.inl rfl)); have n2_ := am (hb); have n3_ := am (hi); clear HO247 HK HB HI0; revert n0_ n1_ n2_ n3_; intro HO247 HK HB HI0; (try clear hb); (try clear hb2); (try clear hk); (try clear hi)) | ((with_reducible refine gate_callee (f := 141) rfl ?_); refine gL (some 39) Try.func141 #[.pointer (some ⟨g, 0, none⟩), .int .i64 (wrap64 (40 + t266))] ?_; (with_reducible refine (spec_l1Cur_many.calls k g s0_0 t267 t268 (wrap64 (40 + t266)) t269 t272 t273 w0 _ ?side1 ?side2 A28.out).mono ?_); (case side1 => exact (IsS90.z)); (case side2 => repeat (first | (with_reducible first | exact HB.out | apply below_alloc | apply pw_below_drewN | apply below_drew1 | refine below_set ?_ (IsS90.ge HI0.out)) | exact HB.out)); rintro e w32 ⟨v270, rfl, ho0, hi, hb, hk⟩; refine ⟨_, rfl, ?_⟩; have n0_ := am (Kd.R_mono (Kd.R_told (Kd.R_oldK (IsS90.apart (show IsS90 w0 _ g s0_0 t267 t268 from IsS90.z) (Rz HO247.out) (by decide)) hk) (Kd.R_base ho0)) (fun _ h_ => h_.1)); have n1_ := am (Kd.R_lower (Kd.R_new' ho0 (Kd.R_lt (Rz HO247.out))) (keep_size (w := w) (g := g) (row := none) (Kq))); have n2_ := am (KeepBut.trans (Kq) hk (.inl rfl)); have n3_ := am (hb); have n4_ := am (hi); clear HO247 HK HB HI0; revert n0_ n1_ n2_ n3_ n4_; intro HO247 HO271 HK HB HI0; (try clear hb); (try clear hb2); (try clear hk); (try clear hi); (try clear ho0)))
    go_ret
    exact ⟨_, eZ, Rz (Kd.R_mono HO271.out (fun _ hk => trivial)), IsS90.z, by repeat (first | (with_reducible first | exact HB.out | apply below_alloc | apply pw_below_drewN | apply below_drew1 | refine below_set ?_ (IsS90.ge HI0.out)) | exact HB.out), Kq⟩
   ·rw [if_neg c26] at H
    have c26b0 : (t250 == 2) = false := beq_eq_false_iff_ne.mpr c26; have c26b1 : (t250 != 2) = true := bne_iff_ne.mpr c26
    simp only [Option.some.injEq, Prod.mk.injEq] at H
    obtain ⟨rfl, rfl, rfl⟩ := H
    go_enter Try.func70, Try.ntmps70
    go_wp2_with (first | ((with_reducible refine gate_callee (f := 128) rfl ?_); refine gL (some 8) Try.func128 #[.pointer (some ⟨g, 0, none⟩), .int .i64 a1] ?_; (with_reducible refine (spec_l1Cur_keys.calls k g s0_0 s0_1 s0_2 a1 t245 t248 t249 w0 _ ?side1 ?side2 A3.out).mono ?_); (case side1 => exact (IsS90.z)); (case side2 => repeat (first | (with_reducible first | exact HB.out | apply below_alloc | apply pw_below_drewN | apply below_drew1 | refine below_set ?_ (IsS90.ge HI0.out)) | exact HB.out)); rintro e w33 ⟨v246, rfl, ho0, hi, hb, hk⟩; refine ⟨_, rfl, ?_⟩; have n0_ := am (Kd.R_lower ho0 (keep_size (w := w) (g := g) (row := none) (Kq))); have n1_ := am (KeepBut.trans (Kq) hk (.inl rfl)); have n2_ := am (hb); have n3_ := am (hi); clear HK HB HI0; revert n0_ n1_ n2_ n3_; intro HO247 HK HB HI0; (try clear hb); (try clear hb2); (try clear hk); (try clear hi); (try clear ho0)) | ((with_reducible refine gate_callee (f := 72) rfl ?_); refine gL (some 10) Try.func72 #[.pointer (some ⟨g, 0, none⟩), .int .i64 14] ?_; (with_reducible refine (spec_l1Cur_pick.calls g s0_0 t248 t249 14 t250 t251 t252 w0 _ ?side1 ?side2 A4.out).mono ?_); (case side1 => exact (IsS90.z)); (case side2 => repeat (first | (with_reducible first | exact HB.out | apply below_alloc | apply pw_below_drewN | apply below_drew1 | refine below_set ?_ (IsS90.ge HI0.out)) | exact HB.out)); rintro e w34 ⟨rfl, hi, hb, hk⟩; refine ⟨_, rfl, ?_⟩; have n0_ := am (Kd.R_mono (Kd.R_keep (IsS90.apart (show IsS90 w0 _ g s0_0 t248 t249 from IsS90.z) (Rz HO247.out) (by decide)) hk (fun _ h => h.2)) (fun _ h => h.1)); have n1_ := am (KeepBut.trans (Kq) hk (.inl rfl)); have n2_ := am (hb); have n3_ := am (hi); clear HO247 HK HB HI0; revert n0_ n1_ n2_ n3_; intro HO247 HK HB HI0; (try clear hb); (try clear hb2); (try clear hk); (try clear hi)))
    go_ret
    exact ⟨_, eZ, Rz HO247.out, IsS90.z, by repeat (first | (with_reducible first | exact HB.out | apply below_alloc | apply pw_below_drewN | apply below_drew1 | refine below_set ?_ (IsS90.ge HI0.out)) | exact HB.out), Kq⟩

def spec_l1Most.f (a0 : Int) (a1 : Int) : Option (Int) := if a0 > a1 then (some a0) else (some a1)
theorem spec_l1Most.calls (a0 : Int) (a1 : Int) (r : Int) (w : World) (h : spec_l1Most.f a0 a1 = some r) :
  Calls Try.prog 143 #[.int .i64 a0, .int .i64 a1] w fun e w' => e = .returned (.int .i64 r) ∧ Drawn0 w w' := by
 have H : (if a0 > a1 then (some a0) else (some a1)) = some r := h; clear h
 by_cases c3 : a0 > a1
 ·rw [if_pos c3] at H
  have c3b0 : decide (a1 < a0) = true := decide_eq_true c3; clear c3; obtain rfl := Option.some.inj H
  go_enter Try.func143, Try.ntmps143
  go_wp2
  go_ret
  exact ⟨by first | rfl | (simp; done) | (simp [*]; done), by repeat (first | exact Drawn0.refl _ | apply Drawn0.step)⟩
 ·rw [if_neg c3] at H
  have c3b0 : decide (a1 < a0) = false := decide_eq_false c3; clear c3; obtain rfl := Option.some.inj H
  go_enter Try.func143, Try.ntmps143
  go_wp2
  go_ret
  exact ⟨by first | rfl | (simp; done) | (simp [*]; done), by repeat (first | exact Drawn0.refl _ | apply Drawn0.step)⟩

def spec_l1Least.f (a0 : Int) (a1 : Int) : Option (Int) := if a0 < a1 then (some a0) else (some a1)
theorem spec_l1Least.calls (a0 : Int) (a1 : Int) (r : Int) (w : World) (h : spec_l1Least.f a0 a1 = some r) :
  Calls Try.prog 144 #[.int .i64 a0, .int .i64 a1] w fun e w' => e = .returned (.int .i64 r) ∧ Drawn0 w w' := by
 have H : (if a0 < a1 then (some a0) else (some a1)) = some r := h; clear h
 by_cases c3 : a0 < a1
 ·rw [if_pos c3] at H
  have c3b0 : decide (a0 < a1) = true := decide_eq_true c3; clear c3; obtain rfl := Option.some.inj H
  go_enter Try.func144, Try.ntmps144
  go_wp2
  go_ret
  exact ⟨by first | rfl | (simp; done) | (simp [*]; done), by repeat (first | exact Drawn0.refl _ | apply Drawn0.step)⟩
 ·rw [if_neg c3] at H
  have c3b0 : decide (a0 < a1) = false := decide_eq_false c3; clear c3; obtain rfl := Option.some.inj H
  go_enter Try.func144, Try.ntmps144
  go_wp2
  go_ret
  exact ⟨by first | rfl | (simp; done) | (simp [*]; done), by repeat (first | exact Drawn0.refl _ | apply Drawn0.step)⟩

def spec_l1Clip.f (a0 : Int) (a1 : Int) : Option (Int) := (spec_l1Least.f a0 a1).bind fun t274 => ((spec_l1Most.f 0 t274).bind fun t275 => (some t275))
theorem spec_l1Clip.calls (a0 : Int) (a1 : Int) (r : Int) (w : World) (h : spec_l1Clip.f a0 a1 = some r) :
  Calls Try.prog 73 #[.int .i64 a0, .int .i64 a1] w fun e w' => e = .returned (.int .i64 r) ∧ Drawn0 w w' := by
 have H : ((spec_l1Least.f a0 a1).bind fun t274 => ((spec_l1Most.f 0 t274).bind fun t275 => (some t275))) = some r := h; clear h; obtain ⟨t274, A3, H⟩ := ob H; (try dsimp -simprocs only at H); obtain ⟨t275, A4, H⟩ := ob H; (try dsimp -simprocs only at H); obtain rfl := Option.some.inj H
 go_enter Try.func73, Try.ntmps73
 go_wp2_with (first | ((with_reducible refine gate_callee (f := 144) rfl ?_); refine gL (some 7) Try.func144 #[.int .i64 a0, .int .i64 a1] ?_; (with_reducible refine (spec_l1Least.calls a0 a1 t274 _ A3.out).mono ?_); rintro e w' ⟨rfl, ⟨nd, rfl⟩⟩; refine ⟨_, rfl, ?_⟩) | ((with_reducible refine gate_callee (f := 143) rfl ?_); refine gL (some 8) Try.func143 #[.int .i64 0, .int .i64 t274] ?_; (with_reducible refine (spec_l1Most.calls 0 t274 t275 _ A4.out).mono ?_); rintro e w' ⟨rfl, ⟨nd, rfl⟩⟩; refine ⟨_, rfl, ?_⟩))
 go_ret
 exact ⟨by first | rfl | (simp; done) | (simp [*]; done), by repeat (first | exact Drawn0.refl _ | apply Drawn0.step)⟩

def spec_l1Cur_among.f (s0_0 : List Int) (s0_1 : Int) (s0_2 : Int) (l1 : List Int) : Option (Int × Int × Int) := (spec_l1Cur_pick.f s0_0 s0_1 s0_2 (l1.length : Int)).bind fun bt276 => (if 0 ≤ bt276.1 then (if bt276.1 < (l1.length : Int) then (some (rd l1 bt276.1, bt276.2.1, bt276.2.2)) else (none)) else (none))
theorem spec_l1Cur_among.calls (g : Nat) (s0_0 : List Int) (s0_1 : Int) (s0_2 : Int) (A1 : Option Addr) (c1 : Nat) (l1 : List Int) (r1 : Int) (r2 : Int) (r3 : Int) (w0 w : World) (hI : IsS90 w0 w g s0_0 s0_1 s0_2) (hB : Below w0.heap.size w0 w) (hr1 : Kd.C (Kd.int .i64) w A1 l1.length l1) (hc1 : l1.length ≤ c1) (hf1 : ∀ ad, A1 = some ad → 0 < l1.length → ad.block ≠ g) (h : spec_l1Cur_among.f s0_0 s0_1 s0_2 l1 = some (r1, r2, r3)) :
  Calls Try.prog 89 #[.pointer (some ⟨g, 0, none⟩), .slice A1 l1.length c1] w fun e w' => e = .returned (.int .i64 r1) ∧ IsS90 w0 w' g s0_0 r2 r3 ∧ Below w0.heap.size w0 w' ∧ KeepBut w w' g none := by
 have HR1 := am hr1; have HC1 := am hc1; clear hr1 hc1; have HI0 := am hI; have HK := am (KeepBut.refl w g none); have HL := am hB.size; clear hI; have HW0 := am hB.size; have HB := am hB; clear hB; have H : ((spec_l1Cur_pick.f s0_0 s0_1 s0_2 (l1.length : Int)).bind fun bt276 => (if 0 ≤ bt276.1 then (if bt276.1 < (l1.length : Int) then (some (rd l1 bt276.1, bt276.2.1, bt276.2.2)) else (none)) else (none))) = some (r1, r2, r3) := h; clear h; obtain ⟨⟨t276, t277, t278⟩, A3, H⟩ := ob H; (try dsimp -simprocs only at H)
 by_cases c4 : 0 ≤ t276
 ·rw [if_pos c4] at H
  have c4b0 : decide (0 ≤ t276) = true := decide_eq_true c4; clear c4
  by_cases c5 : t276 < (l1.length : Int)
  ·rw [if_pos c5] at H
   have c5b0 : decide (t276 < (l1.length : Int)) = true := decide_eq_true c5; clear c5
   simp only [Option.some.injEq, Prod.mk.injEq] at H
   obtain ⟨rfl, rfl, rfl⟩ := H
   go_enter Try.func89, Try.ntmps89
   go_wp2_with (first | ((with_reducible refine gate_callee (f := 72) rfl ?_); refine gL (some 9) Try.func72 #[.pointer (some ⟨g, 0, none⟩), .int .i64 (l1.length : Int)] ?_; (with_reducible refine (spec_l1Cur_pick.calls g s0_0 s0_1 s0_2 (l1.length : Int) t276 t277 t278 w0 _ ?side1 ?side2 A3.out).mono ?_); (case side1 => exact (IsS90.z)); (case side2 => repeat (first | (with_reducible first | exact HB.out | apply below_alloc | apply pw_below_drewN | apply below_drew1 | refine below_set ?_ (IsS90.ge HI0.out)) | exact HB.out)); rintro e w6 ⟨rfl, hi, hb, hk⟩; refine ⟨_, rfl, ?_⟩; have n0_ := am (KeepBut.trans (Kq) hk (.inl rfl)); have n1_ := am (hb); have n2_ := am (hi); clear HK HB HI0; revert n0_ n1_ n2_; intro HK HB HI0; (try clear hb); (try clear hb2); (try clear hk); (try clear hi); have p279 : 0 ≤ (t276 : Int) := dT; have q279 : t276 < (l1.length : Int) := dT; obtain ⟨ad279, e279, hx279_0⟩ := Kd.at_int HR1.out t276 p279 q279; cases e279; replace hx279_0 := keep_cell HK.out hx279_0 (by first | (rw [add_block]; exact hf1 _ rfl (by omega)) | exact hf1 _ rfl (by omega) | exact hf1 ad279 rfl (by omega)); replace p279 := eq_true p279; replace q279 := eq_true q279))
   go_ret
   exact ⟨eZ, IsS90.z, by repeat (first | (with_reducible first | exact HB.out | apply below_alloc | apply pw_below_drewN | apply below_drew1 | refine below_set ?_ (IsS90.ge HI0.out)) | exact HB.out), Kq⟩
  ·rw [if_neg c5] at H
   exact absurd H (by simp)
 ·rw [if_neg c4] at H
  exact absurd H (by simp)

def spec_l1Cur_seed9.f (s0_0 : List Int) (s0_1 : Int) (s0_2 : Int) : Option (Int × Int × Int) := (spec_l1Cur_pick.f s0_0 s0_1 s0_2 12).bind fun bt280 => (if bt280.1 = 0 then ((spec_l1Cur_among.f s0_0 bt280.2.1 bt280.2.2 (([(-1), 9999, 10000] : List Int))).bind fun bt286 => (some (bt286.1, bt286.2.1, bt286.2.2))) else (if bt280.1 = 1 then ((spec_l1Cur_pick.f s0_0 bt280.2.1 bt280.2.2 10000).bind fun bt289 => (some (bt289.1, bt289.2.1, bt289.2.2))) else ((spec_l1Cur_pick.f s0_0 bt280.2.1 bt280.2.2 20).bind fun bt292 => (some (bt292.1, bt292.2.1, bt292.2.2)))))
theorem spec_l1Cur_seed9.calls (g : Nat) (s0_0 : List Int) (s0_1 : Int) (s0_2 : Int) (r1 : Int) (r2 : Int) (r3 : Int) (w0 w : World) (hI : IsS90 w0 w g s0_0 s0_1 s0_2) (hB : Below w0.heap.size w0 w) (h : spec_l1Cur_seed9.f s0_0 s0_1 s0_2 = some (r1, r2, r3)) :
  Calls Try.prog 74 #[.pointer (some ⟨g, 0, none⟩)] w fun e w' => e = .returned (.int .i64 r1) ∧ IsS90 w0 w' g s0_0 r2 r3 ∧ Below w0.heap.size w0 w' ∧ KeepBut w w' g none := by
 have HI0 := am hI; have HK := am (KeepBut.refl w g none); have HL := am hB.size; clear hI; have HW0 := am hB.size; have HB := am hB; clear hB; have H : ((spec_l1Cur_pick.f s0_0 s0_1 s0_2 12).bind fun bt280 => (if bt280.1 = 0 then ((spec_l1Cur_among.f s0_0 bt280.2.1 bt280.2.2 (([(-1), 9999, 10000] : List Int))).bind fun bt286 => (some (bt286.1, bt286.2.1, bt286.2.2))) else (if bt280.1 = 1 then ((spec_l1Cur_pick.f s0_0 bt280.2.1 bt280.2.2 10000).bind fun bt289 => (some (bt289.1, bt289.2.1, bt289.2.2))) else ((spec_l1Cur_pick.f s0_0 bt280.2.1 bt280.2.2 20).bind fun bt292 => (some (bt292.1, bt292.2.1, bt292.2.2)))))) = some (r1, r2, r3) := h; clear h; obtain ⟨⟨t280, t281, t282⟩, A2, H⟩ := ob H; (try dsimp -simprocs only at H)
 by_cases c3 : t280 = 0
 ·rw [if_pos c3] at H
  have c3b0 : (t280 == 0) = true := beq_iff_eq.mpr c3; have c3b1 : (t280 != 0) = false := bne_eq_false_iff_eq.mpr c3; clear c3; obtain ⟨y283, hy283⟩ : ∃ y_ : List Int, y_ = (([(-1), 9999, 10000] : List Int)) := ⟨_, rfl⟩
  replace H : ((spec_l1Cur_among.f s0_0 t281 t282 y283).bind fun bt286 => (some (bt286.1, bt286.2.1, bt286.2.2))) = some (r1, r2, r3) := by (try rw [hy283]); first | with_reducible exact H | exact (Option.bind_some _ _).symm.trans H | exact H
  have Ny283 := am hy283; clear hy283; obtain ⟨⟨t286, t287, t288⟩, A4, H⟩ := ob H; (try dsimp -simprocs only at H)
  simp only [Option.some.injEq, Prod.mk.injEq] at H
  obtain ⟨rfl, rfl, rfl⟩ := H
  go_enter Try.func74, Try.ntmps74
  go_wp2_with (first | ((with_reducible refine gate_callee (f := 72) rfl ?_); refine gL (some 4) Try.func72 #[.pointer (some ⟨g, 0, none⟩), .int .i64 12] ?_; (with_reducible refine (spec_l1Cur_pick.calls g s0_0 s0_1 s0_2 12 t280 t281 t282 w0 _ ?side1 ?side2 A2.out).mono ?_); (case side1 => exact (IsS90.z)); (case side2 => repeat (first | (with_reducible first | exact HB.out | apply below_alloc | apply pw_below_drewN | apply below_drew1 | refine below_set ?_ (IsS90.ge HI0.out)) | exact HB.out)); rintro e w5 ⟨rfl, hi, hb, hk⟩; refine ⟨_, rfl, ?_⟩; have n0_ := am (KeepBut.trans (Kq) hk (.inl rfl)); have n1_ := am (hb); have n2_ := am (hi); clear HK HB HI0; revert n0_ n1_ n2_; intro HK HB HI0; (try clear hb); (try clear hb2); (try clear hk); (try clear hi)) | ((with_reducible refine gate_dst (N := 8) rfl ?_); refine Kd.R_lit (Kd.int .i64) _ 3 ?hg (N := 8) ?hd (xs := ([(-1), 9999, 10000] : List Int)) (inner := [.int .i64 (-1), .int .i64 9999, .int .i64 10000]) (ok := fun _ => True) (okp := fun _ => True) ?hr ?hp (fun _ hk => hk) trivial (Below.refl _ _) (Nat.le_refl _) (by simp) ?_; (case hd => rfl); (case hg => rfl); (case hr => first | (go_simp; done) | (go_simp; rfl)); (case hp => exact (Reps.one (show Kd.M (Kd.int .i64) _ _ _ (-1) [.int .i64 (-1)] from rfl) (Reps.one (show Kd.M (Kd.int .i64) _ _ _ 9999 [.int .i64 9999] from rfl) (Reps.one (show Kd.M (Kd.int .i64) _ _ _ 10000 [.int .i64 10000] from rfl) (Reps.none _ _))))); intro v284 w6 ho7 hb hg_ hnew_; clear hg_ hnew_; (first | rw [← Ny283.out] at ho7 | (simp only [Int.reduceToNat] at ho7; rw [← Ny283.out] at ho7)); have n0_ := am (Kd.R_lower ho7 (keep_size (w := w) (g := g) (row := none) (Kq))); have n1_ := am (IsS90.below (IsS90.z) hb); have n2_ := am (KeepBut.trans (Kq) (KeepBut.of_below hb g none) (.inl rfl)); have n3_ := am (below_step (by repeat (first | (with_reducible first | exact HB.out | apply below_alloc | apply pw_below_drewN | apply below_drew1 | refine below_set ?_ (IsS90.ge HI0.out)) | exact HB.out)) hb); clear HI0 HK HB; revert n0_ n1_ n2_ n3_; intro HO285 HI0 HK HB; clear hb ho7; obtain ⟨Ao8, co8, eo8⟩ := Kd.R_slice HO285.out; subst eo8) | ((with_reducible refine gate_callee (f := 89) rfl ?_); refine gL (some 9) Try.func89 #[.pointer (some ⟨g, 0, none⟩), .slice Ao8 y283.length co8] ?_; (with_reducible refine (spec_l1Cur_among.calls g s0_0 t281 t282 _ _ y283 t286 t287 t288 w0 _ ?side1 ?side2 ?side3 ?side4 ?side5 A4.out).mono ?_); (case side1 => exact (IsS90.z)); (case side2 => repeat (first | (with_reducible first | exact HB.out | apply below_alloc | apply pw_below_drewN | apply below_drew1 | refine below_set ?_ (IsS90.ge HI0.out)) | exact HB.out)); (case side3 => exact Cz ((Kd.R_reads' HO285.out).2.2)); (case side4 => exact (Kd.R_reads' HO285.out).2.1); (case side5 => exact far_slice (IsS90.own_ne HI0.out HO285.out (by decide))); rintro e w9 ⟨rfl, hi, hb, hk⟩; refine ⟨_, rfl, ?_⟩; have n0_ := am (Kd.R_mono (Kd.R_keep (IsS90.apart (show IsS90 w0 _ g s0_0 t281 t282 from IsS90.z) (Rz HO285.out) (by decide)) hk (fun _ h => h.2)) (fun _ h => h.1)); have n1_ := am (KeepBut.trans (Kq) hk (.inl rfl)); have n2_ := am (hb); have n3_ := am (hi); clear HO285 HK HB HI0; revert n0_ n1_ n2_ n3_; intro HO285 HK HB HI0; (try clear hb); (try clear hb2); (try clear hk); (try clear hi)))
  go_ret
  exact ⟨eZ, IsS90.z, by repeat (first | (with_reducible first | exact HB.out | apply below_alloc | apply pw_below_drewN | apply below_drew1 | refine below_set ?_ (IsS90.ge HI0.out)) | exact HB.out), Kq⟩
 ·rw [if_neg c3] at H
  have c3b0 : (t280 == 0) = false := beq_eq_false_iff_ne.mpr c3; have c3b1 : (t280 != 0) = true := bne_iff_ne.mpr c3
  by_cases c10 : t280 = 1
  ·rw [if_pos c10] at H
   have c10b0 : (t280 == 1) = true := beq_iff_eq.mpr c10; have c10b1 : (t280 != 1) = false := bne_eq_false_iff_eq.mpr c10; clear c10; obtain ⟨⟨t289, t290, t291⟩, A11, H⟩ := ob H; (try dsimp -simprocs only at H)
   simp only [Option.some.injEq, Prod.mk.injEq] at H
   obtain ⟨rfl, rfl, rfl⟩ := H
   go_enter Try.func74, Try.ntmps74
   go_wp2_with (first | ((with_reducible refine gate_callee (f := 72) rfl ?_); refine gL (some 4) Try.func72 #[.pointer (some ⟨g, 0, none⟩), .int .i64 12] ?_; (with_reducible refine (spec_l1Cur_pick.calls g s0_0 s0_1 s0_2 12 t280 t281 t282 w0 _ ?side1 ?side2 A2.out).mono ?_); (case side1 => exact (IsS90.z)); (case side2 => repeat (first | (with_reducible first | exact HB.out | apply below_alloc | apply pw_below_drewN | apply below_drew1 | refine below_set ?_ (IsS90.ge HI0.out)) | exact HB.out)); rintro e w12 ⟨rfl, hi, hb, hk⟩; refine ⟨_, rfl, ?_⟩; have n0_ := am (KeepBut.trans (Kq) hk (.inl rfl)); have n1_ := am (hb); have n2_ := am (hi); clear HK HB HI0; revert n0_ n1_ n2_; intro HK HB HI0; (try clear hb); (try clear hb2); (try clear hk); (try clear hi)) | ((with_reducible refine gate_callee (f := 72) rfl ?_); refine gL (some 13) Try.func72 #[.pointer (some ⟨g, 0, none⟩), .int .i64 10000] ?_; (with_reducible refine (spec_l1Cur_pick.calls g s0_0 t281 t282 10000 t289 t290 t291 w0 _ ?side1 ?side2 A11.out).mono ?_); (case side1 => exact (IsS90.z)); (case side2 => repeat (first | (with_reducible first | exact HB.out | apply below_alloc | apply pw_below_drewN | apply below_drew1 | refine below_set ?_ (IsS90.ge HI0.out)) | exact HB.out)); rintro e w13 ⟨rfl, hi, hb, hk⟩; refine ⟨_, rfl, ?_⟩; have n0_ := am (KeepBut.trans (Kq) hk (.inl rfl)); have n1_ := am (hb); have n2_ := am (hi); clear HK HB HI0; revert n0_ n1_ n2_; intro HK HB HI0; (try clear hb); (try clear hb2); (try clear hk); (try clear hi)))
   go_ret
   exact ⟨eZ, IsS90.z, by repeat (first | (with_reducible first | exact HB.out | apply below_alloc | apply pw_below_drewN | apply below_drew1 | refine below_set ?_ (IsS90.ge HI0.out)) | exact HB.out), Kq⟩
  ·rw [if_neg c10] at H
   have c10b0 : (t280 == 1) = false := beq_eq_false_iff_ne.mpr c10; have c10b1 : (t280 != 1) = true := bne_iff_ne.mpr c10; obtain ⟨⟨t292, t293, t294⟩, A14, H⟩ := ob H; (try dsimp -simprocs only at H)
   simp only [Option.some.injEq, Prod.mk.injEq] at H
   obtain ⟨rfl, rfl, rfl⟩ := H
   go_enter Try.func74, Try.ntmps74
   go_wp2_with (first | ((with_reducible refine gate_callee (f := 72) rfl ?_); refine gL (some 4) Try.func72 #[.pointer (some ⟨g, 0, none⟩), .int .i64 12] ?_; (with_reducible refine (spec_l1Cur_pick.calls g s0_0 s0_1 s0_2 12 t280 t281 t282 w0 _ ?side1 ?side2 A2.out).mono ?_); (case side1 => exact (IsS90.z)); (case side2 => repeat (first | (with_reducible first | exact HB.out | apply below_alloc | apply pw_below_drewN | apply below_drew1 | refine below_set ?_ (IsS90.ge HI0.out)) | exact HB.out)); rintro e w15 ⟨rfl, hi, hb, hk⟩; refine ⟨_, rfl, ?_⟩; have n0_ := am (KeepBut.trans (Kq) hk (.inl rfl)); have n1_ := am (hb); have n2_ := am (hi); clear HK HB HI0; revert n0_ n1_ n2_; intro HK HB HI0; (try clear hb); (try clear hb2); (try clear hk); (try clear hi)) | ((with_reducible refine gate_callee (f := 72) rfl ?_); refine gL (some 15) Try.func72 #[.pointer (some ⟨g, 0, none⟩), .int .i64 20] ?_; (with_reducible refine (spec_l1Cur_pick.calls g s0_0 t281 t282 20 t292 t293 t294 w0 _ ?side1 ?side2 A14.out).mono ?_); (case side1 => exact (IsS90.z)); (case side2 => repeat (first | (with_reducible first | exact HB.out | apply below_alloc | apply pw_below_drewN | apply below_drew1 | refine below_set ?_ (IsS90.ge HI0.out)) | exact HB.out)); rintro e w16 ⟨rfl, hi, hb, hk⟩; refine ⟨_, rfl, ?_⟩; have n0_ := am (KeepBut.trans (Kq) hk (.inl rfl)); have n1_ := am (hb); have n2_ := am (hi); clear HK HB HI0; revert n0_ n1_ n2_; intro HK HB HI0; (try clear hb); (try clear hb2); (try clear hk); (try clear hi)))
   go_ret
   exact ⟨eZ, IsS90.z, by repeat (first | (with_reducible first | exact HB.out | apply below_alloc | apply pw_below_drewN | apply below_drew1 | refine below_set ?_ (IsS90.ge HI0.out)) | exact HB.out), Kq⟩

def spec_reTop.f (a0 : Int) : Option (Int) := if 0 ≤ a0 then (some (shl .i64 1 a0)) else (none)
theorem spec_reTop.calls (a0 : Int) (r : Int) (w : World) (h : spec_reTop.f a0 = some r) :
  Calls Try.prog 162 #[.int .i64 a0] w fun e w' => e = .returned (.int .i64 r) ∧ Drawn0 w w' := by
 have H : (if 0 ≤ a0 then (some (shl .i64 1 a0)) else (none)) = some r := h; clear h
 by_cases c2 : 0 ≤ a0
 ·rw [if_pos c2] at H
  have c2b0 := eq_true c2; have c2b1 : decide (0 ≤ a0) = true := decide_eq_true c2; clear c2; obtain ⟨ji3, hji3⟩ : ∃ j_ : Int, (shl .i64 1 a0) = j_ := ⟨_, rfl⟩
  replace H : (some ji3) = some r := by first | (rw [hji3] at H; exact H) | (simp only [hji3] at H ⊢; exact H)
  have hji3_ : (IntKind.i64.wrap (1 * 2 ^ min a0.toNat 64)) = ji3 := hji3; have hji3z : a0 ≤ 64 → (IntKind.i64.wrap (1 * 2 ^ a0.toNat)) = ji3 := shl_small hji3
  have hji3u : (IntKind.i64.wrap (2 ^ min a0.toNat 64)) = ji3 := by have h_ := hji3_; rw [Int.one_mul] at h_; exact h_
  have hji3v : a0 ≤ 64 → (IntKind.i64.wrap (2 ^ a0.toNat)) = ji3 := fun hle_ => by have h_ := hji3z hle_; rw [Int.one_mul] at h_; exact h_
  have hji3y : (wrap64 (1 * 2 ^ min a0.toNat 64)) = ji3 := (i64_w _).symm.trans hji3_
  have hji3x : a0 ≤ 64 → (wrap64 (1 * 2 ^ a0.toNat)) = ji3 := fun h_ => (i64_w _).symm.trans (hji3z h_)
  obtain rfl := Option.some.inj H
  go_enter Try.func162, Try.ntmps162
  go_wp2
  go_ret
  exact ⟨by first | rfl | (simp; done) | (simp only [← hji3] <;> (first | rfl | simp)) | (simp [*]; done), by repeat (first | exact Drawn0.refl _ | apply Drawn0.step)⟩
 ·rw [if_neg c2] at H
  exact absurd H (by simp)

def spec_l1Cur_segment2.f (s0_0 : List Int) (s0_1 : Int) (s0_2 : Int) (a1 : Int) : Option (Int × Int × Int) := (spec_l1Cur_one.f s0_0 s0_1 s0_2 10).bind fun bt295 => (if bt295.1 = true then ((spec_l1Cur_among.f s0_0 bt295.2.1 bt295.2.2 (([(-1), 0, 24, 25] : List Int))).bind fun bt301 => (some (bt301.1, bt301.2.1, bt301.2.2))) else ((spec_l1Cur_pick.f s0_0 bt295.2.1 bt295.2.2 4).bind fun bt304 => ((spec_l1Least.f (wrap64 ((wrap64 (Int.tdiv a1 3)) + bt304.1)) 23).bind fun t307 => (some (wrap64 (1 + t307), bt304.2.1, bt304.2.2)))))
theorem spec_l1Cur_segment2.calls (g : Nat) (s0_0 : List Int) (s0_1 : Int) (s0_2 : Int) (a1 : Int) (r1 : Int) (r2 : Int) (r3 : Int) (w0 w : World) (hI : IsS90 w0 w g s0_0 s0_1 s0_2) (hB : Below w0.heap.size w0 w) (h : spec_l1Cur_segment2.f s0_0 s0_1 s0_2 a1 = some (r1, r2, r3)) :
  Calls Try.prog 163 #[.pointer (some ⟨g, 0, none⟩), .int .i64 a1] w fun e w' => e = .returned (.int .i64 r1) ∧ IsS90 w0 w' g s0_0 r2 r3 ∧ Below w0.heap.size w0 w' ∧ KeepBut w w' g none := by
 have HI0 := am hI; have HK := am (KeepBut.refl w g none); have HL := am hB.size; clear hI; have HW0 := am hB.size; have HB := am hB; clear hB; have H : ((spec_l1Cur_one.f s0_0 s0_1 s0_2 10).bind fun bt295 => (if bt295.1 = true then ((spec_l1Cur_among.f s0_0 bt295.2.1 bt295.2.2 (([(-1), 0, 24, 25] : List Int))).bind fun bt301 => (some (bt301.1, bt301.2.1, bt301.2.2))) else ((spec_l1Cur_pick.f s0_0 bt295.2.1 bt295.2.2 4).bind fun bt304 => ((spec_l1Least.f (wrap64 ((wrap64 (Int.tdiv a1 3)) + bt304.1)) 23).bind fun t307 => (some (wrap64 (1 + t307), bt304.2.1, bt304.2.2)))))) = some (r1, r2, r3) := h; clear h; obtain ⟨⟨t295, t296, t297⟩, A3, H⟩ := ob H; (try dsimp -simprocs only at H)
 by_cases c4 : t295 = true
 ·subst c4
  rw [if_pos rfl] at H; obtain ⟨y298, hy298⟩ : ∃ y_ : List Int, y_ = (([(-1), 0, 24, 25] : List Int)) := ⟨_, rfl⟩
  replace H : ((spec_l1Cur_among.f s0_0 t296 t297 y298).bind fun bt301 => (some (bt301.1, bt301.2.1, bt301.2.2))) = some (r1, r2, r3) := by (try rw [hy298]); first | with_reducible exact H | exact (Option.bind_some _ _).symm.trans H | exact H
  have Ny298 := am hy298; clear hy298; obtain ⟨⟨t301, t302, t303⟩, A5, H⟩ := ob H; (try dsimp -simprocs only at H)
  simp only [Option.some.injEq, Prod.mk.injEq] at H
  obtain ⟨rfl, rfl, rfl⟩ := H
  go_enter Try.func163, Try.ntmps163
  go_wp2_with (first | ((with_reducible refine gate_callee (f := 71) rfl ?_); refine gL (some 6) Try.func71 #[.pointer (some ⟨g, 0, none⟩), .int .i64 10] ?_; (with_reducible refine (spec_l1Cur_one.calls g s0_0 s0_1 s0_2 10 true t296 t297 w0 _ ?side1 ?side2 A3.out).mono ?_); (case side1 => exact (IsS90.z)); (case side2 => repeat (first | (with_reducible first | exact HB.out | apply below_alloc | apply pw_below_drewN | apply below_drew1 | refine below_set ?_ (IsS90.ge HI0.out)) | exact HB.out)); rintro e w6 ⟨rfl, hi, hb, hk⟩; refine ⟨_, rfl, ?_⟩; have n0_ := am (KeepBut.trans (Kq) hk (.inl rfl)); have n1_ := am (hb); have n2_ := am (hi); clear HK HB HI0; revert n0_ n1_ n2_; intro HK HB HI0; (try clear hb); (try clear hb2); (try clear hk); (try clear hi)) | ((with_reducible refine gate_dst (N := 8) rfl ?_); refine Kd.R_lit (Kd.int .i64) _ 3 ?hg (N := 8) ?hd (xs := ([(-1), 0, 24, 25] : List Int)) (inner := [.int .i64 (-1), .int .i64 0, .int .i64 24, .int .i64 25]) (ok := fun _ => True) (okp := fun _ => True) ?hr ?hp (fun _ hk => hk) trivial (Below.refl _ _) (Nat.le_refl _) (by simp) ?_; (case hd => rfl); (case hg => rfl); (case hr => first | (go_simp; done) | (go_simp; rfl)); (case hp => exact (Reps.one (show Kd.M (Kd.int .i64) _ _ _ (-1) [.int .i64 (-1)] from rfl) (Reps.one (show Kd.M (Kd.int .i64) _ _ _ 0 [.int .i64 0] from rfl) (Reps.one (show Kd.M (Kd.int .i64) _ _ _ 24 [.int .i64 24] from rfl) (Reps.one (show Kd.M (Kd.int .i64) _ _ _ 25 [.int .i64 25] from rfl) (Reps.none _ _)))))); intro v299 w7 ho8 hb hg_ hnew_; clear hg_ hnew_; (first | rw [← Ny298.out] at ho8 | (simp only [Int.reduceToNat] at ho8; rw [← Ny298.out] at ho8)); have n0_ := am (Kd.R_lower ho8 (keep_size (w := w) (g := g) (row := none) (Kq))); have n1_ := am (IsS90.below (IsS90.z) hb); have n2_ := am (KeepBut.trans (Kq) (KeepBut.of_below hb g none) (.inl rfl)); have n3_ := am (below_step (by repeat (first | (with_reducible first | exact HB.out | apply below_alloc | apply pw_below_drewN | apply below_drew1 | refine below_set ?_ (IsS90.ge HI0.out)) | exact HB.out)) hb); clear HI0 HK HB; revert n0_ n1_ n2_ n3_; intro HO300 HI0 HK HB; clear hb ho8; obtain ⟨Ao9, co9, eo9⟩ := Kd.R_slice HO300.out; subst eo9) | ((with_reducible refine gate_callee (f := 89) rfl ?_); refine gL (some 9) Try.func89 #[.pointer (some ⟨g, 0, none⟩), .slice Ao9 y298.length co9] ?_; (with_reducible refine (spec_l1Cur_among.calls g s0_0 t296 t297 _ _ y298 t301 t302 t303 w0 _ ?side1 ?side2 ?side3 ?side4 ?side5 A5.out).mono ?_); (case side1 => exact (IsS90.z)); (case side2 => repeat (first | (with_reducible first | exact HB.out | apply below_alloc | apply pw_below_drewN | apply below_drew1 | refine below_set ?_ (IsS90.ge HI0.out)) | exact HB.out)); (case side3 => exact Cz ((Kd.R_reads' HO300.out).2.2)); (case side4 => exact (Kd.R_reads' HO300.out).2.1); (case side5 => exact far_slice (IsS90.own_ne HI0.out HO300.out (by decide))); rintro e w10 ⟨rfl, hi, hb, hk⟩; refine ⟨_, rfl, ?_⟩; have n0_ := am (Kd.R_mono (Kd.R_keep (IsS90.apart (show IsS90 w0 _ g s0_0 t296 t297 from IsS90.z) (Rz HO300.out) (by decide)) hk (fun _ h => h.2)) (fun _ h => h.1)); have n1_ := am (KeepBut.trans (Kq) hk (.inl rfl)); have n2_ := am (hb); have n3_ := am (hi); clear HO300 HK HB HI0; revert n0_ n1_ n2_ n3_; intro HO300 HK HB HI0; (try clear hb); (try clear hb2); (try clear hk); (try clear hi)))
  go_ret
  exact ⟨eZ, IsS90.z, by repeat (first | (with_reducible first | exact HB.out | apply below_alloc | apply pw_below_drewN | apply below_drew1 | refine below_set ?_ (IsS90.ge HI0.out)) | exact HB.out), Kq⟩
 ·replace c4 := Bool.eq_false_iff.mpr c4
  subst c4
  rw [if_neg Bool.false_ne_true] at H; obtain ⟨⟨t304, t305, t306⟩, A11, H⟩ := ob H; (try dsimp -simprocs only at H); obtain ⟨t307, A12, H⟩ := ob H; (try dsimp -simprocs only at H)
  simp only [Option.some.injEq, Prod.mk.injEq] at H
  obtain ⟨rfl, rfl, rfl⟩ := H
  go_enter Try.func163, Try.ntmps163
  go_wp2_with (first | ((with_reducible refine gate_callee (f := 71) rfl ?_); refine gL (some 6) Try.func71 #[.pointer (some ⟨g, 0, none⟩), .int .i64 10] ?_; (with_reducible refine (spec_l1Cur_one.calls g s0_0 s0_1 s0_2 10 false t296 t297 w0 _ ?side1 ?side2 A3.out).mono ?_); (case side1 => exact (IsS90.z)); (case side2 => repeat (first | (with_reducible first | exact HB.out | apply below_alloc | apply pw_below_drewN | apply below_drew1 | refine below_set ?_ (IsS90.ge HI0.out)) | exact HB.out)); rintro e w13 ⟨rfl, hi, hb, hk⟩; refine ⟨_, rfl, ?_⟩; have n0_ := am (KeepBut.trans (Kq) hk (.inl rfl)); have n1_ := am (hb); have n2_ := am (hi); clear HK HB HI0; revert n0_ n1_ n2_; intro HK HB HI0; (try clear hb); (try clear hb2); (try clear hk); (try clear hi)) | ((with_reducible refine gate_callee (f := 72) rfl ?_); refine gL (some 13) Try.func72 #[.pointer (some ⟨g, 0, none⟩), .int .i64 4] ?_; (with_reducible refine (spec_l1Cur_pick.calls g s0_0 t296 t297 4 t304 t305 t306 w0 _ ?side1 ?side2 A11.out).mono ?_); (case side1 => exact (IsS90.z)); (case side2 => repeat (first | (with_reducible first | exact HB.out | apply below_alloc | apply pw_below_drewN | apply below_drew1 | refine below_set ?_ (IsS90.ge HI0.out)) | exact HB.out)); rintro e w14 ⟨rfl, hi, hb, hk⟩; refine ⟨_, rfl, ?_⟩; have n0_ := am (KeepBut.trans (Kq) hk (.inl rfl)); have n1_ := am (hb); have n2_ := am (hi); clear HK HB HI0; revert n0_ n1_ n2_; intro HK HB HI0; (try clear hb); (try clear hb2); (try clear hk); (try clear hi)) | ((with_reducible refine gate_callee (f := 144) rfl ?_); refine gL (some 15) Try.func144 #[.int .i64 (wrap64 ((wrap64 (Int.tdiv a1 3)) + t304)), .int .i64 23] ?_; (with_reducible refine (spec_l1Least.calls (wrap64 ((wrap64 (Int.tdiv a1 3)) + t304)) 23 t307 _ A12.out).mono ?_); rintro e w' ⟨rfl, ⟨nd, rfl⟩⟩; refine ⟨_, rfl, ?_⟩))
  go_ret
  exact ⟨eZ, IsS90.z, by repeat (first | (with_reducible first | exact HB.out | apply below_alloc | apply pw_below_drewN | apply below_drew1 | refine below_set ?_ (IsS90.ge HI0.out)) | exact HB.out), Kq⟩

mutual
def spec_l1Cur_task.j0 : Nat → Int → List ByteArray → Int → List Int → Int → Int → Option (Int × List ByteArray × List Int × Int × Int × Int × Int)
 | 0, _, _, _, _, _, _ => none
 | k + 1, x7, x8, x9, x1000, x1001, x1002 => spec_l1Cur_task.l0 k x7 x8 x9 ([] : List Int) (x8.length : Int) 0 x1000 x1001 x1002
def spec_l1Cur_task.l0 : Nat → Int → List ByteArray → Int → List Int → Int → Int → List Int → Int → Int → Option (Int × List ByteArray × List Int × Int × Int × Int × Int)
 | 0, _, _, _, _, _, _, _, _, _ => none
 | k + 1, x7, x8, x9, x10, x27, x28, x1000, x1001, x1002 => if x28 < x27 then ((spec_l1Clip.f x9 8).bind fun t337 => ((spec_reTop.f t337).bind fun t338 => ((spec_l1Cur_pick.f x1000 x1001 x1002 t338).bind fun bt339 => (if x10.length < 17592186044416 then (spec_l1Cur_task.l0 k x7 x8 x9 (x10 ++ [bt339.1]) x27 (wrap64 (x28 + 1)) x1000 bt339.2.1 bt339.2.2) else (none))))) else ((spec_l1Cur_one.f x1000 x1001 x1002 14).bind fun bt345 => (if bt345.1 = true then ((spec_l1Cur_among.f x1000 bt345.2.1 bt345.2.2 (([0, (-1), 300] : List Int))).bind fun bt351 => (if x10.length < 17592186044416 then (spec_l1Cur_task.j2 k x7 x8 x9 (x10 ++ [bt351.1]) x1000 bt351.2.1 bt351.2.2) else (none))) else (spec_l1Cur_task.j2 k x7 x8 x9 x10 x1000 bt345.2.1 bt345.2.2)))
def spec_l1Cur_task.j2 : Nat → Int → List ByteArray → Int → List Int → List Int → Int → Int → Option (Int × List ByteArray × List Int × Int × Int × Int × Int)
 | 0, _, _, _, _, _, _, _ => none
 | k + 1, x7, x8, x9, x10, x1000, x1001, x1002 => (spec_l1Cur_one.f x1000 x1001 x1002 14).bind fun bt357 => (if bt357.1 = true then (spec_l1Cur_task.j3 k x7 x8 x9 x10 (decide ((x10.length : Int) > 0)) x1000 bt357.2.1 bt357.2.2) else (spec_l1Cur_task.j3 k x7 x8 x9 x10 false x1000 bt357.2.1 bt357.2.2))
def spec_l1Cur_task.j3 : Nat → Int → List ByteArray → Int → List Int → Bool → List Int → Int → Int → Option (Int × List ByteArray × List Int × Int × Int × Int × Int)
 | 0, _, _, _, _, _, _, _, _ => none
 | k + 1, x7, x8, x9, x10, x53, x1000, x1001, x1002 => if x53 = true then ((spec_l1Clip.f x9 8).bind fun t360 => ((spec_reTop.f t360).bind fun t361 => ((spec_l1Cur_among.f x1000 x1001 x1002 (([(-1), t361, 1099511627776] : List Int))).bind fun bt365 => (if 0 < (x10.length : Int) then ((spec_l1Cur_segment2.f x1000 bt365.2.1 bt365.2.2 (x8.length : Int)).bind fun bt369 => (some (x7, x8, (x10.set (0 : Int).toNat bt365.1), bt369.1, x9, bt369.2.1, bt369.2.2))) else (none))))) else ((spec_l1Cur_segment2.f x1000 x1001 x1002 (x8.length : Int)).bind fun bt372 => (some (x7, x8, x10, bt372.1, x9, bt372.2.1, bt372.2.2)))
end
def spec_l1Cur_task.f (k : Nat) (s0_0 : List Int) (s0_1 : Int) (s0_2 : Int) : Option (Int × List ByteArray × List Int × Int × Int × Int × Int) := (spec_l1Cur_seed9.f s0_0 s0_1 s0_2).bind fun bt308 => ((spec_l1Cur_among.f s0_0 bt308.2.1 bt308.2.2 (([3, 6, 10, 16] : List Int))).bind fun bt314 => ((spec_l1Cur_anyKeys.f k s0_0 bt314.2.1 bt314.2.2 bt314.1).bind fun bt317 => ((spec_l1Cur_among.f s0_0 bt317.2.1 bt317.2.2 (([1, 1, 2, 3, 4, 8] : List Int))).bind fun bt325 => ((spec_l1Cur_one.f s0_0 bt325.2.1 bt325.2.2 14).bind fun bt328 => (if bt328.1 = true then ((spec_l1Cur_among.f s0_0 bt328.2.1 bt328.2.2 (([0, (-1), 9, 62] : List Int))).bind fun bt334 => (spec_l1Cur_task.j0 k bt308.1 bt317.1 bt334.1 s0_0 bt334.2.1 bt334.2.2)) else (spec_l1Cur_task.j0 k bt308.1 bt317.1 bt325.1 s0_0 bt328.2.1 bt328.2.2))))))
theorem spec_l1Cur_task.calls (k : Nat) (g : Nat) (s0_0 : List Int) (s0_1 : Int) (s0_2 : Int) (r1 : Int) (r2 : List ByteArray) (r3 : List Int) (r4 : Int) (r5 : Int) (r6 : Int) (r7 : Int) (w0 w : World) (hI : IsS90 w0 w g s0_0 s0_1 s0_2) (hB : Below w0.heap.size w0 w) (h : spec_l1Cur_task.f k s0_0 s0_1 s0_2 = some (r1, r2, r3, r4, r5, r6, r7)) :
  Calls Try.prog 106 #[.pointer (some ⟨g, 0, none⟩)] w fun e w' => ∃ v1_ v2_ : Value, e = .returned (.tuple #[.int .i64 r1, v1_, v2_, .int .i64 r4, .int .i64 r5]) ∧ Kd.R Kd.string 9 w' w.heap.size (fun _ => True) v1_ r2 ∧ Kd.R (Kd.int .i64) 3 w' w.heap.size (fun _ => True) v2_ r3 ∧ IsS90 w0 w' g s0_0 r6 r7 ∧ Below w0.heap.size w0 w' ∧ KeepBut w w' g none := by
 have HI0 := am hI; have HK := am (KeepBut.refl w g none); have HL := am hB.size; clear hI; have HW0 := am hB.size; have HB := am hB; clear hB; have H : ((spec_l1Cur_seed9.f s0_0 s0_1 s0_2).bind fun bt308 => ((spec_l1Cur_among.f s0_0 bt308.2.1 bt308.2.2 (([3, 6, 10, 16] : List Int))).bind fun bt314 => ((spec_l1Cur_anyKeys.f k s0_0 bt314.2.1 bt314.2.2 bt314.1).bind fun bt317 => ((spec_l1Cur_among.f s0_0 bt317.2.1 bt317.2.2 (([1, 1, 2, 3, 4, 8] : List Int))).bind fun bt325 => ((spec_l1Cur_one.f s0_0 bt325.2.1 bt325.2.2 14).bind fun bt328 => (if bt328.1 = true then ((spec_l1Cur_among.f s0_0 bt328.2.1 bt328.2.2 (([0, (-1), 9, 62] : List Int))).bind fun bt334 => (spec_l1Cur_task.j0 k bt308.1 bt317.1 bt334.1 s0_0 bt334.2.1 bt334.2.2)) else (spec_l1Cur_task.j0 k bt308.1 bt317.1 bt325.1 s0_0 bt328.2.1 bt328.2.2))))))) = some (r1, r2, r3, r4, r5, r6, r7) := h; clear h; obtain ⟨⟨t308, t309, t310⟩, A2, H⟩ := ob H; (try dsimp -simprocs only at H); obtain ⟨y311, hy311⟩ : ∃ y_ : List Int, y_ = (([3, 6, 10, 16] : List Int)) := ⟨_, rfl⟩
 replace H : ((spec_l1Cur_among.f s0_0 t309 t310 y311).bind fun bt314 => ((spec_l1Cur_anyKeys.f k s0_0 bt314.2.1 bt314.2.2 bt314.1).bind fun bt317 => ((spec_l1Cur_among.f s0_0 bt317.2.1 bt317.2.2 (([1, 1, 2, 3, 4, 8] : List Int))).bind fun bt325 => ((spec_l1Cur_one.f s0_0 bt325.2.1 bt325.2.2 14).bind fun bt328 => (if bt328.1 = true then ((spec_l1Cur_among.f s0_0 bt328.2.1 bt328.2.2 (([0, (-1), 9, 62] : List Int))).bind fun bt334 => (spec_l1Cur_task.j0 k t308 bt317.1 bt334.1 s0_0 bt334.2.1 bt334.2.2)) else (spec_l1Cur_task.j0 k t308 bt317.1 bt325.1 s0_0 bt328.2.1 bt328.2.2)))))) = some (r1, r2, r3, r4, r5, r6, r7) := by (try rw [hy311]); first | with_reducible exact H | exact (Option.bind_some _ _).symm.trans H | exact H
 have Ny311 := am hy311; clear hy311; obtain ⟨⟨t314, t315, t316⟩, A3, H⟩ := ob H; (try dsimp -simprocs only at H); obtain ⟨⟨t317, t320, t321⟩, A4, H⟩ := ob H; (try dsimp -simprocs only at H); obtain ⟨y322, hy322⟩ : ∃ y_ : List Int, y_ = (([1, 1, 2, 3, 4, 8] : List Int)) := ⟨_, rfl⟩
 replace H : ((spec_l1Cur_among.f s0_0 t320 t321 y322).bind fun bt325 => ((spec_l1Cur_one.f s0_0 bt325.2.1 bt325.2.2 14).bind fun bt328 => (if bt328.1 = true then ((spec_l1Cur_among.f s0_0 bt328.2.1 bt328.2.2 (([0, (-1), 9, 62] : List Int))).bind fun bt334 => (spec_l1Cur_task.j0 k t308 t317 bt334.1 s0_0 bt334.2.1 bt334.2.2)) else (spec_l1Cur_task.j0 k t308 t317 bt325.1 s0_0 bt328.2.1 bt328.2.2)))) = some (r1, r2, r3, r4, r5, r6, r7) := by (try rw [hy322]); first | with_reducible exact H | exact (Option.bind_some _ _).symm.trans H | exact H
 have Ny322 := am hy322; clear hy322; obtain ⟨⟨t325, t326, t327⟩, A5, H⟩ := ob H; (try dsimp -simprocs only at H); obtain ⟨⟨t328, t329, t330⟩, A6, H⟩ := ob H; (try dsimp -simprocs only at H); have HC7 := am H; clear H
 go_enter Try.func106, Try.ntmps106
 go_upto_if 22 with (first | ((with_reducible refine gate_callee (f := 74) rfl ?_); refine gL (some 12) Try.func74 #[.pointer (some ⟨g, 0, none⟩)] ?_; (with_reducible refine (spec_l1Cur_seed9.calls g s0_0 s0_1 s0_2 t308 t309 t310 w0 _ ?side1 ?side2 A2.out).mono ?_); (case side1 => exact (IsS90.z)); (case side2 => repeat (first | (with_reducible first | exact HB.out | apply below_alloc | apply pw_below_drewN | apply below_drew1 | refine below_set ?_ (IsS90.ge HI0.out)) | exact HB.out)); rintro e w8 ⟨rfl, hi, hb, hk⟩; refine ⟨_, rfl, ?_⟩; have n0_ := am (KeepBut.trans (Kq) hk (.inl rfl)); have n1_ := am (hb); have n2_ := am (hi); clear HK HB HI0; revert n0_ n1_ n2_; intro HK HB HI0; (try clear hb); (try clear hb2); (try clear hk); (try clear hi)) | ((with_reducible refine gate_dst (N := 15) rfl ?_); (try (refine gate_guard (by rfl) ?_; dsimp only)); refine Kd.R_lit (Kd.int .i64) _ 3 ?hg (N := 15) ?hd (xs := ([3, 6, 10, 16] : List Int)) (inner := [.int .i64 3, .int .i64 6, .int .i64 10, .int .i64 16]) (ok := fun _ => True) (okp := fun _ => True) ?hr ?hp (fun _ hk => hk) trivial (Below.refl _ _) (Nat.le_refl _) (by simp) ?_; (case hd => rfl); (case hg => rfl); (case hr => first | (go_simp; done) | (go_simp; rfl)); (case hp => exact (Reps.one (show Kd.M (Kd.int .i64) _ _ _ 3 [.int .i64 3] from rfl) (Reps.one (show Kd.M (Kd.int .i64) _ _ _ 6 [.int .i64 6] from rfl) (Reps.one (show Kd.M (Kd.int .i64) _ _ _ 10 [.int .i64 10] from rfl) (Reps.one (show Kd.M (Kd.int .i64) _ _ _ 16 [.int .i64 16] from rfl) (Reps.none _ _)))))); intro v312 w9 ho10 hb hg_ hnew_; clear hg_ hnew_; (first | rw [← Ny311.out] at ho10 | (simp only [Int.reduceToNat] at ho10; rw [← Ny311.out] at ho10)); have n0_ := am (Kd.R_lower ho10 (keep_size (w := w) (g := g) (row := none) (Kq))); have n1_ := am (IsS90.below (IsS90.z) hb); have n2_ := am (KeepBut.trans (Kq) (KeepBut.of_below hb g none) (.inl rfl)); have n3_ := am (below_step (by repeat (first | (with_reducible first | exact HB.out | apply below_alloc | apply pw_below_drewN | apply below_drew1 | refine below_set ?_ (IsS90.ge HI0.out)) | exact HB.out)) hb); clear HI0 HK HB; revert n0_ n1_ n2_ n3_; intro HO313 HI0 HK HB; clear hb ho10; obtain ⟨Ao11, co11, eo11⟩ := Kd.R_slice HO313.out; subst eo11) | ((with_reducible refine gate_callee (f := 89) rfl ?_); refine gL (some 16) Try.func89 #[.pointer (some ⟨g, 0, none⟩), .slice Ao11 y311.length co11] ?_; (with_reducible refine (spec_l1Cur_among.calls g s0_0 t309 t310 _ _ y311 t314 t315 t316 w0 _ ?side1 ?side2 ?side3 ?side4 ?side5 A3.out).mono ?_); (case side1 => exact (IsS90.z)); (case side2 => repeat (first | (with_reducible first | exact HB.out | apply below_alloc | apply pw_below_drewN | apply below_drew1 | refine below_set ?_ (IsS90.ge HI0.out)) | exact HB.out)); (case side3 => exact Cz ((Kd.R_reads' HO313.out).2.2)); (case side4 => exact (Kd.R_reads' HO313.out).2.1); (case side5 => exact far_slice (IsS90.own_ne HI0.out HO313.out (by decide))); rintro e w12 ⟨rfl, hi, hb, hk⟩; refine ⟨_, rfl, ?_⟩; have n0_ := am (Kd.R_mono (Kd.R_keep (IsS90.apart (show IsS90 w0 _ g s0_0 t309 t310 from IsS90.z) (Rz HO313.out) (by decide)) hk (fun _ h => h.2)) (fun _ h => h.1)); have n1_ := am (KeepBut.trans (Kq) hk (.inl rfl)); have n2_ := am (hb); have n3_ := am (hi); clear HO313 HK HB HI0; revert n0_ n1_ n2_ n3_; intro HO313 HK HB HI0; (try clear hb); (try clear hb2); (try clear hk); (try clear hi)) | ((with_reducible refine gate_callee (f := 70) rfl ?_); refine gL (some 17) Try.func70 #[.pointer (some ⟨g, 0, none⟩), .int .i64 t314] ?_; (with_reducible refine (spec_l1Cur_anyKeys.calls k g s0_0 t315 t316 t314 t317 t320 t321 w0 _ ?side1 ?side2 A4.out).mono ?_); (case side1 => exact (IsS90.z)); (case side2 => repeat (first | (with_reducible first | exact HB.out | apply below_alloc | apply pw_below_drewN | apply below_drew1 | refine below_set ?_ (IsS90.ge HI0.out)) | exact HB.out)); rintro e w13 ⟨v318, rfl, ho0, hi, hb, hk⟩; refine ⟨_, rfl, ?_⟩; have n0_ := am (Kd.R_mono (Kd.R_keep (IsS90.apart (show IsS90 w0 _ g s0_0 t315 t316 from IsS90.z) (Rz HO313.out) (by decide)) hk (fun _ h => h.2)) (fun _ h => h.1)); have n1_ := am (Kd.R_lower ho0 (keep_size (w := w) (g := g) (row := none) (Kq))); have n2_ := am (KeepBut.trans (Kq) hk (.inl rfl)); have n3_ := am (hb); have n4_ := am (hi); clear HO313 HK HB HI0; revert n0_ n1_ n2_ n3_ n4_; intro HO313 HO319 HK HB HI0; (try clear hb); (try clear hb2); (try clear hk); (try clear hi); (try clear ho0)) | ((with_reducible refine gate_dst (N := 19) rfl ?_); (try (refine gate_guard (by rfl) ?_; dsimp only)); refine Kd.R_lit (Kd.int .i64) _ 3 ?hg (N := 19) ?hd (xs := ([1, 1, 2, 3, 4, 8] : List Int)) (inner := [.int .i64 1, .int .i64 1, .int .i64 2, .int .i64 3, .int .i64 4, .int .i64 8]) (ok := fun _ => True) (okp := fun _ => True) ?hr ?hp (fun _ hk => hk) trivial (Below.refl _ _) (Nat.le_refl _) (by simp) ?_; (case hd => rfl); (case hg => rfl); (case hr => first | (go_simp; done) | (go_simp; rfl)); (case hp => exact (Reps.one (show Kd.M (Kd.int .i64) _ _ _ 1 [.int .i64 1] from rfl) (Reps.one (show Kd.M (Kd.int .i64) _ _ _ 1 [.int .i64 1] from rfl) (Reps.one (show Kd.M (Kd.int .i64) _ _ _ 2 [.int .i64 2] from rfl) (Reps.one (show Kd.M (Kd.int .i64) _ _ _ 3 [.int .i64 3] from rfl) (Reps.one (show Kd.M (Kd.int .i64) _ _ _ 4 [.int .i64 4] from rfl) (Reps.one (show Kd.M (Kd.int .i64) _ _ _ 8 [.int .i64 8] from rfl) (Reps.none _ _)))))))); intro v323 w14 ho15 hb hg_ hnew_; clear hg_ hnew_; (first | rw [← Ny322.out] at ho15 | (simp only [Int.reduceToNat] at ho15; rw [← Ny322.out] at ho15)); have n0_ := Re HO313 (Kd.R_base ho15) hb; have n1_ := Rb HO319 hb; have n2_ := am (Kd.R_lower (Kd.R_new' ho15 (Kd.R_lt (Rz HO313.out))) (keep_size (w := w) (g := g) (row := none) (Kq))); have n3_ := am (IsS90.below (IsS90.z) hb); have n4_ := am (KeepBut.trans (Kq) (KeepBut.of_below hb g none) (.inl rfl)); have n5_ := am (below_step (by repeat (first | (with_reducible first | exact HB.out | apply below_alloc | apply pw_below_drewN | apply below_drew1 | refine below_set ?_ (IsS90.ge HI0.out)) | exact HB.out)) hb); clear HO313 HO319 HI0 HK HB; revert n0_ n1_ n2_ n3_ n4_ n5_; intro HO313 HO319 HO324 HI0 HK HB; clear hb ho15; obtain ⟨Ao16, co16, eo16⟩ := Kd.R_slice HO324.out; subst eo16) | ((with_reducible refine gate_callee (f := 89) rfl ?_); refine gL (some 20) Try.func89 #[.pointer (some ⟨g, 0, none⟩), .slice Ao16 y322.length co16] ?_; (with_reducible refine (spec_l1Cur_among.calls g s0_0 t320 t321 _ _ y322 t325 t326 t327 w0 _ ?side1 ?side2 ?side3 ?side4 ?side5 A5.out).mono ?_); (case side1 => exact (IsS90.z)); (case side2 => repeat (first | (with_reducible first | exact HB.out | apply below_alloc | apply pw_below_drewN | apply below_drew1 | refine below_set ?_ (IsS90.ge HI0.out)) | exact HB.out)); (case side3 => exact Cz ((Kd.R_reads' HO324.out).2.2)); (case side4 => exact (Kd.R_reads' HO324.out).2.1); (case side5 => exact far_slice (IsS90.own_ne HI0.out HO324.out (by decide))); rintro e w17 ⟨rfl, hi, hb, hk⟩; refine ⟨_, rfl, ?_⟩; have n0_ := am (Kd.R_mono (Kd.R_keep (IsS90.apart (show IsS90 w0 _ g s0_0 t320 t321 from IsS90.z) (Rz HO313.out) (by decide)) hk (fun _ h => h.2)) (fun _ h => h.1)); have n1_ := am (Kd.R_mono (Kd.R_keep (IsS90.apart (show IsS90 w0 _ g s0_0 t320 t321 from IsS90.z) (Rz HO319.out) (by decide)) hk (fun _ h => h.2)) (fun _ h => h.1)); have n2_ := am (Kd.R_mono (Kd.R_keep (IsS90.apart (show IsS90 w0 _ g s0_0 t320 t321 from IsS90.z) (Rz HO324.out) (by decide)) hk (fun _ h => h.2)) (fun _ h => h.1)); have n3_ := am (KeepBut.trans (Kq) hk (.inl rfl)); have n4_ := am (hb); have n5_ := am (hi); clear HO313 HO319 HO324 HK HB HI0; revert n0_ n1_ n2_ n3_ n4_ n5_; intro HO313 HO319 HO324 HK HB HI0; (try clear hb); (try clear hb2); (try clear hk); (try clear hi)) | ((with_reducible refine gate_callee (f := 71) rfl ?_); refine gL (some 22) Try.func71 #[.pointer (some ⟨g, 0, none⟩), .int .i64 14] ?_; (with_reducible refine (spec_l1Cur_one.calls g s0_0 t326 t327 14 t328 t329 t330 w0 _ ?side1 ?side2 A6.out).mono ?_); (case side1 => exact (IsS90.z)); (case side2 => repeat (first | (with_reducible first | exact HB.out | apply below_alloc | apply pw_below_drewN | apply below_drew1 | refine below_set ?_ (IsS90.ge HI0.out)) | exact HB.out)); rintro e w18 ⟨rfl, hi, hb, hk⟩; refine ⟨_, rfl, ?_⟩; have n0_ := am (Kd.R_mono (Kd.R_keep (IsS90.apart (show IsS90 w0 _ g s0_0 t326 t327 from IsS90.z) (Rz HO313.out) (by decide)) hk (fun _ h => h.2)) (fun _ h => h.1)); have n1_ := am (Kd.R_mono (Kd.R_keep (IsS90.apart (show IsS90 w0 _ g s0_0 t326 t327 from IsS90.z) (Rz HO319.out) (by decide)) hk (fun _ h => h.2)) (fun _ h => h.1)); have n2_ := am (Kd.R_mono (Kd.R_keep (IsS90.apart (show IsS90 w0 _ g s0_0 t326 t327 from IsS90.z) (Rz HO324.out) (by decide)) hk (fun _ h => h.2)) (fun _ h => h.1)); have n3_ := am (KeepBut.trans (Kq) hk (.inl rfl)); have n4_ := am (hb); have n5_ := am (hi); clear HO313 HO319 HO324 HK HB HI0; revert n0_ n1_ n2_ n3_ n4_ n5_; intro HO313 HO319 HO324 HK HB HI0; (try clear hb); (try clear hb2); (try clear hk); (try clear hi)))
 (try simp only [aP])
 go_cut [9] (fun v9 wc => ∃ (kq : Nat) (x9_6 : Int) (x1001_6 : Int) (x1002_6 : Int), v9 = .int .i64 x9_6 ∧ Aside0 (spec_l1Cur_task.j0 kq t308 t317 x9_6 s0_0 x1001_6 x1002_6 = some (r1, r2, r3, r4, r5, r6, r7)) ∧ Aside0 (kq ≤ k) ∧ Aside0 (Kd.R Kd.string 9 wc w.heap.size (fun _ => True) v318 t317) ∧ Aside0 (IsS90 w0 wc g s0_0 x1001_6 x1002_6) ∧ Aside0 (KeepBut w wc g none) ∧ Aside0 (Below w0.heap.size w0 wc))
 case first =>
  have H := HC7.out; clear HC7
  by_cases c19 : t328 = true
  ·subst c19
   rw [if_pos rfl] at H; obtain ⟨y331, hy331⟩ : ∃ y_ : List Int, y_ = (([0, (-1), 9, 62] : List Int)) := ⟨_, rfl⟩
   replace H : ((spec_l1Cur_among.f s0_0 t329 t330 y331).bind fun bt334 => (spec_l1Cur_task.j0 k t308 t317 bt334.1 s0_0 bt334.2.1 bt334.2.2)) = some (r1, r2, r3, r4, r5, r6, r7) := by (try rw [hy331]); first | with_reducible exact H | exact (Option.bind_some _ _).symm.trans H | exact H
   have Ny331 := am hy331; clear hy331; obtain ⟨⟨t334, t335, t336⟩, A20, H⟩ := ob H; (try dsimp -simprocs only at H); have H' := am H; clear H
   go_wp2_with (first | ((with_reducible refine gate_dst (N := 24) rfl ?_); (try (refine gate_guard (by rfl) ?_; dsimp only)); refine Kd.R_lit (Kd.int .i64) _ 3 ?hg (N := 24) ?hd (xs := ([0, (-1), 9, 62] : List Int)) (inner := [.int .i64 0, .int .i64 (-1), .int .i64 9, .int .i64 62]) (ok := fun _ => True) (okp := fun _ => True) ?hr ?hp (fun _ hk => hk) trivial (Below.refl _ _) (Nat.le_refl _) (by simp) ?_; (case hd => rfl); (case hg => rfl); (case hr => first | (go_simp; done) | (go_simp; rfl)); (case hp => exact (Reps.one (show Kd.M (Kd.int .i64) _ _ _ 0 [.int .i64 0] from rfl) (Reps.one (show Kd.M (Kd.int .i64) _ _ _ (-1) [.int .i64 (-1)] from rfl) (Reps.one (show Kd.M (Kd.int .i64) _ _ _ 9 [.int .i64 9] from rfl) (Reps.one (show Kd.M (Kd.int .i64) _ _ _ 62 [.int .i64 62] from rfl) (Reps.none _ _)))))); intro v332 w21 ho22 hb hg_ hnew_; clear hg_ hnew_; (first | rw [← Ny331.out] at ho22 | (simp only [Int.reduceToNat] at ho22; rw [← Ny331.out] at ho22)); have n0_ := Re HO313 (Kd.R_base ho22) hb; have n1_ := Rb HO319 hb; have n2_ := Re HO324 (Kd.R_base ho22) hb; have n3_ := am (Kd.R_lower (Kd.R_new' (Kd.R_new' ho22 (Kd.R_lt (Rz HO313.out))) (Kd.R_lt (Rz HO324.out))) (keep_size (w := w) (g := g) (row := none) (Kq))); have n4_ := am (IsS90.below (IsS90.z) hb); have n5_ := am (KeepBut.trans (Kq) (KeepBut.of_below hb g none) (.inl rfl)); have n6_ := am (below_step (by repeat (first | (with_reducible first | exact HB.out | apply below_alloc | apply pw_below_drewN | apply below_drew1 | refine below_set ?_ (IsS90.ge HI0.out)) | exact HB.out)) hb); clear HO313 HO319 HO324 HI0 HK HB; revert n0_ n1_ n2_ n3_ n4_ n5_ n6_; intro HO313 HO319 HO324 HO333 HI0 HK HB; clear hb ho22; obtain ⟨Ao23, co23, eo23⟩ := Kd.R_slice HO333.out; subst eo23) | ((with_reducible refine gate_callee (f := 89) rfl ?_); refine gL (some 25) Try.func89 #[.pointer (some ⟨g, 0, none⟩), .slice Ao23 y331.length co23] ?_; (with_reducible refine (spec_l1Cur_among.calls g s0_0 t329 t330 _ _ y331 t334 t335 t336 w0 _ ?side1 ?side2 ?side3 ?side4 ?side5 A20.out).mono ?_); (case side1 => exact (IsS90.z)); (case side2 => repeat (first | (with_reducible first | exact HB.out | apply below_alloc | apply pw_below_drewN | apply below_drew1 | refine below_set ?_ (IsS90.ge HI0.out)) | exact HB.out)); (case side3 => exact Cz ((Kd.R_reads' HO333.out).2.2)); (case side4 => exact (Kd.R_reads' HO333.out).2.1); (case side5 => exact far_slice (IsS90.own_ne HI0.out HO333.out (by decide))); rintro e w24 ⟨rfl, hi, hb, hk⟩; refine ⟨_, rfl, ?_⟩; have n0_ := am (Kd.R_mono (Kd.R_keep (IsS90.apart (show IsS90 w0 _ g s0_0 t329 t330 from IsS90.z) (Rz HO313.out) (by decide)) hk (fun _ h => h.2)) (fun _ h => h.1)); have n1_ := am (Kd.R_mono (Kd.R_keep (IsS90.apart (show IsS90 w0 _ g s0_0 t329 t330 from IsS90.z) (Rz HO319.out) (by decide)) hk (fun _ h => h.2)) (fun _ h => h.1)); have n2_ := am (Kd.R_mono (Kd.R_keep (IsS90.apart (show IsS90 w0 _ g s0_0 t329 t330 from IsS90.z) (Rz HO324.out) (by decide)) hk (fun _ h => h.2)) (fun _ h => h.1)); have n3_ := am (Kd.R_mono (Kd.R_keep (IsS90.apart (show IsS90 w0 _ g s0_0 t329 t330 from IsS90.z) (Rz HO333.out) (by decide)) hk (fun _ h => h.2)) (fun _ h => h.1)); have n4_ := am (KeepBut.trans (Kq) hk (.inl rfl)); have n5_ := am (hb); have n6_ := am (hi); clear HO313 HO319 HO324 HO333 HK HB HI0; revert n0_ n1_ n2_ n3_ n4_ n5_ n6_; intro HO313 HO319 HO324 HO333 HK HB HI0; (try clear hb); (try clear hb2); (try clear hk); (try clear hi)))
   go_meet
   case rel => exact ⟨_, (t334), (t335), (t336), wZ, H', ⟨by first | omega | exact Nat.le_refl _⟩, ⟨Rz HO319.out⟩, ⟨IsS90.z⟩, ⟨Kq⟩, ⟨by repeat (first | (with_reducible first | exact HB.out | apply below_alloc | apply pw_below_drewN | apply below_drew1 | refine below_set ?_ (IsS90.ge HI0.out)) | exact HB.out)⟩⟩
  ·replace c19 := Bool.eq_false_iff.mpr c19
   subst c19
   rw [if_neg Bool.false_ne_true] at H; have H' := am H; clear H
   go_wp2
   go_meet
   case rel => exact ⟨_, (t325), (t329), (t330), wZ, H', ⟨by first | omega | exact Nat.le_refl _⟩, ⟨Rz HO319.out⟩, ⟨IsS90.z⟩, ⟨Kq⟩, ⟨by repeat (first | (with_reducible first | exact HB.out | apply below_alloc | apply pw_below_drewN | apply below_drew1 | refine below_set ?_ (IsS90.ge HI0.out)) | exact HB.out)⟩⟩
 case rest =>
  clear HC7
  try clear c1
  try clear p2
  try clear c7
  try clear c8
  try clear c10
  try clear c19
  obtain ⟨kq, x9_6, x1001_6, x1002_6, rfl, HA, HJ6, HO_8, HI0, HK, HB⟩ := hcut; cases kq with
  | zero => exact absurd HA.out (by simp [spec_l1Cur_task.j0])
  | succ kj6 =>
   have H := HA.out; clear HA
   simp only [spec_l1Cur_task.j0] at H
   have H' := am H; clear H; obtain ⟨Ao25, co25, eo25⟩ := Kd.R_slice HO_8.out; subst eo25
   go_wp2
   go_loopg [10, 28] kj6 (fun kq v10 v28 w' => ∃ (x10_2 : List Int) (x28_2 : Int) (x1001_2 : Int) (x1002_2 : Int), v28 = .int .i64 x28_2 ∧ Aside0 (spec_l1Cur_task.l0 kq t308 t317 x9_6 x10_2 (t317.length : Int) x28_2 s0_0 x1001_2 x1002_2 = some (r1, r2, r3, r4, r5, r6, r7)) ∧ Aside0 (kq ≤ kj6) ∧ Aside0 (Kd.R Kd.string 9 w' w.heap.size (fun _ => True) (.slice Ao25 t317.length co25) t317) ∧ Aside0 (Kd.R (Kd.int .i64) 3 w' w.heap.size (fun _ => True) v10 x10_2) ∧ Aside0 (IsS90 w0 w' g s0_0 x1001_2 x1002_2) ∧ Aside0 (KeepBut w w' g none) ∧ Aside0 (Below w0.heap.size w0 w'))
   case atStart => exact ⟨(([] : List Int)), (0), (x1001_6), (x1002_6), wZ, H', ⟨Nat.le_refl _⟩, ⟨Rz HO_8.out⟩, ⟨nZ⟩, ⟨IsS90.z⟩, ⟨Kq⟩, ⟨by repeat (first | (with_reducible first | exact HB.out | apply below_alloc | apply pw_below_drewN | apply below_drew1 | refine below_set ?_ (IsS90.ge HI0.out)) | exact HB.out)⟩⟩
   case round =>
    clear H'
    try clear c1
    try clear p2
    try clear c7
    try clear c8
    try clear c10
    try clear c19
    try clear p2
    obtain ⟨x10_2, x28_2, x1001_2, x1002_2, rfl, HA, HK2, HO_8, HO_10, HI0, HK, HB⟩ := hrel; cases gk with
    | zero => exact absurd HA.out (by simp [spec_l1Cur_task.l0])
    | succ k2 =>
     have H := HA.out; clear HA
     simp only [spec_l1Cur_task.l0] at H
     by_cases c26 : x28_2 < (t317.length : Int)
     ·rw [if_pos c26] at H
      have c26b0 : decide (x28_2 < (t317.length : Int)) = true := decide_eq_true c26; clear c26; obtain ⟨t337, A27, H⟩ := ob H; (try dsimp -simprocs only at H); obtain ⟨t338, A28, H⟩ := ob H; (try dsimp -simprocs only at H); obtain ⟨⟨t339, t340, t341⟩, A29, H⟩ := ob H; (try dsimp -simprocs only at H)
      by_cases c30 : x10_2.length < 17592186044416
      ·rw [if_pos c30] at H
       have LMc30 := am c30; clear c30; obtain ⟨y342, hy342⟩ : ∃ y_ : List Int, y_ = (x10_2 ++ [t339]) := ⟨_, rfl⟩
       replace H : (spec_l1Cur_task.l0 k2 t308 t317 x9_6 y342 (t317.length : Int) (wrap64 (x28_2 + 1)) s0_0 t340 t341) = some (r1, r2, r3, r4, r5, r6, r7) := by (try rw [hy342]); first | with_reducible exact H | exact (Option.bind_some _ _).symm.trans H | exact H
       have Ny342 := am hy342; clear hy342; have H' := am H; clear H
       go_wp2_with (first | ((with_reducible refine gate_callee (f := 73) rfl ?_); refine gL (some 33) Try.func73 #[.int .i64 x9_6, .int .i64 8] ?_; (with_reducible refine (spec_l1Clip.calls x9_6 8 t337 _ A27.out).mono ?_); rintro e w' ⟨rfl, ⟨nd, rfl⟩⟩; refine ⟨_, rfl, ?_⟩) | ((with_reducible refine gate_callee (f := 162) rfl ?_); refine gL (some 34) Try.func162 #[.int .i64 t337] ?_; (with_reducible refine (spec_reTop.calls t337 t338 _ A28.out).mono ?_); rintro e w' ⟨rfl, ⟨nd, rfl⟩⟩; refine ⟨_, rfl, ?_⟩) | ((with_reducible refine gate_callee (f := 72) rfl ?_); refine gL (some 35) Try.func72 #[.pointer (some ⟨g, 0, none⟩), .int .i64 t338] ?_; (with_reducible refine (spec_l1Cur_pick.calls g s0_0 x1001_2 x1002_2 t338 t339 t340 t341 w0 _ ?side1 ?side2 A29.out).mono ?_); (case side1 => exact (IsS90.z)); (case side2 => repeat (first | (with_reducible first | exact HB.out | apply below_alloc | apply pw_below_drewN | apply below_drew1 | refine below_set ?_ (IsS90.ge HI0.out)) | exact HB.out)); rintro e w31 ⟨rfl, hi, hb, hk⟩; refine ⟨_, rfl, ?_⟩; have n0_ := am (Kd.R_mono (Kd.R_keep (IsS90.apart (show IsS90 w0 _ g s0_0 x1001_2 x1002_2 from IsS90.z) (Rz HO_8.out) (by decide)) hk (fun _ h => h.2)) (fun _ h => h.1)); have n1_ := am (Kd.R_mono (Kd.R_keep (IsS90.apart (show IsS90 w0 _ g s0_0 x1001_2 x1002_2 from IsS90.z) (Rz HO_10.out) (by decide)) hk (fun _ h => h.2)) (fun _ h => h.1)); have n2_ := am (KeepBut.trans (Kq) hk (.inl rfl)); have n3_ := am (hb); have n4_ := am (hi); clear HO_8 HO_10 HK HB HI0; revert n0_ n1_ n2_ n3_ n4_; intro HO_8 HO_10 HK HB HI0; (try clear hb); (try clear hb2); (try clear hk); (try clear hi)) | ((with_reducible refine gate_builtin (b := .append) (xs := #[.tmp 30, .tmp 36]) rfl ?_); (try (refine gate_guard (by rfl) ?_; dsimp only)); at_builtin; refine Kd.R_append (Kd.int .i64) w.heap.size rfl (.tmp 30) (.tmp 36) 24 3 (.int .i64 0) 8 rfl Try.underlying24 info3 rfl (by decide) (by omega) u10 x10_2 t339 [.int .i64 t339] (fun _ => True) (fun _ => False) rfl rfl ?aP (fun _ hk => hk.elim) ?aF ?aO (Below.refl _ _) ?aS ?aL ?_; (case aP => exact rfl); (case aF => exact (fun _ _ => trivial)); (case aO => exact (Rz HO_10.out)); (case aS => exact (keep_size (w := w) (g := g) (row := none) (Kq))); (case aL => have := LMc30.out; omega); intro v343 w32 ho hb hg hat; rw [← Ny342.out] at ho; have n0_ := am (Kd.R_over' (Rz HO_8.out) (Kd.R_typed (Rz HO_10.out)) (by decide) hg); have n1_ := am (IsS90.grown (IsS90.z) hg (IsS90.own_ne HI0.out HO_10.out (by decide))); have n2_ := am (below_weaken (by repeat (first | (with_reducible first | exact HB.out | apply below_alloc | apply pw_below_drewN | apply below_drew1 | refine below_set ?_ (IsS90.ge HI0.out)) | exact HB.out)) HL.out hb); have n3_ := am (KeepBut.trans (Kq) (KeepBut.of_grown hg g) (Kd.R_base2 HO_10.out)); have n4_ := am (ho); clear HO_8 HI0 HB HK HO_10; revert n0_ n1_ n2_ n3_ n4_; intro HO_8 HI0 HB HK HO344; clear ho hb hg hat))
       go_roundg k2
       case measure => have := HJ6.out; have := HK2.out; omega
       case rel => exact ⟨(y342), (wrap64 (x28_2 + 1)), (t340), (t341), wZ, H', ⟨by have := HJ6.out; have := HK2.out; omega⟩, ⟨Rz HO_8.out⟩, ⟨Rz HO344.out⟩, ⟨IsS90.z⟩, ⟨Kq⟩, ⟨by repeat (first | (with_reducible first | exact HB.out | apply below_alloc | apply pw_below_drewN | apply below_drew1 | refine below_set ?_ (IsS90.ge HI0.out)) | exact HB.out)⟩⟩
      ·rw [if_neg c30] at H
       exact absurd H (by simp)
     ·rw [if_neg c26] at H
      have c26b0 : decide (x28_2 < (t317.length : Int)) = false := decide_eq_false c26; clear c26; obtain ⟨⟨t345, t346, t347⟩, A33, H⟩ := ob H; (try dsimp -simprocs only at H); have HC34 := am H; clear H
      go_upto_if 40 with (first | ((with_reducible refine gate_callee (f := 71) rfl ?_); refine gL (some 40) Try.func71 #[.pointer (some ⟨g, 0, none⟩), .int .i64 14] ?_; (with_reducible refine (spec_l1Cur_one.calls g s0_0 x1001_2 x1002_2 14 t345 t346 t347 w0 _ ?side1 ?side2 A33.out).mono ?_); (case side1 => exact (IsS90.z)); (case side2 => repeat (first | (with_reducible first | exact HB.out | apply below_alloc | apply pw_below_drewN | apply below_drew1 | refine below_set ?_ (IsS90.ge HI0.out)) | exact HB.out)); rintro e w35 ⟨rfl, hi, hb, hk⟩; refine ⟨_, rfl, ?_⟩; have n0_ := am (Kd.R_mono (Kd.R_keep (IsS90.apart (show IsS90 w0 _ g s0_0 x1001_2 x1002_2 from IsS90.z) (Rz HO_8.out) (by decide)) hk (fun _ h => h.2)) (fun _ h => h.1)); have n1_ := am (Kd.R_mono (Kd.R_keep (IsS90.apart (show IsS90 w0 _ g s0_0 x1001_2 x1002_2 from IsS90.z) (Rz HO_10.out) (by decide)) hk (fun _ h => h.2)) (fun _ h => h.1)); have n2_ := am (KeepBut.trans (Kq) hk (.inl rfl)); have n3_ := am (hb); have n4_ := am (hi); clear HO_8 HO_10 HK HB HI0; revert n0_ n1_ n2_ n3_ n4_; intro HO_8 HO_10 HK HB HI0; (try clear hb); (try clear hb2); (try clear hk); (try clear hi)))
      (try simp only [aP])
      go_cut [10] (fun v10 wc => ∃ (kq : Nat) (x10_33 : List Int) (x1001_33 : Int) (x1002_33 : Int), Aside0 (spec_l1Cur_task.j2 kq t308 t317 x9_6 x10_33 s0_0 x1001_33 x1002_33 = some (r1, r2, r3, r4, r5, r6, r7)) ∧ Aside0 (kq ≤ k2) ∧ Aside0 (Kd.R Kd.string 9 wc w.heap.size (fun _ => True) (.slice Ao25 t317.length co25) t317) ∧ Aside0 (Kd.R (Kd.int .i64) 3 wc w.heap.size (fun _ => True) v10 x10_33) ∧ Aside0 (IsS90 w0 wc g s0_0 x1001_33 x1002_33) ∧ Aside0 (KeepBut w wc g none) ∧ Aside0 (Below w0.heap.size w0 wc))
      case first =>
       have H := HC34.out; clear HC34
       by_cases c36 : t345 = true
       ·subst c36
        rw [if_pos rfl] at H; obtain ⟨y348, hy348⟩ : ∃ y_ : List Int, y_ = (([0, (-1), 300] : List Int)) := ⟨_, rfl⟩
        replace H : ((spec_l1Cur_among.f s0_0 t346 t347 y348).bind fun bt351 => (if x10_2.length < 17592186044416 then (spec_l1Cur_task.j2 k2 t308 t317 x9_6 (x10_2 ++ [bt351.1]) s0_0 bt351.2.1 bt351.2.2) else (none))) = some (r1, r2, r3, r4, r5, r6, r7) := by (try rw [hy348]); first | with_reducible exact H | exact (Option.bind_some _ _).symm.trans H | exact H
        have Ny348 := am hy348; clear hy348; obtain ⟨⟨t351, t352, t353⟩, A37, H⟩ := ob H; (try dsimp -simprocs only at H)
        by_cases c38 : x10_2.length < 17592186044416
        ·rw [if_pos c38] at H
         have LMc38 := am c38; clear c38; obtain ⟨y354, hy354⟩ : ∃ y_ : List Int, y_ = (x10_2 ++ [t351]) := ⟨_, rfl⟩
         replace H : (spec_l1Cur_task.j2 k2 t308 t317 x9_6 y354 s0_0 t352 t353) = some (r1, r2, r3, r4, r5, r6, r7) := by (try rw [hy354]); first | with_reducible exact H | exact (Option.bind_some _ _).symm.trans H | exact H
         have Ny354 := am hy354; clear hy354; have H' := am H; clear H
         go_wp2_with (first | ((with_reducible refine gate_dst (N := 43) rfl ?_); (try (refine gate_guard (by rfl) ?_; dsimp only)); refine Kd.R_lit (Kd.int .i64) _ 3 ?hg (N := 43) ?hd (xs := ([0, (-1), 300] : List Int)) (inner := [.int .i64 0, .int .i64 (-1), .int .i64 300]) (ok := fun _ => True) (okp := fun _ => True) ?hr ?hp (fun _ hk => hk) trivial (Below.refl _ _) (Nat.le_refl _) (by simp) ?_; (case hd => rfl); (case hg => rfl); (case hr => first | (go_simp; done) | (go_simp; rfl)); (case hp => exact (Reps.one (show Kd.M (Kd.int .i64) _ _ _ 0 [.int .i64 0] from rfl) (Reps.one (show Kd.M (Kd.int .i64) _ _ _ (-1) [.int .i64 (-1)] from rfl) (Reps.one (show Kd.M (Kd.int .i64) _ _ _ 300 [.int .i64 300] from rfl) (Reps.none _ _))))); intro v349 w39 ho40 hb hg_ hnew_; clear hg_ hnew_; (first | rw [← Ny348.out] at ho40 | (simp only [Int.reduceToNat] at ho40; rw [← Ny348.out] at ho40)); have n0_ := Rb HO_8 hb; have n1_ := Re HO_10 (Kd.R_base ho40) hb; have n2_ := am (Kd.R_lower (Kd.R_new' ho40 (Kd.R_lt (Rz HO_10.out))) (keep_size (w := w) (g := g) (row := none) (Kq))); have n3_ := am (IsS90.below (IsS90.z) hb); have n4_ := am (KeepBut.trans (Kq) (KeepBut.of_below hb g none) (.inl rfl)); have n5_ := am (below_step (by repeat (first | (with_reducible first | exact HB.out | apply below_alloc | apply pw_below_drewN | apply below_drew1 | refine below_set ?_ (IsS90.ge HI0.out)) | exact HB.out)) hb); clear HO_8 HO_10 HI0 HK HB; revert n0_ n1_ n2_ n3_ n4_ n5_; intro HO_8 HO_10 HO350 HI0 HK HB; clear hb ho40; obtain ⟨Ao41, co41, eo41⟩ := Kd.R_slice HO350.out; subst eo41) | ((with_reducible refine gate_callee (f := 89) rfl ?_); refine gL (some 44) Try.func89 #[.pointer (some ⟨g, 0, none⟩), .slice Ao41 y348.length co41] ?_; (with_reducible refine (spec_l1Cur_among.calls g s0_0 t346 t347 _ _ y348 t351 t352 t353 w0 _ ?side1 ?side2 ?side3 ?side4 ?side5 A37.out).mono ?_); (case side1 => exact (IsS90.z)); (case side2 => repeat (first | (with_reducible first | exact HB.out | apply below_alloc | apply pw_below_drewN | apply below_drew1 | refine below_set ?_ (IsS90.ge HI0.out)) | exact HB.out)); (case side3 => exact Cz ((Kd.R_reads' HO350.out).2.2)); (case side4 => exact (Kd.R_reads' HO350.out).2.1); (case side5 => exact far_slice (IsS90.own_ne HI0.out HO350.out (by decide))); rintro e w42 ⟨rfl, hi, hb, hk⟩; refine ⟨_, rfl, ?_⟩; have n0_ := am (Kd.R_mono (Kd.R_keep (IsS90.apart (show IsS90 w0 _ g s0_0 t346 t347 from IsS90.z) (Rz HO_8.out) (by decide)) hk (fun _ h => h.2)) (fun _ h => h.1)); have n1_ := am (Kd.R_mono (Kd.R_keep (IsS90.apart (show IsS90 w0 _ g s0_0 t346 t347 from IsS90.z) (Rz HO_10.out) (by decide)) hk (fun _ h => h.2)) (fun _ h => h.1)); have n2_ := am (Kd.R_mono (Kd.R_keep (IsS90.apart (show IsS90 w0 _ g s0_0 t346 t347 from IsS90.z) (Rz HO350.out) (by decide)) hk (fun _ h => h.2)) (fun _ h => h.1)); have n3_ := am (KeepBut.trans (Kq) hk (.inl rfl)); have n4_ := am (hb); have n5_ := am (hi); clear HO_8 HO_10 HO350 HK HB HI0; revert n0_ n1_ n2_ n3_ n4_ n5_; intro HO_8 HO_10 HO350 HK HB HI0; (try clear hb); (try clear hb2); (try clear hk); (try clear hi)) | ((with_reducible refine gate_builtin (b := .append) (xs := #[.tmp 41, .tmp 45]) rfl ?_); (try (refine gate_guard (by rfl) ?_; dsimp only)); at_builtin; refine Kd.R_append (Kd.int .i64) w.heap.size rfl (.tmp 41) (.tmp 45) 24 3 (.int .i64 0) 8 rfl Try.underlying24 info3 rfl (by decide) (by omega) u10 x10_2 t351 [.int .i64 t351] (fun k_ => some k_ ≠ (.slice Ao41 y348.length co41 : Value).ownBlock) (fun _ => False) rfl rfl ?aP (fun _ hk => hk.elim) ?aF ?aO (Below.refl _ _) ?aS ?aL ?_; (case aP => exact rfl); (case aF => exact (fun k_ hk => Kd.fresh' (Kd.R_lt (Rz HO350.out)) k_ hk)); (case aO => exact (Rz (Kd.R_mono HO_10.out (fun _ hk => hk.2)))); (case aS => exact (keep_size (w := w) (g := g) (row := none) (Kq))); (case aL => have := LMc38.out; omega); intro v355 w43 ho hb hg hat; rw [← Ny354.out] at ho; have n0_ := am (Kd.R_over' (Rz HO_8.out) (Kd.R_typed (Rz HO_10.out)) (by decide) hg); have n1_ := am (IsS90.grown (IsS90.z) hg (IsS90.own_ne HI0.out HO_10.out (by decide))); have n2_ := am (Kd.R_after (ok := (fun _ => True)) (Rz HO350.out) hg hat); have n3_ := am (below_weaken (by repeat (first | (with_reducible first | exact HB.out | apply below_alloc | apply pw_below_drewN | apply below_drew1 | refine below_set ?_ (IsS90.ge HI0.out)) | exact HB.out)) HL.out hb); have n4_ := am (KeepBut.trans (Kq) (KeepBut.of_grown hg g) (Kd.R_base2 HO_10.out)); have n5_ := am (ho); clear HO_8 HI0 HO350 HB HK HO_10; revert n0_ n1_ n2_ n3_ n4_ n5_; intro HO_8 HI0 HO350 HB HK HO356; clear ho hb hg hat))
         go_meet
         case rel => exact ⟨_, (y354), (t352), (t353), H', ⟨by have := HJ6.out; have := HK2.out; first | omega | exact Nat.le_refl _⟩, ⟨Rz HO_8.out⟩, ⟨Rz (Kd.R_mono HO356.out (fun _ hk => trivial))⟩, ⟨IsS90.z⟩, ⟨Kq⟩, ⟨by repeat (first | (with_reducible first | exact HB.out | apply below_alloc | apply pw_below_drewN | apply below_drew1 | refine below_set ?_ (IsS90.ge HI0.out)) | exact HB.out)⟩⟩
        ·rw [if_neg c38] at H
         exact absurd H (by simp)
       ·replace c36 := Bool.eq_false_iff.mpr c36
        subst c36
        rw [if_neg Bool.false_ne_true] at H; have H' := am H; clear H
        go_wp2
        go_meet
        case rel => exact ⟨_, (x10_2), (t346), (t347), H', ⟨by have := HJ6.out; have := HK2.out; first | omega | exact Nat.le_refl _⟩, ⟨Rz HO_8.out⟩, ⟨Rz HO_10.out⟩, ⟨IsS90.z⟩, ⟨Kq⟩, ⟨by repeat (first | (with_reducible first | exact HB.out | apply below_alloc | apply pw_below_drewN | apply below_drew1 | refine below_set ?_ (IsS90.ge HI0.out)) | exact HB.out)⟩⟩
      case rest =>
       clear HC34
       try clear c1
       try clear c2
       try clear p2
       try clear c3
       try clear p6
       try clear c7
       try clear c8
       try clear c10
       try clear c16
       try clear c19
       try clear c26
       try clear c26b0
       try clear c30
       try clear c36
       try clear c38
       try clear p2
       obtain ⟨kq, x10_33, x1001_33, x1002_33, HA, HJ33, HO_8, HO_10, HI0, HK, HB⟩ := hcut; cases kq with
       | zero => exact absurd HA.out (by simp [spec_l1Cur_task.j2])
       | succ kj33 =>
        have H := HA.out; clear HA
        simp only [spec_l1Cur_task.j2] at H
        have HC44 := am H; clear H
        go_upto_region 13 with (fail)
        go_cut [53] (fun v53 wc => ∃ (kq : Nat) (x53_43 : Bool) (x1001_43 : Int) (x1002_43 : Int), v53 = .bool x53_43 ∧ Aside0 (spec_l1Cur_task.j3 kq t308 t317 x9_6 x10_33 x53_43 s0_0 x1001_43 x1002_43 = some (r1, r2, r3, r4, r5, r6, r7)) ∧ Aside0 (kq ≤ kj33) ∧ Aside0 (Kd.R Kd.string 9 wc w.heap.size (fun _ => True) (.slice Ao25 t317.length co25) t317) ∧ Aside0 (Kd.R (Kd.int .i64) 3 wc w.heap.size (fun _ => True) u10 x10_33) ∧ Aside0 (IsS90 w0 wc g s0_0 x1001_43 x1002_43) ∧ Aside0 (KeepBut w wc g none) ∧ Aside0 (Below w0.heap.size w0 wc))
        case first =>
         have H := HC44.out; clear HC44; obtain ⟨⟨t357, t358, t359⟩, A45, H⟩ := ob H; (try dsimp -simprocs only at H)
         by_cases c46 : t357 = true
         ·subst c46
          rw [if_pos rfl] at H; have H' := am H; clear H
          go_wp2_with (first | ((with_reducible refine gate_callee (f := 71) rfl ?_); refine gL (some 48) Try.func71 #[.pointer (some ⟨g, 0, none⟩), .int .i64 14] ?_; (with_reducible refine (spec_l1Cur_one.calls g s0_0 x1001_33 x1002_33 14 true t358 t359 w0 _ ?side1 ?side2 A45.out).mono ?_); (case side1 => exact (IsS90.z)); (case side2 => repeat (first | (with_reducible first | exact HB.out | apply below_alloc | apply pw_below_drewN | apply below_drew1 | refine below_set ?_ (IsS90.ge HI0.out)) | exact HB.out)); rintro e w47 ⟨rfl, hi, hb, hk⟩; refine ⟨_, rfl, ?_⟩; have n0_ := am (Kd.R_mono (Kd.R_keep (IsS90.apart (show IsS90 w0 _ g s0_0 x1001_33 x1002_33 from IsS90.z) (Rz HO_8.out) (by decide)) hk (fun _ h => h.2)) (fun _ h => h.1)); have n1_ := am (Kd.R_mono (Kd.R_keep (IsS90.apart (show IsS90 w0 _ g s0_0 x1001_33 x1002_33 from IsS90.z) (Rz HO_10.out) (by decide)) hk (fun _ h => h.2)) (fun _ h => h.1)); have n2_ := am (KeepBut.trans (Kq) hk (.inl rfl)); have n3_ := am (hb); have n4_ := am (hi); clear HO_8 HO_10 HK HB HI0; revert n0_ n1_ n2_ n3_ n4_; intro HO_8 HO_10 HK HB HI0; (try clear hb); (try clear hb2); (try clear hk); (try clear hi); obtain ⟨Ao48, co48, eo48⟩ := Kd.R_slice HO_10.out; subst eo48))
          go_meet
          case rel => exact ⟨_, (decide ((x10_33.length : Int) > 0)), (t358), (t359), wZ, H', ⟨by have := HJ6.out; have := HK2.out; have := HJ33.out; first | omega | exact Nat.le_refl _⟩, ⟨Rz HO_8.out⟩, ⟨Rz HO_10.out⟩, ⟨IsS90.z⟩, ⟨Kq⟩, ⟨by repeat (first | (with_reducible first | exact HB.out | apply below_alloc | apply pw_below_drewN | apply below_drew1 | refine below_set ?_ (IsS90.ge HI0.out)) | exact HB.out)⟩⟩
         ·replace c46 := Bool.eq_false_iff.mpr c46
          subst c46
          rw [if_neg Bool.false_ne_true] at H; have H' := am H; clear H
          go_wp2_with (first | ((with_reducible refine gate_callee (f := 71) rfl ?_); refine gL (some 48) Try.func71 #[.pointer (some ⟨g, 0, none⟩), .int .i64 14] ?_; (with_reducible refine (spec_l1Cur_one.calls g s0_0 x1001_33 x1002_33 14 false t358 t359 w0 _ ?side1 ?side2 A45.out).mono ?_); (case side1 => exact (IsS90.z)); (case side2 => repeat (first | (with_reducible first | exact HB.out | apply below_alloc | apply pw_below_drewN | apply below_drew1 | refine below_set ?_ (IsS90.ge HI0.out)) | exact HB.out)); rintro e w49 ⟨rfl, hi, hb, hk⟩; refine ⟨_, rfl, ?_⟩; have n0_ := am (Kd.R_mono (Kd.R_keep (IsS90.apart (show IsS90 w0 _ g s0_0 x1001_33 x1002_33 from IsS90.z) (Rz HO_8.out) (by decide)) hk (fun _ h => h.2)) (fun _ h => h.1)); have n1_ := am (Kd.R_mono (Kd.R_keep (IsS90.apart (show IsS90 w0 _ g s0_0 x1001_33 x1002_33 from IsS90.z) (Rz HO_10.out) (by decide)) hk (fun _ h => h.2)) (fun _ h => h.1)); have n2_ := am (KeepBut.trans (Kq) hk (.inl rfl)); have n3_ := am (hb); have n4_ := am (hi); clear HO_8 HO_10 HK HB HI0; revert n0_ n1_ n2_ n3_ n4_; intro HO_8 HO_10 HK HB HI0; (try clear hb); (try clear hb2); (try clear hk); (try clear hi)))
          go_meet
          case rel => exact ⟨_, (false), (t358), (t359), wZ, H', ⟨by have := HJ6.out; have := HK2.out; have := HJ33.out; first | omega | exact Nat.le_refl _⟩, ⟨Rz HO_8.out⟩, ⟨Rz HO_10.out⟩, ⟨IsS90.z⟩, ⟨Kq⟩, ⟨by repeat (first | (with_reducible first | exact HB.out | apply below_alloc | apply pw_below_drewN | apply below_drew1 | refine below_set ?_ (IsS90.ge HI0.out)) | exact HB.out)⟩⟩
        case rest =>
         clear HC44
         try clear c1
         try clear c2
         try clear p2
         try clear c3
         try clear c4
         try clear p6
         try clear c7
         try clear c8
         try clear c10
         try clear c16
         try clear c19
         try clear c26
         try clear c26b0
         try clear c30
         try clear c36
         try clear c38
         try clear c46
         try clear p2
         try clear p6
         obtain ⟨kq, x53_43, x1001_43, x1002_43, rfl, HA, HJ43, HO_8, HO_10, HI0, HK, HB⟩ := hcut; cases kq with
         | zero => exact absurd HA.out (by simp [spec_l1Cur_task.j3])
         | succ kj43 =>
          have H := HA.out; clear HA
          simp only [spec_l1Cur_task.j3] at H
          by_cases c50 : x53_43 = true
          ·subst c50
           rw [if_pos rfl] at H; obtain ⟨t360, A51, H⟩ := ob H; (try dsimp -simprocs only at H); obtain ⟨t361, A52, H⟩ := ob H; (try dsimp -simprocs only at H); obtain ⟨y362, hy362⟩ : ∃ y_ : List Int, y_ = (([(-1), t361, 1099511627776] : List Int)) := ⟨_, rfl⟩
           replace H : ((spec_l1Cur_among.f s0_0 x1001_43 x1002_43 y362).bind fun bt365 => (if 0 < (x10_33.length : Int) then ((spec_l1Cur_segment2.f s0_0 bt365.2.1 bt365.2.2 (t317.length : Int)).bind fun bt369 => (some (t308, t317, (x10_33.set (0 : Int).toNat bt365.1), bt369.1, x9_6, bt369.2.1, bt369.2.2))) else (none))) = some (r1, r2, r3, r4, r5, r6, r7) := by (try rw [hy362]); first | with_reducible exact H | exact (Option.bind_some _ _).symm.trans H | exact H
           have Ny362 := am hy362; clear hy362; obtain ⟨⟨t365, t366, t367⟩, A53, H⟩ := ob H; (try dsimp -simprocs only at H)
           by_cases c54 : 0 < (x10_33.length : Int)
           ·rw [if_pos c54] at H
            have c54b0 : decide (0 < (x10_33.length : Int)) = true := decide_eq_true c54; have c54b1 : decide (0 < x10_33.length) = true := decide_eq_true (by omega); clear c54; obtain ⟨y368, hy368⟩ : ∃ y_ : List Int, y_ = (x10_33.set (0 : Int).toNat t365) := ⟨_, rfl⟩
            replace H : ((spec_l1Cur_segment2.f s0_0 t366 t367 (t317.length : Int)).bind fun bt369 => (some (t308, t317, y368, bt369.1, x9_6, bt369.2.1, bt369.2.2))) = some (r1, r2, r3, r4, r5, r6, r7) := by (try rw [hy368]); first | with_reducible exact H | exact (Option.bind_some _ _).symm.trans H | exact H
            have Ny368 := am hy368; clear hy368; obtain ⟨⟨t369, t370, t371⟩, A56, H⟩ := ob H; (try dsimp -simprocs only at H)
            simp only [Option.some.injEq, Prod.mk.injEq] at H
            obtain ⟨rfl, rfl, rfl, rfl, rfl, rfl, rfl⟩ := H
            go_wp2_with (first | ((with_reducible refine gate_callee (f := 73) rfl ?_); refine gL (some 57) Try.func73 #[.int .i64 x9_6, .int .i64 8] ?_; (with_reducible refine (spec_l1Clip.calls x9_6 8 t360 _ A51.out).mono ?_); rintro e w' ⟨rfl, ⟨nd, rfl⟩⟩; refine ⟨_, rfl, ?_⟩; (try (rw [drewN_self wc]; generalize hq_ : World.drewN wc _ = wc; have n0_ : Aside0 (Kd.R (Kd.int .i64) 3 wc w.heap.size (fun _ => True) u10 x10_33) := ⟨by rw [← hq_]; exact (Rz HO_10.out)⟩; have n1_ : Aside0 (Kd.R Kd.string 9 wc w.heap.size (fun _ => True) (.slice Ao25 t317.length co25) t317) := ⟨by rw [← hq_]; exact (Rz HO_8.out)⟩; have n2_ : Aside0 (IsS90 w0 wc g s0_0 x1001_43 x1002_43) := ⟨by rw [← hq_]; exact (IsS90.z)⟩; have n3_ : Aside0 (KeepBut w wc g none) := ⟨by rw [← hq_]; exact (Kq)⟩; have n4_ : Aside0 (Below w0.heap.size w0 wc) := ⟨by rw [← hq_]; exact (by repeat (first | (with_reducible first | exact HB.out | apply below_alloc | apply pw_below_drewN | apply below_drew1 | refine below_set ?_ (IsS90.ge HI0.out)) | exact HB.out))⟩; clear HO_10 HO_8 HI0 HK HB hq_; revert n0_ n1_ n2_ n3_ n4_; intro HO_10 HO_8 HI0 HK HB))) | ((with_reducible refine gate_callee (f := 162) rfl ?_); refine gL (some 58) Try.func162 #[.int .i64 t360] ?_; (with_reducible refine (spec_reTop.calls t360 t361 _ A52.out).mono ?_); rintro e w' ⟨rfl, ⟨nd, rfl⟩⟩; refine ⟨_, rfl, ?_⟩; (try (rw [drewN_self wc]; generalize hq_ : World.drewN wc _ = wc; have n0_ : Aside0 (Kd.R (Kd.int .i64) 3 wc w.heap.size (fun _ => True) u10 x10_33) := ⟨by rw [← hq_]; exact (Rz HO_10.out)⟩; have n1_ : Aside0 (Kd.R Kd.string 9 wc w.heap.size (fun _ => True) (.slice Ao25 t317.length co25) t317) := ⟨by rw [← hq_]; exact (Rz HO_8.out)⟩; have n2_ : Aside0 (IsS90 w0 wc g s0_0 x1001_43 x1002_43) := ⟨by rw [← hq_]; exact (IsS90.z)⟩; have n3_ : Aside0 (KeepBut w wc g none) := ⟨by rw [← hq_]; exact (Kq)⟩; have n4_ : Aside0 (Below w0.heap.size w0 wc) := ⟨by rw [← hq_]; exact (by repeat (first | (with_reducible first | exact HB.out | apply below_alloc | apply pw_below_drewN | apply below_drew1 | refine below_set ?_ (IsS90.ge HI0.out)) | exact HB.out))⟩; clear HO_10 HO_8 HI0 HK HB hq_; revert n0_ n1_ n2_ n3_ n4_; intro HO_10 HO_8 HI0 HK HB))) | ((with_reducible refine gate_dst (N := 59) rfl ?_); (try (refine gate_guard (by rfl) ?_; dsimp only)); refine Kd.R_lit (Kd.int .i64) _ 3 ?hg (N := 59) ?hd (xs := ([(-1), t361, 1099511627776] : List Int)) (inner := [.int .i64 (-1), .int .i64 t361, .int .i64 1099511627776]) (ok := fun _ => True) (okp := fun _ => True) ?hr ?hp (fun _ hk => hk) trivial (Below.refl _ _) (Nat.le_refl _) (by simp) ?_; (case hd => rfl); (case hg => rfl); (case hr => first | (go_simp; done) | (go_simp; rfl)); (case hp => exact (Reps.one (show Kd.M (Kd.int .i64) _ _ _ (-1) [.int .i64 (-1)] from rfl) (Reps.one (show Kd.M (Kd.int .i64) _ _ _ t361 [.int .i64 t361] from rfl) (Reps.one (show Kd.M (Kd.int .i64) _ _ _ 1099511627776 [.int .i64 1099511627776] from rfl) (Reps.none _ _))))); intro v363 w57 ho58 hb hg_ hnew_; clear hg_ hnew_; (first | rw [← Ny362.out] at ho58 | (simp only [Int.reduceToNat] at ho58; rw [← Ny362.out] at ho58)); have n0_ := Rb HO_8 hb; have n1_ := Re HO_10 (Kd.R_base ho58) hb; have n2_ := am (Kd.R_lower (Kd.R_new' ho58 (Kd.R_lt (Rz HO_10.out))) (keep_size (w := w) (g := g) (row := none) (Kq))); have n3_ := am (IsS90.below (IsS90.z) hb); have n4_ := am (KeepBut.trans (Kq) (KeepBut.of_below hb g none) (.inl rfl)); have n5_ := am (below_step (by repeat (first | (with_reducible first | exact HB.out | apply below_alloc | apply pw_below_drewN | apply below_drew1 | refine below_set ?_ (IsS90.ge HI0.out)) | exact HB.out)) hb); clear HO_8 HO_10 HI0 HK HB; revert n0_ n1_ n2_ n3_ n4_ n5_; intro HO_8 HO_10 HO364 HI0 HK HB; clear hb ho58; obtain ⟨Ao59, co59, eo59⟩ := Kd.R_slice HO364.out; subst eo59) | ((with_reducible refine gate_callee (f := 89) rfl ?_); refine gL (some 60) Try.func89 #[.pointer (some ⟨g, 0, none⟩), .slice Ao59 y362.length co59] ?_; (with_reducible refine (spec_l1Cur_among.calls g s0_0 x1001_43 x1002_43 _ _ y362 t365 t366 t367 w0 _ ?side1 ?side2 ?side3 ?side4 ?side5 A53.out).mono ?_); (case side1 => exact (IsS90.z)); (case side2 => repeat (first | (with_reducible first | exact HB.out | apply below_alloc | apply pw_below_drewN | apply below_drew1 | refine below_set ?_ (IsS90.ge HI0.out)) | exact HB.out)); (case side3 => exact Cz ((Kd.R_reads' HO364.out).2.2)); (case side4 => exact (Kd.R_reads' HO364.out).2.1); (case side5 => exact far_slice (IsS90.own_ne HI0.out HO364.out (by decide))); rintro e w60 ⟨rfl, hi, hb, hk⟩; refine ⟨_, rfl, ?_⟩; have n0_ := am (Kd.R_mono (Kd.R_keep (IsS90.apart (show IsS90 w0 _ g s0_0 x1001_43 x1002_43 from IsS90.z) (Rz HO_8.out) (by decide)) hk (fun _ h => h.2)) (fun _ h => h.1)); have n1_ := am (Kd.R_mono (Kd.R_keep (IsS90.apart (show IsS90 w0 _ g s0_0 x1001_43 x1002_43 from IsS90.z) (Rz HO_10.out) (by decide)) hk (fun _ h => h.2)) (fun _ h => h.1)); have n2_ := am (Kd.R_mono (Kd.R_keep (IsS90.apart (show IsS90 w0 _ g s0_0 x1001_43 x1002_43 from IsS90.z) (Rz HO364.out) (by decide)) hk (fun _ h => h.2)) (fun _ h => h.1)); have n3_ := am (KeepBut.trans (Kq) hk (.inl rfl)); have n4_ := am (hb); have n5_ := am (hi); clear HO_8 HO_10 HO364 HK HB HI0; revert n0_ n1_ n2_ n3_ n4_ n5_; intro HO_8 HO_10 HO364 HK HB HI0; (try clear hb); (try clear hb2); (try clear hk); (try clear hi); have p55 : 0 ≤ (0 : Int) := (by omega); have q55 : (0 : Int) < ((x10_33.length : Int) : Int) := dT; have qi55 : (0 < x10_33.length) = True := eq_true (by omega); obtain ⟨go55, co55, eo55, gb55, gl55, cl55, HG55⟩ := Kd.R_form HO_10.out (by omega); (first | cases eo55 | (injection eo55 with ea_ en_ ec_; (first | subst ea_ | (injection ea_ with ea_; subst ea_)); subst ec_; clear en_)); have GB55 := am gb55; have GG55 := am HG55; clear gb55 gl55 HG55; obtain ⟨hx55_0, hf55_0⟩ := Kd.R_celln 0 HO_10.out (0 : Int) p55 q55; (try rw [show ((0 : Int)).toNat = 0 from rfl] at hx55_0); (try simp only [Nat.reduceMul, Nat.zero_mul, Nat.zero_add, Nat.reduceAdd] at hx55_0); (try rw [show ((0 : Int)).toNat = 0 from rfl] at hf55_0); (try simp only [Nat.reduceMul, Nat.zero_mul, Nat.zero_add, Nat.reduceAdd] at hf55_0); replace p55 := eq_true p55; replace q55 := eq_true q55; have n_ := am (Kd.R_mono (ok' := (fun k_ => some k_ ≠ (.slice Ao59 y362.length co59 : Value).ownBlock)) HO_10.out (fun k_ hk => hk.2)); clear HO_10; have HO_10 := n_; clear n_; obtain ⟨hy61_, hz61_⟩ := Kd.R_celln 0 HO_10.out (0 : Int) (by omega) (dT); (try simp only [Int.reduceToNat, Int.toNat_zero, Int.toNat_ofNat, Nat.reduceMul, Nat.zero_mul, Nat.zero_add] at hy61_ hz61_); (try rw [show ((0 : Int)).toNat = 0 from rfl] at hy61_); (try rw [show ((0 : Int)).toNat = 0 from rfl] at hz61_); have HP61 := Kd.R_putg HO_10.out (0 : Int) t365) | ((with_reducible refine gate_store (t := 3) (p := 61) rfl ?_); refine store_event (t := 3) (p := 61) (v := ?vo_w62) (w1 := (w60.setCell ⟨go55, (0 : Int).toNat, none⟩ (.int .i64 t365))) ?hg ?ho ?hn ?hr ?_; (case ho => rfl); (case hg => rfl); (case hn => rfl); (case hr => first | (go_simp; done) | (go_simp; rfl)); intro w62 hw; have hg : w60.grownBy w62 (some go55) := (by rw [hw]; exact HP61.2); have hp_ : Kd.R (Kd.int .i64) 3 w62 w.heap.size (fun k_ => some k_ ≠ (.slice Ao59 y362.length co59 : Value).ownBlock) (.slice (some ⟨go55, 0, none⟩) x10_33.length co55) y368 := (by rw [hw, Ny368.out]; exact HP61.1); clear HP61; have n0_ := am (Kd.R_over' (v := (.slice (some ⟨go55, 0, none⟩) x10_33.length co55)) (Rz HO_8.out) (Kd.R_typed HO_10.out) (by decide) hg); have n1_ := am (hp_); have n2_ := am (IsS90.grown (IsS90.z) hg (IsS90.own_ne HI0.out HO_10.out (by decide))); have n3_ := am (Kd.R_after (v := (.slice (some ⟨go55, 0, none⟩) x10_33.length co55)) (v1 := (.slice (some ⟨go55, 0, none⟩) x10_33.length co55)) (ok := (fun _ => True)) (Rz HO364.out) hg (.inl rfl)); have n4_ := am ((by rw [hw]; exact below_set (HB.out) (Nat.le_trans HL.out GB55.out) : Below w0.heap.size w0 w62)); have n5_ := am (KeepBut.trans (Kq) (KeepBut.of_grown hg g) (Kd.R_base2 HO_10.out)); clear HO_8 HO_10 HI0 HO364 HB HK; revert n0_ n1_ n2_ n3_ n4_ n5_; intro HO_8 HO_10 HI0 HO364 HB HK; clear hg hw hp_) | ((with_reducible refine gate_callee (f := 163) rfl ?_); refine gL (some 68) Try.func163 #[.pointer (some ⟨g, 0, none⟩), .int .i64 (t317.length : Int)] ?_; (with_reducible refine (spec_l1Cur_segment2.calls g s0_0 t366 t367 (t317.length : Int) t369 t370 t371 w0 _ ?side1 ?side2 A56.out).mono ?_); (case side1 => exact (IsS90.z)); (case side2 => repeat (first | (with_reducible first | exact HB.out | apply below_alloc | apply pw_below_drewN | apply below_drew1 | refine below_set ?_ (IsS90.ge HI0.out)) | exact HB.out)); rintro e w63 ⟨rfl, hi, hb, hk⟩; refine ⟨_, rfl, ?_⟩; have n0_ := am (Kd.R_mono (Kd.R_keep (IsS90.apart (show IsS90 w0 _ g s0_0 t366 t367 from IsS90.z) (Rz HO_8.out) (by decide)) hk (fun _ h => h.2)) (fun _ h => h.1)); have n1_ := am (Kd.R_mono (Kd.R_keep (IsS90.apart (show IsS90 w0 _ g s0_0 t366 t367 from IsS90.z) (Rz HO_10.out) (by decide)) hk (fun _ h => h.2)) (fun _ h => h.1)); have n2_ := am (Kd.R_mono (Kd.R_keep (IsS90.apart (show IsS90 w0 _ g s0_0 t366 t367 from IsS90.z) (Rz HO364.out) (by decide)) hk (fun _ h => h.2)) (fun _ h => h.1)); have n3_ := am (KeepBut.trans (Kq) hk (.inl rfl)); have n4_ := am (hb); have n5_ := am (hi); clear HO_8 HO_10 HO364 HK HB HI0; revert n0_ n1_ n2_ n3_ n4_ n5_; intro HO_8 HO_10 HO364 HK HB HI0; (try clear hb); (try clear hb2); (try clear hk); (try clear hi)))
            refine bodyPost_ret (results_list (rs := [.tmp 2, .tmp 3, .tmp 4, .tmp 5, .tmp 6]) rfl (by simp) (.tmp (.tmp (.tmp (.tmp (.tmp .nil)))))) rfl ?_; exact ⟨_, _, eZ, Rz HO_8.out, Rz (Kd.R_mono HO_10.out (fun _ hk => trivial)), IsS90.z, by repeat (first | (with_reducible first | exact HB.out | apply below_alloc | apply pw_below_drewN | apply below_drew1 | refine below_set ?_ (IsS90.ge HI0.out)) | exact HB.out), Kq⟩
           ·rw [if_neg c54] at H
            exact absurd H (by simp)
          ·replace c50 := Bool.eq_false_iff.mpr c50
           subst c50
           rw [if_neg Bool.false_ne_true] at H; obtain ⟨⟨t372, t373, t374⟩, A64, H⟩ := ob H; (try dsimp -simprocs only at H)
           simp only [Option.some.injEq, Prod.mk.injEq] at H
           obtain ⟨rfl, rfl, rfl, rfl, rfl, rfl, rfl⟩ := H
           go_wp2_with (first | ((with_reducible refine gate_callee (f := 163) rfl ?_); refine gL (some 68) Try.func163 #[.pointer (some ⟨g, 0, none⟩), .int .i64 (t317.length : Int)] ?_; (with_reducible refine (spec_l1Cur_segment2.calls g s0_0 x1001_43 x1002_43 (t317.length : Int) t372 t373 t374 w0 _ ?side1 ?side2 A64.out).mono ?_); (case side1 => exact (IsS90.z)); (case side2 => repeat (first | (with_reducible first | exact HB.out | apply below_alloc | apply pw_below_drewN | apply below_drew1 | refine below_set ?_ (IsS90.ge HI0.out)) | exact HB.out)); rintro e w65 ⟨rfl, hi, hb, hk⟩; refine ⟨_, rfl, ?_⟩; have n0_ := am (Kd.R_mono (Kd.R_keep (IsS90.apart (show IsS90 w0 _ g s0_0 x1001_43 x1002_43 from IsS90.z) (Rz HO_8.out) (by decide)) hk (fun _ h => h.2)) (fun _ h => h.1)); have n1_ := am (Kd.R_mono (Kd.R_keep (IsS90.apart (show IsS90 w0 _ g s0_0 x1001_43 x1002_43 from IsS90.z) (Rz HO_10.out) (by decide)) hk (fun _ h => h.2)) (fun _ h => h.1)); have n2_ := am (KeepBut.trans (Kq) hk (.inl rfl)); have n3_ := am (hb); have n4_ := am (hi); clear HO_8 HO_10 HK HB HI0; revert n0_ n1_ n2_ n3_ n4_; intro HO_8 HO_10 HK HB HI0; (try clear hb); (try clear hb2); (try clear hk); (try clear hi)))
           refine bodyPost_ret (results_list (rs := [.tmp 2, .tmp 3, .tmp 4, .tmp 5, .tmp 6]) rfl (by simp) (.tmp (.tmp (.tmp (.tmp (.tmp .nil)))))) rfl ?_; exact ⟨_, _, eZ, Rz HO_8.out, Rz HO_10.out, IsS90.z, by repeat (first | (with_reducible first | exact HB.out | apply below_alloc | apply pw_below_drewN | apply below_drew1 | refine below_set ?_ (IsS90.ge HI0.out)) | exact HB.out), Kq⟩

def spec_DrawPrintFilterOf.f (k : Nat) (l0 : List Int) : Option (Int × List ByteArray × Int × Int) := (spec_l1Cur_task.f k l0 0 0).bind fun bt376 => (some (bt376.1, bt376.2.1, bt376.2.2.2.1, bt376.2.2.2.2.1))
theorem spec_DrawPrintFilterOf.calls (k : Nat) (A0 : Option Addr) (c0 : Nat) (l0 : List Int) (r1 : Int) (r2 : List ByteArray) (r3 : Int) (r4 : Int) (w : World) (hr0 : Kd.C (Kd.int .u8) w A0 l0.length l0) (hc0 : l0.length ≤ c0) (h : spec_DrawPrintFilterOf.f k l0 = some (r1, r2, r3, r4)) :
  Calls Try.prog 39 #[.slice A0 l0.length c0] w fun e w' => ∃ v1_ : Value, e = .returned (.tuple #[.int .i64 r1, v1_, .int .i64 r3, .int .i64 r4]) ∧ Kd.R Kd.string 9 w' w.heap.size (fun _ => True) v1_ r2 ∧ Below w.heap.size w w' := by
 have hu90 := Try.underlying90; have HR0 := am hr0; have HC0 := am hc0; clear hr0 hc0; have HB := am (Below.refl w.heap.size w); have H : ((spec_l1Cur_task.f k l0 0 0).bind fun bt376 => (some (bt376.1, bt376.2.1, bt376.2.2.2.1, bt376.2.2.2.2.1))) = some (r1, r2, r3, r4) := h; clear h; obtain ⟨⟨t376, t377, t380, t383, t384, t385, t386⟩, A2, H⟩ := ob H; (try dsimp -simprocs only at H)
 simp only [Option.some.injEq, Prod.mk.injEq] at H
 obtain ⟨rfl, rfl, rfl, rfl⟩ := H
 go_enter Try.func39, Try.ntmps39
 go_wp2_with (first | ((with_reducible refine gate_dst (N := 14) rfl ?_); refine bE 14 #[.slice A0 l0.length c0, .int .i64 0, .int .u64 0] 90 ?_; intro gb375 hg w3 hbox hb; have n0_ := Bb HB hb; have n1_ := am (hbox); have n2_ := Gl HB hg; have n3_ := Gl HB hg; clear HB; revert n0_ n1_ n2_ n3_; intro HB BK375 GW375 GE375; clear hb hbox hg; have HI375 := am (show IsS90 w _ gb375 l0 0 0 from ⟨A0, c0, BK375.out, GE375.out, HR0.out⟩); clear BK375) | ((with_reducible refine gate_callee (f := 106) rfl ?_); refine gL (some 17) Try.func106 #[.pointer (some ⟨gb375, 0, none⟩)] ?_; (with_reducible refine (spec_l1Cur_task.calls k gb375 l0 0 0 t376 t377 t380 t383 t384 t385 t386 w _ ?side1 ?side2 A2.out).mono ?_); (case side1 => repeat (first | (with_reducible first | exact HI375.out | apply IsS90.alloc | apply IsS90.drewN | apply IsS90.drew | apply IsS90.set_1 | apply IsS90.set_2) | exact HI375.out)); (case side2 => repeat (first | (with_reducible first | exact HB.out | apply below_alloc | apply pw_below_drewN | apply below_drew1 | refine below_set ?_ (IsS90.ge HI375.out)) | exact HB.out)); rintro e w4 ⟨v378, v381, rfl, ho0, ho1, hi, hb, hk⟩; refine ⟨_, rfl, ?_⟩; have n0_ := am (Kd.R_lower ho0 (below_size (by repeat (first | (with_reducible first | exact HB.out | apply below_alloc | apply pw_below_drewN | apply below_drew1 | refine below_set ?_ (IsS90.ge HI375.out)) | exact HB.out)))); have n1_ := am (Kd.R_lower ho1 (below_size (by repeat (first | (with_reducible first | exact HB.out | apply below_alloc | apply pw_below_drewN | apply below_drew1 | refine below_set ?_ (IsS90.ge HI375.out)) | exact HB.out)))); have n2_ := am (hb); have n3_ := am (hi); clear HB HI375; revert n0_ n1_ n2_ n3_; intro HO379 HO382 HB HI375; (try clear hb); (try clear hb2); (try clear hk); (try clear hi); (try clear ho0); (try clear ho1)))
 refine bodyPost_ret (results_list (rs := [.tmp 2, .tmp 3, .tmp 4, .tmp 5]) rfl (by simp) (.tmp (.tmp (.tmp (.tmp .nil))))) rfl ?_; exact ⟨_, eZ, Rz HO379.out, by repeat (first | (with_reducible first | exact HB.out | apply below_alloc | apply pw_below_drewN | apply below_drew1 | refine below_set ?_ (IsS90.ge HI375.out)) | exact HB.out)⟩

def impl_AreKeys.l0 : Nat → List ByteArray → List ByteArray → Int → Int → Option (Bool)
 | 0, _, _, _, _ => none
 | k + 1, x0, x5, x6, x7 => if x7 < x6 then (if 0 ≤ x7 then (if x7 < (x5.length : Int) then ((impl_IsKey.f k (rdOf ByteArray.empty x5 x7)).bind fun t388 => (if t388 = true then (if x7 > 0 then (if 0 ≤ (wrap64 (x7 - 1)) then (if (wrap64 (x7 - 1)) < (x0.length : Int) then (if ((Op.bytesLess ((rdOf ByteArray.empty x0 (wrap64 (x7 - 1))).toList) ((rdOf ByteArray.empty x5 x7).toList)) = true) then (impl_AreKeys.l0 k x0 x5 x6 (wrap64 (x7 + 1))) else (some false)) else (none)) else (none)) else (impl_AreKeys.l0 k x0 x5 x6 (wrap64 (x7 + 1)))) else (some false))) else (none)) else (none)) else (some (decide ((x0.length : Int) ≤ 40)))
def impl_AreKeys.f (k : Nat) (l0 : List ByteArray) : Option (Bool) := impl_AreKeys.l0 k l0 l0 (l0.length : Int) 0
theorem impl_AreKeys.calls (k : Nat) (A0 : Option Addr) (c0 : Nat) (l0 : List ByteArray) (r : Bool) (w : World) (hr0 : Kd.C Kd.string w A0 l0.length l0) (hc0 : l0.length ≤ c0) (h : impl_AreKeys.f k l0 = some r) :
  Calls Try.prog 37 #[.slice A0 l0.length c0] w fun e w' => e = .returned (.bool r) ∧ Drawn0 w w' := by
 have HR0 := am hr0; have HC0 := am hc0; clear hr0 hc0; have H : (impl_AreKeys.l0 k l0 l0 (l0.length : Int) 0) = some r := h; clear h; have H' := am H; clear H
 go_enter Try.func37, Try.ntmps37
 go_wp2
 go_loopg [7] k (fun kq v7 w' => ∃ (x7_1 : Int), v7 = .int .i64 x7_1 ∧ Aside0 (impl_AreKeys.l0 kq l0 l0 (l0.length : Int) x7_1 = some r) ∧ Aside0 (kq ≤ k) ∧ Drawn0 w w')
 case atStart => exact ⟨(0), wZ, H', ⟨Nat.le_refl _⟩, by repeat (first | exact Drawn0.refl _ | apply Drawn0.step)⟩
 case round =>
  clear H'; obtain ⟨x7_1, rfl, HA, HK1, ⟨m1, rfl⟩⟩ := hrel; cases gk with
  | zero => exact absurd HA.out (by simp [impl_AreKeys.l0])
  | succ k1 =>
   have H := HA.out; clear HA
   simp only [impl_AreKeys.l0] at H
   by_cases c2 : x7_1 < (l0.length : Int)
   ·rw [if_pos c2] at H
    have c2b0 : decide (x7_1 < (l0.length : Int)) = true := decide_eq_true c2; clear c2
    by_cases c3 : 0 ≤ x7_1
    ·rw [if_pos c3] at H
     have c3b0 : decide (0 ≤ x7_1) = true := decide_eq_true c3; clear c3
     by_cases c4 : x7_1 < (l0.length : Int)
     ·rw [if_pos c4] at H
      have c4b0 : decide (x7_1 < (l0.length : Int)) = true := decide_eq_true c4; clear c4; obtain ⟨t388, A5, H⟩ := ob H; (try dsimp -simprocs only at H)
      by_cases c6 : t388 = true
      ·subst c6
       rw [if_pos rfl] at H
       by_cases c7 : x7_1 > 0
       ·rw [if_pos c7] at H
        have c7b0 : decide (0 < x7_1) = true := decide_eq_true c7; clear c7; obtain ⟨ji8, hji8⟩ : ∃ j_ : Int, (wrap64 (x7_1 - 1)) = j_ := ⟨_, rfl⟩
        replace H : (if 0 ≤ (ji8) then (if (ji8) < (l0.length : Int) then (if ((Op.bytesLess ((rdOf ByteArray.empty l0 (ji8)).toList) ((rdOf ByteArray.empty l0 x7_1).toList)) = true) then (impl_AreKeys.l0 k1 l0 l0 (l0.length : Int) (wrap64 (x7_1 + 1))) else (some false)) else (none)) else (none)) = some r := by first | (rw [hji8] at H; exact H) | (simp only [hji8] at H ⊢; exact H)
        (try rw [hji8] at A5)
        have hji8w : (IntKind.i64.wrap (x7_1 - 1)) = ji8 := (i64_w _).trans hji8
        by_cases c9 : 0 ≤ (ji8)
        ·rw [if_pos c9] at H
         have c9b0 : decide (0 ≤ (ji8)) = true := decide_eq_true c9; clear c9
         by_cases c10 : (ji8) < (l0.length : Int)
         ·rw [if_pos c10] at H
          have c10b0 : decide ((ji8) < (l0.length : Int)) = true := decide_eq_true c10; clear c10
          by_cases c11 : ((Op.bytesLess ((rdOf ByteArray.empty l0 (ji8)).toList) ((rdOf ByteArray.empty l0 x7_1).toList)) = true)
          ·rw [if_pos c11] at H
           have c11b0 : (Op.bytesLess ((rdOf ByteArray.empty l0 (ji8)).toList) ((rdOf ByteArray.empty l0 x7_1).toList)) = true := c11; clear c11; have H' := am H; clear H; obtain ⟨ad387, e387, hx387_0⟩ := Kd.at_string HR0.out x7_1 dT dT; cases e387; have p387 := eT (0 ≤ (x7_1 : Int)); have q387 := eT (x7_1 < (l0.length : Int))
           go_wp2_with (first | ((with_reducible refine gate_callee (f := 52) rfl ?_); refine gL (some 13) Try.func52 #[.string (rdOf ByteArray.empty l0 x7_1)] ?_; (with_reducible refine (impl_IsKey.calls k1 (rdOf ByteArray.empty l0 x7_1) true _ A5.out).mono ?_); rintro e w' ⟨rfl, ⟨nd, rfl⟩⟩; refine ⟨_, rfl, ?_⟩; have p389 : 0 ≤ ((ji8) : Int) := dT; have q389 : (ji8) < (l0.length : Int) := dT; obtain ⟨ad389, e389, hx389_0⟩ := Kd.at_string HR0.out (ji8) p389 q389; obtain rfl : ad387 = ad389 := (by injection e389); replace p389 := eq_true p389; replace q389 := eq_true q389))
           go_roundg k1
           case measure => have := HK1.out; omega
           case rel => exact ⟨(wrap64 (x7_1 + 1)), wZ, H', ⟨by have := HK1.out; omega⟩, by repeat (first | exact Drawn0.refl _ | apply Drawn0.step)⟩
          ·rw [if_neg c11] at H
           have c11b0 : (Op.bytesLess ((rdOf ByteArray.empty l0 (ji8)).toList) ((rdOf ByteArray.empty l0 x7_1).toList)) = false := by simpa using c11
           clear c11; obtain rfl := Option.some.inj H; obtain ⟨ad387, e387, hx387_0⟩ := Kd.at_string HR0.out x7_1 dT dT; cases e387; have p387 := eT (0 ≤ (x7_1 : Int)); have q387 := eT (x7_1 < (l0.length : Int))
           go_wp2_with (first | ((with_reducible refine gate_callee (f := 52) rfl ?_); refine gL (some 13) Try.func52 #[.string (rdOf ByteArray.empty l0 x7_1)] ?_; (with_reducible refine (impl_IsKey.calls k1 (rdOf ByteArray.empty l0 x7_1) true _ A5.out).mono ?_); rintro e w' ⟨rfl, ⟨nd, rfl⟩⟩; refine ⟨_, rfl, ?_⟩; have p389 : 0 ≤ ((ji8) : Int) := dT; have q389 : (ji8) < (l0.length : Int) := dT; obtain ⟨ad389, e389, hx389_0⟩ := Kd.at_string HR0.out (ji8) p389 q389; obtain rfl : ad387 = ad389 := (by injection e389); replace p389 := eq_true p389; replace q389 := eq_true q389))
           go_ret
           exact ⟨by first | rfl | (simp; done) | (simp only [← hji8] <;> (first | rfl | simp)) | (simp [*]; done), by repeat (first | exact Drawn0.refl _ | apply Drawn0.step)⟩
         ·rw [if_neg c10] at H
          exact absurd H (by simp)
        ·rw [if_neg c9] at H
         exact absurd H (by simp)
       ·rw [if_neg c7] at H
        have c7b0 : decide (0 < x7_1) = false := decide_eq_false c7; clear c7; have H' := am H; clear H; obtain ⟨ad387, e387, hx387_0⟩ := Kd.at_string HR0.out x7_1 dT dT; cases e387; have p387 := eT (0 ≤ (x7_1 : Int)); have q387 := eT (x7_1 < (l0.length : Int))
        go_wp2_with (first | ((with_reducible refine gate_callee (f := 52) rfl ?_); refine gL (some 13) Try.func52 #[.string (rdOf ByteArray.empty l0 x7_1)] ?_; (with_reducible refine (impl_IsKey.calls k1 (rdOf ByteArray.empty l0 x7_1) true _ A5.out).mono ?_); rintro e w' ⟨rfl, ⟨nd, rfl⟩⟩; refine ⟨_, rfl, ?_⟩))
        go_roundg k1
        case measure => have := HK1.out; omega
        case rel => exact ⟨(wrap64 (x7_1 + 1)), wZ, H', ⟨by have := HK1.out; omega⟩, by repeat (first | exact Drawn0.refl _ | apply Drawn0.step)⟩
      ·replace c6 := Bool.eq_false_iff.mpr c6
       subst c6
       rw [if_neg Bool.false_ne_true] at H; obtain rfl := Option.some.inj H; obtain ⟨ad387, e387, hx387_0⟩ := Kd.at_string HR0.out x7_1 dT dT; cases e387; have p387 := eT (0 ≤ (x7_1 : Int)); have q387 := eT (x7_1 < (l0.length : Int))
       go_wp2_with (first | ((with_reducible refine gate_callee (f := 52) rfl ?_); refine gL (some 13) Try.func52 #[.string (rdOf ByteArray.empty l0 x7_1)] ?_; (with_reducible refine (impl_IsKey.calls k1 (rdOf ByteArray.empty l0 x7_1) false _ A5.out).mono ?_); rintro e w' ⟨rfl, ⟨nd, rfl⟩⟩; refine ⟨_, rfl, ?_⟩))
       go_ret
       exact ⟨by first | rfl | (simp; done) | (simp [*]; done), by repeat (first | exact Drawn0.refl _ | apply Drawn0.step)⟩
     ·rw [if_neg c4] at H
      exact absurd H (by simp)
    ·rw [if_neg c3] at H
     exact absurd H (by simp)
   ·rw [if_neg c2] at H
    have c2b0 : decide (x7_1 < (l0.length : Int)) = false := decide_eq_false c2; clear c2; obtain rfl := Option.some.inj H
    go_wp2
    go_ret
    exact ⟨by first | rfl | (simp; done) | (simp [*]; done), by repeat (first | exact Drawn0.refl _ | apply Drawn0.step)⟩

def impl_hyper.l0 : Nat → Int → Int → List ByteArray → Int → Int → Int → List (List Int) → Option (Int × (List (List Int)))
 | 0, _, _, _, _, _, _, _ => none
 | k + 1, x0, x2, x13, x14, x15, x392000, x392001 => if x15 < x14 then (if 0 ≤ x15 then (if x15 < (x13.length : Int) then ((impl_threePlaces.f k x0 (rdOf ByteArray.empty x13 x15) x2).bind fun t393 => (if x392001.length < 5864062014805 then (impl_hyper.l0 k x0 x2 x13 x14 (wrap64 (x15 + 1)) x392000 (x392001 ++ [t393])) else (none))) else (none)) else (none)) else (some (x392000, x392001))
def impl_hyper.f (k : Nat) (a0 : Int) (l1 : List ByteArray) (a2 : Int) : Option (Int × (List (List Int))) := impl_hyper.l0 k a0 a2 l1 (l1.length : Int) 0 (wrap64 (3 * a2)) ([] : List (List Int))
def impl_hyper.T5 : Bool × List (List Nat × List Nat) := (true, [([], []), ([0], [0]), ([], []), ([], []), ([], []), ([2, 3, 4], [2, 3, 4]), ([5], [5]), ([1, 6, 5], [1, 6]), ([0, 1, 2, 3, 4, 5, 6, 7], []), ([8, 7, 7, 0, 1, 2, 3, 4, 5, 6, 7], [7, 8])])
def impl_hyper.B5 : List Nat := [0, 1, 0, 0, 0, 28, 60, 127, 255, 511]
theorem impl_hyper.tab5 : rtab .any (opsOf Try.f61 5) = impl_hyper.T5 := by kernel_rfl
theorem impl_hyper.bits5 : waitsOk impl_hyper.T5.2 impl_hyper.B5 = true := by kernel_rfl
theorem impl_hyper.calls (k : Nat) (a0 : Int) (A1 : Option Addr) (c1 : Nat) (l1 : List ByteArray) (a2 : Int) (r1 : Int) (r2 : List (List Int)) (w : World) (hr1 : Kd.C Kd.string w A1 l1.length l1) (hc1 : l1.length ≤ c1) (h : impl_hyper.f k a0 l1 a2 = some (r1, r2)) :
  Calls Try.prog 61 #[.int .i64 a0, .slice A1 l1.length c1, .int .i64 a2] w fun e w' => ∃ v1_ : Value, e = .returned (.agg #[.int .i64 r1, v1_]) ∧ Kd.S (Kd.slice 3 (Kd.int .i64)) 24 w' w.heap.size (fun _ => True) v1_ r2 ∧ Below w.heap.size w w' := by
 have hu33 := Try.underlying33; have HR1 := am hr1; have HC1 := am hc1; clear hr1 hc1; have HB := am (Below.refl w.heap.size w); have H : (impl_hyper.l0 k a0 a2 l1 (l1.length : Int) 0 (wrap64 (3 * a2)) ([] : List (List Int))) = some (r1, r2) := h; clear h; have H' := am H; clear H
 go_enter Try.func61, Try.ntmps61
 go_wp2_with (first | ((with_reducible refine gate_dst (N := 6) rfl ?_); refine bE 6 #[.int .i64 0, .slice none 0 0] 33 ?_; intro gb390 hg w4 hbox hb; have n0_ := Bb HB hb; have n1_ := am (hbox); have n2_ := Gl HB hg; have n3_ := Gl HB hg; clear HB; revert n0_ n1_ n2_ n3_; intro HB BK390 GW390 GE390; clear hb hbox hg) | ((with_reducible refine gate_dst (N := 7) rfl ?_); refine bE 7 #[.int .i64 0, .slice none 0 0] 33 ?_; intro gb391 hg w5 hbox hb; have n0_ := Kb BK390 hb; have n1_ := Bc HB hb; have n2_ := am (hbox); have n3_ := Gm HB hg; have n4_ := Gm HB hg; have n5_ := Nl BK390 hg; have n6_ := Ng BK390 hg; clear BK390 HB; revert n0_ n1_ n2_ n3_ n4_ n5_ n6_; intro BK390 HB BK391 GW391 GE391 NB390_391 NB391_390; clear hb hbox hg; have hnb6 := NB391_390.out; have hnc6 := NB390_391.out; obtain ⟨hcz7_0, hcz7_1, hfz7_0, hfz7_1⟩ := cf2 (w := w5) BK391))
 (try simp only [aP])
 go_loopg [15] k (fun kq v15 w' => ∃ (x15_1 : Int) (x392001_1 : List (List Int)) (u392001 : Value), v15 = .int .i64 x15_1 ∧ Aside0 (impl_hyper.l0 kq a0 a2 l1 (l1.length : Int) x15_1 (wrap64 (3 * a2)) x392001_1 = some (r1, r2)) ∧ Aside0 (kq ≤ k) ∧ Aside0 (Kd.S (Kd.slice 3 (Kd.int .i64)) 24 w' w.heap.size (fun _ => True) u392001 x392001_1) ∧ Aside0 (w'.heap[gb390]? = some (.cells #[.int .i64 0, (.slice none 0 0)] 33 (0, 0))) ∧ Aside0 (w'.heap[gb391]? = some (.cells #[.int .i64 (wrap64 (3 * a2)), u392001] 33 (0, 0))) ∧ Aside0 (Below w.heap.size w w'))
 case atStart => exact ⟨(0), (([] : List (List Int))), (.slice none 0 0), wZ, H', ⟨Nat.le_refl _⟩, ⟨by first | exact Kd.S_nil _ _ _ _ _ | exact Kd.N_nil _ _ _ _ _ | exact Kd.V_nil _ _ _ _ _ | exact Kd.Q_nil _ _ _ _ _ | exact Kd.R_nil _ _ _ _ _⟩, ⟨by refine bp ?_; refine blk_far ?_ NB390_391.out _; refine bp ?_; refine blk_far ?_ NB390_391.out _; refine bp ?_; exact BK390.out⟩, ⟨by refine bp ?_; refine blk_put (cs := #[.int .i64 (wrap64 (3 * a2)), .slice none 0 0]) ?_ 1 _ rfl; refine bp ?_; refine blk_put (cs := #[.int .i64 0, .slice none 0 0]) ?_ 0 _ rfl; refine bp ?_; exact BK391.out⟩, ⟨Bq⟩⟩
 case round =>
  clear H'
  try clear c1
  try clear p2
  try clear c6
  try clear p6
  obtain ⟨x15_1, x392001_1, u392001, rfl, HA, HK1, HO_392001, BK390, BK391, HB⟩ := hrel; cases gk with
  | zero => exact absurd HA.out (by simp [impl_hyper.l0])
  | succ k1 =>
   have H := HA.out; clear HA
   simp only [impl_hyper.l0] at H
   by_cases c8 : x15_1 < (l1.length : Int)
   ·rw [if_pos c8] at H
    have c8b0 : decide (x15_1 < (l1.length : Int)) = true := decide_eq_true c8; clear c8
    by_cases c9 : 0 ≤ x15_1
    ·rw [if_pos c9] at H
     have c9b0 : decide (0 ≤ x15_1) = true := decide_eq_true c9; clear c9
     by_cases c10 : x15_1 < (l1.length : Int)
     ·rw [if_pos c10] at H
      have c10b0 : decide (x15_1 < (l1.length : Int)) = true := decide_eq_true c10; clear c10; obtain ⟨t393, A11, H⟩ := ob H; (try dsimp -simprocs only at H)
      by_cases c12 : x392001_1.length < 5864062014805
      ·rw [if_pos c12] at H
       have LMc12 := am c12; clear c12; obtain ⟨y396, hy396⟩ : ∃ y_ : List (List Int), y_ = (x392001_1 ++ [t393]) := ⟨_, rfl⟩
       replace H : (impl_hyper.l0 k1 a0 a2 l1 (l1.length : Int) (wrap64 (x15_1 + 1)) (wrap64 (3 * a2)) y396) = some (r1, r2) := by (try rw [hy396]); first | with_reducible exact H | exact (Option.bind_some _ _).symm.trans H | exact H
       have Ny396 := am hy396; clear hy396; have H' := am H; clear H; have p392 : 0 ≤ (x15_1 : Int) := dT; have q392 : x15_1 < (l1.length : Int) := dT; obtain ⟨ad392, e392, hx392_0⟩ := Kd.at_string HR1.out x15_1 p392 q392; cases e392; replace hx392_0 := (HB.out.cell (World.block_lt_of_cell? w _ hx392_0)).trans hx392_0; replace p392 := eq_true p392; replace q392 := eq_true q392
       try go_wp2
       have n0_ := am (Kd.S_drew HO_392001.out); have n1_ := am (blk_drew BK390.out); have n2_ := am (blk_drew BK391.out); have n3_ := am (below_drew1 HB.out); clear HO_392001 BK390 BK391 HB; revert n0_ n1_ n2_ n3_; intro HO_392001 BK390 BK391 HB; refine start_ (n := 10) (S := fun w' => w'.cell? ⟨gb391, 0, none⟩ = some (.int .i64 (wrap64 (3 * a2))) ∧ w'.cell? ⟨gb391, 1, none⟩ = some (u392001)) (ds := [9]) (bA 10 0) (by kernel_rfl) rfl rfl ⟨cz BK391 0, cz BK391 1⟩ (fun hHeld => ?_); refine with_tabW impl_hyper.tab5 impl_hyper.bits5 (fun HT_ HW_ => ?_); generalize wr.drew = w13 at HO_392001 BK390 BK391 HB hHeld ⊢; refine pZ 0 (some 19) (bA 10 1) HT_.out ?_; refine pZ 2 (some 21) (bA 10 5) HT_.out ?_; refine pZ 3 (some 22) (bA 10 13) HT_.out ?_; refine pZ 4 (some 23) (bA 10 29) HT_.out ?_; refine tZ2 1 (some 20) (bA 10 31) HT_.out HW_.out hHeld ?_; refine oZ 5 (some 24) (bA 10 63) HT_.out (fun K hK => ?_); refine gZ Try.func88 #[.int .i64 a0, .string (rdOf ByteArray.empty l1 x15_1), .int .i64 a2] ?_
       with_reducible refine (impl_threePlaces.calls k1 a0 (rdOf ByteArray.empty l1 x15_1) a2 t393 _ A11.out).mono ?_
       rintro e w14 ⟨v394, rfl, ho0, hb⟩; refine ⟨_, rfl, ?_⟩; have n0_ := am (Kd.S_elder' (by (with_reducible repeat (first | apply Kd.S_alloc | apply Kd.S_drewN | apply Kd.S_drew)); exact HO_392001.out) (Kd.R_base ho0) hb); have n1_ := Rm ho0 HB; have n2_ := Kb BK390 hb; have n3_ := Kb BK391 hb; have n4_ := Bc HB hb; clear HO_392001 BK390 BK391 HB; revert n0_ n1_ n2_ n3_ n4_; intro HO_392001 HO395 BK390 BK391 HB
       (try clear hb)
       (try clear hb2)
       (try clear hk)
       (try clear hi)
       (try clear ho0)
       obtain ⟨Ao16, co16, eo16⟩ := Kd.R_slice HO395.out
       (first | subst eo16 | (injection eo16 with f1_ f2_ f3_; have f4_ := f1_.symm; have f5_ := f3_.symm; clear f1_ f2_ f3_; subst f4_; subst f5_))
       refine hK.out _ _ ⟨cz BK391 0, cz BK391 1⟩ (fun hHeld => ?_); clear hK K; refine norm_ (a' := ?_) ?_ ?_; rotate_left; show Act.put _ (some 24) _ = _; simp only [aP, i64_w, i32_w]; rfl; refine oZ 6 (some 25) (bA 10 127) HT_.out (fun K hK => ?_); refine value_ (w1 := ?_) (v := ?_) (by rfl) rfl ?_ ?_
       rotate_left 2
       ·go_simp
        constructor
        ·rfl
        ·rfl
       refine hK.out _ _ ⟨(blk_cell (blk_alloc BK391.out _) 0).trans rfl, (blk_cell (blk_alloc BK391.out _) 1).trans rfl⟩ (fun hHeld => ?_); clear hK K; refine norm_ (a' := ?_) ?_ ?_; rotate_left; show Act.put _ (some 25) _ = _; simp only [aP, i64_w, i32_w]; rfl; refine oZ 7 (some 26) (bA 10 255) HT_.out (fun K hK => ?_); refine Kd.S_append_step (Kd.slice 3 (Kd.int .i64)) (w0 := w) w.heap.size (by rfl) (.tmp 20) (.tmp 25) 31 24 (.slice none 0 0) 24 rfl Try.underlying31 info24 rfl (by decide) (by omega) u392001 x392001_1 t393 [.slice Ao16 t393.length co16] (fun _ => True) (fun k_ => some k_ = (.slice Ao16 t393.length co16 : Value).ownBlock) rfl rfl ?aP (fun k_ hk_ => ((Kd.R_mono (ok' := fun k_ => ((fun _ => True)) k_ ∧ some k_ ≠ (u392001 : Value).ownBlock) (Kd.R_apart' (HO395.out) (Kd.S_typed HO_392001.out) (by decide)) (fun k_ hk => ⟨trivial, hk.2⟩))).1 k_ hk_.symm) ?aF ?aO ?aB ?aS ?aL ?_
       (case aP => exact Kd.M_row (Kd.R_mono (Kd.R_tight rfl (Kd.R_mono (ok' := fun k_ => ((fun _ => True)) k_ ∧ some k_ ≠ (u392001 : Value).ownBlock) (Kd.R_apart' (HO395.out) (Kd.S_typed HO_392001.out) (by decide)) (fun k_ hk => ⟨trivial, hk.2⟩))) (fun _ h_ => h_)))
       (case aB => exact (Bq))
       (case aF => exact (fun _ _ => trivial))
       (case aO => exact (by (with_reducible repeat (first | apply Kd.S_alloc | apply Kd.S_drewN | apply Kd.S_drew)); exact Kd.S_mono HO_392001.out (fun k_ hk => ⟨trivial, fun e_ => hk.2 e_⟩)))
       (case aS => exact (below_size (w := w) (Bq)))
       (case aL => have := LMc12.out; omega)
       intro v397 w15 ho hb hg hat; rw [← Ny396.out] at ho; have n0_ := am (blk_grown (g := gb390) (o := .cells #[.int .i64 0, .slice none 0 0] 33 (0, 0)) (Kz BK390.out) hg (Kd.S_ne HO_392001.out BK390.out (by decide))); have n1_ := am (blk_grown (g := gb391) (o := .cells #[.int .i64 (wrap64 (3 * a2)), u392001] 33 (0, 0)) (Kz BK391.out) hg (Kd.S_ne HO_392001.out BK391.out (by decide))); have n2_ := am (hb); have n3_ := am (ho); clear BK390 BK391 HB HO_392001 HO395; revert n0_ n1_ n2_ n3_; intro BK390 BK391 HB HO398; clear ho hb hg hat; obtain ⟨Ao17, co17, eo17⟩ := Kd.S_slice HO398.out
       (first | subst eo17 | (injection eo17 with f1_ f2_ f3_; have f4_ := f1_.symm; have f5_ := f3_.symm; clear f1_ f2_ f3_; subst f4_; subst f5_))
       refine hK.out _ _ ⟨cz BK391 0, cz BK391 1⟩ (fun hHeld => ?_); clear hK K; refine norm_ (a' := ?_) ?_ ?_; rotate_left; show Act.put _ (some 26) _ = _; simp only [aP, i64_w, i32_w]; rfl; refine pZ 8 (some 27) (bA 10 511) HT_.out ?_; refine lZ 9 none (bA 10 1023) HT_.out (fun K hK => ?_); have hs18 : w15.cell? ⟨gb391, 1, none⟩ = some (u392001) := cz BK391 1; have hfs18 := blk_frozen BK391.out 1; have hns18_0 := NB390_391.out; have hms18_0 := NB391_390.out; refine skip_ (w1 := ?_) (by rfl) rfl ?_ ?_
       rotate_left
       ·go_simp
        rfl
       refine hK.out _ _ ?_; clear hK K; refine done_ (done_of HT_.out (by kernel_rfl)) ?_
       try go_wp2
       go_roundg k1
       case measure => have := HK1.out; omega
       case rel => exact ⟨(wrap64 (x15_1 + 1)), (y396), (.slice Ao17 y396.length co17), wZ, H', ⟨by have := HK1.out; omega⟩, ⟨by (with_reducible repeat (first | apply Kd.S_alloc | apply Kd.S_drewN | apply Kd.S_drew)); exact Kd.S_mono (Kd.S_far (p := ⟨gb391, 1, none⟩) (Kd.S_types HO398.out BK391.out (by decide)) (fun _ hk => hk.2) (.slice Ao17 y396.length co17)) (fun _ hk => trivial)⟩, ⟨by refine bp ?_; refine blk_far ?_ NB390_391.out _; refine bp ?_; exact BK390.out⟩, ⟨by refine bp ?_; refine blk_put (cs := #[.int .i64 (wrap64 (3 * a2)), u392001]) ?_ 1 _ rfl; refine bp ?_; exact BK391.out⟩, ⟨Bq⟩⟩
      ·rw [if_neg c12] at H
       exact absurd H (by simp)
     ·rw [if_neg c10] at H
      exact absurd H (by simp)
    ·rw [if_neg c9] at H
     exact absurd H (by simp)
   ·rw [if_neg c8] at H
    have c8b0 : decide (x15_1 < (l1.length : Int)) = false := decide_eq_false c8; clear c8
    simp only [Option.some.injEq, Prod.mk.injEq] at H
    obtain ⟨rfl, rfl⟩ := H; have hnb19 := NB391_390.out; have hnc19 := NB390_391.out; obtain ⟨hcz20_0, hcz20_1, hfz20_0, hfz20_1⟩ := cf2 (w := wr) BK391; obtain ⟨hcz21_0, hcz21_1, hfz21_0, hfz21_1⟩ := cf2 (w := wr) BK390; obtain ⟨Ao22, co22, eo22⟩ := Kd.S_slice HO_392001.out; subst eo22
    go_wp2
    refine bodyPost_ret (results_cell_row rfl _ _ gb390 33 #[.int .i64 (wrap64 (3 * a2)), .slice Ao22 x392001_1.length co22] (0, 0) _ rfl (by refine bp ?_; refine blk_put (cs := #[.int .i64 (wrap64 (3 * a2)), .slice none 0 0]) ?_ 1 _ rfl; refine bp ?_; refine blk_put (cs := #[.int .i64 0, .slice none 0 0]) ?_ 0 _ rfl; exact Kz BK390.out) Try.underlying33 rfl (by kernel_rfl)) rfl ?_; exact ⟨_, eZ, by (with_reducible repeat (first | apply Kd.S_alloc | apply Kd.S_drewN | apply Kd.S_drew)); exact Kd.S_mono (Kd.S_far (p := ⟨gb390, 1, none⟩) (Kd.S_far (p := ⟨gb390, 0, none⟩) (Kd.S_types HO_392001.out BK390.out (by decide)) (fun _ hk => hk.2) (.int .i64 (wrap64 (3 * a2)))) (fun _ hk => hk.2) (.slice Ao22 x392001_1.length co22)) (fun _ hk => trivial), Bq⟩

def impl_Hyper_none.f (a0_0 : Int) (l0_1 : List (List Int)) : Option (List Bool) := if 0 ≤ (l0_1.length : Int) then (if ((l0_1.length : Int) : Int).toNat ≤ 281474976710656 then (some (List.replicate ((l0_1.length : Int) : Int).toNat false)) else (none)) else (none)
theorem impl_Hyper_none.calls (g0 : Nat) (a0_0 : Int) (A0_1 : Option Addr) (c0_1 : Nat) (l0_1 : List (List Int)) (r : List Bool) (w : World) (hb0 : w.heap[g0]? = some (.cells #[.int .i64 a0_0, .slice A0_1 l0_1.length c0_1] 33 (0, 0))) (hr0_1 : Kd.C (Kd.slice 3 (Kd.int .i64)) w A0_1 l0_1.length l0_1) (hc0_1 : l0_1.length ≤ c0_1) (h : impl_Hyper_none.f a0_0 l0_1 = some r) :
  Calls Try.prog 178 #[.pointer (some ⟨g0, 0, none⟩)] w fun e w' => ∃ v0_ : Value, e = .returned (v0_) ∧ Kd.R Kd.bool 4 w' w.heap.size (fun _ => True) v0_ r ∧ Below w.heap.size w w' := by
 have HR0_1 := am hr0_1; have HC0_1 := am hc0_1; clear hr0_1 hc0_1; have BK0 := am hb0; clear hb0; have HB := am (Below.refl w.heap.size w); have H : (if 0 ≤ (l0_1.length : Int) then (if ((l0_1.length : Int) : Int).toNat ≤ 281474976710656 then (some (List.replicate ((l0_1.length : Int) : Int).toNat false)) else (none)) else (none)) = some r := h; clear h
 by_cases c2 : 0 ≤ (l0_1.length : Int)
 ·rw [if_pos c2] at H
  have c2b0 := eq_true c2; have c2b1 : decide (0 ≤ (l0_1.length : Int)) = true := decide_eq_true c2; clear c2
  by_cases c3 : ((l0_1.length : Int) : Int).toNat ≤ 281474976710656
  ·rw [if_pos c3] at H
   have c3b0 := eq_true c3; have c3b1 : decide (((l0_1.length : Int) : Int).toNat ≤ 281474976710656) = true := decide_eq_true c3; clear c3; obtain ⟨y399, hy399⟩ : ∃ y_ : List Bool, y_ = (List.replicate ((l0_1.length : Int) : Int).toNat false) := ⟨_, rfl⟩
   replace H : (some y399) = some r := by (try rw [hy399]); first | with_reducible exact H | exact (Option.bind_some _ _).symm.trans H | exact H
   have Ny399 := am hy399; clear hy399; obtain rfl := Option.some.inj H; obtain ⟨hcz4_0, hcz4_1, hfz4_0, hfz4_1⟩ := cf2 (w := w) BK0
   go_enter Try.func178, Try.ntmps178
   go_wp2_with (first | ((with_reducible refine gate_dst (N := 8) rfl ?_); refine Kd.R_make Kd.bool _ 4 rfl (N := 8) rfl 175 _ _ rfl (l0_1.length : Int) rfl rfl Try.underlying175 (.bool false) 1 info4 rfl (by decide) (by omega) false (ok := fun _ => True) (okp := fun _ => True) rfl (fun _ hk => hk) trivial (dT) (Nat.le_trans (Nat.mul_le_mul_right _ (dT : (l0_1.length : Int).toNat ≤ 281474976710656)) (by omega)) (Below.refl _ _) (Nat.le_refl _) ?_; intro v400 w5 ho6 hb hg_ hnew_; clear hg_ hnew_; (first | rw [← Ny399.out] at ho6 | (simp only [Int.reduceToNat] at ho6; rw [← Ny399.out] at ho6)); have n0_ := Rm ho6 HB; have n1_ := Kb BK0 hb; have n2_ := Bc HB hb; clear BK0 HB; revert n0_ n1_ n2_; intro HO401 BK0 HB; clear hb ho6))
   go_ret
   exact ⟨_, eZ, Rz HO401.out, Bq⟩
  ·rw [if_neg c3] at H
   exact absurd H (by simp)
 ·rw [if_neg c2] at H
  exact absurd H (by simp)

mutual
def impl_Hyper_degrees.l0 : Nat → List Bool → List Int → List (List Int) → Int → Int → Option (List Int)
 | 0, _, _, _, _, _ => none
 | k + 1, x1, x5, x18, x19, x20 => if x20 < x19 then (if 0 ≤ x20 then (if x20 < (x18.length : Int) then (if x20 < (x1.length : Int) then (if rdOf false x1 x20 = true then (impl_Hyper_degrees.l0 k x1 x5 x18 x19 (wrap64 (x20 + 1))) else (impl_Hyper_degrees.l1 k x1 x5 x18 x19 x20 (rd_L3 x18 x20) ((rd_L3 x18 x20).length : Int) 0)) else (none)) else (none)) else (none)) else (some x5)
def impl_Hyper_degrees.l1 : Nat → List Bool → List Int → List (List Int) → Int → Int → List Int → Int → Int → Option (List Int)
 | 0, _, _, _, _, _, _, _, _ => none
 | k + 1, x1, x5, x18, x19, x20, x29, x30, x31 => if x31 < x30 then (if 0 ≤ x31 then (if x31 < (x29.length : Int) then (if 0 ≤ (rd x29 x31) then (if (rd x29 x31) < (x5.length : Int) then (impl_Hyper_degrees.l1 k x1 (x5.set ((rd x29 x31) : Int).toNat (wrap64 ((rd x5 (rd x29 x31)) + 1))) x18 x19 x20 x29 x30 (wrap64 (x31 + 1))) else (none)) else (none)) else (none)) else (none)) else (impl_Hyper_degrees.l0 k x1 x5 x18 x19 (wrap64 (x20 + 1)))
end
def impl_Hyper_degrees.f (k : Nat) (a0_0 : Int) (l0_1 : List (List Int)) (l1 : List Bool) : Option (List Int) := if 0 ≤ a0_0 then (if (a0_0 : Int).toNat ≤ 35184372088832 then (impl_Hyper_degrees.l0 k l1 (List.replicate (a0_0 : Int).toNat 0) l0_1 (l0_1.length : Int) 0) else (none)) else (none)
theorem impl_Hyper_degrees.calls (k : Nat) (g0 : Nat) (a0_0 : Int) (A0_1 : Option Addr) (c0_1 : Nat) (l0_1 : List (List Int)) (A1 : Option Addr) (c1 : Nat) (l1 : List Bool) (r : List Int) (w : World) (hb0 : w.heap[g0]? = some (.cells #[.int .i64 a0_0, .slice A0_1 l0_1.length c0_1] 33 (0, 0))) (hr0_1 : Kd.C (Kd.slice 3 (Kd.int .i64)) w A0_1 l0_1.length l0_1) (hc0_1 : l0_1.length ≤ c0_1) (hr1 : Kd.C Kd.bool w A1 l1.length l1) (hc1 : l1.length ≤ c1) (h : impl_Hyper_degrees.f k a0_0 l0_1 l1 = some r) :
  Calls Try.prog 195 #[.pointer (some ⟨g0, 0, none⟩), .slice A1 l1.length c1] w fun e w' => ∃ v0_ : Value, e = .returned (v0_) ∧ Kd.R (Kd.int .i64) 3 w' w.heap.size (fun _ => True) v0_ r ∧ Below w.heap.size w w' := by
 have HR0_1 := am hr0_1; have HC0_1 := am hc0_1; clear hr0_1 hc0_1; have HR1 := am hr1; have HC1 := am hc1; clear hr1 hc1; have BK0 := am hb0; clear hb0; have HB := am (Below.refl w.heap.size w); have H : (if 0 ≤ a0_0 then (if (a0_0 : Int).toNat ≤ 35184372088832 then (impl_Hyper_degrees.l0 k l1 (List.replicate (a0_0 : Int).toNat 0) l0_1 (l0_1.length : Int) 0) else (none)) else (none)) = some r := h; clear h
 by_cases c3 : 0 ≤ a0_0
 ·rw [if_pos c3] at H
  have c3b0 := eq_true c3; have c3b1 : decide (0 ≤ a0_0) = true := decide_eq_true c3; clear c3
  by_cases c4 : (a0_0 : Int).toNat ≤ 35184372088832
  ·rw [if_pos c4] at H
   have c4b0 := eq_true c4; have c4b1 : decide ((a0_0 : Int).toNat ≤ 35184372088832) = true := decide_eq_true c4; clear c4; obtain ⟨y402, hy402⟩ : ∃ y_ : List Int, y_ = (List.replicate (a0_0 : Int).toNat 0) := ⟨_, rfl⟩
   replace H : (impl_Hyper_degrees.l0 k l1 y402 l0_1 (l0_1.length : Int) 0) = some r := by (try rw [hy402]); first | with_reducible exact H | exact (Option.bind_some _ _).symm.trans H | exact H
   have Ny402 := am hy402; clear hy402; have H' := am H; clear H; obtain ⟨hcz5_0, hcz5_1, hfz5_0, hfz5_1⟩ := cf2 (w := w) BK0
   go_enter Try.func195, Try.ntmps195
   go_wp2_with (first | ((with_reducible refine gate_dst (N := 14) rfl ?_); refine Kd.R_make (Kd.int .i64) _ 3 rfl (N := 14) rfl 24 _ _ rfl a0_0 rfl rfl Try.underlying24 (.int .i64 0) 8 info3 rfl (by decide) (by omega) 0 (ok := fun _ => True) (okp := fun _ => True) rfl (fun _ hk => hk) trivial (dT) (Nat.le_trans (Nat.mul_le_mul_right _ (dT : a0_0.toNat ≤ 35184372088832)) (by omega)) (Below.refl _ _) (Nat.le_refl _) ?_; intro v403 w6 ho7 hb hg_ hnew_; clear hg_ hnew_; (first | rw [← Ny402.out] at ho7 | (simp only [Int.reduceToNat] at ho7; rw [← Ny402.out] at ho7)); have n0_ := Rm ho7 HB; have n1_ := Kb BK0 hb; have n2_ := Bc HB hb; clear BK0 HB; revert n0_ n1_ n2_; intro HO404 BK0 HB; clear hb ho7; obtain ⟨hcz8_0, hcz8_1, hfz8_0, hfz8_1⟩ := cf2 (w := w6) BK0))
   (try simp only [aP])
   go_loopg [20] k (fun kq v20 w' => ∃ (x5_1 : List Int) (x20_1 : Int), v20 = .int .i64 x20_1 ∧ Aside0 (impl_Hyper_degrees.l0 kq l1 x5_1 l0_1 (l0_1.length : Int) x20_1 = some r) ∧ Aside0 (kq ≤ k) ∧ Aside0 (Kd.R (Kd.int .i64) 3 w' w.heap.size (fun _ => True) v403 x5_1) ∧ Aside0 (w'.heap[g0]? = some (.cells #[.int .i64 a0_0, (.slice A0_1 l0_1.length c0_1)] 33 (0, 0))) ∧ Aside0 (Below w.heap.size w w'))
   case atStart => exact ⟨(y402), (0), wZ, H', ⟨Nat.le_refl _⟩, ⟨Rz HO404.out⟩, ⟨Kz BK0.out⟩, ⟨Bq⟩⟩
   case round =>
    clear H'
    try clear c1
    try clear p2
    try clear c3
    try clear c3b0
    try clear c3b1
    try clear c4
    try clear c4b0
    try clear c4b1
    obtain ⟨x5_1, x20_1, rfl, HA, HK1, HO_5, BK0, HB⟩ := hrel; cases gk with
    | zero => exact absurd HA.out (by simp [impl_Hyper_degrees.l0])
    | succ k1 =>
     have H := HA.out; clear HA
     simp only [impl_Hyper_degrees.l0] at H
     by_cases c9 : x20_1 < (l0_1.length : Int)
     ·rw [if_pos c9] at H
      have c9b0 : decide (x20_1 < (l0_1.length : Int)) = true := decide_eq_true c9; clear c9
      by_cases c10 : 0 ≤ x20_1
      ·rw [if_pos c10] at H
       have c10b0 : decide (0 ≤ x20_1) = true := decide_eq_true c10; clear c10
       by_cases c11 : x20_1 < (l0_1.length : Int)
       ·rw [if_pos c11] at H
        have c11b0 : decide (x20_1 < (l0_1.length : Int)) = true := decide_eq_true c11; clear c11
        by_cases c12 : x20_1 < (l1.length : Int)
        ·rw [if_pos c12] at H
         have c12b0 : decide (x20_1 < (l1.length : Int)) = true := decide_eq_true c12; clear c12; obtain ⟨bq13, hbq13⟩ : ∃ b_ : Bool, b_ = (rdOf false l1 x20_1) := ⟨_, rfl⟩
         replace H : (if bq13 = true then (impl_Hyper_degrees.l0 k1 l1 x5_1 l0_1 (l0_1.length : Int) (wrap64 (x20_1 + 1))) else (impl_Hyper_degrees.l1 k1 l1 x5_1 l0_1 (l0_1.length : Int) x20_1 (rd_L3 l0_1 x20_1) ((rd_L3 l0_1 x20_1).length : Int) 0)) = some r := by rw [← hbq13] at H; exact H
         have Nbq13 := am hbq13; clear hbq13
         by_cases c14 : bq13 = true
         ·subst c14
          rw [if_pos rfl] at H; have H' := am H; clear H; have p405 : 0 ≤ (x20_1 : Int) := dT; have q405 : x20_1 < (l0_1.length : Int) := dT; obtain ⟨ad405, A405_0, c405_0, e405, hx405_0, hl405_0, hi405_0⟩ := at_L3 HR0_1.out x20_1 p405 q405; cases e405; replace hx405_0 := (HB.out.cell (World.block_lt_of_cell? w _ hx405_0)).trans hx405_0; have HR405_0 := am hi405_0; have HC405_0 := am hl405_0; clear hi405_0 hl405_0; replace p405 := eq_true p405; replace q405 := eq_true q405; have p406 : 0 ≤ (x20_1 : Int) := dT; have q406 : x20_1 < (l1.length : Int) := dT; obtain ⟨ad406, e406, hx406_0⟩ := Kd.at_bool HR1.out x20_1 p406 q406
          (try rw [← Nbq13.out] at hx406_0)
          cases e406; replace hx406_0 := (HB.out.cell (World.block_lt_of_cell? w _ hx406_0)).trans hx406_0; replace p406 := eq_true p406; replace q406 := eq_true q406
          go_wp2
          go_roundg k1
          case measure => have := HK1.out; omega
          case rel => exact ⟨(x5_1), (wrap64 (x20_1 + 1)), wZ, H', ⟨by have := HK1.out; omega⟩, ⟨Rz HO_5.out⟩, ⟨Kz BK0.out⟩, ⟨Bq⟩⟩
         ·replace c14 := Bool.eq_false_iff.mpr c14
          subst c14
          rw [if_neg Bool.false_ne_true] at H; have H' := am H; clear H; have p405 : 0 ≤ (x20_1 : Int) := dT; have q405 : x20_1 < (l0_1.length : Int) := dT; obtain ⟨ad405, A405_0, c405_0, e405, hx405_0, hl405_0, hi405_0⟩ := at_L3 HR0_1.out x20_1 p405 q405; cases e405; replace hx405_0 := (HB.out.cell (World.block_lt_of_cell? w _ hx405_0)).trans hx405_0; have HR405_0 := am hi405_0; have HC405_0 := am hl405_0; clear hi405_0 hl405_0; replace p405 := eq_true p405; replace q405 := eq_true q405; have p406 : 0 ≤ (x20_1 : Int) := dT; have q406 : x20_1 < (l1.length : Int) := dT; obtain ⟨ad406, e406, hx406_0⟩ := Kd.at_bool HR1.out x20_1 p406 q406
          (try rw [← Nbq13.out] at hx406_0)
          cases e406; replace hx406_0 := (HB.out.cell (World.block_lt_of_cell? w _ hx406_0)).trans hx406_0; replace p406 := eq_true p406; replace q406 := eq_true q406
          go_wp2
          go_loopg [31] k1 (fun kq v31 w' => ∃ (x5_2 : List Int) (x31_2 : Int), v31 = .int .i64 x31_2 ∧ Aside0 (impl_Hyper_degrees.l1 kq l1 x5_2 l0_1 (l0_1.length : Int) x20_1 (rd_L3 l0_1 x20_1) ((rd_L3 l0_1 x20_1).length : Int) x31_2 = some r) ∧ Aside0 (kq ≤ k1) ∧ Aside0 (Kd.R (Kd.int .i64) 3 w' w.heap.size (fun _ => True) v403 x5_2) ∧ Aside0 (w'.heap[g0]? = some (.cells #[.int .i64 a0_0, (.slice (some ad405) l0_1.length c0_1)] 33 (0, 0))) ∧ Aside0 (Below w.heap.size w w'))
          case atStart => exact ⟨(x5_1), (0), wZ, H', ⟨Nat.le_refl _⟩, ⟨Rz HO_5.out⟩, ⟨Kz BK0.out⟩, ⟨Bq⟩⟩
          case round =>
           clear H'
           try clear c1
           try clear q1
           try clear p2
           try clear c3
           try clear c3b0
           try clear c3b1
           try clear c4
           try clear c4b0
           try clear c4b1
           try clear p4
           try clear q4
           try clear hx4
           try clear p6
           try clear c9
           try clear c9b0
           try clear c10
           try clear c10b0
           try clear c11
           try clear c11b0
           try clear c12
           try clear c12b0
           try clear q13
           try clear c14
           try clear hx405_0
           try clear hx406_0
           try clear p2
           try clear p405
           try clear p406
           try clear q405
           try clear q406
           obtain ⟨x5_2, x31_2, rfl, HA, HK2, HO_5, BK0, HB⟩ := hrel; cases gk with
           | zero => exact absurd HA.out (by simp [impl_Hyper_degrees.l1])
           | succ k2 =>
            have H := HA.out; clear HA
            simp only [impl_Hyper_degrees.l1] at H
            by_cases c15 : x31_2 < ((rd_L3 l0_1 x20_1).length : Int)
            ·rw [if_pos c15] at H
             have c15b0 : decide (x31_2 < ((rd_L3 l0_1 x20_1).length : Int)) = true := decide_eq_true c15; clear c15
             by_cases c16 : 0 ≤ x31_2
             ·rw [if_pos c16] at H
              have c16b0 : decide (0 ≤ x31_2) = true := decide_eq_true c16; clear c16
              by_cases c17 : x31_2 < ((rd_L3 l0_1 x20_1).length : Int)
              ·rw [if_pos c17] at H
               have c17b0 : decide (x31_2 < ((rd_L3 l0_1 x20_1).length : Int)) = true := decide_eq_true c17; clear c17
               by_cases c18 : 0 ≤ (rd (rd_L3 l0_1 x20_1) x31_2)
               ·rw [if_pos c18] at H
                have c18b0 : decide (0 ≤ (rd (rd_L3 l0_1 x20_1) x31_2)) = true := decide_eq_true c18; clear c18
                by_cases c19 : (rd (rd_L3 l0_1 x20_1) x31_2) < (x5_2.length : Int)
                ·rw [if_pos c19] at H
                 have c19b0 : decide ((rd (rd_L3 l0_1 x20_1) x31_2) < (x5_2.length : Int)) = true := decide_eq_true c19; clear c19; obtain ⟨y409, hy409⟩ : ∃ y_ : List Int, y_ = (x5_2.set ((rd (rd_L3 l0_1 x20_1) x31_2) : Int).toNat (wrap64 ((rd x5_2 (rd (rd_L3 l0_1 x20_1) x31_2)) + 1))) := ⟨_, rfl⟩
                 replace H : (impl_Hyper_degrees.l1 k2 l1 y409 l0_1 (l0_1.length : Int) x20_1 (rd_L3 l0_1 x20_1) ((rd_L3 l0_1 x20_1).length : Int) (wrap64 (x31_2 + 1))) = some r := by (try rw [hy409]); first | with_reducible exact H | exact (Option.bind_some _ _).symm.trans H | exact H
                 have Ny409 := am hy409; clear hy409; have H' := am H; clear H; have p407 : 0 ≤ (x31_2 : Int) := dT; have q407 : x31_2 < ((rd_L3 l0_1 x20_1).length : Int) := dT; obtain ⟨ad407, e407, hx407_0⟩ := Kd.at_int HR405_0.out x31_2 p407 q407; cases e407; replace hx407_0 := (HB.out.cell (World.block_lt_of_cell? w _ hx407_0)).trans hx407_0; replace p407 := eq_true p407; replace q407 := eq_true q407; obtain ⟨Ao21, co21, eo21⟩ := Kd.R_slice HO_5.out; subst eo21; obtain ⟨ad408, e408, hx408_0⟩ := Kd.at_int (Kd.R_reads' HO_5.out).2.2 (rd (rd_L3 l0_1 x20_1) x31_2) dT dT; cases e408; have p408 := eT (0 ≤ ((rd (rd_L3 l0_1 x20_1) x31_2) : Int)); have q408 := eT ((rd (rd_L3 l0_1 x20_1) x31_2) < (x5_2.length : Int)); have p20 : 0 ≤ ((rd (rd_L3 l0_1 x20_1) x31_2) : Int) := dT; have q20 : ((rd (rd_L3 l0_1 x20_1) x31_2) : Int) < ((x5_2.length : Int) : Int) := dT; obtain ⟨go20, co20, eo20, gb20, gl20, cl20, HG20⟩ := Kd.R_form HO_5.out (by omega)
                 (first | cases eo20 | (injection eo20 with ea_ en_ ec_; (first | subst ea_ | (injection ea_ with ea_; subst ea_)); subst ec_; clear en_))
                 have GB20 := am gb20; have GG20 := am HG20; clear gb20 gl20 HG20
                 (first | simp only [add_plain] at hx408_0 | skip)
                 obtain ⟨hx20_0, hf20_0⟩ := Kd.R_celln 0 HO_5.out ((rd (rd_L3 l0_1 x20_1) x31_2) : Int) p20 q20; replace p20 := eq_true p20; replace q20 := eq_true q20; have HP22 := Kd.R_putg HO_5.out ((rd (rd_L3 l0_1 x20_1) x31_2) : Int) (wrap64 ((rd x5_2 (rd (rd_L3 l0_1 x20_1) x31_2)) + 1))
                 go_wp2_with (first | ((with_reducible refine gate_store (t := 3) (p := 40) rfl ?_); refine store_event (t := 3) (p := 40) (v := ?vo_w23) (w1 := (wr.setCell ⟨go20, ((rd (rd_L3 l0_1 x20_1) x31_2) : Int).toNat, none⟩ (.int .i64 (wrap64 ((rd x5_2 (rd (rd_L3 l0_1 x20_1) x31_2)) + 1))))) ?hg ?ho ?hn ?hr ?_; (case ho => rfl); (case hg => rfl); (case hn => rfl); (case hr => first | (go_simp; done) | (go_simp; rfl)); intro w23 hw; have hg : wr.grownBy w23 (some go20) := (by rw [hw]; exact HP22.2); have hp_ : Kd.R (Kd.int .i64) 3 w23 w.heap.size (fun _ => True) (.slice (some ⟨go20, 0, none⟩) x5_2.length co21) y409 := (by rw [hw, Ny409.out]; exact HP22.1); clear HP22; have n0_ := am (hp_); have n1_ := am (blk_grown (g := g0) (o := .cells #[.int .i64 a0_0, .slice (some ad405) l0_1.length c0_1] 33 (0, 0)) (Kz BK0.out) hg (Kd.R_ne HO_5.out BK0.out (by decide))); have n2_ := am ((by rw [hw]; exact below_set (HB.out) GB20.out : Below w.heap.size w w23)); clear HO_5 BK0 HB; revert n0_ n1_ n2_; intro HO_5 BK0 HB; clear hg hw hp_))
                 go_roundg k2
                 case measure => have := HK1.out; have := HK2.out; omega
                 case rel => exact ⟨(y409), (wrap64 (x31_2 + 1)), wZ, H', ⟨by have := HK1.out; have := HK2.out; omega⟩, ⟨Rz HO_5.out⟩, ⟨Kz BK0.out⟩, ⟨Bq⟩⟩
                ·rw [if_neg c19] at H
                 exact absurd H (by simp)
               ·rw [if_neg c18] at H
                exact absurd H (by simp)
              ·rw [if_neg c17] at H
               exact absurd H (by simp)
             ·rw [if_neg c16] at H
              exact absurd H (by simp)
            ·rw [if_neg c15] at H
             have c15b0 : decide (x31_2 < ((rd_L3 l0_1 x20_1).length : Int)) = false := decide_eq_false c15; clear c15; have H' := am H; clear H
             go_wp2
             go_roundg k2
             case measure => have := HK1.out; have := HK2.out; omega
             case rel => exact ⟨(x5_2), (wrap64 (x20_1 + 1)), wZ, H', ⟨by have := HK1.out; have := HK2.out; omega⟩, ⟨Rz HO_5.out⟩, ⟨Kz BK0.out⟩, ⟨Bq⟩⟩
        ·rw [if_neg c12] at H
         exact absurd H (by simp)
       ·rw [if_neg c11] at H
        exact absurd H (by simp)
      ·rw [if_neg c10] at H
       exact absurd H (by simp)
     ·rw [if_neg c9] at H
      have c9b0 : decide (x20_1 < (l0_1.length : Int)) = false := decide_eq_false c9; clear c9; obtain rfl := Option.some.inj H
      go_wp2
      go_ret
      exact ⟨_, eZ, Rz HO_5.out, Bq⟩
  ·rw [if_neg c4] at H
   exact absurd H (by simp)
 ·rw [if_neg c3] at H
  exact absurd H (by simp)

def impl_Hyper_singles.l0 : Nat → List Int → List Int → Int → Int → Option (List Int)
 | 0, _, _, _, _ => none
 | k + 1, x5, x11, x12, x13 => if x13 < x12 then (if 0 ≤ x13 then (if x13 < (x11.length : Int) then (if (rd x11 x13) = 1 then (if x5.length < 17592186044416 then (impl_Hyper_singles.l0 k (x5 ++ [x13]) x11 x12 (wrap64 (x13 + 1))) else (none)) else (impl_Hyper_singles.l0 k x5 x11 x12 (wrap64 (x13 + 1)))) else (none)) else (none)) else (some x5)
def impl_Hyper_singles.f (k : Nat) (a0_0 : Int) (l0_1 : List (List Int)) (l1 : List Bool) : Option (List Int) := (impl_Hyper_degrees.f k a0_0 l0_1 l1).bind fun t413 => (impl_Hyper_singles.l0 k (([] : List Int)) t413 (t413.length : Int) 0)
theorem impl_Hyper_singles.calls (k : Nat) (g0 : Nat) (a0_0 : Int) (A0_1 : Option Addr) (c0_1 : Nat) (l0_1 : List (List Int)) (A1 : Option Addr) (c1 : Nat) (l1 : List Bool) (r : List Int) (w : World) (hb0 : w.heap[g0]? = some (.cells #[.int .i64 a0_0, .slice A0_1 l0_1.length c0_1] 33 (0, 0))) (hr0_1 : Kd.C (Kd.slice 3 (Kd.int .i64)) w A0_1 l0_1.length l0_1) (hc0_1 : l0_1.length ≤ c0_1) (hr1 : Kd.C Kd.bool w A1 l1.length l1) (hc1 : l1.length ≤ c1) (h : impl_Hyper_singles.f k a0_0 l0_1 l1 = some r) :
  Calls Try.prog 179 #[.pointer (some ⟨g0, 0, none⟩), .slice A1 l1.length c1] w fun e w' => ∃ v0_ : Value, e = .returned (v0_) ∧ Kd.R (Kd.int .i64) 3 w' w.heap.size (fun _ => True) v0_ r ∧ Below w.heap.size w w' := by
 have HR0_1 := am hr0_1; have HC0_1 := am hc0_1; clear hr0_1 hc0_1; have HR1 := am hr1; have HC1 := am hc1; clear hr1 hc1; have BK0 := am hb0; clear hb0; have HB := am (Below.refl w.heap.size w); have H : ((impl_Hyper_degrees.f k a0_0 l0_1 l1).bind fun t413 => (impl_Hyper_singles.l0 k (([] : List Int)) t413 (t413.length : Int) 0)) = some r := h; clear h; obtain ⟨y410, hy410⟩ : ∃ y_ : List Int, y_ = (([] : List Int)) := ⟨_, rfl⟩
 replace H : ((impl_Hyper_degrees.f k a0_0 l0_1 l1).bind fun t413 => (impl_Hyper_singles.l0 k y410 t413 (t413.length : Int) 0)) = some r := by (try rw [hy410]); first | with_reducible exact H | exact (Option.bind_some _ _).symm.trans H | exact H
 have Ny410 := am hy410; clear hy410; obtain ⟨t413, A3, H⟩ := ob H; (try dsimp -simprocs only at H); have H' := am H; clear H
 go_enter Try.func179, Try.ntmps179
 go_wp2_with (first | ((with_reducible refine gate_dst (N := 8) rfl ?_); refine Kd.R_lit (Kd.int .i64) _ 3 ?hg (N := 8) ?hd (xs := ([] : List Int)) (inner := []) (ok := fun _ => True) (okp := fun _ => True) ?hr ?hp (fun _ hk => hk) trivial (Below.refl _ _) (Nat.le_refl _) (by simp) ?_; (case hd => rfl); (case hg => rfl); (case hr => first | (go_simp; done) | (go_simp; rfl)); (case hp => exact (Reps.none _ _)); intro v411 w4 ho5 hb hg_ hnew_; clear hg_ hnew_; (first | rw [← Ny410.out] at ho5 | (simp only [Int.reduceToNat] at ho5; rw [← Ny410.out] at ho5)); have n0_ := Rm ho5 HB; have n1_ := Kb BK0 hb; have n2_ := Bc HB hb; clear BK0 HB; revert n0_ n1_ n2_; intro HO412 BK0 HB; clear hb ho5) | ((with_reducible refine gate_callee (f := 195) rfl ?_); refine gL (some 11) Try.func195 #[.pointer (some ⟨g0, 0, none⟩), .slice A1 l1.length c1] ?_; (with_reducible refine (impl_Hyper_degrees.calls k g0 a0_0 A0_1 c0_1 l0_1 _ _ l1 t413 _ ?side1 ?side2 ?side3 ?side4 ?side5 A3.out).mono ?_); (case side1 => exact Kz BK0.out); (case side2 => exact Cz (Kd.C_below HR0_1.out HB.out)); (case side3 => exact HC0_1.out); (case side4 => exact Cz (Kd.C_below HR1.out HB.out)); (case side5 => exact HC1.out); rintro e w6 ⟨v414, rfl, ho0, hb⟩; refine ⟨_, rfl, ?_⟩; have n0_ := Re HO412 (Kd.R_base ho0) hb; have n1_ := Rm (Kd.R_new' ho0 (Kd.R_lt (Rz HO412.out))) HB; have n2_ := Kb BK0 hb; have n3_ := Bc HB hb; clear HO412 BK0 HB; revert n0_ n1_ n2_ n3_; intro HO412 HO415 BK0 HB; (try clear hb); (try clear hb2); (try clear hk); (try clear hi); (try clear ho0); obtain ⟨Ao7, co7, eo7⟩ := Kd.R_slice HO415.out; subst eo7))
 (try simp only [aP])
 go_loopg [5, 13] k (fun kq v5 v13 w' => ∃ (x5_1 : List Int) (x13_1 : Int), v13 = .int .i64 x13_1 ∧ Aside0 (impl_Hyper_singles.l0 kq x5_1 t413 (t413.length : Int) x13_1 = some r) ∧ Aside0 (kq ≤ k) ∧ Aside0 (Kd.R (Kd.int .i64) 3 w' w.heap.size (fun k_ => some k_ ≠ ((.slice Ao7 t413.length co7) : Value).ownBlock) v5 x5_1) ∧ Aside0 (Kd.R (Kd.int .i64) 3 w' w.heap.size (fun k_ => some k_ ≠ (v5 : Value).ownBlock) (.slice Ao7 t413.length co7) t413) ∧ Aside0 (w'.heap[g0]? = some (.cells #[.int .i64 a0_0, (.slice A0_1 l0_1.length c0_1)] 33 (0, 0))) ∧ Aside0 (Below w.heap.size w w'))
 case atStart => exact ⟨(y410), (0), wZ, H', ⟨Nat.le_refl _⟩, ⟨Rz (Kd.R_mono HO412.out (fun _ hk => hk.2))⟩, ⟨Rz (Kd.R_mono HO415.out (fun _ hk => hk.2))⟩, ⟨Kz BK0.out⟩, ⟨Bq⟩⟩
 case round =>
  clear H'
  try clear c1
  try clear p2
  obtain ⟨x5_1, x13_1, rfl, HA, HK1, HO_5, HO_11, BK0, HB⟩ := hrel; cases gk with
  | zero => exact absurd HA.out (by simp [impl_Hyper_singles.l0])
  | succ k1 =>
   have H := HA.out; clear HA
   simp only [impl_Hyper_singles.l0] at H
   by_cases c8 : x13_1 < (t413.length : Int)
   ·rw [if_pos c8] at H
    have c8b0 : decide (x13_1 < (t413.length : Int)) = true := decide_eq_true c8; clear c8
    by_cases c9 : 0 ≤ x13_1
    ·rw [if_pos c9] at H
     have c9b0 : decide (0 ≤ x13_1) = true := decide_eq_true c9; clear c9
     by_cases c10 : x13_1 < (t413.length : Int)
     ·rw [if_pos c10] at H
      have c10b0 : decide (x13_1 < (t413.length : Int)) = true := decide_eq_true c10; clear c10
      by_cases c11 : (rd t413 x13_1) = 1
      ·rw [if_pos c11] at H
       have c11b0 : ((rd t413 x13_1) == 1) = true := beq_iff_eq.mpr c11; have c11b1 : ((rd t413 x13_1) != 1) = false := bne_eq_false_iff_eq.mpr c11; clear c11
       by_cases c12 : x5_1.length < 17592186044416
       ·rw [if_pos c12] at H
        have LMc12 := am c12; clear c12; obtain ⟨y417, hy417⟩ : ∃ y_ : List Int, y_ = (x5_1 ++ [x13_1]) := ⟨_, rfl⟩
        replace H : (impl_Hyper_singles.l0 k1 y417 t413 (t413.length : Int) (wrap64 (x13_1 + 1))) = some r := by (try rw [hy417]); first | with_reducible exact H | exact (Option.bind_some _ _).symm.trans H | exact H
        have Ny417 := am hy417; clear hy417; have H' := am H; clear H; obtain ⟨ad416, e416, hx416_0⟩ := Kd.at_int (Kd.R_reads' HO_11.out).2.2 x13_1 dT dT; cases e416; have p416 := eT (0 ≤ (x13_1 : Int)); have q416 := eT (x13_1 < (t413.length : Int))
        go_wp2_with (first | ((with_reducible refine gate_builtin (b := .append) (xs := #[.tmp 20, .tmp 22]) rfl ?_); at_builtin; refine Kd.R_append (Kd.int .i64) (w0 := w) w.heap.size rfl (.tmp 20) (.tmp 22) 24 3 (.int .i64 0) 8 rfl Try.underlying24 info3 rfl (by decide) (by omega) u5 x5_1 x13_1 [.int .i64 x13_1] (fun k_ => some k_ ≠ (.slice (some ad416) t413.length co7 : Value).ownBlock) (fun _ => False) rfl rfl ?aP (fun _ hk => hk.elim) ?aF ?aO ?aB ?aS ?aL ?_; (case aP => exact rfl); (case aB => exact (Bq)); (case aF => exact (fun k_ hk => Kd.fresh' (Kd.R_lt (Rz HO_11.out)) k_ hk)); (case aO => exact (Rz HO_5.out)); (case aS => exact (below_size (w := w) (Bq))); (case aL => have := LMc12.out; omega); intro v418 w13 ho hb hg hat; rw [← Ny417.out] at ho; have n0_ := am (Kd.R_after (ok := (fun _ => True)) (Rz (Kd.R_mono HO_11.out (fun _ hk => ⟨trivial, hk⟩))) hg hat); have n1_ := am (blk_grown (g := g0) (o := .cells #[.int .i64 a0_0, .slice A0_1 l0_1.length c0_1] 33 (0, 0)) (Kz BK0.out) hg (Kd.R_ne HO_5.out BK0.out (by decide))); have n2_ := am (hb); have n3_ := am (ho); clear HO_11 BK0 HB HO_5; revert n0_ n1_ n2_ n3_; intro HO_11 BK0 HB HO419; clear ho hb hg hat))
        go_roundg k1
        case measure => have := HK1.out; omega
        case rel => exact ⟨(y417), (wrap64 (x13_1 + 1)), wZ, H', ⟨by have := HK1.out; omega⟩, ⟨Rz HO419.out⟩, ⟨Rz (Kd.R_mono HO_11.out (fun _ hk => hk.2))⟩, ⟨Kz BK0.out⟩, ⟨Bq⟩⟩
       ·rw [if_neg c12] at H
        exact absurd H (by simp)
      ·rw [if_neg c11] at H
       have c11b0 : ((rd t413 x13_1) == 1) = false := beq_eq_false_iff_ne.mpr c11; have c11b1 : ((rd t413 x13_1) != 1) = true := bne_iff_ne.mpr c11; have H' := am H; clear H; obtain ⟨ad416, e416, hx416_0⟩ := Kd.at_int (Kd.R_reads' HO_11.out).2.2 x13_1 dT dT; cases e416; have p416 := eT (0 ≤ (x13_1 : Int)); have q416 := eT (x13_1 < (t413.length : Int))
       go_wp2
       go_roundg k1
       case measure => have := HK1.out; omega
       case rel => exact ⟨(x5_1), (wrap64 (x13_1 + 1)), wZ, H', ⟨by have := HK1.out; omega⟩, ⟨Rz HO_5.out⟩, ⟨Rz HO_11.out⟩, ⟨Kz BK0.out⟩, ⟨Bq⟩⟩
     ·rw [if_neg c10] at H
      exact absurd H (by simp)
    ·rw [if_neg c9] at H
     exact absurd H (by simp)
   ·rw [if_neg c8] at H
    have c8b0 : decide (x13_1 < (t413.length : Int)) = false := decide_eq_false c8; clear c8; obtain rfl := Option.some.inj H
    go_wp2
    go_ret
    exact ⟨_, eZ, Rz (Kd.R_mono HO_5.out (fun _ hk => trivial)), Bq⟩

def impl_left.l0 : Nat → List Int → List Bool → Int → Int → Option (List Int)
 | 0, _, _, _, _ => none
 | k + 1, x3, x7, x8, x9 => if x9 < x8 then (if 0 ≤ x9 then (if x9 < (x7.length : Int) then (if rdOf false x7 x9 = true then (impl_left.l0 k x3 x7 x8 (wrap64 (x9 + 1))) else (if x3.length < 17592186044416 then (impl_left.l0 k (x3 ++ [x9]) x7 x8 (wrap64 (x9 + 1))) else (none))) else (none)) else (none)) else (some x3)
def impl_left.f (k : Nat) (l0 : List Bool) : Option (List Int) := impl_left.l0 k (([] : List Int)) l0 (l0.length : Int) 0
theorem impl_left.calls (k : Nat) (A0 : Option Addr) (c0 : Nat) (l0 : List Bool) (r : List Int) (w : World) (hr0 : Kd.C Kd.bool w A0 l0.length l0) (hc0 : l0.length ≤ c0) (h : impl_left.f k l0 = some r) :
  Calls Try.prog 180 #[.slice A0 l0.length c0] w fun e w' => ∃ v0_ : Value, e = .returned (v0_) ∧ Kd.R (Kd.int .i64) 3 w' w.heap.size (fun _ => True) v0_ r ∧ Below w.heap.size w w' := by
 have HR0 := am hr0; have HC0 := am hc0; clear hr0 hc0; have HB := am (Below.refl w.heap.size w); have H : (impl_left.l0 k (([] : List Int)) l0 (l0.length : Int) 0) = some r := h; clear h; obtain ⟨y420, hy420⟩ : ∃ y_ : List Int, y_ = (([] : List Int)) := ⟨_, rfl⟩
 replace H : (impl_left.l0 k y420 l0 (l0.length : Int) 0) = some r := by (try rw [hy420]); first | with_reducible exact H | exact (Option.bind_some _ _).symm.trans H | exact H
 have Ny420 := am hy420; clear hy420; have H' := am H; clear H
 go_enter Try.func180, Try.ntmps180
 go_wp2_with (first | ((with_reducible refine gate_dst (N := 6) rfl ?_); refine Kd.R_lit (Kd.int .i64) _ 3 ?hg (N := 6) ?hd (xs := ([] : List Int)) (inner := []) (ok := fun _ => True) (okp := fun _ => True) ?hr ?hp (fun _ hk => hk) trivial (Below.refl _ _) (Nat.le_refl _) (by simp) ?_; (case hd => rfl); (case hg => rfl); (case hr => first | (go_simp; done) | (go_simp; rfl)); (case hp => exact (Reps.none _ _)); intro v421 w2 ho3 hb hg_ hnew_; clear hg_ hnew_; (first | rw [← Ny420.out] at ho3 | (simp only [Int.reduceToNat] at ho3; rw [← Ny420.out] at ho3)); have n0_ := Rl ho3 HB; have n1_ := Bb HB hb; clear HB; revert n0_ n1_; intro HO422 HB; clear hb ho3))
 (try simp only [aP])
 go_loopg [3, 9] k (fun kq v3 v9 w' => ∃ (x3_1 : List Int) (x9_1 : Int), v9 = .int .i64 x9_1 ∧ Aside0 (impl_left.l0 kq x3_1 l0 (l0.length : Int) x9_1 = some r) ∧ Aside0 (kq ≤ k) ∧ Aside0 (Kd.R (Kd.int .i64) 3 w' w.heap.size (fun _ => True) v3 x3_1) ∧ Aside0 (Below w.heap.size w w'))
 case atStart => exact ⟨(y420), (0), wZ, H', ⟨Nat.le_refl _⟩, ⟨Rz HO422.out⟩, ⟨Bz HB.out⟩⟩
 case round =>
  clear H'
  try clear c1
  try clear p2
  obtain ⟨x3_1, x9_1, rfl, HA, HK1, HO_3, HB⟩ := hrel; cases gk with
  | zero => exact absurd HA.out (by simp [impl_left.l0])
  | succ k1 =>
   have H := HA.out; clear HA
   simp only [impl_left.l0] at H
   by_cases c4 : x9_1 < (l0.length : Int)
   ·rw [if_pos c4] at H
    have c4b0 : decide (x9_1 < (l0.length : Int)) = true := decide_eq_true c4; clear c4
    by_cases c5 : 0 ≤ x9_1
    ·rw [if_pos c5] at H
     have c5b0 : decide (0 ≤ x9_1) = true := decide_eq_true c5; clear c5
     by_cases c6 : x9_1 < (l0.length : Int)
     ·rw [if_pos c6] at H
      have c6b0 : decide (x9_1 < (l0.length : Int)) = true := decide_eq_true c6; clear c6; obtain ⟨bq7, hbq7⟩ : ∃ b_ : Bool, b_ = (rdOf false l0 x9_1) := ⟨_, rfl⟩
      replace H : (if bq7 = true then (impl_left.l0 k1 x3_1 l0 (l0.length : Int) (wrap64 (x9_1 + 1))) else (if x3_1.length < 17592186044416 then (impl_left.l0 k1 (x3_1 ++ [x9_1]) l0 (l0.length : Int) (wrap64 (x9_1 + 1))) else (none))) = some r := by rw [← hbq7] at H; exact H
      have Nbq7 := am hbq7; clear hbq7
      by_cases c8 : bq7 = true
      ·subst c8
       rw [if_pos rfl] at H; have H' := am H; clear H; have p423 : 0 ≤ (x9_1 : Int) := dT; have q423 : x9_1 < (l0.length : Int) := dT; obtain ⟨ad423, e423, hx423_0⟩ := Kd.at_bool HR0.out x9_1 p423 q423
       (try rw [← Nbq7.out] at hx423_0)
       cases e423; replace hx423_0 := (HB.out.cell (World.block_lt_of_cell? w _ hx423_0)).trans hx423_0; replace p423 := eq_true p423; replace q423 := eq_true q423
       go_wp2
       go_roundg k1
       case measure => have := HK1.out; omega
       case rel => exact ⟨(x3_1), (wrap64 (x9_1 + 1)), wZ, H', ⟨by have := HK1.out; omega⟩, ⟨Rz HO_3.out⟩, ⟨Bz HB.out⟩⟩
      ·replace c8 := Bool.eq_false_iff.mpr c8
       subst c8
       rw [if_neg Bool.false_ne_true] at H
       by_cases c9 : x3_1.length < 17592186044416
       ·rw [if_pos c9] at H
        have LMc9 := am c9; clear c9; obtain ⟨y424, hy424⟩ : ∃ y_ : List Int, y_ = (x3_1 ++ [x9_1]) := ⟨_, rfl⟩
        replace H : (impl_left.l0 k1 y424 l0 (l0.length : Int) (wrap64 (x9_1 + 1))) = some r := by (try rw [hy424]); first | with_reducible exact H | exact (Option.bind_some _ _).symm.trans H | exact H
        have Ny424 := am hy424; clear hy424; have H' := am H; clear H; have p423 : 0 ≤ (x9_1 : Int) := dT; have q423 : x9_1 < (l0.length : Int) := dT; obtain ⟨ad423, e423, hx423_0⟩ := Kd.at_bool HR0.out x9_1 p423 q423
        (try rw [← Nbq7.out] at hx423_0)
        cases e423; replace hx423_0 := (HB.out.cell (World.block_lt_of_cell? w _ hx423_0)).trans hx423_0; replace p423 := eq_true p423; replace q423 := eq_true q423
        go_wp2_with (first | ((with_reducible refine gate_builtin (b := .append) (xs := #[.tmp 16, .tmp 18]) rfl ?_); at_builtin; refine Kd.R_append (Kd.int .i64) (w0 := w) w.heap.size rfl (.tmp 16) (.tmp 18) 24 3 (.int .i64 0) 8 rfl Try.underlying24 info3 rfl (by decide) (by omega) u3 x3_1 x9_1 [.int .i64 x9_1] (fun _ => True) (fun _ => False) rfl rfl ?aP (fun _ hk => hk.elim) ?aF ?aO ?aB ?aS ?aL ?_; (case aP => exact rfl); (case aB => exact (Bz HB.out)); (case aF => exact (fun _ _ => trivial)); (case aO => exact (Rz HO_3.out)); (case aS => exact (below_size (Bz HB.out))); (case aL => have := LMc9.out; omega); intro v425 w10 ho hb hg hat; rw [← Ny424.out] at ho; have n0_ := am (hb); have n1_ := am (ho); clear HB HO_3; revert n0_ n1_; intro HB HO426; clear ho hb hg hat))
        go_roundg k1
        case measure => have := HK1.out; omega
        case rel => exact ⟨(y424), (wrap64 (x9_1 + 1)), wZ, H', ⟨by have := HK1.out; omega⟩, ⟨Rz HO426.out⟩, ⟨Bz HB.out⟩⟩
       ·rw [if_neg c9] at H
        exact absurd H (by simp)
     ·rw [if_neg c6] at H
      exact absurd H (by simp)
    ·rw [if_neg c5] at H
     exact absurd H (by simp)
   ·rw [if_neg c4] at H
    have c4b0 : decide (x9_1 < (l0.length : Int)) = false := decide_eq_false c4; clear c4; obtain rfl := Option.some.inj H
    go_wp2
    go_ret
    exact ⟨_, eZ, Rz HO_3.out, Bz HB.out⟩

def slices_Index_int_int.l0 : Nat → List Int → Int → Int → Int → Option (Int)
 | 0, _, _, _, _ => none
 | k + 1, x0, x1, x7, x8 => if x8 < x7 then (if 0 ≤ x8 then (if x8 < (x0.length : Int) then (if x1 = (rd x0 x8) then (some x8) else (slices_Index_int_int.l0 k x0 x1 x7 (wrap64 (x8 + 1)))) else (none)) else (none)) else (some (-1))
def slices_Index_int_int.f (k : Nat) (l0 : List Int) (a1 : Int) : Option (Int) := slices_Index_int_int.l0 k l0 a1 (l0.length : Int) 0
theorem slices_Index_int_int.calls (k : Nat) (A0 : Option Addr) (c0 : Nat) (l0 : List Int) (a1 : Int) (r : Int) (w : World) (hr0 : Kd.C (Kd.int .i64) w A0 l0.length l0) (hc0 : l0.length ≤ c0) (h : slices_Index_int_int.f k l0 a1 = some r) :
  Calls Try.prog 85 #[.slice A0 l0.length c0, .int .i64 a1] w fun e w' => e = .returned (.int .i64 r) ∧ Drawn0 w w' := by
 have HR0 := am hr0; have HC0 := am hc0; clear hr0 hc0; have H : (slices_Index_int_int.l0 k l0 a1 (l0.length : Int) 0) = some r := h; clear h; have H' := am H; clear H
 go_enter Try.func85, Try.ntmps85
 go_wp2
 go_loopg [8] k (fun kq v8 w' => ∃ (x8_1 : Int), v8 = .int .i64 x8_1 ∧ Aside0 (slices_Index_int_int.l0 kq l0 a1 (l0.length : Int) x8_1 = some r) ∧ Aside0 (kq ≤ k) ∧ Drawn0 w w')
 case atStart => exact ⟨(0), wZ, H', ⟨Nat.le_refl _⟩, by repeat (first | exact Drawn0.refl _ | apply Drawn0.step)⟩
 case round =>
  clear H'
  try clear p2
  obtain ⟨x8_1, rfl, HA, HK1, ⟨m1, rfl⟩⟩ := hrel; cases gk with
  | zero => exact absurd HA.out (by simp [slices_Index_int_int.l0])
  | succ k1 =>
   have H := HA.out; clear HA
   simp only [slices_Index_int_int.l0] at H
   by_cases c3 : x8_1 < (l0.length : Int)
   ·rw [if_pos c3] at H
    have c3b0 : decide (x8_1 < (l0.length : Int)) = true := decide_eq_true c3; clear c3
    by_cases c4 : 0 ≤ x8_1
    ·rw [if_pos c4] at H
     have c4b0 : decide (0 ≤ x8_1) = true := decide_eq_true c4; clear c4
     by_cases c5 : x8_1 < (l0.length : Int)
     ·rw [if_pos c5] at H
      have c5b0 : decide (x8_1 < (l0.length : Int)) = true := decide_eq_true c5; clear c5
      by_cases c6 : a1 = (rd l0 x8_1)
      ·rw [if_pos c6] at H
       have c6b0 : (a1 == (rd l0 x8_1)) = true := beq_iff_eq.mpr c6; have c6b1 : (a1 != (rd l0 x8_1)) = false := bne_eq_false_iff_eq.mpr c6; clear c6; obtain rfl := Option.some.inj H; obtain ⟨ad427, e427, hx427_0⟩ := Kd.at_int HR0.out x8_1 dT dT; cases e427; have p427 := eT (0 ≤ (x8_1 : Int)); have q427 := eT (x8_1 < (l0.length : Int))
       go_wp2
       go_ret
       exact ⟨by first | rfl | (simp; done) | (simp [*]; done), by repeat (first | exact Drawn0.refl _ | apply Drawn0.step)⟩
      ·rw [if_neg c6] at H
       have c6b0 : (a1 == (rd l0 x8_1)) = false := beq_eq_false_iff_ne.mpr c6; have c6b1 : (a1 != (rd l0 x8_1)) = true := bne_iff_ne.mpr c6; have H' := am H; clear H; obtain ⟨ad427, e427, hx427_0⟩ := Kd.at_int HR0.out x8_1 dT dT; cases e427; have p427 := eT (0 ≤ (x8_1 : Int)); have q427 := eT (x8_1 < (l0.length : Int))
       go_wp2
       go_roundg k1
       case measure => have := HK1.out; omega
       case rel => exact ⟨(wrap64 (x8_1 + 1)), wZ, H', ⟨by have := HK1.out; omega⟩, by repeat (first | exact Drawn0.refl _ | apply Drawn0.step)⟩
     ·rw [if_neg c5] at H
      exact absurd H (by simp)
    ·rw [if_neg c4] at H
     exact absurd H (by simp)
   ·rw [if_neg c3] at H
    have c3b0 : decide (x8_1 < (l0.length : Int)) = false := decide_eq_false c3; clear c3; obtain rfl := Option.some.inj H
    go_wp2
    go_ret
    exact ⟨by first | rfl | (simp; done) | (simp [*]; done), by repeat (first | exact Drawn0.refl _ | apply Drawn0.step)⟩

def slices_Contains_int_int.f (k : Nat) (l0 : List Int) (a1 : Int) : Option (Bool) := (slices_Index_int_int.f k l0 a1).bind fun t428 => (some (decide (t428 ≥ 0)))
theorem slices_Contains_int_int.calls (k : Nat) (A0 : Option Addr) (c0 : Nat) (l0 : List Int) (a1 : Int) (r : Bool) (w : World) (hr0 : Kd.C (Kd.int .i64) w A0 l0.length l0) (hc0 : l0.length ≤ c0) (h : slices_Contains_int_int.f k l0 a1 = some r) :
  Calls Try.prog 103 #[.slice A0 l0.length c0, .int .i64 a1] w fun e w' => e = .returned (.bool r) ∧ Drawn0 w w' := by
 have HR0 := am hr0; have HC0 := am hc0; clear hr0 hc0; have H : ((slices_Index_int_int.f k l0 a1).bind fun t428 => (some (decide (t428 ≥ 0)))) = some r := h; clear h; obtain ⟨t428, A3, H⟩ := ob H; (try dsimp -simprocs only at H); obtain rfl := Option.some.inj H
 go_enter Try.func103, Try.ntmps103
 go_wp2_with (first | ((with_reducible refine gate_callee (f := 85) rfl ?_); refine gL (some 7) Try.func85 #[.slice A0 l0.length c0, .int .i64 a1] ?_; (with_reducible refine (slices_Index_int_int.calls k _ _ l0 a1 t428 _ ?side1 ?side2 A3.out).mono ?_); (case side1 => exact Cz HR0.out); (case side2 => exact HC0.out); rintro e w' ⟨rfl, ⟨nd, rfl⟩⟩; refine ⟨_, rfl, ?_⟩))
 go_ret
 exact ⟨by first | rfl | (simp; done) | (simp [*]; done), by repeat (first | exact Drawn0.refl _ | apply Drawn0.step)⟩

end Go.Proofs.Ytmehagedoaopeaa.PR
