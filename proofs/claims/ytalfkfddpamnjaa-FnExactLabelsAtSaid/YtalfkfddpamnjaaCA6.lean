import Derived.Test.YtalfkfddpamnjaaCA2
import Derived.Test.YtalfkfddpamnjaaCA4
import Derived.Test.YtalfkfddpamnjaaCA3
import Derived.Test.YtalfkfddpamnjaaCA5
-- printed by a program of this session (wip/gp) out of the translation; Lean checks it
namespace Go.Proofs.Ytalfkfddpamnjaa.PA
open Go.RowKit Go.Proofs.YtalfkfddpamnjaaW.PrintWords Go.Proofs.YtalfkfddpamnjaaW.PrintLast Go.Proofs.YtalfkfddpamnjaaW.PrintMore Go.Proofs.YtalfkfddpamnjaaSq
attribute [local go_sem] max2_int min2_int max_two min_two max_three min_three max_four min_four   -- for this text's walks alone
attribute [local go_sem] Go.Proofs.YtalfkfddpamnjaaGp.str_geq Go.Proofs.YtalfkfddpamnjaaGp.str_gtr Go.Proofs.YtalfkfddpamnjaaGp.str_leq
set_option linter.unusedVariables false
set_option linter.unusedSimpArgs false

set_option maxHeartbeats 8000000
set_option maxRecDepth 100000
mutual
def spec_trKeys.j0 : Nat → Bool → Int → List Int → Int → List Int → ByteArray → Option (List ByteArray × Bool)
 | 0, _, _, _, _, _, _ => none
 | k + 1, x19, x231000, x231001, x231002, x231003, x231004 => if x19 = true then (some (([] : List ByteArray), false)) else ((spec_trPaths.f k x231000 x231001 x231002 x231003 x231004).bind fun bt233 => (if bt233.2 = true then (spec_trKeys.l0 k ([] : List ByteArray) bt233.1 (bt233.1.length : Int) 0 x231000 x231001 x231002 x231003 x231004) else (some (([] : List ByteArray), false))))
def spec_trKeys.l0 : Nat → List ByteArray → List ByteArray → Int → Int → Int → List Int → Int → List Int → ByteArray → Option (List ByteArray × Bool)
 | 0, _, _, _, _, _, _, _, _, _ => none
 | k + 1, x6, x27, x28, x29, x231000, x231001, x231002, x231003, x231004 => if x29 < x28 then (if 0 ≤ x29 then (if x29 < (x27.length : Int) then ((spec_biAt.f x231002 x231003 x29).bind fun t238 => (if t238 = true then ((spec_l1PutS.f k x6 (rdOf ByteArray.empty x27 x29)).bind fun t239 => (spec_trKeys.l0 k t239 x27 x28 (wrap64 (x29 + 1)) x231000 x231001 x231002 x231003 x231004)) else (spec_trKeys.l0 k x6 x27 x28 (wrap64 (x29 + 1)) x231000 x231001 x231002 x231003 x231004))) else (none)) else (none)) else ((spec_biKeys.f k x6).bind fun t242 => (if t242 = true then ((spec_trOf.f k x6).bind fun bt243 => ((spec_biSame.f k x231000 x231001 bt243.1 bt243.2.1).bind fun t253 => (if t253 = true then ((spec_biSame.f k x231002 x231003 bt243.2.2.1 bt243.2.2.2.1).bind fun t254 => (if t254 = true then (some (x6, (x231004.toList == bt243.2.2.2.2.toList))) else (some (x6, false)))) else (some (x6, false))))) else (some (([] : List ByteArray), false))))
end
def spec_trKeys.f (k : Nat) (a0_0 : Int) (l0_1 : List Int) (a0_2 : Int) (l0_3 : List Int) (a0_4 : ByteArray) : Option (List ByteArray × Bool) := (spec_biGood.f k a0_0 l0_1).bind fun t231 => (if t231 = true then ((spec_biGood.f k a0_2 l0_3).bind fun t232 => (spec_trKeys.j0 k (!t232) a0_0 l0_1 a0_2 l0_3 a0_4)) else (spec_trKeys.j0 k true a0_0 l0_1 a0_2 l0_3 a0_4))
theorem spec_trKeys.mono_l : ∀ k, (∀ y0 y1 y2 y3 y4 y5, LeO (spec_trKeys.j0 k y0 y1 y2 y3 y4 y5) (spec_trKeys.j0 (k + 1) y0 y1 y2 y3 y4 y5)) ∧ (∀ y0 y1 y2 y3 y4 y5 y6 y7 y8, LeO (spec_trKeys.l0 k y0 y1 y2 y3 y4 y5 y6 y7 y8) (spec_trKeys.l0 (k + 1) y0 y1 y2 y3 y4 y5 y6 y7 y8))
 | 0 => ⟨fun _ _ _ _ _ _ r h => by simp [spec_trKeys.j0] at h, fun _ _ _ _ _ _ _ _ _ r h => by simp [spec_trKeys.l0] at h⟩
 | k + 1 => by
  obtain ⟨ih0, ih1⟩ := spec_trKeys.mono_l k; refine ⟨?_, ?_⟩
  ·intro y0 y1 y2 y3 y4 y5
   unfold spec_trKeys.j0
   repeat' first | (with_reducible first | exact ih0 _ _ _ _ _ _ | exact ih1 _ _ _ _ _ _ _ _ _ | exact spec_biGood.mono _ _ _ | exact spec_biKeys.mono _ _ | exact spec_biSame.mono _ _ _ _ _ | exact spec_l1PutS.mono _ _ _ | exact spec_trOf.mono _ _ | exact spec_trPaths.mono _ _ _ _ _ _ | exact LeO.refl _ | exact LeO.none _ | refine LeO.ite ?_ ?_ | refine LeO.bind ?_ (fun _ => ?_)) | exact LeO.none _ | refine LeO.ite ?_ ?_ | refine LeO.bind ?_ (fun _ => ?_)
  ·intro y0 y1 y2 y3 y4 y5 y6 y7 y8
   unfold spec_trKeys.l0
   repeat' first | (with_reducible first | exact ih0 _ _ _ _ _ _ | exact ih1 _ _ _ _ _ _ _ _ _ | exact spec_biGood.mono _ _ _ | exact spec_biKeys.mono _ _ | exact spec_biSame.mono _ _ _ _ _ | exact spec_l1PutS.mono _ _ _ | exact spec_trOf.mono _ _ | exact spec_trPaths.mono _ _ _ _ _ _ | exact LeO.refl _ | exact LeO.none _ | refine LeO.ite ?_ ?_ | refine LeO.bind ?_ (fun _ => ?_)) | exact LeO.none _ | refine LeO.ite ?_ ?_ | refine LeO.bind ?_ (fun _ => ?_)
theorem spec_trKeys.mono : ∀ a0 a1 a2 a3 a4 k, LeO (spec_trKeys.f k a0 a1 a2 a3 a4) (spec_trKeys.f (k + 1) a0 a1 a2 a3 a4) := by
 intro a0 a1 a2 a3 a4 k; obtain ⟨ih0, ih1⟩ := spec_trKeys.mono_l k
 unfold spec_trKeys.f
 repeat' first | (with_reducible first | exact ih0 _ _ _ _ _ _ | exact ih1 _ _ _ _ _ _ _ _ _ | exact spec_biGood.mono _ _ _ | exact spec_biKeys.mono _ _ | exact spec_biSame.mono _ _ _ _ _ | exact spec_l1PutS.mono _ _ _ | exact spec_trOf.mono _ _ | exact spec_trPaths.mono _ _ _ _ _ _ | exact LeO.refl _ | exact LeO.none _ | refine LeO.ite ?_ ?_ | refine LeO.bind ?_ (fun _ => ?_)) | exact LeO.none _ | refine LeO.ite ?_ ?_ | refine LeO.bind ?_ (fun _ => ?_)
def spec_trKeys.T16 : Bool × List (List Nat × List Nat) := (true, [([], []), ([], []), ([1], [1]), ([], []), ([3], [3]), ([2, 4], [2, 4]), ([5, 5], [5]), ([6], [6]), ([7, 6], [6, 7]), ([6], [6]), ([9, 6], [6, 9]), ([8, 10, 6, 6], [6, 8, 10]), ([6, 11], [6, 11]), ([12, 11], [12]), ([13], [13]), ([14, 13], [13, 14]), ([13], [13]), ([16, 13], [13, 16]), ([15, 17, 13], [13, 15, 17]), ([13, 18], [13, 18]), ([0, 13, 0], [0]), ([19, 20, 0, 1, 2, 3, 4, 5, 6, 7, 8, 9, 10, 11, 12, 13, 14, 15, 16, 17, 18, 19, 20], [19])])
def spec_trKeys.B16 : List Nat := [0, 0, 2, 0, 8, 30, 62, 126, 254, 126, 638, 2046, 4094, 8190, 16382, 32766, 16382, 81918, 262142, 524286, 16383, 2097151]
theorem spec_trKeys.tab16 : rtab .any (opsOf Try.f40 16) = spec_trKeys.T16 := by kernel_rfl
theorem spec_trKeys.bits16 : waitsOk spec_trKeys.T16.2 spec_trKeys.B16 = true := by kernel_rfl
theorem spec_trKeys.calls (k : Nat) (a0_0 : Int) (A0_1 : Option Addr) (c0_1 : Nat) (l0_1 : List Int) (a0_2 : Int) (A0_3 : Option Addr) (c0_3 : Nat) (l0_3 : List Int) (a0_4 : ByteArray) (r1 : List ByteArray) (r2 : Bool) (w : World) (hr0_1 : Kd.C (Kd.int .i64) w A0_1 l0_1.length l0_1) (hc0_1 : l0_1.length ≤ c0_1) (hr0_3 : Kd.C (Kd.int .i64) w A0_3 l0_3.length l0_3) (hc0_3 : l0_3.length ≤ c0_3) (h : spec_trKeys.f k a0_0 l0_1 a0_2 l0_3 a0_4 = some (r1, r2)) :
  Calls Try.prog 40 #[.agg #[.int .i64 a0_0, .slice A0_1 l0_1.length c0_1, .int .i64 a0_2, .slice A0_3 l0_3.length c0_3, .string a0_4]] w fun e w' => ∃ v0_ : Value, e = .returned (.tuple #[v0_, .bool r2]) ∧ Kd.R Kd.string 9 w' w.heap.size (fun _ => True) v0_ r1 ∧ Below w.heap.size w w' := by
 have hu32 := Try.underlying32; have hu30 := Try.underlying30; have HR0_1 := am hr0_1; have HC0_1 := am hc0_1; clear hr0_1 hc0_1; have HR0_3 := am hr0_3; have HC0_3 := am hc0_3; clear hr0_3 hc0_3; have HB := am (Below.refl w.heap.size w); have H : ((spec_biGood.f k a0_0 l0_1).bind fun t231 => (if t231 = true then ((spec_biGood.f k a0_2 l0_3).bind fun t232 => (spec_trKeys.j0 k (!t232) a0_0 l0_1 a0_2 l0_3 a0_4)) else (spec_trKeys.j0 k true a0_0 l0_1 a0_2 l0_3 a0_4))) = some (r1, r2) := h; clear h; have HC2 := am H; clear H
 go_enter Try.func40, Try.ntmps40
 go_upto_region 1 with (first | ((with_reducible refine gate_dst (N := 1) rfl ?_); refine bE 1 #[.int .i64 a0_0, .slice A0_1 l0_1.length c0_1, .int .i64 a0_2, .slice A0_3 l0_3.length c0_3, .string a0_4] 32 ?_; intro gb230 hg w3 hbox hb; have n0_ := Bb HB hb; have n1_ := am (hbox); have n2_ := Gl HB hg; have n3_ := Gl HB hg; clear HB; revert n0_ n1_ n2_ n3_; intro HB BK230 GW230 GE230; clear hb hbox hg))
 (try simp only [aP])
 go_cut [19] (fun v19 wc => ∃ (kq : Nat) (x19_1 : Bool), v19 = .bool x19_1 ∧ Aside0 (spec_trKeys.j0 kq x19_1 a0_0 l0_1 a0_2 l0_3 a0_4 = some (r1, r2)) ∧ Aside0 (kq ≤ k) ∧ Aside0 (wc.heap[gb230]? = some (.cells #[.int .i64 a0_0, (.slice A0_1 l0_1.length c0_1), .int .i64 a0_2, (.slice A0_3 l0_3.length c0_3), .string a0_4] 32 (0, 0))) ∧ Aside0 (Below w.heap.size w wc))
 case first =>
  have H := HC2.out; clear HC2; replace H := Option.bind_eq_some_iff.mp H; obtain ⟨t231, A40, H⟩ := H; (try dsimp -simprocs only at H); have A4 := am A40; clear A40
  by_cases c5 : t231 = true
  ·subst c5
   rw [if_pos rfl] at H; replace H := Option.bind_eq_some_iff.mp H; obtain ⟨t232, A60, H⟩ := H; (try dsimp -simprocs only at H); have A6 := am A60; clear A60; have H' := am H; clear H; obtain ⟨hcz7_0, hcz7_1, hcz7_2, hcz7_3, hcz7_4, hfz7_0, hfz7_1, hfz7_2, hfz7_3, hfz7_4⟩ := cf5 (w := w3) BK230
   go_wp2_with (first | ((with_reducible refine gate_callee (f := 63) rfl ?_); refine gL (some 12) Try.func63 #[.agg #[.int .i64 a0_0, .slice A0_1 l0_1.length c0_1]] ?_; (with_reducible refine (spec_biGood.calls k a0_0 _ _ l0_1 true _ ?side1 ?side2 A4.out).mono ?_); (case side1 => exact Cz (Kd.C_below HR0_1.out HB.out)); (case side2 => exact HC0_1.out); rintro e w8 ⟨rfl, hb⟩; refine ⟨_, rfl, ?_⟩; have n0_ := Kb BK230 hb; have n1_ := Bc HB hb; clear BK230 HB; revert n0_ n1_; intro BK230 HB; (try clear hb); (try clear hb2); (try clear hk); (try clear hi); obtain ⟨hcz9_0, hcz9_1, hcz9_2, hcz9_3, hcz9_4, hfz9_0, hfz9_1, hfz9_2, hfz9_3, hfz9_4⟩ := cf5 (w := w8) BK230) | (go_at_call 63; (with_reducible refine (spec_biGood.calls k a0_2 _ _ l0_3 t232 _ ?side1 ?side2 A6.out).mono ?_); (case side1 => exact Cz (Kd.C_below HR0_3.out HB.out)); (case side2 => exact HC0_3.out); rintro e w10 ⟨rfl, hb⟩; have n0_ := Kb BK230 hb; have n1_ := Bc HB hb; clear BK230 HB; revert n0_ n1_; intro BK230 HB; (try clear hb); (try clear hb2); (try clear hk); (try clear hi)))
   go_meet
   case rel => exact ⟨_, (!t232), wZ, H', ⟨by first | omega | exact Nat.le_refl _⟩, ⟨Kz BK230.out⟩, ⟨Bq⟩⟩
  ·replace c5 := Bool.eq_false_iff.mpr c5
   subst c5
   rw [if_neg (show ¬ (false = true) by decide)] at H; have H' := am H; clear H; obtain ⟨hcz11_0, hcz11_1, hcz11_2, hcz11_3, hcz11_4, hfz11_0, hfz11_1, hfz11_2, hfz11_3, hfz11_4⟩ := cf5 (w := w3) BK230
   go_wp2_with (first | ((with_reducible refine gate_callee (f := 63) rfl ?_); refine gL (some 12) Try.func63 #[.agg #[.int .i64 a0_0, .slice A0_1 l0_1.length c0_1]] ?_; (with_reducible refine (spec_biGood.calls k a0_0 _ _ l0_1 false _ ?side1 ?side2 A4.out).mono ?_); (case side1 => exact Cz (Kd.C_below HR0_1.out HB.out)); (case side2 => exact HC0_1.out); rintro e w12 ⟨rfl, hb⟩; refine ⟨_, rfl, ?_⟩; have n0_ := Kb BK230 hb; have n1_ := Bc HB hb; clear BK230 HB; revert n0_ n1_; intro BK230 HB; (try clear hb); (try clear hb2); (try clear hk); (try clear hi)))
   go_meet
   case rel => exact ⟨_, (true), wZ, H', ⟨by first | omega | exact Nat.le_refl _⟩, ⟨Kz BK230.out⟩, ⟨Bq⟩⟩
 case rest =>
  clear HC2
  try clear p2
  try clear c4
  try clear c5
  try clear c6
  try clear hcz11_0
  try clear hcz11_1
  try clear hcz11_2
  try clear hcz11_3
  try clear hcz11_4
  try clear hcz7_0
  try clear hcz7_1
  try clear hcz7_2
  try clear hcz7_3
  try clear hcz7_4
  try clear hcz9_0
  try clear hcz9_1
  try clear hcz9_2
  try clear hcz9_3
  try clear hcz9_4
  try clear hfz11_0
  try clear hfz11_1
  try clear hfz11_2
  try clear hfz11_3
  try clear hfz11_4
  try clear hfz7_0
  try clear hfz7_1
  try clear hfz7_2
  try clear hfz7_3
  try clear hfz7_4
  try clear hfz9_0
  try clear hfz9_1
  try clear hfz9_2
  try clear hfz9_3
  try clear hfz9_4
  obtain ⟨kq, x19_1, rfl, HA, HJ1, BK230, HB⟩ := hcut; cases kq with
  | zero => exact absurd HA.out (by simp [spec_trKeys.j0])
  | succ kj1 =>
   have H := HA.out; clear HA
   simp only [spec_trKeys.j0] at H
   by_cases c13 : x19_1 = true
   ·subst c13
    rw [if_pos rfl] at H
    simp only [Option.some.injEq, Prod.mk.injEq] at H
    obtain ⟨rfl, rfl⟩ := H
    go_wp2
    go_ret2
    exact ⟨_, eZ, nZ, Bq⟩
   ·replace c13 := Bool.eq_false_iff.mpr c13
    subst c13
    rw [if_neg (show ¬ (false = true) by decide)] at H; replace H := Option.bind_eq_some_iff.mp H; obtain ⟨⟨t233, t236⟩, A140, H⟩ := H; (try dsimp -simprocs only at H); have A14 := am A140; clear A140
    by_cases c15 : t236 = true
    ·subst c15
     rw [if_pos rfl] at H; have H' := am H; clear H; obtain ⟨hcz16_0, hcz16_1, hcz16_2, hcz16_3, hcz16_4, hfz16_0, hfz16_1, hfz16_2, hfz16_3, hfz16_4⟩ := cf5 (w := wc) BK230
     go_wp2_with (first | ((with_reducible refine gate_callee (f := 64) rfl ?_); refine gL (some 22) Try.func64 #[.agg #[.int .i64 a0_0, .slice A0_1 l0_1.length c0_1, .int .i64 a0_2, .slice A0_3 l0_3.length c0_3, .string a0_4]] ?_; (with_reducible refine (spec_trPaths.calls kj1 a0_0 _ _ l0_1 a0_2 _ _ l0_3 a0_4 t233 true _ ?side1 ?side2 ?side3 ?side4 A14.out).mono ?_); (case side1 => exact Cz (Kd.C_below HR0_1.out HB.out)); (case side2 => exact HC0_1.out); (case side3 => exact Cz (Kd.C_below HR0_3.out HB.out)); (case side4 => exact HC0_3.out); rintro e w17 ⟨v234, rfl, ho0, hb⟩; refine ⟨_, rfl, ?_⟩; have n0_ := Rm ho0 HB; have n1_ := Kb BK230 hb; have n2_ := Bc HB hb; clear BK230 HB; revert n0_ n1_ n2_; intro HO235 BK230 HB; (try clear hb); (try clear hb2); (try clear hk); (try clear hi); (try clear ho0); obtain ⟨Ao18, co18, eo18⟩ := Kd.R_slice HO235.out; subst eo18))
     (try simp only [aP])
     go_loopg [6, 29] kj1 (fun kq v6 v29 w' => ∃ (x6_2 : List ByteArray) (x29_2 : Int), v29 = .int .i64 x29_2 ∧ Aside0 (spec_trKeys.l0 kq x6_2 t233 (t233.length : Int) x29_2 a0_0 l0_1 a0_2 l0_3 a0_4 = some (r1, r2)) ∧ Aside0 (kq ≤ kj1) ∧ Aside0 (Kd.R Kd.string 9 w' w.heap.size (fun k_ => some k_ ≠ ((.slice Ao18 t233.length co18) : Value).ownBlock) v6 x6_2) ∧ Aside0 (Kd.R Kd.string 9 w' w.heap.size (fun k_ => some k_ ≠ (v6 : Value).ownBlock) (.slice Ao18 t233.length co18) t233) ∧ Aside0 (w'.heap[gb230]? = some (.cells #[.int .i64 a0_0, (.slice A0_1 l0_1.length c0_1), .int .i64 a0_2, (.slice A0_3 l0_3.length c0_3), .string a0_4] 32 (0, 0))) ∧ Aside0 (Below w.heap.size w w'))
     case atStart => exact ⟨(([] : List ByteArray)), (0), wZ, H', ⟨Nat.le_refl _⟩, ⟨nZ⟩, ⟨Rz (Kd.R_mono HO235.out (fun _ hk => (by simp [Value.ownBlock])))⟩, ⟨Kz BK230.out⟩, ⟨Bq⟩⟩
     case round =>
      clear H'
      try clear c1
      try clear p2
      try clear c4
      try clear c5
      try clear c6
      try clear c13
      try clear c15
      try clear hcz11_0
      try clear hcz11_1
      try clear hcz11_2
      try clear hcz11_3
      try clear hcz11_4
      try clear hcz16_0
      try clear hcz16_1
      try clear hcz16_2
      try clear hcz16_3
      try clear hcz16_4
      try clear hcz7_0
      try clear hcz7_1
      try clear hcz7_2
      try clear hcz7_3
      try clear hcz7_4
      try clear hcz9_0
      try clear hcz9_1
      try clear hcz9_2
      try clear hcz9_3
      try clear hcz9_4
      try clear hfz11_0
      try clear hfz11_1
      try clear hfz11_2
      try clear hfz11_3
      try clear hfz11_4
      try clear hfz16_0
      try clear hfz16_1
      try clear hfz16_2
      try clear hfz16_3
      try clear hfz16_4
      try clear hfz7_0
      try clear hfz7_1
      try clear hfz7_2
      try clear hfz7_3
      try clear hfz7_4
      try clear hfz9_0
      try clear hfz9_1
      try clear hfz9_2
      try clear hfz9_3
      try clear hfz9_4
      try clear p2
      obtain ⟨x6_2, x29_2, rfl, HA, HK2, HO_6, HO_27, BK230, HB⟩ := hrel; cases gk with
      | zero => exact absurd HA.out (by simp [spec_trKeys.l0])
      | succ k2 =>
       have H := HA.out; clear HA
       simp only [spec_trKeys.l0] at H
       by_cases c19 : x29_2 < (t233.length : Int)
       ·rw [if_pos c19] at H
        have c19b0 : decide (x29_2 < (t233.length : Int)) = true := decide_eq_true c19; clear c19
        by_cases c20 : 0 ≤ x29_2
        ·rw [if_pos c20] at H
         have c20b0 : decide (0 ≤ x29_2) = true := decide_eq_true c20; clear c20
         by_cases c21 : x29_2 < (t233.length : Int)
         ·rw [if_pos c21] at H
          have c21b0 : decide (x29_2 < (t233.length : Int)) = true := decide_eq_true c21; clear c21; replace H := Option.bind_eq_some_iff.mp H; obtain ⟨t238, A220, H⟩ := H; (try dsimp -simprocs only at H); have A22 := am A220; clear A220
          by_cases c23 : t238 = true
          ·subst c23
           rw [if_pos rfl] at H; replace H := Option.bind_eq_some_iff.mp H; obtain ⟨t239, A240, H⟩ := H; (try dsimp -simprocs only at H); have A24 := am A240; clear A240; have H' := am H; clear H; obtain ⟨ad237, e237, hx237_0⟩ := Kd.at_string (Kd.R_reads' HO_27.out).2.2 x29_2 dT dT; cases e237; have p237 := eT (0 ≤ (x29_2 : Int)); have q237 := eT (x29_2 < (t233.length : Int)); obtain ⟨hcz25_0, hcz25_1, hcz25_2, hcz25_3, hcz25_4, hfz25_0, hfz25_1, hfz25_2, hfz25_3, hfz25_4⟩ := cf5 (w := wr) BK230
           go_wp2_with (first | ((with_reducible refine gate_callee (f := 65) rfl ?_); refine gL (some 37) Try.func65 #[.agg #[.int .i64 a0_2, .slice A0_3 l0_3.length c0_3], .int .i64 x29_2] ?_; (with_reducible refine (spec_biAt.calls a0_2 _ _ l0_3 x29_2 true _ ?side1 ?side2 A22.out).mono ?_); (case side1 => exact Cz (Kd.C_below HR0_3.out HB.out)); (case side2 => exact HC0_3.out); rintro e w26 ⟨rfl, hb⟩; refine ⟨_, rfl, ?_⟩; have n0_ := Rb HO_6 hb; have n1_ := Rb HO_27 hb; have n2_ := Kb BK230 hb; have n3_ := Bc HB hb; clear HO_6 HO_27 BK230 HB; revert n0_ n1_ n2_ n3_; intro HO_6 HO_27 BK230 HB; (try clear hb); (try clear hb2); (try clear hk); (try clear hi); obtain ⟨Ao27, co27, eo27⟩ := Kd.R_slice HO_6.out; subst eo27) | ((with_reducible refine gate_callee (f := 66) rfl ?_); refine gL (some 40) Try.func66 #[.slice Ao27 x6_2.length co27, .string (rdOf ByteArray.empty t233 x29_2)] ?_; (with_reducible refine (spec_l1PutS.calls k2 (fun k_ => some k_ = (.slice Ao27 x6_2.length co27 : Value).ownBlock) (.slice Ao27 x6_2.length co27) x6_2 (rdOf ByteArray.empty t233 x29_2) t239 w _ ?side1 ?side2 A24.out).mono ?_); (case side1 => repeat (first | (with_reducible first | exact HB.out | apply below_alloc | apply pw_below_drewN | apply below_drew1 | refine below_set ?_ GE230.out) | exact HB.out)); (case side2 => exact Kd.R_tight rfl HO_6.out); rintro e w28 ⟨v240, rfl, ho0, hb, hkp⟩; refine ⟨_, rfl, ?_⟩; have n0_ := am (Kd.R_mono (ok' := fun k_ => some k_ ≠ (v240 : Value).ownBlock) (Kd.R_keptB (HO_27.out) hkp (fun k_ hk_ hs_ => (hk_) hs_)) (fun k_ hk_ => fun e_ => Or.elim (ho0.1 k_ e_.symm) (fun hs_ => hk_.2.1 hs_) (fun hn_ => Nat.not_le.2 hk_.2.2 hn_))); have n1_ := am (blk_kept (Kz BK230.out) hkp (fun hs_ => (fun e_ => (Kd.R_ne HO_6.out BK230.out (by decide)) e_) hs_)); have n2_ := am (Kd.R_mono (ok' := fun k_ => some k_ ≠ (.slice (some ad237) t233.length co18 : Value).ownBlock) ho0 (fun k_ hk_ => Or.elim hk_ (fun hs_ => fun e_ => (((HO_27.out).1 k_ e_.symm)) hs_) (fun hn_ => (Kd.fresh' (Kd.R_lt (Rz HO_27.out)) k_ hn_)))); have n3_ := am (hb); clear HO_27 BK230 HB HO_6; revert n0_ n1_ n2_ n3_; intro HO_27 BK230 HO241 HB; (try clear hb); (try clear hkp); (try clear ho0)))
           go_roundg k2
           case measure => have := HJ1.out; have := HK2.out; omega
           case rel => exact ⟨(t239), (wrap64 (x29_2 + 1)), wZ, H', ⟨by have := HJ1.out; have := HK2.out; omega⟩, ⟨Rz HO241.out⟩, ⟨Rz HO_27.out⟩, ⟨Kz BK230.out⟩, ⟨Bq⟩⟩
          ·replace c23 := Bool.eq_false_iff.mpr c23
           subst c23
           rw [if_neg (show ¬ (false = true) by decide)] at H; have H' := am H; clear H; obtain ⟨ad237, e237, hx237_0⟩ := Kd.at_string (Kd.R_reads' HO_27.out).2.2 x29_2 dT dT; cases e237; have p237 := eT (0 ≤ (x29_2 : Int)); have q237 := eT (x29_2 < (t233.length : Int)); obtain ⟨hcz29_0, hcz29_1, hcz29_2, hcz29_3, hcz29_4, hfz29_0, hfz29_1, hfz29_2, hfz29_3, hfz29_4⟩ := cf5 (w := wr) BK230
           go_wp2_with (first | ((with_reducible refine gate_callee (f := 65) rfl ?_); refine gL (some 37) Try.func65 #[.agg #[.int .i64 a0_2, .slice A0_3 l0_3.length c0_3], .int .i64 x29_2] ?_; (with_reducible refine (spec_biAt.calls a0_2 _ _ l0_3 x29_2 false _ ?side1 ?side2 A22.out).mono ?_); (case side1 => exact Cz (Kd.C_below HR0_3.out HB.out)); (case side2 => exact HC0_3.out); rintro e w30 ⟨rfl, hb⟩; refine ⟨_, rfl, ?_⟩; have n0_ := Rb HO_6 hb; have n1_ := Rb HO_27 hb; have n2_ := Kb BK230 hb; have n3_ := Bc HB hb; clear HO_6 HO_27 BK230 HB; revert n0_ n1_ n2_ n3_; intro HO_6 HO_27 BK230 HB; (try clear hb); (try clear hb2); (try clear hk); (try clear hi)))
           go_roundg k2
           case measure => have := HJ1.out; have := HK2.out; omega
           case rel => exact ⟨(x6_2), (wrap64 (x29_2 + 1)), wZ, H', ⟨by have := HJ1.out; have := HK2.out; omega⟩, ⟨Rz HO_6.out⟩, ⟨Rz HO_27.out⟩, ⟨Kz BK230.out⟩, ⟨Bq⟩⟩
         ·rw [if_neg c21] at H
          exact absurd H (by simp)
        ·rw [if_neg c20] at H
         exact absurd H (by simp)
       ·rw [if_neg c19] at H
        have c19b0 : decide (x29_2 < (t233.length : Int)) = false := decide_eq_false c19; clear c19; replace H := Option.bind_eq_some_iff.mp H; obtain ⟨t242, A310, H⟩ := H; (try dsimp -simprocs only at H); have A31 := am A310; clear A310
        by_cases c32 : t242 = true
        ·subst c32
         rw [if_pos rfl] at H; replace H := Option.bind_eq_some_iff.mp H; obtain ⟨⟨t243, t244, t247, t248, t251⟩, A330, H⟩ := H; (try dsimp -simprocs only at H); have A33 := am A330; clear A330; replace H := Option.bind_eq_some_iff.mp H; obtain ⟨t253, A340, H⟩ := H; (try dsimp -simprocs only at H); have A34 := am A340; clear A340
         by_cases c35 : t253 = true
         ·subst c35
          rw [if_pos rfl] at H; replace H := Option.bind_eq_some_iff.mp H; obtain ⟨t254, A360, H⟩ := H; (try dsimp -simprocs only at H); have A36 := am A360; clear A360
          by_cases c37 : t254 = true
          ·subst c37
           rw [if_pos rfl] at H
           simp only [Option.some.injEq, Prod.mk.injEq] at H
           obtain ⟨rfl, rfl⟩ := H; obtain ⟨Ao38, co38, eo38⟩ := Kd.R_slice HO_6.out; subst eo38
           try go_wp2_with (first | ((with_reducible refine gate_callee (f := 53) rfl ?_); refine gL (some 43) Try.func53 #[.slice Ao38 x6_2.length co38] ?_; (with_reducible refine (spec_biKeys.calls k2 _ _ x6_2 true _ ?side1 ?side2 A31.out).mono ?_); (case side1 => exact Cz ((Kd.R_reads' HO_6.out).2.2)); (case side2 => exact (Kd.R_reads' HO_6.out).2.1); rintro e w' ⟨rfl, ⟨nd, rfl⟩⟩; refine ⟨_, rfl, ?_⟩; (try (rw [drewN_self wr]; generalize hq_ : World.drewN wr _ = wr; have n0_ : Aside0 (Kd.R Kd.string 9 wr w.heap.size (fun k_ => some k_ ≠ (.slice Ao38 x6_2.length co38 : Value).ownBlock) (.slice Ao18 t233.length co18) t233) := ⟨by rw [← hq_]; exact (Rz HO_27.out)⟩; have n1_ : Aside0 (Kd.R Kd.string 9 wr w.heap.size (fun k_ => some k_ ≠ (.slice Ao18 t233.length co18 : Value).ownBlock) (.slice Ao38 x6_2.length co38) x6_2) := ⟨by rw [← hq_]; exact (Rz HO_6.out)⟩; have n2_ : Aside0 (wr.heap[gb230]? = some (.cells #[.int .i64 a0_0, .slice A0_1 l0_1.length c0_1, .int .i64 a0_2, .slice A0_3 l0_3.length c0_3, .string a0_4] 32 (0, 0))) := ⟨by rw [← hq_]; exact (Kz BK230.out)⟩; have n3_ : Aside0 (Below w.heap.size w wr) := ⟨by rw [← hq_]; exact (Bq)⟩; clear HO_27 HO_6 BK230 HB hq_; revert n0_ n1_ n2_ n3_; intro HO_27 HO_6 BK230 HB))) | ((with_reducible refine gate_callee (f := 54) rfl ?_); refine gL (some 46) Try.func54 #[.slice Ao38 x6_2.length co38] ?_; (with_reducible refine (spec_trOf.calls k2 _ _ x6_2 t243 t244 t247 t248 t251 _ ?side1 ?side2 A33.out).mono ?_); (case side1 => exact Cz ((Kd.R_reads' HO_6.out).2.2)); (case side2 => exact (Kd.R_reads' HO_6.out).2.1); rintro e w39 ⟨v245, v249, rfl, ho0, ho1, hb⟩; refine ⟨_, rfl, ?_⟩; have n0_ := Rb HO_6 hb; have n1_ := Rb HO_27 hb; have n2_ := Rm ho0 HB; have n3_ := Rm ho1 HB; have n4_ := Kb BK230 hb; have n5_ := Bc HB hb; clear HO_6 HO_27 BK230 HB; revert n0_ n1_ n2_ n3_ n4_ n5_; intro HO_6 HO_27 HO246 HO250 BK230 HB; (try clear hb); (try clear hb2); (try clear hk); (try clear hi); (try clear ho0); (try clear ho1)) | ((with_reducible refine gate_dst (N := 9) rfl ?_); refine bE 9 #[.int .i64 0, .slice none 0 0, .int .i64 0, .slice none 0 0, .string (⟨#[]⟩ : ByteArray)] 32 ?_; intro gb252 hg w40 hbox hb; have n0_ := Rb HO_6 hb; have n1_ := Rb HO_27 hb; have n2_ := Rb HO246 hb; have n3_ := Rb HO250 hb; have n4_ := Kb BK230 hb; have n5_ := Bc HB hb; have n6_ := am (hbox); have n7_ := Gm HB hg; have n8_ := Gm HB hg; have n9_ := Nl BK230 hg; have n10_ := Ng BK230 hg; clear HO_6 HO_27 HO246 HO250 BK230 HB; revert n0_ n1_ n2_ n3_ n4_ n5_ n6_ n7_ n8_ n9_ n10_; intro HO_6 HO_27 HO246 HO250 BK230 HB BK252 GW252 GE252 NB230_252 NB252_230; clear hb hbox hg; have hnb41 := NB252_230.out; have hnc41 := NB230_252.out; obtain ⟨hcz42_0, hcz42_1, hcz42_2, hcz42_3, hcz42_4, hfz42_0, hfz42_1, hfz42_2, hfz42_3, hfz42_4⟩ := cf5 (w := w40) BK252; obtain ⟨Ao43, co43, eo43⟩ := Kd.R_slice HO246.out; subst eo43; obtain ⟨Ao44, co44, eo44⟩ := Kd.R_slice HO250.out; subst eo44))
           have n0_ : Aside0 (Kd.R Kd.string 9 (((((w40.setCell ⟨gb252, 0, none⟩ (.int .i64 t243)).setCell ⟨gb252, 1, none⟩ (.slice Ao43 t244.length co43)).setCell ⟨gb252, 2, none⟩ (.int .i64 t247)).setCell ⟨gb252, 3, none⟩ (.slice Ao44 t248.length co44)).setCell ⟨gb252, 4, none⟩ (.string t251)) w.heap.size (fun k_ => some k_ ≠ (.slice Ao18 t233.length co18 : Value).ownBlock) (.slice Ao38 x6_2.length co38) x6_2) := ⟨Rz (Kd.R_mono (Kd.R_far (p := ⟨gb252, 4, none⟩) (Kd.R_far (p := ⟨gb252, 3, none⟩) (Kd.R_far (p := ⟨gb252, 2, none⟩) (Kd.R_far (p := ⟨gb252, 1, none⟩) (Kd.R_far (p := ⟨gb252, 0, none⟩) (Kd.R_types HO_6.out BK252.out (by decide)) (fun _ hk => hk.2) (.int .i64 t243)) (fun _ hk => hk.2) (.slice Ao43 t244.length co43)) (fun _ hk => hk.2) (.int .i64 t247)) (fun _ hk => hk.2) (.slice Ao44 t248.length co44)) (fun _ hk => hk.2) (.string t251)) (fun _ hk => hk.1))⟩; have n1_ : Aside0 (Kd.R Kd.string 9 (((((w40.setCell ⟨gb252, 0, none⟩ (.int .i64 t243)).setCell ⟨gb252, 1, none⟩ (.slice Ao43 t244.length co43)).setCell ⟨gb252, 2, none⟩ (.int .i64 t247)).setCell ⟨gb252, 3, none⟩ (.slice Ao44 t248.length co44)).setCell ⟨gb252, 4, none⟩ (.string t251)) w.heap.size (fun k_ => some k_ ≠ (.slice Ao38 x6_2.length co38 : Value).ownBlock) (.slice Ao18 t233.length co18) t233) := ⟨Rz (Kd.R_mono (Kd.R_far (p := ⟨gb252, 4, none⟩) (Kd.R_far (p := ⟨gb252, 3, none⟩) (Kd.R_far (p := ⟨gb252, 2, none⟩) (Kd.R_far (p := ⟨gb252, 1, none⟩) (Kd.R_far (p := ⟨gb252, 0, none⟩) (Kd.R_types HO_27.out BK252.out (by decide)) (fun _ hk => hk.2) (.int .i64 t243)) (fun _ hk => hk.2) (.slice Ao43 t244.length co43)) (fun _ hk => hk.2) (.int .i64 t247)) (fun _ hk => hk.2) (.slice Ao44 t248.length co44)) (fun _ hk => hk.2) (.string t251)) (fun _ hk => hk.1))⟩; have n2_ : Aside0 (Kd.R (Kd.int .i64) 3 (((((w40.setCell ⟨gb252, 0, none⟩ (.int .i64 t243)).setCell ⟨gb252, 1, none⟩ (.slice Ao43 t244.length co43)).setCell ⟨gb252, 2, none⟩ (.int .i64 t247)).setCell ⟨gb252, 3, none⟩ (.slice Ao44 t248.length co44)).setCell ⟨gb252, 4, none⟩ (.string t251)) w.heap.size (fun k_ => some k_ ≠ (.slice Ao44 t248.length co44 : Value).ownBlock) (.slice Ao43 t244.length co43) t244) := ⟨Rz (Kd.R_mono (Kd.R_far (p := ⟨gb252, 4, none⟩) (Kd.R_far (p := ⟨gb252, 3, none⟩) (Kd.R_far (p := ⟨gb252, 2, none⟩) (Kd.R_far (p := ⟨gb252, 1, none⟩) (Kd.R_far (p := ⟨gb252, 0, none⟩) (Kd.R_types HO246.out BK252.out (by decide)) (fun _ hk => hk.2) (.int .i64 t243)) (fun _ hk => hk.2) (.slice Ao43 t244.length co43)) (fun _ hk => hk.2) (.int .i64 t247)) (fun _ hk => hk.2) (.slice Ao44 t248.length co44)) (fun _ hk => hk.2) (.string t251)) (fun _ hk => hk.1))⟩; have n3_ : Aside0 (Kd.R (Kd.int .i64) 3 (((((w40.setCell ⟨gb252, 0, none⟩ (.int .i64 t243)).setCell ⟨gb252, 1, none⟩ (.slice Ao43 t244.length co43)).setCell ⟨gb252, 2, none⟩ (.int .i64 t247)).setCell ⟨gb252, 3, none⟩ (.slice Ao44 t248.length co44)).setCell ⟨gb252, 4, none⟩ (.string t251)) w.heap.size (fun k_ => some k_ ≠ (.slice Ao43 t244.length co43 : Value).ownBlock) (.slice Ao44 t248.length co44) t248) := ⟨Rz (Kd.R_mono (Kd.R_far (p := ⟨gb252, 4, none⟩) (Kd.R_far (p := ⟨gb252, 3, none⟩) (Kd.R_far (p := ⟨gb252, 2, none⟩) (Kd.R_far (p := ⟨gb252, 1, none⟩) (Kd.R_far (p := ⟨gb252, 0, none⟩) (Kd.R_types HO250.out BK252.out (by decide)) (fun _ hk => hk.2) (.int .i64 t243)) (fun _ hk => hk.2) (.slice Ao43 t244.length co43)) (fun _ hk => hk.2) (.int .i64 t247)) (fun _ hk => hk.2) (.slice Ao44 t248.length co44)) (fun _ hk => hk.2) (.string t251)) (fun _ hk => hk.1))⟩
           have n4_ : Aside0 ((((((w40.setCell ⟨gb252, 0, none⟩ (.int .i64 t243)).setCell ⟨gb252, 1, none⟩ (.slice Ao43 t244.length co43)).setCell ⟨gb252, 2, none⟩ (.int .i64 t247)).setCell ⟨gb252, 3, none⟩ (.slice Ao44 t248.length co44)).setCell ⟨gb252, 4, none⟩ (.string t251)).heap[gb230]? = some (.cells #[.int .i64 a0_0, .slice A0_1 l0_1.length c0_1, .int .i64 a0_2, .slice A0_3 l0_3.length c0_3, .string a0_4] 32 (0, 0))) := ⟨by (with_reducible repeat (first | refine blk_drewN ?_ _ | refine blk_drew ?_ | refine blk_alloc ?_ _)); refine blk_far ?_ NB230_252.out _; (with_reducible repeat (first | refine blk_drewN ?_ _ | refine blk_drew ?_ | refine blk_alloc ?_ _)); refine blk_far ?_ NB230_252.out _; (with_reducible repeat (first | refine blk_drewN ?_ _ | refine blk_drew ?_ | refine blk_alloc ?_ _)); refine blk_far ?_ NB230_252.out _; (with_reducible repeat (first | refine blk_drewN ?_ _ | refine blk_drew ?_ | refine blk_alloc ?_ _)); refine blk_far ?_ NB230_252.out _; (with_reducible repeat (first | refine blk_drewN ?_ _ | refine blk_drew ?_ | refine blk_alloc ?_ _)); refine blk_far ?_ NB230_252.out _; (with_reducible repeat (first | refine blk_drewN ?_ _ | refine blk_drew ?_ | refine blk_alloc ?_ _)); exact BK230.out⟩; have n5_ : Aside0 ((((((w40.setCell ⟨gb252, 0, none⟩ (.int .i64 t243)).setCell ⟨gb252, 1, none⟩ (.slice Ao43 t244.length co43)).setCell ⟨gb252, 2, none⟩ (.int .i64 t247)).setCell ⟨gb252, 3, none⟩ (.slice Ao44 t248.length co44)).setCell ⟨gb252, 4, none⟩ (.string t251)).heap[gb252]? = some (.cells #[.int .i64 t243, .slice Ao43 t244.length co43, .int .i64 t247, .slice Ao44 t248.length co44, .string t251] 32 (0, 0))) := ⟨by (with_reducible repeat (first | refine blk_drewN ?_ _ | refine blk_drew ?_ | refine blk_alloc ?_ _)); refine blk_put (cs := #[.int .i64 t243, .slice Ao43 t244.length co43, .int .i64 t247, .slice Ao44 t248.length co44, .string (⟨#[]⟩ : ByteArray)]) ?_ 4 _ rfl; (with_reducible repeat (first | refine blk_drewN ?_ _ | refine blk_drew ?_ | refine blk_alloc ?_ _)); refine blk_put (cs := #[.int .i64 t243, .slice Ao43 t244.length co43, .int .i64 t247, .slice none 0 0, .string (⟨#[]⟩ : ByteArray)]) ?_ 3 _ rfl; (with_reducible repeat (first | refine blk_drewN ?_ _ | refine blk_drew ?_ | refine blk_alloc ?_ _)); refine blk_put (cs := #[.int .i64 t243, .slice Ao43 t244.length co43, .int .i64 0, .slice none 0 0, .string (⟨#[]⟩ : ByteArray)]) ?_ 2 _ rfl; (with_reducible repeat (first | refine blk_drewN ?_ _ | refine blk_drew ?_ | refine blk_alloc ?_ _)); refine blk_put (cs := #[.int .i64 t243, .slice none 0 0, .int .i64 0, .slice none 0 0, .string (⟨#[]⟩ : ByteArray)]) ?_ 1 _ rfl; (with_reducible repeat (first | refine blk_drewN ?_ _ | refine blk_drew ?_ | refine blk_alloc ?_ _)); refine blk_put (cs := #[.int .i64 0, .slice none 0 0, .int .i64 0, .slice none 0 0, .string (⟨#[]⟩ : ByteArray)]) ?_ 0 _ rfl; (with_reducible repeat (first | refine blk_drewN ?_ _ | refine blk_drew ?_ | refine blk_alloc ?_ _)); exact BK252.out⟩; have n6_ : Aside0 (Below w.heap.size w (((((w40.setCell ⟨gb252, 0, none⟩ (.int .i64 t243)).setCell ⟨gb252, 1, none⟩ (.slice Ao43 t244.length co43)).setCell ⟨gb252, 2, none⟩ (.int .i64 t247)).setCell ⟨gb252, 3, none⟩ (.slice Ao44 t248.length co44)).setCell ⟨gb252, 4, none⟩ (.string t251))) := ⟨Bq⟩
           (try clear HO_6)
           (try clear HO_27)
           (try clear HO246)
           (try clear HO250)
           (try clear BK230)
           (try clear BK252)
           (try clear HB)
           generalize (((((w40.setCell ⟨gb252, 0, none⟩ (.int .i64 t243)).setCell ⟨gb252, 1, none⟩ (.slice Ao43 t244.length co43)).setCell ⟨gb252, 2, none⟩ (.int .i64 t247)).setCell ⟨gb252, 3, none⟩ (.slice Ao44 t248.length co44)).setCell ⟨gb252, 4, none⟩ (.string t251)) = w45 at n0_ n1_ n2_ n3_ n4_ n5_ n6_ ⊢; revert n0_ n1_ n2_ n3_ n4_ n5_ n6_; intro HO_6 HO_27 HO246 HO250 BK230 BK252 HB; have n0_ := am (Kd.R_drew HO_6.out); have n1_ := am (Kd.R_drew HO_27.out); have n2_ := am (Kd.R_drew HO246.out); have n3_ := am (Kd.R_drew HO250.out); have n4_ := am (blk_drew BK230.out); have n5_ := am (blk_drew BK252.out); have n6_ := am (below_drew1 HB.out); clear HO_6 HO_27 HO246 HO250 BK230 BK252 HB; revert n0_ n1_ n2_ n3_ n4_ n5_ n6_; intro HO_6 HO_27 HO246 HO250 BK230 BK252 HB; refine start_ (n := 22) (S := fun w' => w'.cell? ⟨gb230, 0, none⟩ = some (.int .i64 a0_0) ∧ w'.cell? ⟨gb230, 1, none⟩ = some (.slice A0_1 l0_1.length c0_1) ∧ w'.cell? ⟨gb230, 2, none⟩ = some (.int .i64 a0_2) ∧ w'.cell? ⟨gb230, 3, none⟩ = some (.slice A0_3 l0_3.length c0_3) ∧ w'.cell? ⟨gb230, 4, none⟩ = some (.string a0_4) ∧ w'.cell? ⟨gb252, 0, none⟩ = some (.int .i64 t243) ∧ w'.cell? ⟨gb252, 1, none⟩ = some (.slice Ao43 t244.length co43) ∧ w'.cell? ⟨gb252, 2, none⟩ = some (.int .i64 t247) ∧ w'.cell? ⟨gb252, 3, none⟩ = some (.slice Ao44 t248.length co44) ∧ w'.cell? ⟨gb252, 4, none⟩ = some (.string t251)) (ds := []) (bA 22 0) (by kernel_rfl) rfl rfl ⟨cz BK230 0, cz BK230 1, cz BK230 2, cz BK230 3, cz BK230 4, cz BK252 0, cz BK252 1, cz BK252 2, cz BK252 3, cz BK252 4⟩ (fun hHeld => ?_); refine with_tabW spec_trKeys.tab16 spec_trKeys.bits16 (fun HT_ HW_ => ?_); generalize w45.drew = w46 at HO_6 HO_27 HO246 HO250 BK230 BK252 HB hHeld ⊢; refine pZ 0 (some 47) (bA 22 1) HT_.out ?_; refine pZ 1 (some 48) (bA 22 3) HT_.out ?_; refine pZ 3 (some 50) (bA 22 11) HT_.out ?_; refine take_ (i := 2) (N := some 49) (v := ?_) (a' := ?_) (bA 22 15) rfl rfl (take_ofW HT_.out HW_.out (by kernel_rfl)) (fun _ _ _ h => h) (Or.inl ⟨by rfl, ?_⟩) hHeld ?_ ?_
           rotate_left
           ·rintro w' ⟨s0, s1, s2, s3, s4, s5, s6, s7, s8, s9⟩
            go_simp
            with_reducible rfl
           rotate_left
           ·simp only [aP, i64_w, i32_w]
            rfl
           refine take_ (i := 4) (N := some 51) (v := ?_) (a' := ?_) (bA 22 31) rfl rfl (take_ofW HT_.out HW_.out (by kernel_rfl)) (fun _ _ _ h => h) (Or.inl ⟨by rfl, ?_⟩) hHeld ?_ ?_
           rotate_left
           ·rintro w' ⟨s0, s1, s2, s3, s4, s5, s6, s7, s8, s9⟩
            go_simp
            with_reducible rfl
           rotate_left
           ·simp only [aP, i64_w, i32_w]
            rfl
           refine oZ 5 (some 52) (bA 22 63) HT_.out (fun K hK => ?_); refine gZ Try.func67 #[.agg #[.int .i64 a0_0, .slice A0_1 l0_1.length c0_1], .agg #[.int .i64 t243, .slice Ao43 t244.length co43]] ?_
           with_reducible refine (spec_biSame.calls k2 a0_0 _ _ l0_1 t243 _ _ t244 true _ ?side1 ?side2 ?side3 ?side4 A34.out).mono ?_
           (case side1 => exact Cz (Kd.C_below HR0_1.out HB.out))
           (case side2 => exact HC0_1.out)
           (case side3 => exact Cz ((Kd.R_reads' HO246.out).2.2))
           (case side4 => exact (Kd.R_reads' HO246.out).2.1)
           rintro e w47 ⟨rfl, hb⟩; refine ⟨_, rfl, ?_⟩; have n0_ := Rb HO_6 hb; have n1_ := Rb HO_27 hb; have n2_ := Rb HO246 hb; have n3_ := Rb HO250 hb; have n4_ := Kb BK230 hb; have n5_ := Kb BK252 hb; have n6_ := Bc HB hb; clear HO_6 HO_27 HO246 HO250 BK230 BK252 HB; revert n0_ n1_ n2_ n3_ n4_ n5_ n6_; intro HO_6 HO_27 HO246 HO250 BK230 BK252 HB
           (try clear hb)
           (try clear hb2)
           (try clear hk)
           (try clear hi)
           refine hK.out _ _ ⟨cz BK230 0, cz BK230 1, cz BK230 2, cz BK230 3, cz BK230 4, cz BK252 0, cz BK252 1, cz BK252 2, cz BK252 3, cz BK252 4⟩ (fun hHeld => ?_); clear hK K; refine norm_ (a' := ?_) ?_ ?_; rotate_left; show Act.put _ (some 52) _ = _; simp only [aP, i64_w, i32_w]; rfl; refine pZ 6 (some 53) (bA 22 127) HT_.out ?_; refine pZ 7 (some 54) (bA 22 255) HT_.out ?_; refine pZ 9 (some 56) (bA 22 767) HT_.out ?_; refine take_ (i := 8) (N := some 55) (v := ?_) (a' := ?_) (bA 22 1023) rfl rfl (take_ofW HT_.out HW_.out (by kernel_rfl)) (fun _ _ _ h => h) (Or.inl ⟨by rfl, ?_⟩) hHeld ?_ ?_
           rotate_left
           ·rintro w' ⟨s0, s1, s2, s3, s4, s5, s6, s7, s8, s9⟩
            go_simp
            with_reducible rfl
           rotate_left
           ·simp only [aP, i64_w, i32_w]
            rfl
           refine take_ (i := 10) (N := some 57) (v := ?_) (a' := ?_) (bA 22 2047) rfl rfl (take_ofW HT_.out HW_.out (by kernel_rfl)) (fun _ _ _ h => h) (Or.inl ⟨by rfl, ?_⟩) hHeld ?_ ?_
           rotate_left
           ·rintro w' ⟨s0, s1, s2, s3, s4, s5, s6, s7, s8, s9⟩
            go_simp
            with_reducible rfl
           rotate_left
           ·simp only [aP, i64_w, i32_w]
            rfl
           refine oZ 11 (some 58) (bA 22 4095) HT_.out (fun K hK => ?_); refine gZ Try.func67 #[.agg #[.int .i64 a0_2, .slice A0_3 l0_3.length c0_3], .agg #[.int .i64 t247, .slice Ao44 t248.length co44]] ?_
           with_reducible refine (spec_biSame.calls k2 a0_2 _ _ l0_3 t247 _ _ t248 true _ ?side1 ?side2 ?side3 ?side4 A36.out).mono ?_
           (case side1 => exact Cz (Kd.C_below HR0_3.out HB.out))
           (case side2 => exact HC0_3.out)
           (case side3 => exact Cz ((Kd.R_reads' HO250.out).2.2))
           (case side4 => exact (Kd.R_reads' HO250.out).2.1)
           rintro e w48 ⟨rfl, hb⟩; refine ⟨_, rfl, ?_⟩; have n0_ := Rb HO_6 hb; have n1_ := Rb HO_27 hb; have n2_ := Rb HO246 hb; have n3_ := Rb HO250 hb; have n4_ := Kb BK230 hb; have n5_ := Kb BK252 hb; have n6_ := Bc HB hb; clear HO_6 HO_27 HO246 HO250 BK230 BK252 HB; revert n0_ n1_ n2_ n3_ n4_ n5_ n6_; intro HO_6 HO_27 HO246 HO250 BK230 BK252 HB
           (try clear hb)
           (try clear hb2)
           (try clear hk)
           (try clear hi)
           refine hK.out _ _ ⟨cz BK230 0, cz BK230 1, cz BK230 2, cz BK230 3, cz BK230 4, cz BK252 0, cz BK252 1, cz BK252 2, cz BK252 3, cz BK252 4⟩ (fun hHeld => ?_); clear hK K; refine norm_ (a' := ?_) ?_ ?_; rotate_left; show Act.put _ (some 58) _ = _; simp only [aP, i64_w, i32_w]; rfl; refine pZ 12 (some 59) (bA 22 8191) HT_.out ?_; refine pZ 13 (some 60) (bA 22 16383) HT_.out ?_; refine pZ 14 (some 61) (bA 22 32767) HT_.out ?_; refine pZ 16 (some 63) (bA 22 98303) HT_.out ?_; refine pZ 20 (some 2) (bA 22 1146879) HT_.out ?_; refine take_ (i := 15) (N := some 62) (v := ?_) (a' := ?_) (bA 22 1179647) rfl rfl (take_ofW HT_.out HW_.out (by kernel_rfl)) (fun _ _ _ h => h) (Or.inl ⟨by rfl, ?_⟩) hHeld ?_ ?_
           rotate_left
           ·rintro w' ⟨s0, s1, s2, s3, s4, s5, s6, s7, s8, s9⟩
            go_simp
            with_reducible rfl
           rotate_left
           ·simp only [aP, i64_w, i32_w]
            rfl
           refine take_ (i := 17) (N := some 64) (v := ?_) (a' := ?_) (bA 22 1310719) rfl rfl (take_ofW HT_.out HW_.out (by kernel_rfl)) (fun _ _ _ h => h) (Or.inl ⟨by rfl, ?_⟩) hHeld ?_ ?_
           rotate_left
           ·rintro w' ⟨s0, s1, s2, s3, s4, s5, s6, s7, s8, s9⟩
            go_simp
            with_reducible rfl
           rotate_left
           ·simp only [aP, i64_w, i32_w]
            rfl
           refine pZ 18 (some 65) (bA 22 1572863) HT_.out ?_; refine pZ 19 (some 66) (bA 22 2097151) HT_.out ?_; refine pZ 21 (some 3) (bA 22 4194303) HT_.out ?_; refine done_ (done_of HT_.out (by kernel_rfl)) ?_
           try go_wp2
           go_ret2
           exact ⟨_, eZ, Rz (Kd.R_mono HO_6.out (fun _ hk => trivial)), Bq⟩
          ·replace c37 := Bool.eq_false_iff.mpr c37
           subst c37
           rw [if_neg (show ¬ (false = true) by decide)] at H
           simp only [Option.some.injEq, Prod.mk.injEq] at H
           obtain ⟨rfl, rfl⟩ := H; obtain ⟨Ao49, co49, eo49⟩ := Kd.R_slice HO_6.out; subst eo49
           try go_wp2_with (first | ((with_reducible refine gate_callee (f := 53) rfl ?_); refine gL (some 43) Try.func53 #[.slice Ao49 x6_2.length co49] ?_; (with_reducible refine (spec_biKeys.calls k2 _ _ x6_2 true _ ?side1 ?side2 A31.out).mono ?_); (case side1 => exact Cz ((Kd.R_reads' HO_6.out).2.2)); (case side2 => exact (Kd.R_reads' HO_6.out).2.1); rintro e w' ⟨rfl, ⟨nd, rfl⟩⟩; refine ⟨_, rfl, ?_⟩; (try (rw [drewN_self wr]; generalize hq_ : World.drewN wr _ = wr; have n0_ : Aside0 (Kd.R Kd.string 9 wr w.heap.size (fun k_ => some k_ ≠ (.slice Ao49 x6_2.length co49 : Value).ownBlock) (.slice Ao18 t233.length co18) t233) := ⟨by rw [← hq_]; exact (Rz HO_27.out)⟩; have n1_ : Aside0 (Kd.R Kd.string 9 wr w.heap.size (fun k_ => some k_ ≠ (.slice Ao18 t233.length co18 : Value).ownBlock) (.slice Ao49 x6_2.length co49) x6_2) := ⟨by rw [← hq_]; exact (Rz HO_6.out)⟩; have n2_ : Aside0 (wr.heap[gb230]? = some (.cells #[.int .i64 a0_0, .slice A0_1 l0_1.length c0_1, .int .i64 a0_2, .slice A0_3 l0_3.length c0_3, .string a0_4] 32 (0, 0))) := ⟨by rw [← hq_]; exact (Kz BK230.out)⟩; have n3_ : Aside0 (Below w.heap.size w wr) := ⟨by rw [← hq_]; exact (Bq)⟩; clear HO_27 HO_6 BK230 HB hq_; revert n0_ n1_ n2_ n3_; intro HO_27 HO_6 BK230 HB))) | ((with_reducible refine gate_callee (f := 54) rfl ?_); refine gL (some 46) Try.func54 #[.slice Ao49 x6_2.length co49] ?_; (with_reducible refine (spec_trOf.calls k2 _ _ x6_2 t243 t244 t247 t248 t251 _ ?side1 ?side2 A33.out).mono ?_); (case side1 => exact Cz ((Kd.R_reads' HO_6.out).2.2)); (case side2 => exact (Kd.R_reads' HO_6.out).2.1); rintro e w50 ⟨v245, v249, rfl, ho0, ho1, hb⟩; refine ⟨_, rfl, ?_⟩; have n0_ := Rb HO_6 hb; have n1_ := Rb HO_27 hb; have n2_ := Rm ho0 HB; have n3_ := Rm ho1 HB; have n4_ := Kb BK230 hb; have n5_ := Bc HB hb; clear HO_6 HO_27 BK230 HB; revert n0_ n1_ n2_ n3_ n4_ n5_; intro HO_6 HO_27 HO246 HO250 BK230 HB; (try clear hb); (try clear hb2); (try clear hk); (try clear hi); (try clear ho0); (try clear ho1)) | ((with_reducible refine gate_dst (N := 9) rfl ?_); refine bE 9 #[.int .i64 0, .slice none 0 0, .int .i64 0, .slice none 0 0, .string (⟨#[]⟩ : ByteArray)] 32 ?_; intro gb252 hg w51 hbox hb; have n0_ := Rb HO_6 hb; have n1_ := Rb HO_27 hb; have n2_ := Rb HO246 hb; have n3_ := Rb HO250 hb; have n4_ := Kb BK230 hb; have n5_ := Bc HB hb; have n6_ := am (hbox); have n7_ := Gm HB hg; have n8_ := Gm HB hg; have n9_ := Nl BK230 hg; have n10_ := Ng BK230 hg; clear HO_6 HO_27 HO246 HO250 BK230 HB; revert n0_ n1_ n2_ n3_ n4_ n5_ n6_ n7_ n8_ n9_ n10_; intro HO_6 HO_27 HO246 HO250 BK230 HB BK252 GW252 GE252 NB230_252 NB252_230; clear hb hbox hg; have hnb52 := NB252_230.out; have hnc52 := NB230_252.out; obtain ⟨hcz53_0, hcz53_1, hcz53_2, hcz53_3, hcz53_4, hfz53_0, hfz53_1, hfz53_2, hfz53_3, hfz53_4⟩ := cf5 (w := w51) BK252; obtain ⟨Ao54, co54, eo54⟩ := Kd.R_slice HO246.out; subst eo54; obtain ⟨Ao55, co55, eo55⟩ := Kd.R_slice HO250.out; subst eo55))
           have n0_ : Aside0 (Kd.R Kd.string 9 (((((w51.setCell ⟨gb252, 0, none⟩ (.int .i64 t243)).setCell ⟨gb252, 1, none⟩ (.slice Ao54 t244.length co54)).setCell ⟨gb252, 2, none⟩ (.int .i64 t247)).setCell ⟨gb252, 3, none⟩ (.slice Ao55 t248.length co55)).setCell ⟨gb252, 4, none⟩ (.string t251)) w.heap.size (fun k_ => some k_ ≠ (.slice Ao18 t233.length co18 : Value).ownBlock) (.slice Ao49 x6_2.length co49) x6_2) := ⟨Rz (Kd.R_mono (Kd.R_far (p := ⟨gb252, 4, none⟩) (Kd.R_far (p := ⟨gb252, 3, none⟩) (Kd.R_far (p := ⟨gb252, 2, none⟩) (Kd.R_far (p := ⟨gb252, 1, none⟩) (Kd.R_far (p := ⟨gb252, 0, none⟩) (Kd.R_types HO_6.out BK252.out (by decide)) (fun _ hk => hk.2) (.int .i64 t243)) (fun _ hk => hk.2) (.slice Ao54 t244.length co54)) (fun _ hk => hk.2) (.int .i64 t247)) (fun _ hk => hk.2) (.slice Ao55 t248.length co55)) (fun _ hk => hk.2) (.string t251)) (fun _ hk => hk.1))⟩; have n1_ : Aside0 (Kd.R Kd.string 9 (((((w51.setCell ⟨gb252, 0, none⟩ (.int .i64 t243)).setCell ⟨gb252, 1, none⟩ (.slice Ao54 t244.length co54)).setCell ⟨gb252, 2, none⟩ (.int .i64 t247)).setCell ⟨gb252, 3, none⟩ (.slice Ao55 t248.length co55)).setCell ⟨gb252, 4, none⟩ (.string t251)) w.heap.size (fun k_ => some k_ ≠ (.slice Ao49 x6_2.length co49 : Value).ownBlock) (.slice Ao18 t233.length co18) t233) := ⟨Rz (Kd.R_mono (Kd.R_far (p := ⟨gb252, 4, none⟩) (Kd.R_far (p := ⟨gb252, 3, none⟩) (Kd.R_far (p := ⟨gb252, 2, none⟩) (Kd.R_far (p := ⟨gb252, 1, none⟩) (Kd.R_far (p := ⟨gb252, 0, none⟩) (Kd.R_types HO_27.out BK252.out (by decide)) (fun _ hk => hk.2) (.int .i64 t243)) (fun _ hk => hk.2) (.slice Ao54 t244.length co54)) (fun _ hk => hk.2) (.int .i64 t247)) (fun _ hk => hk.2) (.slice Ao55 t248.length co55)) (fun _ hk => hk.2) (.string t251)) (fun _ hk => hk.1))⟩; have n2_ : Aside0 (Kd.R (Kd.int .i64) 3 (((((w51.setCell ⟨gb252, 0, none⟩ (.int .i64 t243)).setCell ⟨gb252, 1, none⟩ (.slice Ao54 t244.length co54)).setCell ⟨gb252, 2, none⟩ (.int .i64 t247)).setCell ⟨gb252, 3, none⟩ (.slice Ao55 t248.length co55)).setCell ⟨gb252, 4, none⟩ (.string t251)) w.heap.size (fun k_ => some k_ ≠ (.slice Ao55 t248.length co55 : Value).ownBlock) (.slice Ao54 t244.length co54) t244) := ⟨Rz (Kd.R_mono (Kd.R_far (p := ⟨gb252, 4, none⟩) (Kd.R_far (p := ⟨gb252, 3, none⟩) (Kd.R_far (p := ⟨gb252, 2, none⟩) (Kd.R_far (p := ⟨gb252, 1, none⟩) (Kd.R_far (p := ⟨gb252, 0, none⟩) (Kd.R_types HO246.out BK252.out (by decide)) (fun _ hk => hk.2) (.int .i64 t243)) (fun _ hk => hk.2) (.slice Ao54 t244.length co54)) (fun _ hk => hk.2) (.int .i64 t247)) (fun _ hk => hk.2) (.slice Ao55 t248.length co55)) (fun _ hk => hk.2) (.string t251)) (fun _ hk => hk.1))⟩; have n3_ : Aside0 (Kd.R (Kd.int .i64) 3 (((((w51.setCell ⟨gb252, 0, none⟩ (.int .i64 t243)).setCell ⟨gb252, 1, none⟩ (.slice Ao54 t244.length co54)).setCell ⟨gb252, 2, none⟩ (.int .i64 t247)).setCell ⟨gb252, 3, none⟩ (.slice Ao55 t248.length co55)).setCell ⟨gb252, 4, none⟩ (.string t251)) w.heap.size (fun k_ => some k_ ≠ (.slice Ao54 t244.length co54 : Value).ownBlock) (.slice Ao55 t248.length co55) t248) := ⟨Rz (Kd.R_mono (Kd.R_far (p := ⟨gb252, 4, none⟩) (Kd.R_far (p := ⟨gb252, 3, none⟩) (Kd.R_far (p := ⟨gb252, 2, none⟩) (Kd.R_far (p := ⟨gb252, 1, none⟩) (Kd.R_far (p := ⟨gb252, 0, none⟩) (Kd.R_types HO250.out BK252.out (by decide)) (fun _ hk => hk.2) (.int .i64 t243)) (fun _ hk => hk.2) (.slice Ao54 t244.length co54)) (fun _ hk => hk.2) (.int .i64 t247)) (fun _ hk => hk.2) (.slice Ao55 t248.length co55)) (fun _ hk => hk.2) (.string t251)) (fun _ hk => hk.1))⟩
           have n4_ : Aside0 ((((((w51.setCell ⟨gb252, 0, none⟩ (.int .i64 t243)).setCell ⟨gb252, 1, none⟩ (.slice Ao54 t244.length co54)).setCell ⟨gb252, 2, none⟩ (.int .i64 t247)).setCell ⟨gb252, 3, none⟩ (.slice Ao55 t248.length co55)).setCell ⟨gb252, 4, none⟩ (.string t251)).heap[gb230]? = some (.cells #[.int .i64 a0_0, .slice A0_1 l0_1.length c0_1, .int .i64 a0_2, .slice A0_3 l0_3.length c0_3, .string a0_4] 32 (0, 0))) := ⟨by (with_reducible repeat (first | refine blk_drewN ?_ _ | refine blk_drew ?_ | refine blk_alloc ?_ _)); refine blk_far ?_ NB230_252.out _; (with_reducible repeat (first | refine blk_drewN ?_ _ | refine blk_drew ?_ | refine blk_alloc ?_ _)); refine blk_far ?_ NB230_252.out _; (with_reducible repeat (first | refine blk_drewN ?_ _ | refine blk_drew ?_ | refine blk_alloc ?_ _)); refine blk_far ?_ NB230_252.out _; (with_reducible repeat (first | refine blk_drewN ?_ _ | refine blk_drew ?_ | refine blk_alloc ?_ _)); refine blk_far ?_ NB230_252.out _; (with_reducible repeat (first | refine blk_drewN ?_ _ | refine blk_drew ?_ | refine blk_alloc ?_ _)); refine blk_far ?_ NB230_252.out _; (with_reducible repeat (first | refine blk_drewN ?_ _ | refine blk_drew ?_ | refine blk_alloc ?_ _)); exact BK230.out⟩; have n5_ : Aside0 ((((((w51.setCell ⟨gb252, 0, none⟩ (.int .i64 t243)).setCell ⟨gb252, 1, none⟩ (.slice Ao54 t244.length co54)).setCell ⟨gb252, 2, none⟩ (.int .i64 t247)).setCell ⟨gb252, 3, none⟩ (.slice Ao55 t248.length co55)).setCell ⟨gb252, 4, none⟩ (.string t251)).heap[gb252]? = some (.cells #[.int .i64 t243, .slice Ao54 t244.length co54, .int .i64 t247, .slice Ao55 t248.length co55, .string t251] 32 (0, 0))) := ⟨by (with_reducible repeat (first | refine blk_drewN ?_ _ | refine blk_drew ?_ | refine blk_alloc ?_ _)); refine blk_put (cs := #[.int .i64 t243, .slice Ao54 t244.length co54, .int .i64 t247, .slice Ao55 t248.length co55, .string (⟨#[]⟩ : ByteArray)]) ?_ 4 _ rfl; (with_reducible repeat (first | refine blk_drewN ?_ _ | refine blk_drew ?_ | refine blk_alloc ?_ _)); refine blk_put (cs := #[.int .i64 t243, .slice Ao54 t244.length co54, .int .i64 t247, .slice none 0 0, .string (⟨#[]⟩ : ByteArray)]) ?_ 3 _ rfl; (with_reducible repeat (first | refine blk_drewN ?_ _ | refine blk_drew ?_ | refine blk_alloc ?_ _)); refine blk_put (cs := #[.int .i64 t243, .slice Ao54 t244.length co54, .int .i64 0, .slice none 0 0, .string (⟨#[]⟩ : ByteArray)]) ?_ 2 _ rfl; (with_reducible repeat (first | refine blk_drewN ?_ _ | refine blk_drew ?_ | refine blk_alloc ?_ _)); refine blk_put (cs := #[.int .i64 t243, .slice none 0 0, .int .i64 0, .slice none 0 0, .string (⟨#[]⟩ : ByteArray)]) ?_ 1 _ rfl; (with_reducible repeat (first | refine blk_drewN ?_ _ | refine blk_drew ?_ | refine blk_alloc ?_ _)); refine blk_put (cs := #[.int .i64 0, .slice none 0 0, .int .i64 0, .slice none 0 0, .string (⟨#[]⟩ : ByteArray)]) ?_ 0 _ rfl; (with_reducible repeat (first | refine blk_drewN ?_ _ | refine blk_drew ?_ | refine blk_alloc ?_ _)); exact BK252.out⟩; have n6_ : Aside0 (Below w.heap.size w (((((w51.setCell ⟨gb252, 0, none⟩ (.int .i64 t243)).setCell ⟨gb252, 1, none⟩ (.slice Ao54 t244.length co54)).setCell ⟨gb252, 2, none⟩ (.int .i64 t247)).setCell ⟨gb252, 3, none⟩ (.slice Ao55 t248.length co55)).setCell ⟨gb252, 4, none⟩ (.string t251))) := ⟨Bq⟩
           (try clear HO_6)
           (try clear HO_27)
           (try clear HO246)
           (try clear HO250)
           (try clear BK230)
           (try clear BK252)
           (try clear HB)
           generalize (((((w51.setCell ⟨gb252, 0, none⟩ (.int .i64 t243)).setCell ⟨gb252, 1, none⟩ (.slice Ao54 t244.length co54)).setCell ⟨gb252, 2, none⟩ (.int .i64 t247)).setCell ⟨gb252, 3, none⟩ (.slice Ao55 t248.length co55)).setCell ⟨gb252, 4, none⟩ (.string t251)) = w56 at n0_ n1_ n2_ n3_ n4_ n5_ n6_ ⊢; revert n0_ n1_ n2_ n3_ n4_ n5_ n6_; intro HO_6 HO_27 HO246 HO250 BK230 BK252 HB; have n0_ := am (Kd.R_drew HO_6.out); have n1_ := am (Kd.R_drew HO_27.out); have n2_ := am (Kd.R_drew HO246.out); have n3_ := am (Kd.R_drew HO250.out); have n4_ := am (blk_drew BK230.out); have n5_ := am (blk_drew BK252.out); have n6_ := am (below_drew1 HB.out); clear HO_6 HO_27 HO246 HO250 BK230 BK252 HB; revert n0_ n1_ n2_ n3_ n4_ n5_ n6_; intro HO_6 HO_27 HO246 HO250 BK230 BK252 HB; refine start_ (n := 22) (S := fun w' => w'.cell? ⟨gb230, 0, none⟩ = some (.int .i64 a0_0) ∧ w'.cell? ⟨gb230, 1, none⟩ = some (.slice A0_1 l0_1.length c0_1) ∧ w'.cell? ⟨gb230, 2, none⟩ = some (.int .i64 a0_2) ∧ w'.cell? ⟨gb230, 3, none⟩ = some (.slice A0_3 l0_3.length c0_3) ∧ w'.cell? ⟨gb230, 4, none⟩ = some (.string a0_4) ∧ w'.cell? ⟨gb252, 0, none⟩ = some (.int .i64 t243) ∧ w'.cell? ⟨gb252, 1, none⟩ = some (.slice Ao54 t244.length co54) ∧ w'.cell? ⟨gb252, 2, none⟩ = some (.int .i64 t247) ∧ w'.cell? ⟨gb252, 3, none⟩ = some (.slice Ao55 t248.length co55) ∧ w'.cell? ⟨gb252, 4, none⟩ = some (.string t251)) (ds := []) (bA 22 0) (by kernel_rfl) rfl rfl ⟨cz BK230 0, cz BK230 1, cz BK230 2, cz BK230 3, cz BK230 4, cz BK252 0, cz BK252 1, cz BK252 2, cz BK252 3, cz BK252 4⟩ (fun hHeld => ?_); refine with_tabW spec_trKeys.tab16 spec_trKeys.bits16 (fun HT_ HW_ => ?_); generalize w56.drew = w57 at HO_6 HO_27 HO246 HO250 BK230 BK252 HB hHeld ⊢; refine pZ 0 (some 47) (bA 22 1) HT_.out ?_; refine pZ 1 (some 48) (bA 22 3) HT_.out ?_; refine pZ 3 (some 50) (bA 22 11) HT_.out ?_; refine take_ (i := 2) (N := some 49) (v := ?_) (a' := ?_) (bA 22 15) rfl rfl (take_ofW HT_.out HW_.out (by kernel_rfl)) (fun _ _ _ h => h) (Or.inl ⟨by rfl, ?_⟩) hHeld ?_ ?_
           rotate_left
           ·rintro w' ⟨s0, s1, s2, s3, s4, s5, s6, s7, s8, s9⟩
            go_simp
            with_reducible rfl
           rotate_left
           ·simp only [aP, i64_w, i32_w]
            rfl
           refine take_ (i := 4) (N := some 51) (v := ?_) (a' := ?_) (bA 22 31) rfl rfl (take_ofW HT_.out HW_.out (by kernel_rfl)) (fun _ _ _ h => h) (Or.inl ⟨by rfl, ?_⟩) hHeld ?_ ?_
           rotate_left
           ·rintro w' ⟨s0, s1, s2, s3, s4, s5, s6, s7, s8, s9⟩
            go_simp
            with_reducible rfl
           rotate_left
           ·simp only [aP, i64_w, i32_w]
            rfl
           refine oZ 5 (some 52) (bA 22 63) HT_.out (fun K hK => ?_); refine gZ Try.func67 #[.agg #[.int .i64 a0_0, .slice A0_1 l0_1.length c0_1], .agg #[.int .i64 t243, .slice Ao54 t244.length co54]] ?_
           with_reducible refine (spec_biSame.calls k2 a0_0 _ _ l0_1 t243 _ _ t244 true _ ?side1 ?side2 ?side3 ?side4 A34.out).mono ?_
           (case side1 => exact Cz (Kd.C_below HR0_1.out HB.out))
           (case side2 => exact HC0_1.out)
           (case side3 => exact Cz ((Kd.R_reads' HO246.out).2.2))
           (case side4 => exact (Kd.R_reads' HO246.out).2.1)
           rintro e w58 ⟨rfl, hb⟩; refine ⟨_, rfl, ?_⟩; have n0_ := Rb HO_6 hb; have n1_ := Rb HO_27 hb; have n2_ := Rb HO246 hb; have n3_ := Rb HO250 hb; have n4_ := Kb BK230 hb; have n5_ := Kb BK252 hb; have n6_ := Bc HB hb; clear HO_6 HO_27 HO246 HO250 BK230 BK252 HB; revert n0_ n1_ n2_ n3_ n4_ n5_ n6_; intro HO_6 HO_27 HO246 HO250 BK230 BK252 HB
           (try clear hb)
           (try clear hb2)
           (try clear hk)
           (try clear hi)
           refine hK.out _ _ ⟨cz BK230 0, cz BK230 1, cz BK230 2, cz BK230 3, cz BK230 4, cz BK252 0, cz BK252 1, cz BK252 2, cz BK252 3, cz BK252 4⟩ (fun hHeld => ?_); clear hK K; refine norm_ (a' := ?_) ?_ ?_; rotate_left; show Act.put _ (some 52) _ = _; simp only [aP, i64_w, i32_w]; rfl; refine pZ 6 (some 53) (bA 22 127) HT_.out ?_; refine pZ 7 (some 54) (bA 22 255) HT_.out ?_; refine pZ 9 (some 56) (bA 22 767) HT_.out ?_; refine take_ (i := 8) (N := some 55) (v := ?_) (a' := ?_) (bA 22 1023) rfl rfl (take_ofW HT_.out HW_.out (by kernel_rfl)) (fun _ _ _ h => h) (Or.inl ⟨by rfl, ?_⟩) hHeld ?_ ?_
           rotate_left
           ·rintro w' ⟨s0, s1, s2, s3, s4, s5, s6, s7, s8, s9⟩
            go_simp
            with_reducible rfl
           rotate_left
           ·simp only [aP, i64_w, i32_w]
            rfl
           refine take_ (i := 10) (N := some 57) (v := ?_) (a' := ?_) (bA 22 2047) rfl rfl (take_ofW HT_.out HW_.out (by kernel_rfl)) (fun _ _ _ h => h) (Or.inl ⟨by rfl, ?_⟩) hHeld ?_ ?_
           rotate_left
           ·rintro w' ⟨s0, s1, s2, s3, s4, s5, s6, s7, s8, s9⟩
            go_simp
            with_reducible rfl
           rotate_left
           ·simp only [aP, i64_w, i32_w]
            rfl
           refine oZ 11 (some 58) (bA 22 4095) HT_.out (fun K hK => ?_); refine gZ Try.func67 #[.agg #[.int .i64 a0_2, .slice A0_3 l0_3.length c0_3], .agg #[.int .i64 t247, .slice Ao55 t248.length co55]] ?_
           with_reducible refine (spec_biSame.calls k2 a0_2 _ _ l0_3 t247 _ _ t248 false _ ?side1 ?side2 ?side3 ?side4 A36.out).mono ?_
           (case side1 => exact Cz (Kd.C_below HR0_3.out HB.out))
           (case side2 => exact HC0_3.out)
           (case side3 => exact Cz ((Kd.R_reads' HO250.out).2.2))
           (case side4 => exact (Kd.R_reads' HO250.out).2.1)
           rintro e w59 ⟨rfl, hb⟩; refine ⟨_, rfl, ?_⟩; have n0_ := Rb HO_6 hb; have n1_ := Rb HO_27 hb; have n2_ := Rb HO246 hb; have n3_ := Rb HO250 hb; have n4_ := Kb BK230 hb; have n5_ := Kb BK252 hb; have n6_ := Bc HB hb; clear HO_6 HO_27 HO246 HO250 BK230 BK252 HB; revert n0_ n1_ n2_ n3_ n4_ n5_ n6_; intro HO_6 HO_27 HO246 HO250 BK230 BK252 HB
           (try clear hb)
           (try clear hb2)
           (try clear hk)
           (try clear hi)
           refine hK.out _ _ ⟨cz BK230 0, cz BK230 1, cz BK230 2, cz BK230 3, cz BK230 4, cz BK252 0, cz BK252 1, cz BK252 2, cz BK252 3, cz BK252 4⟩ (fun hHeld => ?_); clear hK K; refine norm_ (a' := ?_) ?_ ?_; rotate_left; show Act.put _ (some 58) _ = _; simp only [aP, i64_w, i32_w]; rfl; refine pZ 12 (some 59) (bA 22 8191) HT_.out ?_; refine pZ 13 (some 60) (bA 22 16383) HT_.out ?_; refine sZ 14 (some 61) (bA 22 32767) HT_.out ?_; refine sZ 15 (some 62) (bA 22 65535) HT_.out ?_; refine sZ 16 (some 63) (bA 22 131071) HT_.out ?_; refine sZ 17 (some 64) (bA 22 262143) HT_.out ?_; refine sZ 18 (some 65) (bA 22 524287) HT_.out ?_; refine pZ 19 (some 66) (bA 22 1048575) HT_.out ?_; refine pZ 20 (some 2) (bA 22 2097151) HT_.out ?_; refine pZ 21 (some 3) (bA 22 4194303) HT_.out ?_; refine done_ (done_of HT_.out (by kernel_rfl)) ?_
           try go_wp2
           go_ret2
           exact ⟨_, eZ, Rz (Kd.R_mono HO_6.out (fun _ hk => trivial)), Bq⟩
         ·replace c35 := Bool.eq_false_iff.mpr c35
          subst c35
          rw [if_neg (show ¬ (false = true) by decide)] at H
          simp only [Option.some.injEq, Prod.mk.injEq] at H
          obtain ⟨rfl, rfl⟩ := H; obtain ⟨Ao60, co60, eo60⟩ := Kd.R_slice HO_6.out; subst eo60
          try go_wp2_with (first | ((with_reducible refine gate_callee (f := 53) rfl ?_); refine gL (some 43) Try.func53 #[.slice Ao60 x6_2.length co60] ?_; (with_reducible refine (spec_biKeys.calls k2 _ _ x6_2 true _ ?side1 ?side2 A31.out).mono ?_); (case side1 => exact Cz ((Kd.R_reads' HO_6.out).2.2)); (case side2 => exact (Kd.R_reads' HO_6.out).2.1); rintro e w' ⟨rfl, ⟨nd, rfl⟩⟩; refine ⟨_, rfl, ?_⟩; (try (rw [drewN_self wr]; generalize hq_ : World.drewN wr _ = wr; have n0_ : Aside0 (Kd.R Kd.string 9 wr w.heap.size (fun k_ => some k_ ≠ (.slice Ao60 x6_2.length co60 : Value).ownBlock) (.slice Ao18 t233.length co18) t233) := ⟨by rw [← hq_]; exact (Rz HO_27.out)⟩; have n1_ : Aside0 (Kd.R Kd.string 9 wr w.heap.size (fun k_ => some k_ ≠ (.slice Ao18 t233.length co18 : Value).ownBlock) (.slice Ao60 x6_2.length co60) x6_2) := ⟨by rw [← hq_]; exact (Rz HO_6.out)⟩; have n2_ : Aside0 (wr.heap[gb230]? = some (.cells #[.int .i64 a0_0, .slice A0_1 l0_1.length c0_1, .int .i64 a0_2, .slice A0_3 l0_3.length c0_3, .string a0_4] 32 (0, 0))) := ⟨by rw [← hq_]; exact (Kz BK230.out)⟩; have n3_ : Aside0 (Below w.heap.size w wr) := ⟨by rw [← hq_]; exact (Bq)⟩; clear HO_27 HO_6 BK230 HB hq_; revert n0_ n1_ n2_ n3_; intro HO_27 HO_6 BK230 HB))) | ((with_reducible refine gate_callee (f := 54) rfl ?_); refine gL (some 46) Try.func54 #[.slice Ao60 x6_2.length co60] ?_; (with_reducible refine (spec_trOf.calls k2 _ _ x6_2 t243 t244 t247 t248 t251 _ ?side1 ?side2 A33.out).mono ?_); (case side1 => exact Cz ((Kd.R_reads' HO_6.out).2.2)); (case side2 => exact (Kd.R_reads' HO_6.out).2.1); rintro e w61 ⟨v245, v249, rfl, ho0, ho1, hb⟩; refine ⟨_, rfl, ?_⟩; have n0_ := Rb HO_6 hb; have n1_ := Rb HO_27 hb; have n2_ := Rm ho0 HB; have n3_ := Rm ho1 HB; have n4_ := Kb BK230 hb; have n5_ := Bc HB hb; clear HO_6 HO_27 BK230 HB; revert n0_ n1_ n2_ n3_ n4_ n5_; intro HO_6 HO_27 HO246 HO250 BK230 HB; (try clear hb); (try clear hb2); (try clear hk); (try clear hi); (try clear ho0); (try clear ho1)) | ((with_reducible refine gate_dst (N := 9) rfl ?_); refine bE 9 #[.int .i64 0, .slice none 0 0, .int .i64 0, .slice none 0 0, .string (⟨#[]⟩ : ByteArray)] 32 ?_; intro gb252 hg w62 hbox hb; have n0_ := Rb HO_6 hb; have n1_ := Rb HO_27 hb; have n2_ := Rb HO246 hb; have n3_ := Rb HO250 hb; have n4_ := Kb BK230 hb; have n5_ := Bc HB hb; have n6_ := am (hbox); have n7_ := Gm HB hg; have n8_ := Gm HB hg; have n9_ := Nl BK230 hg; have n10_ := Ng BK230 hg; clear HO_6 HO_27 HO246 HO250 BK230 HB; revert n0_ n1_ n2_ n3_ n4_ n5_ n6_ n7_ n8_ n9_ n10_; intro HO_6 HO_27 HO246 HO250 BK230 HB BK252 GW252 GE252 NB230_252 NB252_230; clear hb hbox hg; have hnb63 := NB252_230.out; have hnc63 := NB230_252.out; obtain ⟨hcz64_0, hcz64_1, hcz64_2, hcz64_3, hcz64_4, hfz64_0, hfz64_1, hfz64_2, hfz64_3, hfz64_4⟩ := cf5 (w := w62) BK252; obtain ⟨Ao65, co65, eo65⟩ := Kd.R_slice HO246.out; subst eo65; obtain ⟨Ao66, co66, eo66⟩ := Kd.R_slice HO250.out; subst eo66))
          have n0_ : Aside0 (Kd.R Kd.string 9 (((((w62.setCell ⟨gb252, 0, none⟩ (.int .i64 t243)).setCell ⟨gb252, 1, none⟩ (.slice Ao65 t244.length co65)).setCell ⟨gb252, 2, none⟩ (.int .i64 t247)).setCell ⟨gb252, 3, none⟩ (.slice Ao66 t248.length co66)).setCell ⟨gb252, 4, none⟩ (.string t251)) w.heap.size (fun k_ => some k_ ≠ (.slice Ao18 t233.length co18 : Value).ownBlock) (.slice Ao60 x6_2.length co60) x6_2) := ⟨Rz (Kd.R_mono (Kd.R_far (p := ⟨gb252, 4, none⟩) (Kd.R_far (p := ⟨gb252, 3, none⟩) (Kd.R_far (p := ⟨gb252, 2, none⟩) (Kd.R_far (p := ⟨gb252, 1, none⟩) (Kd.R_far (p := ⟨gb252, 0, none⟩) (Kd.R_types HO_6.out BK252.out (by decide)) (fun _ hk => hk.2) (.int .i64 t243)) (fun _ hk => hk.2) (.slice Ao65 t244.length co65)) (fun _ hk => hk.2) (.int .i64 t247)) (fun _ hk => hk.2) (.slice Ao66 t248.length co66)) (fun _ hk => hk.2) (.string t251)) (fun _ hk => hk.1))⟩; have n1_ : Aside0 (Kd.R Kd.string 9 (((((w62.setCell ⟨gb252, 0, none⟩ (.int .i64 t243)).setCell ⟨gb252, 1, none⟩ (.slice Ao65 t244.length co65)).setCell ⟨gb252, 2, none⟩ (.int .i64 t247)).setCell ⟨gb252, 3, none⟩ (.slice Ao66 t248.length co66)).setCell ⟨gb252, 4, none⟩ (.string t251)) w.heap.size (fun k_ => some k_ ≠ (.slice Ao60 x6_2.length co60 : Value).ownBlock) (.slice Ao18 t233.length co18) t233) := ⟨Rz (Kd.R_mono (Kd.R_far (p := ⟨gb252, 4, none⟩) (Kd.R_far (p := ⟨gb252, 3, none⟩) (Kd.R_far (p := ⟨gb252, 2, none⟩) (Kd.R_far (p := ⟨gb252, 1, none⟩) (Kd.R_far (p := ⟨gb252, 0, none⟩) (Kd.R_types HO_27.out BK252.out (by decide)) (fun _ hk => hk.2) (.int .i64 t243)) (fun _ hk => hk.2) (.slice Ao65 t244.length co65)) (fun _ hk => hk.2) (.int .i64 t247)) (fun _ hk => hk.2) (.slice Ao66 t248.length co66)) (fun _ hk => hk.2) (.string t251)) (fun _ hk => hk.1))⟩; have n2_ : Aside0 (Kd.R (Kd.int .i64) 3 (((((w62.setCell ⟨gb252, 0, none⟩ (.int .i64 t243)).setCell ⟨gb252, 1, none⟩ (.slice Ao65 t244.length co65)).setCell ⟨gb252, 2, none⟩ (.int .i64 t247)).setCell ⟨gb252, 3, none⟩ (.slice Ao66 t248.length co66)).setCell ⟨gb252, 4, none⟩ (.string t251)) w.heap.size (fun k_ => some k_ ≠ (.slice Ao66 t248.length co66 : Value).ownBlock) (.slice Ao65 t244.length co65) t244) := ⟨Rz (Kd.R_mono (Kd.R_far (p := ⟨gb252, 4, none⟩) (Kd.R_far (p := ⟨gb252, 3, none⟩) (Kd.R_far (p := ⟨gb252, 2, none⟩) (Kd.R_far (p := ⟨gb252, 1, none⟩) (Kd.R_far (p := ⟨gb252, 0, none⟩) (Kd.R_types HO246.out BK252.out (by decide)) (fun _ hk => hk.2) (.int .i64 t243)) (fun _ hk => hk.2) (.slice Ao65 t244.length co65)) (fun _ hk => hk.2) (.int .i64 t247)) (fun _ hk => hk.2) (.slice Ao66 t248.length co66)) (fun _ hk => hk.2) (.string t251)) (fun _ hk => hk.1))⟩; have n3_ : Aside0 (Kd.R (Kd.int .i64) 3 (((((w62.setCell ⟨gb252, 0, none⟩ (.int .i64 t243)).setCell ⟨gb252, 1, none⟩ (.slice Ao65 t244.length co65)).setCell ⟨gb252, 2, none⟩ (.int .i64 t247)).setCell ⟨gb252, 3, none⟩ (.slice Ao66 t248.length co66)).setCell ⟨gb252, 4, none⟩ (.string t251)) w.heap.size (fun k_ => some k_ ≠ (.slice Ao65 t244.length co65 : Value).ownBlock) (.slice Ao66 t248.length co66) t248) := ⟨Rz (Kd.R_mono (Kd.R_far (p := ⟨gb252, 4, none⟩) (Kd.R_far (p := ⟨gb252, 3, none⟩) (Kd.R_far (p := ⟨gb252, 2, none⟩) (Kd.R_far (p := ⟨gb252, 1, none⟩) (Kd.R_far (p := ⟨gb252, 0, none⟩) (Kd.R_types HO250.out BK252.out (by decide)) (fun _ hk => hk.2) (.int .i64 t243)) (fun _ hk => hk.2) (.slice Ao65 t244.length co65)) (fun _ hk => hk.2) (.int .i64 t247)) (fun _ hk => hk.2) (.slice Ao66 t248.length co66)) (fun _ hk => hk.2) (.string t251)) (fun _ hk => hk.1))⟩
          have n4_ : Aside0 ((((((w62.setCell ⟨gb252, 0, none⟩ (.int .i64 t243)).setCell ⟨gb252, 1, none⟩ (.slice Ao65 t244.length co65)).setCell ⟨gb252, 2, none⟩ (.int .i64 t247)).setCell ⟨gb252, 3, none⟩ (.slice Ao66 t248.length co66)).setCell ⟨gb252, 4, none⟩ (.string t251)).heap[gb230]? = some (.cells #[.int .i64 a0_0, .slice A0_1 l0_1.length c0_1, .int .i64 a0_2, .slice A0_3 l0_3.length c0_3, .string a0_4] 32 (0, 0))) := ⟨by (with_reducible repeat (first | refine blk_drewN ?_ _ | refine blk_drew ?_ | refine blk_alloc ?_ _)); refine blk_far ?_ NB230_252.out _; (with_reducible repeat (first | refine blk_drewN ?_ _ | refine blk_drew ?_ | refine blk_alloc ?_ _)); refine blk_far ?_ NB230_252.out _; (with_reducible repeat (first | refine blk_drewN ?_ _ | refine blk_drew ?_ | refine blk_alloc ?_ _)); refine blk_far ?_ NB230_252.out _; (with_reducible repeat (first | refine blk_drewN ?_ _ | refine blk_drew ?_ | refine blk_alloc ?_ _)); refine blk_far ?_ NB230_252.out _; (with_reducible repeat (first | refine blk_drewN ?_ _ | refine blk_drew ?_ | refine blk_alloc ?_ _)); refine blk_far ?_ NB230_252.out _; (with_reducible repeat (first | refine blk_drewN ?_ _ | refine blk_drew ?_ | refine blk_alloc ?_ _)); exact BK230.out⟩; have n5_ : Aside0 ((((((w62.setCell ⟨gb252, 0, none⟩ (.int .i64 t243)).setCell ⟨gb252, 1, none⟩ (.slice Ao65 t244.length co65)).setCell ⟨gb252, 2, none⟩ (.int .i64 t247)).setCell ⟨gb252, 3, none⟩ (.slice Ao66 t248.length co66)).setCell ⟨gb252, 4, none⟩ (.string t251)).heap[gb252]? = some (.cells #[.int .i64 t243, .slice Ao65 t244.length co65, .int .i64 t247, .slice Ao66 t248.length co66, .string t251] 32 (0, 0))) := ⟨by (with_reducible repeat (first | refine blk_drewN ?_ _ | refine blk_drew ?_ | refine blk_alloc ?_ _)); refine blk_put (cs := #[.int .i64 t243, .slice Ao65 t244.length co65, .int .i64 t247, .slice Ao66 t248.length co66, .string (⟨#[]⟩ : ByteArray)]) ?_ 4 _ rfl; (with_reducible repeat (first | refine blk_drewN ?_ _ | refine blk_drew ?_ | refine blk_alloc ?_ _)); refine blk_put (cs := #[.int .i64 t243, .slice Ao65 t244.length co65, .int .i64 t247, .slice none 0 0, .string (⟨#[]⟩ : ByteArray)]) ?_ 3 _ rfl; (with_reducible repeat (first | refine blk_drewN ?_ _ | refine blk_drew ?_ | refine blk_alloc ?_ _)); refine blk_put (cs := #[.int .i64 t243, .slice Ao65 t244.length co65, .int .i64 0, .slice none 0 0, .string (⟨#[]⟩ : ByteArray)]) ?_ 2 _ rfl; (with_reducible repeat (first | refine blk_drewN ?_ _ | refine blk_drew ?_ | refine blk_alloc ?_ _)); refine blk_put (cs := #[.int .i64 t243, .slice none 0 0, .int .i64 0, .slice none 0 0, .string (⟨#[]⟩ : ByteArray)]) ?_ 1 _ rfl; (with_reducible repeat (first | refine blk_drewN ?_ _ | refine blk_drew ?_ | refine blk_alloc ?_ _)); refine blk_put (cs := #[.int .i64 0, .slice none 0 0, .int .i64 0, .slice none 0 0, .string (⟨#[]⟩ : ByteArray)]) ?_ 0 _ rfl; (with_reducible repeat (first | refine blk_drewN ?_ _ | refine blk_drew ?_ | refine blk_alloc ?_ _)); exact BK252.out⟩; have n6_ : Aside0 (Below w.heap.size w (((((w62.setCell ⟨gb252, 0, none⟩ (.int .i64 t243)).setCell ⟨gb252, 1, none⟩ (.slice Ao65 t244.length co65)).setCell ⟨gb252, 2, none⟩ (.int .i64 t247)).setCell ⟨gb252, 3, none⟩ (.slice Ao66 t248.length co66)).setCell ⟨gb252, 4, none⟩ (.string t251))) := ⟨Bq⟩
          (try clear HO_6)
          (try clear HO_27)
          (try clear HO246)
          (try clear HO250)
          (try clear BK230)
          (try clear BK252)
          (try clear HB)
          generalize (((((w62.setCell ⟨gb252, 0, none⟩ (.int .i64 t243)).setCell ⟨gb252, 1, none⟩ (.slice Ao65 t244.length co65)).setCell ⟨gb252, 2, none⟩ (.int .i64 t247)).setCell ⟨gb252, 3, none⟩ (.slice Ao66 t248.length co66)).setCell ⟨gb252, 4, none⟩ (.string t251)) = w67 at n0_ n1_ n2_ n3_ n4_ n5_ n6_ ⊢; revert n0_ n1_ n2_ n3_ n4_ n5_ n6_; intro HO_6 HO_27 HO246 HO250 BK230 BK252 HB; have n0_ := am (Kd.R_drew HO_6.out); have n1_ := am (Kd.R_drew HO_27.out); have n2_ := am (Kd.R_drew HO246.out); have n3_ := am (Kd.R_drew HO250.out); have n4_ := am (blk_drew BK230.out); have n5_ := am (blk_drew BK252.out); have n6_ := am (below_drew1 HB.out); clear HO_6 HO_27 HO246 HO250 BK230 BK252 HB; revert n0_ n1_ n2_ n3_ n4_ n5_ n6_; intro HO_6 HO_27 HO246 HO250 BK230 BK252 HB; refine start_ (n := 22) (S := fun w' => w'.cell? ⟨gb230, 0, none⟩ = some (.int .i64 a0_0) ∧ w'.cell? ⟨gb230, 1, none⟩ = some (.slice A0_1 l0_1.length c0_1) ∧ w'.cell? ⟨gb230, 2, none⟩ = some (.int .i64 a0_2) ∧ w'.cell? ⟨gb230, 3, none⟩ = some (.slice A0_3 l0_3.length c0_3) ∧ w'.cell? ⟨gb230, 4, none⟩ = some (.string a0_4) ∧ w'.cell? ⟨gb252, 0, none⟩ = some (.int .i64 t243) ∧ w'.cell? ⟨gb252, 1, none⟩ = some (.slice Ao65 t244.length co65) ∧ w'.cell? ⟨gb252, 2, none⟩ = some (.int .i64 t247) ∧ w'.cell? ⟨gb252, 3, none⟩ = some (.slice Ao66 t248.length co66) ∧ w'.cell? ⟨gb252, 4, none⟩ = some (.string t251)) (ds := []) (bA 22 0) (by kernel_rfl) rfl rfl ⟨cz BK230 0, cz BK230 1, cz BK230 2, cz BK230 3, cz BK230 4, cz BK252 0, cz BK252 1, cz BK252 2, cz BK252 3, cz BK252 4⟩ (fun hHeld => ?_); refine with_tabW spec_trKeys.tab16 spec_trKeys.bits16 (fun HT_ HW_ => ?_); generalize w67.drew = w68 at HO_6 HO_27 HO246 HO250 BK230 BK252 HB hHeld ⊢; refine pZ 0 (some 47) (bA 22 1) HT_.out ?_; refine pZ 1 (some 48) (bA 22 3) HT_.out ?_; refine pZ 3 (some 50) (bA 22 11) HT_.out ?_; refine take_ (i := 2) (N := some 49) (v := ?_) (a' := ?_) (bA 22 15) rfl rfl (take_ofW HT_.out HW_.out (by kernel_rfl)) (fun _ _ _ h => h) (Or.inl ⟨by rfl, ?_⟩) hHeld ?_ ?_
          rotate_left
          ·rintro w' ⟨s0, s1, s2, s3, s4, s5, s6, s7, s8, s9⟩
           go_simp
           with_reducible rfl
          rotate_left
          ·simp only [aP, i64_w, i32_w]
           rfl
          refine take_ (i := 4) (N := some 51) (v := ?_) (a' := ?_) (bA 22 31) rfl rfl (take_ofW HT_.out HW_.out (by kernel_rfl)) (fun _ _ _ h => h) (Or.inl ⟨by rfl, ?_⟩) hHeld ?_ ?_
          rotate_left
          ·rintro w' ⟨s0, s1, s2, s3, s4, s5, s6, s7, s8, s9⟩
           go_simp
           with_reducible rfl
          rotate_left
          ·simp only [aP, i64_w, i32_w]
           rfl
          refine oZ 5 (some 52) (bA 22 63) HT_.out (fun K hK => ?_); refine gZ Try.func67 #[.agg #[.int .i64 a0_0, .slice A0_1 l0_1.length c0_1], .agg #[.int .i64 t243, .slice Ao65 t244.length co65]] ?_
          with_reducible refine (spec_biSame.calls k2 a0_0 _ _ l0_1 t243 _ _ t244 false _ ?side1 ?side2 ?side3 ?side4 A34.out).mono ?_
          (case side1 => exact Cz (Kd.C_below HR0_1.out HB.out))
          (case side2 => exact HC0_1.out)
          (case side3 => exact Cz ((Kd.R_reads' HO246.out).2.2))
          (case side4 => exact (Kd.R_reads' HO246.out).2.1)
          rintro e w69 ⟨rfl, hb⟩; refine ⟨_, rfl, ?_⟩; have n0_ := Rb HO_6 hb; have n1_ := Rb HO_27 hb; have n2_ := Rb HO246 hb; have n3_ := Rb HO250 hb; have n4_ := Kb BK230 hb; have n5_ := Kb BK252 hb; have n6_ := Bc HB hb; clear HO_6 HO_27 HO246 HO250 BK230 BK252 HB; revert n0_ n1_ n2_ n3_ n4_ n5_ n6_; intro HO_6 HO_27 HO246 HO250 BK230 BK252 HB
          (try clear hb)
          (try clear hb2)
          (try clear hk)
          (try clear hi)
          refine hK.out _ _ ⟨cz BK230 0, cz BK230 1, cz BK230 2, cz BK230 3, cz BK230 4, cz BK252 0, cz BK252 1, cz BK252 2, cz BK252 3, cz BK252 4⟩ (fun hHeld => ?_); clear hK K; refine norm_ (a' := ?_) ?_ ?_; rotate_left; show Act.put _ (some 52) _ = _; simp only [aP, i64_w, i32_w]; rfl; refine pZ 6 (some 53) (bA 22 127) HT_.out ?_; refine sZ 7 (some 54) (bA 22 255) HT_.out ?_; refine sZ 8 (some 55) (bA 22 511) HT_.out ?_; refine sZ 9 (some 56) (bA 22 1023) HT_.out ?_; refine sZ 10 (some 57) (bA 22 2047) HT_.out ?_; refine sZ 11 (some 58) (bA 22 4095) HT_.out ?_; refine pZ 12 (some 59) (bA 22 8191) HT_.out ?_; refine pZ 13 (some 60) (bA 22 16383) HT_.out ?_; refine sZ 14 (some 61) (bA 22 32767) HT_.out ?_; refine sZ 15 (some 62) (bA 22 65535) HT_.out ?_; refine sZ 16 (some 63) (bA 22 131071) HT_.out ?_; refine sZ 17 (some 64) (bA 22 262143) HT_.out ?_; refine sZ 18 (some 65) (bA 22 524287) HT_.out ?_; refine pZ 19 (some 66) (bA 22 1048575) HT_.out ?_; refine pZ 20 (some 2) (bA 22 2097151) HT_.out ?_; refine pZ 21 (some 3) (bA 22 4194303) HT_.out ?_; refine done_ (done_of HT_.out (by kernel_rfl)) ?_
          try go_wp2
          go_ret2
          exact ⟨_, eZ, Rz (Kd.R_mono HO_6.out (fun _ hk => trivial)), Bq⟩
        ·replace c32 := Bool.eq_false_iff.mpr c32
         subst c32
         rw [if_neg (show ¬ (false = true) by decide)] at H
         simp only [Option.some.injEq, Prod.mk.injEq] at H
         obtain ⟨rfl, rfl⟩ := H; obtain ⟨Ao70, co70, eo70⟩ := Kd.R_slice HO_6.out; subst eo70
         go_wp2_with (first | ((with_reducible refine gate_callee (f := 53) rfl ?_); refine gL (some 43) Try.func53 #[.slice Ao70 x6_2.length co70] ?_; (with_reducible refine (spec_biKeys.calls k2 _ _ x6_2 false _ ?side1 ?side2 A31.out).mono ?_); (case side1 => exact Cz ((Kd.R_reads' HO_6.out).2.2)); (case side2 => exact (Kd.R_reads' HO_6.out).2.1); rintro e w' ⟨rfl, ⟨nd, rfl⟩⟩; refine ⟨_, rfl, ?_⟩))
         go_ret2
         exact ⟨_, eZ, nZ, Bq⟩
    ·replace c15 := Bool.eq_false_iff.mpr c15
     subst c15
     rw [if_neg (show ¬ (false = true) by decide)] at H
     simp only [Option.some.injEq, Prod.mk.injEq] at H
     obtain ⟨rfl, rfl⟩ := H; obtain ⟨hcz71_0, hcz71_1, hcz71_2, hcz71_3, hcz71_4, hfz71_0, hfz71_1, hfz71_2, hfz71_3, hfz71_4⟩ := cf5 (w := wc) BK230
     go_wp2_with (first | ((with_reducible refine gate_callee (f := 64) rfl ?_); refine gL (some 22) Try.func64 #[.agg #[.int .i64 a0_0, .slice A0_1 l0_1.length c0_1, .int .i64 a0_2, .slice A0_3 l0_3.length c0_3, .string a0_4]] ?_; (with_reducible refine (spec_trPaths.calls kj1 a0_0 _ _ l0_1 a0_2 _ _ l0_3 a0_4 t233 false _ ?side1 ?side2 ?side3 ?side4 A14.out).mono ?_); (case side1 => exact Cz (Kd.C_below HR0_1.out HB.out)); (case side2 => exact HC0_1.out); (case side3 => exact Cz (Kd.C_below HR0_3.out HB.out)); (case side4 => exact HC0_3.out); rintro e w72 ⟨v234, rfl, ho0, hb⟩; refine ⟨_, rfl, ?_⟩; have n0_ := Rm ho0 HB; have n1_ := Kb BK230 hb; have n2_ := Bc HB hb; clear BK230 HB; revert n0_ n1_ n2_; intro HO235 BK230 HB; (try clear hb); (try clear hb2); (try clear hk); (try clear hi); (try clear ho0)))
     go_ret2
     exact ⟨_, eZ, nZ, Bq⟩

def laws_toIntS.l0 : Nat → List Int → List Int → Int → Option (List Int)
 | 0, _, _, _ => none
 | k + 1, x0, x3, x4 => if x4 < (x0.length : Int) then (if 0 ≤ x4 then (if x4 < (x3.length : Int) then (laws_toIntS.l0 k x0 (x3.set (x4 : Int).toNat (rd x0 x4)) (wrap64 (x4 + 1))) else (none)) else (none)) else (some x3)
def laws_toIntS.f (k : Nat) (l0 : List Int) : Option (List Int) := if 0 ≤ (l0.length : Int) then (if ((l0.length : Int) : Int).toNat ≤ 35184372088832 then (laws_toIntS.l0 k l0 (List.replicate ((l0.length : Int) : Int).toNat 0) 0) else (none)) else (none)
theorem laws_toIntS.mono_l : ∀ k, (∀ y0 y1 y2, LeO (laws_toIntS.l0 k y0 y1 y2) (laws_toIntS.l0 (k + 1) y0 y1 y2))
 | 0 => fun _ _ _ r h => by simp [laws_toIntS.l0] at h
 | k + 1 => by
  have ih0 := laws_toIntS.mono_l k
  ·intro y0 y1 y2
   unfold laws_toIntS.l0
   repeat' first | (with_reducible first | exact ih0 _ _ _ | exact LeO.refl _ | exact LeO.none _ | refine LeO.ite ?_ ?_ | refine LeO.bind ?_ (fun _ => ?_)) | exact LeO.none _ | refine LeO.ite ?_ ?_ | refine LeO.bind ?_ (fun _ => ?_)
theorem laws_toIntS.mono : ∀ a0 k, LeO (laws_toIntS.f k a0) (laws_toIntS.f (k + 1) a0) := by
 intro a0 k; have ih0 := laws_toIntS.mono_l k
 unfold laws_toIntS.f
 repeat' first | (with_reducible first | exact ih0 _ _ _ | exact LeO.refl _ | exact LeO.none _ | refine LeO.ite ?_ ?_ | refine LeO.bind ?_ (fun _ => ?_)) | exact LeO.none _ | refine LeO.ite ?_ ?_ | refine LeO.bind ?_ (fun _ => ?_)
theorem laws_toIntS.calls (k : Nat) (A0 : Option Addr) (c0 : Nat) (l0 : List Int) (r : List Int) (w : World) (hr0 : Kd.C (Kd.int .i64) w A0 l0.length l0) (hc0 : l0.length ≤ c0) (h : laws_toIntS.f k l0 = some r) :
  Calls Try.prog 68 #[.slice A0 l0.length c0] w fun e w' => ∃ v0_ : Value, e = .returned (v0_) ∧ Kd.R (Kd.int .i64) 3 w' w.heap.size (fun _ => True) v0_ r ∧ Below w.heap.size w w' := by
 have HR0 := am hr0; have HC0 := am hc0; clear hr0 hc0; have HB := am (Below.refl w.heap.size w); have H : (if 0 ≤ (l0.length : Int) then (if ((l0.length : Int) : Int).toNat ≤ 35184372088832 then (laws_toIntS.l0 k l0 (List.replicate ((l0.length : Int) : Int).toNat 0) 0) else (none)) else (none)) = some r := h; clear h
 by_cases c2 : 0 ≤ (l0.length : Int)
 ·rw [if_pos c2] at H
  have c2b0 := eq_true c2; have c2b1 : decide (0 ≤ (l0.length : Int)) = true := decide_eq_true c2; clear c2
  by_cases c3 : ((l0.length : Int) : Int).toNat ≤ 35184372088832
  ·rw [if_pos c3] at H
   have c3b0 := eq_true c3; have c3b1 : decide (((l0.length : Int) : Int).toNat ≤ 35184372088832) = true := decide_eq_true c3; clear c3; obtain ⟨y262, hy262⟩ : ∃ y_ : List Int, y_ = (List.replicate ((l0.length : Int) : Int).toNat 0) := ⟨_, rfl⟩
   replace H : (laws_toIntS.l0 k l0 y262 0) = some r := by first | (rw [hy262]; with_reducible exact H) | (have H2_ := (Option.bind_some _ _).symm.trans H; rw [hy262]; with_reducible exact H2_) | (have H2_ := (Option.bind_some _ _).symm.trans H; with_reducible exact H2_) | with_reducible exact H | (rw [hy262]; exact H) | exact H
   have Ny262 := am hy262; clear hy262; have H' := am H; clear H
   go_enter Try.func68, Try.ntmps68
   go_wp2_with (first | ((with_reducible refine gate_dst (N := 7) rfl ?_); refine Kd.R_make (Kd.int .i64) _ 3 rfl (N := 7) rfl 22 _ _ rfl (l0.length : Int) rfl rfl Try.underlying22 (.int .i64 0) 8 info3 rfl (by decide) (by omega) 0 (ok := fun _ => True) (okp := fun _ => True) rfl (fun _ hk => hk) trivial (dT) (Nat.le_trans (Nat.mul_le_mul_right _ (dT : (l0.length : Int).toNat ≤ 35184372088832)) (by omega)) (Below.refl _ _) (Nat.le_refl _) ?_; intro v263 w4 ho5 hb hg_ hnew_; clear hg_ hnew_; (first | rw [← Ny262.out] at ho5 | (simp only [Int.reduceToNat] at ho5; rw [← Ny262.out] at ho5)); have n0_ := Rl ho5 HB; have n1_ := Bb HB hb; clear HB; revert n0_ n1_; intro HO264 HB; clear hb ho5))
   (try simp only [aP])
   go_loopg [4] k (fun kq v4 w' => ∃ (x3_1 : List Int) (x4_1 : Int), v4 = .int .i64 x4_1 ∧ Aside0 (laws_toIntS.l0 kq l0 x3_1 x4_1 = some r) ∧ Aside0 (kq ≤ k) ∧ Aside0 (Kd.R (Kd.int .i64) 3 w' w.heap.size (fun _ => True) v263 x3_1) ∧ Aside0 (Below w.heap.size w w'))
   case atStart => exact ⟨(y262), (0), wZ, H', ⟨Nat.le_refl _⟩, ⟨Rz HO264.out⟩, ⟨Bz HB.out⟩⟩
   case round =>
    clear H'
    try clear c2
    try clear c2b0
    try clear c2b1
    try clear p2
    try clear c3
    try clear c3b0
    try clear c3b1
    obtain ⟨x3_1, x4_1, rfl, HA, HK1, HO_3, HB⟩ := hrel; cases gk with
    | zero => exact absurd HA.out (by simp [laws_toIntS.l0])
    | succ k1 =>
     have H := HA.out; clear HA
     simp only [laws_toIntS.l0] at H
     by_cases c6 : x4_1 < (l0.length : Int)
     ·rw [if_pos c6] at H
      have c6b0 : decide (x4_1 < (l0.length : Int)) = true := decide_eq_true c6; clear c6
      by_cases c7 : 0 ≤ x4_1
      ·rw [if_pos c7] at H
       have c7b0 : decide (0 ≤ x4_1) = true := decide_eq_true c7; clear c7
       by_cases c8 : x4_1 < (x3_1.length : Int)
       ·rw [if_pos c8] at H
        have c8b0 : decide (x4_1 < (x3_1.length : Int)) = true := decide_eq_true c8; clear c8; obtain ⟨y266, hy266⟩ : ∃ y_ : List Int, y_ = (x3_1.set (x4_1 : Int).toNat (rd l0 x4_1)) := ⟨_, rfl⟩
        replace H : (laws_toIntS.l0 k1 l0 y266 (wrap64 (x4_1 + 1))) = some r := by first | (rw [hy266]; with_reducible exact H) | (have H2_ := (Option.bind_some _ _).symm.trans H; rw [hy266]; with_reducible exact H2_) | (have H2_ := (Option.bind_some _ _).symm.trans H; with_reducible exact H2_) | with_reducible exact H | (rw [hy266]; exact H) | exact H
        have Ny266 := am hy266; clear hy266; have H' := am H; clear H; have p265 : 0 ≤ (x4_1 : Int) := dT; have q265 : x4_1 < (l0.length : Int) := dT; obtain ⟨ad265, e265, hx265_0⟩ := Kd.at_int HR0.out x4_1 p265 q265; cases e265; replace hx265_0 := (HB.out.cell (World.block_lt_of_cell? w _ hx265_0)).trans hx265_0; replace p265 := eq_true p265; replace q265 := eq_true q265; have p9 : 0 ≤ (x4_1 : Int) := dT; have q9 : (x4_1 : Int) < ((x3_1.length : Int) : Int) := dT; obtain ⟨go9, co9, eo9, gb9, gl9, cl9, HG9⟩ := Kd.R_form HO_3.out (by omega)
        (first | cases eo9 | (injection eo9 with ea_ en_ ec_; (first | subst ea_ | (injection ea_ with ea_; subst ea_)); subst ec_; clear en_))
        have GB9 := am gb9; have GG9 := am HG9; clear gb9 gl9 HG9; obtain ⟨hx9_0, hf9_0⟩ := Kd.R_celln 0 HO_3.out (x4_1 : Int) p9 q9; replace p9 := eq_true p9; replace q9 := eq_true q9; have HP10 := Kd.R_putg HO_3.out (x4_1 : Int) (rd l0 x4_1)
        go_wp2_with (first | ((with_reducible refine gate_store (t := 3) (p := 20) rfl ?_); refine store_event (t := 3) (p := 20) (v := ?vo_w11) (w1 := (wr.setCell ⟨go9, (x4_1 : Int).toNat, none⟩ (.int .i64 (rd l0 x4_1)))) ?hg ?ho ?hn ?hr ?_; (case ho => rfl); (case hg => rfl); (case hn => rfl); (case hr => first | (go_simp; done) | (go_simp; rfl)); intro w11 hw; have hg : wr.grownBy w11 (some go9) := (by rw [hw]; exact HP10.2); have hp_ : Kd.R (Kd.int .i64) 3 w11 w.heap.size (fun _ => True) (.slice (some ⟨go9, 0, none⟩) x3_1.length co9) y266 := (by rw [hw, Ny266.out]; exact HP10.1); clear HP10; have n0_ := am (hp_); have n1_ := am ((by rw [hw]; exact below_set (HB.out) GB9.out : Below w.heap.size w w11)); clear HO_3 HB; revert n0_ n1_; intro HO_3 HB; clear hg hw hp_))
        go_roundg k1
        case measure => have := HK1.out; omega
        case rel => exact ⟨(y266), (wrap64 (x4_1 + 1)), wZ, H', ⟨by have := HK1.out; omega⟩, ⟨Rz HO_3.out⟩, ⟨Bz HB.out⟩⟩
       ·rw [if_neg c8] at H
        exact absurd H (by simp)
      ·rw [if_neg c7] at H
       exact absurd H (by simp)
     ·rw [if_neg c6] at H
      have c6b0 : decide (x4_1 < (l0.length : Int)) = false := decide_eq_false c6; clear c6; obtain rfl := Option.some.inj H
      go_wp2
      go_ret
      exact ⟨_, eZ, Rz HO_3.out, Bz HB.out⟩
  ·rw [if_neg c3] at H
   exact absurd H (by simp)
 ·rw [if_neg c2] at H
  exact absurd H (by simp)

def laws_toBits.f (k : Nat) (a0_0 : Int) (l0_1 : List Int) : Option (Int × List Int) := (laws_toIntS.f k l0_1).bind fun t270 => (some (a0_0, t270))
theorem laws_toBits.mono : ∀ a0 a1 k, LeO (laws_toBits.f k a0 a1) (laws_toBits.f (k + 1) a0 a1) := by
 intro a0 a1 k
 unfold laws_toBits.f
 repeat' first | (with_reducible first | exact laws_toIntS.mono _ _ | exact LeO.refl _ | exact LeO.none _ | refine LeO.ite ?_ ?_ | refine LeO.bind ?_ (fun _ => ?_)) | exact LeO.none _ | refine LeO.ite ?_ ?_ | refine LeO.bind ?_ (fun _ => ?_)
theorem laws_toBits.calls (k : Nat) (a0_0 : Int) (A0_1 : Option Addr) (c0_1 : Nat) (l0_1 : List Int) (r1 : Int) (r2 : List Int) (w : World) (hr0_1 : Kd.C (Kd.int .i64) w A0_1 l0_1.length l0_1) (hc0_1 : l0_1.length ≤ c0_1) (h : laws_toBits.f k a0_0 l0_1 = some (r1, r2)) :
  Calls Try.prog 42 #[.agg #[.int .i64 a0_0, .slice A0_1 l0_1.length c0_1]] w fun e w' => ∃ v1_ : Value, e = .returned (.agg #[.int .i64 r1, v1_]) ∧ Kd.R (Kd.int .i64) 3 w' w.heap.size (fun _ => True) v1_ r2 ∧ Below w.heap.size w w' := by
 have hu24 := Try.underlying24; have hu30 := Try.underlying30; have HR0_1 := am hr0_1; have HC0_1 := am hc0_1; clear hr0_1 hc0_1; have HB := am (Below.refl w.heap.size w); have H : ((laws_toIntS.f k l0_1).bind fun t270 => (some (a0_0, t270))) = some (r1, r2) := h; clear h; replace H := Option.bind_eq_some_iff.mp H; obtain ⟨t270, A20, H⟩ := H; (try dsimp -simprocs only at H); have A2 := am A20; clear A20
 simp only [Option.some.injEq, Prod.mk.injEq] at H
 obtain ⟨rfl, rfl⟩ := H
 go_enter Try.func42, Try.ntmps42
 go_wp2_with (first | ((with_reducible refine gate_dst (N := 1) rfl ?_); refine bE 1 #[.int .i64 a0_0, .slice A0_1 l0_1.length c0_1] 24 ?_; intro gb267 hg w3 hbox hb; have n0_ := Bb HB hb; have n1_ := am (hbox); have n2_ := Gl HB hg; have n3_ := Gl HB hg; clear HB; revert n0_ n1_ n2_ n3_; intro HB BK267 GW267 GE267; clear hb hbox hg) | ((with_reducible refine gate_dst (N := 2) rfl ?_); refine bE 2 #[.int .i64 0, .slice none 0 0] 30 ?_; intro gb268 hg w4 hbox hb; have n0_ := Kb BK267 hb; have n1_ := Bc HB hb; have n2_ := am (hbox); have n3_ := Gm HB hg; have n4_ := Gm HB hg; have n5_ := Nl BK267 hg; have n6_ := Ng BK267 hg; clear BK267 HB; revert n0_ n1_ n2_ n3_ n4_ n5_ n6_; intro BK267 HB BK268 GW268 GE268 NB267_268 NB268_267; clear hb hbox hg) | ((with_reducible refine gate_dst (N := 3) rfl ?_); refine bE 3 #[.int .i64 0, .slice none 0 0] 30 ?_; intro gb269 hg w5 hbox hb; have n0_ := Kb BK267 hb; have n1_ := Kb BK268 hb; have n2_ := Bc HB hb; have n3_ := am (hbox); have n4_ := Gm HB hg; have n5_ := Gm HB hg; have n6_ := Nl BK267 hg; have n7_ := Ng BK267 hg; have n8_ := Nl BK268 hg; have n9_ := Ng BK268 hg; clear BK267 BK268 HB; revert n0_ n1_ n2_ n3_ n4_ n5_ n6_ n7_ n8_ n9_; intro BK267 BK268 HB BK269 GW269 GE269 NB267_269 NB269_267 NB268_269 NB269_268; clear hb hbox hg; have hnb6 := NB267_268.out; have hnc6 := NB268_267.out; have hnb7 := NB267_269.out; have hnc7 := NB269_267.out; obtain ⟨hcz8_0, hcz8_1, hfz8_0, hfz8_1⟩ := cf2 (w := w5) BK267; have hnb9 := NB269_268.out; have hnc9 := NB268_269.out; obtain ⟨hcz10_0, hcz10_1, hfz10_0, hfz10_1⟩ := cf2 (w := w5) BK269) | ((with_reducible refine gate_callee (f := 68) rfl ?_); refine gL (some 9) Try.func68 #[.slice A0_1 l0_1.length c0_1] ?_; (with_reducible refine (laws_toIntS.calls k _ _ l0_1 t270 _ ?side1 ?side2 A2.out).mono ?_); (case side1 => exact Kd.C_below HR0_1.out (Bq)); (case side2 => exact HC0_1.out); rintro e w11 ⟨v271, rfl, ho0, hb⟩; refine ⟨_, rfl, ?_⟩; have n0_ := Rm ho0 HB; have n1_ := am (blk_below (g := gb267) (o := .cells #[.int .i64 a0_0, .slice A0_1 l0_1.length c0_1] 24 (0, 0)) (by (with_reducible repeat (first | refine blk_drewN ?_ _ | refine blk_drew ?_ | refine blk_alloc ?_ _)); refine blk_far ?_ NB267_269.out _; exact Kz BK267.out) hb); have n2_ := am (blk_below (g := gb268) (o := .cells #[.int .i64 0, .slice none 0 0] 30 (0, 0)) (by (with_reducible repeat (first | refine blk_drewN ?_ _ | refine blk_drew ?_ | refine blk_alloc ?_ _)); refine blk_far ?_ NB268_269.out _; exact Kz BK268.out) hb); have n3_ := am (blk_below (g := gb269) (o := .cells #[.int .i64 a0_0, .slice none 0 0] 30 (0, 0)) (by (with_reducible repeat (first | refine blk_drewN ?_ _ | refine blk_drew ?_ | refine blk_alloc ?_ _)); refine blk_put (cs := #[.int .i64 0, .slice none 0 0]) ?_ 0 _ rfl; exact Kz BK269.out) hb); have n4_ := Bc HB hb; clear BK267 BK268 BK269 HB; revert n0_ n1_ n2_ n3_ n4_; intro HO272 BK267 BK268 BK269 HB; (try clear hb); (try clear hb2); (try clear hk); (try clear hi); (try clear ho0); obtain ⟨Ao12, co12, eo12⟩ := Kd.R_slice HO272.out; subst eo12; obtain ⟨hcz13_0, hcz13_1, hfz13_0, hfz13_1⟩ := cf2 (w := w11) BK269; obtain ⟨hcz14_0, hcz14_1, hfz14_0, hfz14_1⟩ := cf2 (w := w11) BK268))
 refine bodyPost_ret (results_cell_row rfl _ _ gb268 30 #[.int .i64 a0_0, .slice Ao12 t270.length co12] (0, 0) _ rfl (by (with_reducible repeat (first | refine blk_drewN ?_ _ | refine blk_drew ?_ | refine blk_alloc ?_ _)); refine blk_put (cs := #[.int .i64 a0_0, .slice none 0 0]) ?_ 1 _ rfl; (with_reducible repeat (first | refine blk_drewN ?_ _ | refine blk_drew ?_ | refine blk_alloc ?_ _)); refine blk_put (cs := #[.int .i64 0, .slice none 0 0]) ?_ 0 _ rfl; (with_reducible repeat (first | refine blk_drewN ?_ _ | refine blk_drew ?_ | refine blk_alloc ?_ _)); refine blk_far ?_ NB268_269.out _; exact Kz BK268.out) Try.underlying30 rfl (by kernel_rfl)) rfl ?_; exact ⟨_, eZ, Rz (Kd.R_mono (Kd.R_far (p := ⟨gb268, 1, none⟩) (Kd.R_far (p := ⟨gb268, 0, none⟩) (Kd.R_far (p := ⟨gb269, 1, none⟩) (Kd.R_types (Kd.R_types HO272.out BK269.out (by decide)) BK268.out (by decide)) (fun _ hk => hk.1.2) (.slice Ao12 t270.length co12)) (fun _ hk => hk.2) (.int .i64 a0_0)) (fun _ hk => hk.2) (.slice Ao12 t270.length co12)) (fun _ hk => trivial)), Bq⟩

def laws_toTrie.f (k : Nat) (a0_0 : Int) (l0_1 : List Int) (a0_2 : Int) (l0_3 : List Int) (a0_4 : ByteArray) : Option (Int × List Int × Int × List Int × ByteArray) := (laws_toBits.f k a0_0 l0_1).bind fun bt276 => ((laws_toBits.f k a0_2 l0_3).bind fun bt280 => (some (bt276.1, bt276.2, bt280.1, bt280.2, a0_4)))
theorem laws_toTrie.mono : ∀ a0 a1 a2 a3 a4 k, LeO (laws_toTrie.f k a0 a1 a2 a3 a4) (laws_toTrie.f (k + 1) a0 a1 a2 a3 a4) := by
 intro a0 a1 a2 a3 a4 k
 unfold laws_toTrie.f
 repeat' first | (with_reducible first | exact laws_toBits.mono _ _ _ | exact LeO.refl _ | exact LeO.none _ | refine LeO.ite ?_ ?_ | refine LeO.bind ?_ (fun _ => ?_)) | exact LeO.none _ | refine LeO.ite ?_ ?_ | refine LeO.bind ?_ (fun _ => ?_)
theorem laws_toTrie.calls (k : Nat) (a0_0 : Int) (A0_1 : Option Addr) (c0_1 : Nat) (l0_1 : List Int) (a0_2 : Int) (A0_3 : Option Addr) (c0_3 : Nat) (l0_3 : List Int) (a0_4 : ByteArray) (r1 : Int) (r2 : List Int) (r3 : Int) (r4 : List Int) (r5 : ByteArray) (w : World) (hr0_1 : Kd.C (Kd.int .i64) w A0_1 l0_1.length l0_1) (hc0_1 : l0_1.length ≤ c0_1) (hr0_3 : Kd.C (Kd.int .i64) w A0_3 l0_3.length l0_3) (hc0_3 : l0_3.length ≤ c0_3) (h : laws_toTrie.f k a0_0 l0_1 a0_2 l0_3 a0_4 = some (r1, r2, r3, r4, r5)) :
  Calls Try.prog 14 #[.agg #[.int .i64 a0_0, .slice A0_1 l0_1.length c0_1, .int .i64 a0_2, .slice A0_3 l0_3.length c0_3, .string a0_4]] w fun e w' => ∃ v1_ v3_ : Value, e = .returned (.agg #[.int .i64 r1, v1_, .int .i64 r3, v3_, .string r5]) ∧ Kd.R (Kd.int .i64) 3 w' w.heap.size (fun k_ => some k_ ≠ (v3_ : Value).ownBlock) v1_ r2 ∧ Kd.R (Kd.int .i64) 3 w' w.heap.size (fun k_ => some k_ ≠ (v1_ : Value).ownBlock) v3_ r4 ∧ Below w.heap.size w w' := by
 have hu26 := Try.underlying26; have hu32 := Try.underlying32; have hu24 := Try.underlying24; have hu30 := Try.underlying30; have HR0_1 := am hr0_1; have HC0_1 := am hc0_1; clear hr0_1 hc0_1; have HR0_3 := am hr0_3; have HC0_3 := am hc0_3; clear hr0_3 hc0_3; have HB := am (Below.refl w.heap.size w); have H : ((laws_toBits.f k a0_0 l0_1).bind fun bt276 => ((laws_toBits.f k a0_2 l0_3).bind fun bt280 => (some (bt276.1, bt276.2, bt280.1, bt280.2, a0_4)))) = some (r1, r2, r3, r4, r5) := h; clear h; replace H := Option.bind_eq_some_iff.mp H; obtain ⟨⟨t276, t277⟩, A20, H⟩ := H; (try dsimp -simprocs only at H); have A2 := am A20; clear A20; replace H := Option.bind_eq_some_iff.mp H; obtain ⟨⟨t280, t281⟩, A30, H⟩ := H; (try dsimp -simprocs only at H); have A3 := am A30; clear A30
 simp only [Option.some.injEq, Prod.mk.injEq] at H
 obtain ⟨rfl, rfl, rfl, rfl, rfl⟩ := H
 go_enter Try.func14, Try.ntmps14
 go_wp2_with (first | ((with_reducible refine gate_dst (N := 1) rfl ?_); refine bE 1 #[.int .i64 a0_0, .slice A0_1 l0_1.length c0_1, .int .i64 a0_2, .slice A0_3 l0_3.length c0_3, .string a0_4] 26 ?_; intro gb273 hg w4 hbox hb; have n0_ := Bb HB hb; have n1_ := am (hbox); have n2_ := Gl HB hg; have n3_ := Gl HB hg; clear HB; revert n0_ n1_ n2_ n3_; intro HB BK273 GW273 GE273; clear hb hbox hg) | ((with_reducible refine gate_dst (N := 2) rfl ?_); refine bE 2 #[.int .i64 0, .slice none 0 0, .int .i64 0, .slice none 0 0, .string (⟨#[]⟩ : ByteArray)] 32 ?_; intro gb274 hg w5 hbox hb; have n0_ := Kb BK273 hb; have n1_ := Bc HB hb; have n2_ := am (hbox); have n3_ := Gm HB hg; have n4_ := Gm HB hg; have n5_ := Nl BK273 hg; have n6_ := Ng BK273 hg; clear BK273 HB; revert n0_ n1_ n2_ n3_ n4_ n5_ n6_; intro BK273 HB BK274 GW274 GE274 NB273_274 NB274_273; clear hb hbox hg) | ((with_reducible refine gate_dst (N := 3) rfl ?_); refine bE 3 #[.int .i64 0, .slice none 0 0, .int .i64 0, .slice none 0 0, .string (⟨#[]⟩ : ByteArray)] 32 ?_; intro gb275 hg w6 hbox hb; have n0_ := Kb BK273 hb; have n1_ := Kb BK274 hb; have n2_ := Bc HB hb; have n3_ := am (hbox); have n4_ := Gm HB hg; have n5_ := Gm HB hg; have n6_ := Nl BK273 hg; have n7_ := Ng BK273 hg; have n8_ := Nl BK274 hg; have n9_ := Ng BK274 hg; clear BK273 BK274 HB; revert n0_ n1_ n2_ n3_ n4_ n5_ n6_ n7_ n8_ n9_; intro BK273 BK274 HB BK275 GW275 GE275 NB273_275 NB275_273 NB274_275 NB275_274; clear hb hbox hg; have hnb7 := NB273_274.out; have hnc7 := NB274_273.out; have hnb8 := NB273_275.out; have hnc8 := NB275_273.out; obtain ⟨hcz9_0, hcz9_1, hcz9_2, hcz9_3, hcz9_4, hfz9_0, hfz9_1, hfz9_2, hfz9_3, hfz9_4⟩ := cf5 (w := w6) BK273) | ((with_reducible refine gate_callee (f := 42) rfl ?_); refine gL (some 6) Try.func42 #[.agg #[.int .i64 a0_0, .slice A0_1 l0_1.length c0_1]] ?_; (with_reducible refine (laws_toBits.calls k a0_0 _ _ l0_1 t276 t277 _ ?side1 ?side2 A2.out).mono ?_); (case side1 => exact Cz (Kd.C_below HR0_1.out HB.out)); (case side2 => exact HC0_1.out); rintro e w10 ⟨v278, rfl, ho0, hb⟩; refine ⟨_, rfl, ?_⟩; have n0_ := Rm ho0 HB; have n1_ := Kb BK273 hb; have n2_ := Kb BK274 hb; have n3_ := Kb BK275 hb; have n4_ := Bc HB hb; clear BK273 BK274 BK275 HB; revert n0_ n1_ n2_ n3_ n4_; intro HO279 BK273 BK274 BK275 HB; (try clear hb); (try clear hb2); (try clear hk); (try clear hi); (try clear ho0); have hnb11 := NB275_274.out; have hnc11 := NB274_275.out; obtain ⟨hcz12_0, hcz12_1, hcz12_2, hcz12_3, hcz12_4, hfz12_0, hfz12_1, hfz12_2, hfz12_3, hfz12_4⟩ := cf5 (w := w10) BK275; obtain ⟨Ao13, co13, eo13⟩ := Kd.R_slice HO279.out; subst eo13; obtain ⟨hcz14_0, hcz14_1, hcz14_2, hcz14_3, hcz14_4, hfz14_0, hfz14_1, hfz14_2, hfz14_3, hfz14_4⟩ := cf5 (w := w10) BK273) | ((with_reducible refine gate_callee (f := 42) rfl ?_); refine gL (some 10) Try.func42 #[.agg #[.int .i64 a0_2, .slice A0_3 l0_3.length c0_3]] ?_; (with_reducible refine (laws_toBits.calls k a0_2 _ _ l0_3 t280 t281 _ ?side1 ?side2 A3.out).mono ?_); (case side1 => exact Kd.C_below HR0_3.out (Bq)); (case side2 => exact HC0_3.out); rintro e w15 ⟨v282, rfl, ho0, hb⟩; refine ⟨_, rfl, ?_⟩; have n0_ := am (Kd.R_elder' (Rz (Kd.R_mono (Kd.R_far (p := ⟨gb275, 1, none⟩) (Kd.R_far (p := ⟨gb275, 0, none⟩) (Kd.R_types HO279.out BK275.out (by decide)) (fun _ hk => hk.2) (.int .i64 t276)) (fun _ hk => hk.2) (.slice Ao13 t277.length co13)) (fun _ h_ => h_.1))) (Kd.R_base ho0) hb); have n1_ := am (Kd.R_lower (Kd.R_new' ho0 (Kd.R_lt (Rz (Kd.R_mono (Kd.R_far (p := ⟨gb275, 1, none⟩) (Kd.R_far (p := ⟨gb275, 0, none⟩) (Kd.R_types HO279.out BK275.out (by decide)) (fun _ hk => hk.2) (.int .i64 t276)) (fun _ hk => hk.2) (.slice Ao13 t277.length co13)) (fun _ h_ => h_.1))))) (below_size (w := w) (Bq))); have n2_ := am (blk_below (g := gb273) (o := .cells #[.int .i64 a0_0, .slice A0_1 l0_1.length c0_1, .int .i64 a0_2, .slice A0_3 l0_3.length c0_3, .string a0_4] 26 (0, 0)) (by (with_reducible repeat (first | refine blk_drewN ?_ _ | refine blk_drew ?_ | refine blk_alloc ?_ _)); refine blk_far ?_ NB273_275.out _; (with_reducible repeat (first | refine blk_drewN ?_ _ | refine blk_drew ?_ | refine blk_alloc ?_ _)); refine blk_far ?_ NB273_275.out _; exact Kz BK273.out) hb); have n3_ := am (blk_below (g := gb274) (o := .cells #[.int .i64 0, .slice none 0 0, .int .i64 0, .slice none 0 0, .string (⟨#[]⟩ : ByteArray)] 32 (0, 0)) (by (with_reducible repeat (first | refine blk_drewN ?_ _ | refine blk_drew ?_ | refine blk_alloc ?_ _)); refine blk_far ?_ NB274_275.out _; (with_reducible repeat (first | refine blk_drewN ?_ _ | refine blk_drew ?_ | refine blk_alloc ?_ _)); refine blk_far ?_ NB274_275.out _; exact Kz BK274.out) hb); have n4_ := am (blk_below (g := gb275) (o := .cells #[.int .i64 t276, .slice Ao13 t277.length co13, .int .i64 0, .slice none 0 0, .string (⟨#[]⟩ : ByteArray)] 32 (0, 0)) (by (with_reducible repeat (first | refine blk_drewN ?_ _ | refine blk_drew ?_ | refine blk_alloc ?_ _)); refine blk_put (cs := #[.int .i64 t276, .slice none 0 0, .int .i64 0, .slice none 0 0, .string (⟨#[]⟩ : ByteArray)]) ?_ 1 _ rfl; (with_reducible repeat (first | refine blk_drewN ?_ _ | refine blk_drew ?_ | refine blk_alloc ?_ _)); refine blk_put (cs := #[.int .i64 0, .slice none 0 0, .int .i64 0, .slice none 0 0, .string (⟨#[]⟩ : ByteArray)]) ?_ 0 _ rfl; exact Kz BK275.out) hb); have n5_ := Bc HB hb; clear HO279 BK273 BK274 BK275 HB; revert n0_ n1_ n2_ n3_ n4_ n5_; intro HO279 HO283 BK273 BK274 BK275 HB; (try clear hb); (try clear hb2); (try clear hk); (try clear hi); (try clear ho0); obtain ⟨hcz16_0, hcz16_1, hcz16_2, hcz16_3, hcz16_4, hfz16_0, hfz16_1, hfz16_2, hfz16_3, hfz16_4⟩ := cf5 (w := w15) BK275; obtain ⟨Ao17, co17, eo17⟩ := Kd.R_slice HO283.out; subst eo17; obtain ⟨hcz18_0, hcz18_1, hcz18_2, hcz18_3, hcz18_4, hfz18_0, hfz18_1, hfz18_2, hfz18_3, hfz18_4⟩ := cf5 (w := w15) BK273; obtain ⟨hcz19_0, hcz19_1, hcz19_2, hcz19_3, hcz19_4, hfz19_0, hfz19_1, hfz19_2, hfz19_3, hfz19_4⟩ := cf5 (w := w15) BK274))
 refine bodyPost_ret (results_cell_row rfl _ _ gb274 32 #[.int .i64 t276, .slice Ao13 t277.length co13, .int .i64 t280, .slice Ao17 t281.length co17, .string a0_4] (0, 0) _ rfl (by (with_reducible repeat (first | refine blk_drewN ?_ _ | refine blk_drew ?_ | refine blk_alloc ?_ _)); refine blk_put (cs := #[.int .i64 t276, .slice Ao13 t277.length co13, .int .i64 t280, .slice Ao17 t281.length co17, .string (⟨#[]⟩ : ByteArray)]) ?_ 4 _ rfl; (with_reducible repeat (first | refine blk_drewN ?_ _ | refine blk_drew ?_ | refine blk_alloc ?_ _)); refine blk_put (cs := #[.int .i64 t276, .slice Ao13 t277.length co13, .int .i64 t280, .slice none 0 0, .string (⟨#[]⟩ : ByteArray)]) ?_ 3 _ rfl; (with_reducible repeat (first | refine blk_drewN ?_ _ | refine blk_drew ?_ | refine blk_alloc ?_ _)); refine blk_put (cs := #[.int .i64 t276, .slice Ao13 t277.length co13, .int .i64 0, .slice none 0 0, .string (⟨#[]⟩ : ByteArray)]) ?_ 2 _ rfl; (with_reducible repeat (first | refine blk_drewN ?_ _ | refine blk_drew ?_ | refine blk_alloc ?_ _)); refine blk_put (cs := #[.int .i64 t276, .slice none 0 0, .int .i64 0, .slice none 0 0, .string (⟨#[]⟩ : ByteArray)]) ?_ 1 _ rfl; (with_reducible repeat (first | refine blk_drewN ?_ _ | refine blk_drew ?_ | refine blk_alloc ?_ _)); refine blk_put (cs := #[.int .i64 0, .slice none 0 0, .int .i64 0, .slice none 0 0, .string (⟨#[]⟩ : ByteArray)]) ?_ 0 _ rfl; (with_reducible repeat (first | refine blk_drewN ?_ _ | refine blk_drew ?_ | refine blk_alloc ?_ _)); refine blk_far ?_ NB274_275.out _; (with_reducible repeat (first | refine blk_drewN ?_ _ | refine blk_drew ?_ | refine blk_alloc ?_ _)); refine blk_far ?_ NB274_275.out _; (with_reducible repeat (first | refine blk_drewN ?_ _ | refine blk_drew ?_ | refine blk_alloc ?_ _)); refine blk_far ?_ NB274_275.out _; exact Kz BK274.out) Try.underlying32 rfl (by kernel_rfl)) rfl ?_; exact ⟨_, _, eZ, Rz (Kd.R_mono (Kd.R_far (p := ⟨gb274, 4, none⟩) (Kd.R_far (p := ⟨gb274, 3, none⟩) (Kd.R_far (p := ⟨gb274, 2, none⟩) (Kd.R_far (p := ⟨gb274, 1, none⟩) (Kd.R_far (p := ⟨gb274, 0, none⟩) (Kd.R_far (p := ⟨gb275, 4, none⟩) (Kd.R_far (p := ⟨gb275, 3, none⟩) (Kd.R_far (p := ⟨gb275, 2, none⟩) (Kd.R_types (Kd.R_types HO279.out BK275.out (by decide)) BK274.out (by decide)) (fun _ hk => hk.1.2) (.int .i64 t280)) (fun _ hk => hk.1.2) (.slice Ao17 t281.length co17)) (fun _ hk => hk.1.2) (.string a0_4)) (fun _ hk => hk.2) (.int .i64 t276)) (fun _ hk => hk.2) (.slice Ao13 t277.length co13)) (fun _ hk => hk.2) (.int .i64 t280)) (fun _ hk => hk.2) (.slice Ao17 t281.length co17)) (fun _ hk => hk.2) (.string a0_4)) (fun _ hk => hk.1.1.2)), Rz (Kd.R_mono (Kd.R_far (p := ⟨gb274, 4, none⟩) (Kd.R_far (p := ⟨gb274, 3, none⟩) (Kd.R_far (p := ⟨gb274, 2, none⟩) (Kd.R_far (p := ⟨gb274, 1, none⟩) (Kd.R_far (p := ⟨gb274, 0, none⟩) (Kd.R_far (p := ⟨gb275, 4, none⟩) (Kd.R_far (p := ⟨gb275, 3, none⟩) (Kd.R_far (p := ⟨gb275, 2, none⟩) (Kd.R_types (Kd.R_types HO283.out BK275.out (by decide)) BK274.out (by decide)) (fun _ hk => hk.1.2) (.int .i64 t280)) (fun _ hk => hk.1.2) (.slice Ao17 t281.length co17)) (fun _ hk => hk.1.2) (.string a0_4)) (fun _ hk => hk.2) (.int .i64 t276)) (fun _ hk => hk.2) (.slice Ao13 t277.length co13)) (fun _ hk => hk.2) (.int .i64 t280)) (fun _ hk => hk.2) (.slice Ao17 t281.length co17)) (fun _ hk => hk.2) (.string a0_4)) (fun _ hk => hk.1.1.2)), Bq⟩

def impl_Bits_at.f (a0_0 : Int) (l0_1 : List Int) (a1 : Int) : Option (Bool) := if 0 ≤ (wrap64 (Int.tdiv a1 16)) then (if (wrap64 (Int.tdiv a1 16)) < (l0_1.length : Int) then (if 0 ≤ (Int.tmod a1 16) then (some ((Go.bits .and .i64 (shr .i64 (rd l0_1 (wrap64 (Int.tdiv a1 16))) (Int.tmod a1 16)) 1) == 1)) else (none)) else (none)) else (none)
theorem impl_Bits_at.calls (g0 : Nat) (a0_0 : Int) (A0_1 : Option Addr) (c0_1 : Nat) (l0_1 : List Int) (a1 : Int) (r : Bool) (w : World) (hb0 : w.heap[g0]? = some (.cells #[.int .i64 a0_0, .slice A0_1 l0_1.length c0_1] 30 (0, 0))) (hr0_1 : Kd.C (Kd.int .i64) w A0_1 l0_1.length l0_1) (hc0_1 : l0_1.length ≤ c0_1) (h : impl_Bits_at.f a0_0 l0_1 a1 = some r) :
  Calls Try.prog 49 #[.pointer (some ⟨g0, 0, none⟩), .int .i64 a1] w fun e w' => e = .returned (.bool r) ∧ Drawn0 w w' := by
 have HR0_1 := am hr0_1; have HC0_1 := am hc0_1; clear hr0_1 hc0_1; have BK0 := am hb0; clear hb0; have H : (if 0 ≤ (wrap64 (Int.tdiv a1 16)) then (if (wrap64 (Int.tdiv a1 16)) < (l0_1.length : Int) then (if 0 ≤ (Int.tmod a1 16) then (some ((Go.bits .and .i64 (shr .i64 (rd l0_1 (wrap64 (Int.tdiv a1 16))) (Int.tmod a1 16)) 1) == 1)) else (none)) else (none)) else (none)) = some r := h; clear h; obtain ⟨ji3, hji3⟩ : ∃ j_ : Int, (wrap64 (Int.tdiv a1 16)) = j_ := ⟨_, rfl⟩
 replace H : (if 0 ≤ (ji3) then (if (ji3) < (l0_1.length : Int) then (if 0 ≤ (Int.tmod a1 16) then (some ((Go.bits .and .i64 (shr .i64 (rd l0_1 (ji3)) (Int.tmod a1 16)) 1) == 1)) else (none)) else (none)) else (none)) = some r := by first | (rw [hji3] at H; exact H) | (simp only [hji3] at H ⊢; exact H)
 have hji3w : (IntKind.i64.wrap (Int.tdiv a1 16)) = ji3 := (i64_w _).trans hji3
 by_cases c4 : 0 ≤ (ji3)
 ·rw [if_pos c4] at H
  have c4b0 : decide (0 ≤ (ji3)) = true := decide_eq_true c4; clear c4
  by_cases c5 : (ji3) < (l0_1.length : Int)
  ·rw [if_pos c5] at H
   have c5b0 : decide ((ji3) < (l0_1.length : Int)) = true := decide_eq_true c5; clear c5; obtain ⟨ji6, hji6⟩ : ∃ j_ : Int, (Int.tmod a1 16) = j_ := ⟨_, rfl⟩
   replace H : (if 0 ≤ (ji6) then (some ((Go.bits .and .i64 (shr .i64 (rd l0_1 (ji3)) (ji6)) 1) == 1)) else (none)) = some r := by first | (rw [hji6] at H; exact H) | (simp only [hji6] at H ⊢; exact H)
   by_cases c7 : 0 ≤ (ji6)
   ·rw [if_pos c7] at H
    have c7b0 := eq_true c7; have c7b1 : decide (0 ≤ (ji6)) = true := decide_eq_true c7; clear c7; obtain ⟨ji8, hji8⟩ : ∃ j_ : Int, (shr .i64 (rd l0_1 (ji3)) (ji6)) = j_ := ⟨_, rfl⟩
    replace H : (some ((Go.bits .and .i64 (ji8) 1) == 1)) = some r := by first | (rw [hji8] at H; exact H) | (simp only [hji8] at H ⊢; exact H)
    have hji8_ : ((rd l0_1 (ji3)) / 2 ^ min (ji6).toNat 64) = ji8 := hji8; have hji8z : (ji6) ≤ 64 → ((rd l0_1 (ji3)) / 2 ^ (ji6).toNat) = ji8 := shr_small hji8; obtain rfl := Option.some.inj H; obtain ⟨hcz9_0, hcz9_1, hfz9_0, hfz9_1⟩ := cf2 (w := w) BK0; obtain ⟨ad284, e284, hx284_0⟩ := Kd.at_int HR0_1.out (ji3) dT dT; cases e284; have p284 := eT (0 ≤ ((ji3) : Int)); have q284 := eT ((ji3) < (l0_1.length : Int))
    go_enter Try.func49, Try.ntmps49
    go_wp2
    go_ret
    exact ⟨by first | rfl | (simp; done) | (simp only [← hji3, ← hji6, ← hji8] <;> (first | rfl | simp)) | (simp [*]; done), by repeat (first | exact Drawn0.refl _ | apply Drawn0.step)⟩
   ·rw [if_neg c7] at H
    exact absurd H (by simp)
  ·rw [if_neg c5] at H
   exact absurd H (by simp)
 ·rw [if_neg c4] at H
  exact absurd H (by simp)

theorem impl_Bits_at.calls_v0_32_2 (g0 : Nat) (z0_0 : Int) (z0_1 : Value) (z0_4 : ByteArray) (a0_0 : Int) (A0_1 : Option Addr) (c0_1 : Nat) (l0_1 : List Int) (a1 : Int) (r : Bool) (w : World) (hb0 : w.heap[g0]? = some (.cells #[.int .i64 z0_0, z0_1, .int .i64 a0_0, .slice A0_1 l0_1.length c0_1, .string z0_4] 32 (0, 0))) (hr0_1 : Kd.C (Kd.int .i64) w A0_1 l0_1.length l0_1) (hc0_1 : l0_1.length ≤ c0_1) (h : impl_Bits_at.f a0_0 l0_1 a1 = some r) :
  Calls Try.prog 49 #[.pointer (some ⟨g0, 2, none⟩), .int .i64 a1] w fun e w' => e = .returned (.bool r) ∧ Drawn0 w w' := by
 have HR0_1 := am hr0_1; have HC0_1 := am hc0_1; clear hr0_1 hc0_1; have BK0 := am hb0; clear hb0; have H : (if 0 ≤ (wrap64 (Int.tdiv a1 16)) then (if (wrap64 (Int.tdiv a1 16)) < (l0_1.length : Int) then (if 0 ≤ (Int.tmod a1 16) then (some ((Go.bits .and .i64 (shr .i64 (rd l0_1 (wrap64 (Int.tdiv a1 16))) (Int.tmod a1 16)) 1) == 1)) else (none)) else (none)) else (none)) = some r := h; clear h; obtain ⟨ji3, hji3⟩ : ∃ j_ : Int, (wrap64 (Int.tdiv a1 16)) = j_ := ⟨_, rfl⟩
 replace H : (if 0 ≤ (ji3) then (if (ji3) < (l0_1.length : Int) then (if 0 ≤ (Int.tmod a1 16) then (some ((Go.bits .and .i64 (shr .i64 (rd l0_1 (ji3)) (Int.tmod a1 16)) 1) == 1)) else (none)) else (none)) else (none)) = some r := by first | (rw [hji3] at H; exact H) | (simp only [hji3] at H ⊢; exact H)
 have hji3w : (IntKind.i64.wrap (Int.tdiv a1 16)) = ji3 := (i64_w _).trans hji3
 by_cases c4 : 0 ≤ (ji3)
 ·rw [if_pos c4] at H
  have c4b0 : decide (0 ≤ (ji3)) = true := decide_eq_true c4; clear c4
  by_cases c5 : (ji3) < (l0_1.length : Int)
  ·rw [if_pos c5] at H
   have c5b0 : decide ((ji3) < (l0_1.length : Int)) = true := decide_eq_true c5; clear c5; obtain ⟨ji6, hji6⟩ : ∃ j_ : Int, (Int.tmod a1 16) = j_ := ⟨_, rfl⟩
   replace H : (if 0 ≤ (ji6) then (some ((Go.bits .and .i64 (shr .i64 (rd l0_1 (ji3)) (ji6)) 1) == 1)) else (none)) = some r := by first | (rw [hji6] at H; exact H) | (simp only [hji6] at H ⊢; exact H)
   by_cases c7 : 0 ≤ (ji6)
   ·rw [if_pos c7] at H
    have c7b0 := eq_true c7; have c7b1 : decide (0 ≤ (ji6)) = true := decide_eq_true c7; clear c7; obtain ⟨ji8, hji8⟩ : ∃ j_ : Int, (shr .i64 (rd l0_1 (ji3)) (ji6)) = j_ := ⟨_, rfl⟩
    replace H : (some ((Go.bits .and .i64 (ji8) 1) == 1)) = some r := by first | (rw [hji8] at H; exact H) | (simp only [hji8] at H ⊢; exact H)
    have hji8_ : ((rd l0_1 (ji3)) / 2 ^ min (ji6).toNat 64) = ji8 := hji8; have hji8z : (ji6) ≤ 64 → ((rd l0_1 (ji3)) / 2 ^ (ji6).toNat) = ji8 := shr_small hji8; obtain rfl := Option.some.inj H; obtain ⟨hcz9_0, hcz9_1, hcz9_2, hcz9_3, hcz9_4, hfz9_0, hfz9_1, hfz9_2, hfz9_3, hfz9_4⟩ := cf5 (w := w) BK0; obtain ⟨ad374, e374, hx374_0⟩ := Kd.at_int HR0_1.out (ji3) dT dT; cases e374; have p374 := eT (0 ≤ ((ji3) : Int)); have q374 := eT ((ji3) < (l0_1.length : Int))
    go_enter Try.func49, Try.ntmps49
    go_wp2
    go_ret
    exact ⟨by first | rfl | (simp; done) | (simp only [← hji3, ← hji6, ← hji8] <;> (first | rfl | simp)) | (simp [*]; done), by repeat (first | exact Drawn0.refl _ | apply Drawn0.step)⟩
   ·rw [if_neg c7] at H
    exact absurd H (by simp)
  ·rw [if_neg c5] at H
   exact absurd H (by simp)
 ·rw [if_neg c4] at H
  exact absurd H (by simp)

theorem impl_Bits_at.calls_v0_32_0 (g0 : Nat) (z0_2 : Int) (z0_3 : Value) (z0_4 : ByteArray) (a0_0 : Int) (A0_1 : Option Addr) (c0_1 : Nat) (l0_1 : List Int) (a1 : Int) (r : Bool) (w : World) (hb0 : w.heap[g0]? = some (.cells #[.int .i64 a0_0, .slice A0_1 l0_1.length c0_1, .int .i64 z0_2, z0_3, .string z0_4] 32 (0, 0))) (hr0_1 : Kd.C (Kd.int .i64) w A0_1 l0_1.length l0_1) (hc0_1 : l0_1.length ≤ c0_1) (h : impl_Bits_at.f a0_0 l0_1 a1 = some r) :
  Calls Try.prog 49 #[.pointer (some ⟨g0, 0, none⟩), .int .i64 a1] w fun e w' => e = .returned (.bool r) ∧ Drawn0 w w' := by
 have HR0_1 := am hr0_1; have HC0_1 := am hc0_1; clear hr0_1 hc0_1; have BK0 := am hb0; clear hb0; have H : (if 0 ≤ (wrap64 (Int.tdiv a1 16)) then (if (wrap64 (Int.tdiv a1 16)) < (l0_1.length : Int) then (if 0 ≤ (Int.tmod a1 16) then (some ((Go.bits .and .i64 (shr .i64 (rd l0_1 (wrap64 (Int.tdiv a1 16))) (Int.tmod a1 16)) 1) == 1)) else (none)) else (none)) else (none)) = some r := h; clear h; obtain ⟨ji3, hji3⟩ : ∃ j_ : Int, (wrap64 (Int.tdiv a1 16)) = j_ := ⟨_, rfl⟩
 replace H : (if 0 ≤ (ji3) then (if (ji3) < (l0_1.length : Int) then (if 0 ≤ (Int.tmod a1 16) then (some ((Go.bits .and .i64 (shr .i64 (rd l0_1 (ji3)) (Int.tmod a1 16)) 1) == 1)) else (none)) else (none)) else (none)) = some r := by first | (rw [hji3] at H; exact H) | (simp only [hji3] at H ⊢; exact H)
 have hji3w : (IntKind.i64.wrap (Int.tdiv a1 16)) = ji3 := (i64_w _).trans hji3
 by_cases c4 : 0 ≤ (ji3)
 ·rw [if_pos c4] at H
  have c4b0 : decide (0 ≤ (ji3)) = true := decide_eq_true c4; clear c4
  by_cases c5 : (ji3) < (l0_1.length : Int)
  ·rw [if_pos c5] at H
   have c5b0 : decide ((ji3) < (l0_1.length : Int)) = true := decide_eq_true c5; clear c5; obtain ⟨ji6, hji6⟩ : ∃ j_ : Int, (Int.tmod a1 16) = j_ := ⟨_, rfl⟩
   replace H : (if 0 ≤ (ji6) then (some ((Go.bits .and .i64 (shr .i64 (rd l0_1 (ji3)) (ji6)) 1) == 1)) else (none)) = some r := by first | (rw [hji6] at H; exact H) | (simp only [hji6] at H ⊢; exact H)
   by_cases c7 : 0 ≤ (ji6)
   ·rw [if_pos c7] at H
    have c7b0 := eq_true c7; have c7b1 : decide (0 ≤ (ji6)) = true := decide_eq_true c7; clear c7; obtain ⟨ji8, hji8⟩ : ∃ j_ : Int, (shr .i64 (rd l0_1 (ji3)) (ji6)) = j_ := ⟨_, rfl⟩
    replace H : (some ((Go.bits .and .i64 (ji8) 1) == 1)) = some r := by first | (rw [hji8] at H; exact H) | (simp only [hji8] at H ⊢; exact H)
    have hji8_ : ((rd l0_1 (ji3)) / 2 ^ min (ji6).toNat 64) = ji8 := hji8; have hji8z : (ji6) ≤ 64 → ((rd l0_1 (ji3)) / 2 ^ (ji6).toNat) = ji8 := shr_small hji8; obtain rfl := Option.some.inj H; obtain ⟨hcz9_0, hcz9_1, hcz9_2, hcz9_3, hcz9_4, hfz9_0, hfz9_1, hfz9_2, hfz9_3, hfz9_4⟩ := cf5 (w := w) BK0; obtain ⟨ad400, e400, hx400_0⟩ := Kd.at_int HR0_1.out (ji3) dT dT; cases e400; have p400 := eT (0 ≤ ((ji3) : Int)); have q400 := eT ((ji3) < (l0_1.length : Int))
    go_enter Try.func49, Try.ntmps49
    go_wp2
    go_ret
    exact ⟨by first | rfl | (simp; done) | (simp only [← hji3, ← hji6, ← hji8] <;> (first | rfl | simp)) | (simp [*]; done), by repeat (first | exact Drawn0.refl _ | apply Drawn0.step)⟩
   ·rw [if_neg c7] at H
    exact absurd H (by simp)
  ·rw [if_neg c5] at H
   exact absurd H (by simp)
 ·rw [if_neg c4] at H
  exact absurd H (by simp)

-- BY HAND: function 90 (slices_Sort_string_string)

def impl_Trie_ends.l0 : Nat → List ByteArray → List ByteArray → Int → Int → Int → List Int → Int → List Int → ByteArray → Option (List ByteArray)
 | 0, _, _, _, _, _, _, _, _, _ => none
 | k + 1, x5, x9, x10, x11, x1000, x1001, x1002, x1003, x1004 => if x11 < x10 then (if 0 ≤ x11 then (if x11 < (x9.length : Int) then (if x11 < x1002 then ((impl_Bits_at.f x1002 x1003 x11).bind fun t379 => (if t379 = true then (if x5.length < 8796093022208 then (impl_Trie_ends.l0 k (x5 ++ [rdOf ByteArray.empty x9 x11]) x9 x10 (wrap64 (x11 + 1)) x1000 x1001 x1002 x1003 x1004) else (none)) else (impl_Trie_ends.l0 k x5 x9 x10 (wrap64 (x11 + 1)) x1000 x1001 x1002 x1003 x1004))) else (impl_Trie_ends.l0 k x5 x9 x10 (wrap64 (x11 + 1)) x1000 x1001 x1002 x1003 x1004)) else (none)) else (none)) else ((slices_Sort_string_string.f x5).bind fun t383 => (some t383))
def impl_Trie_ends.f (k : Nat) (a0_0 : Int) (l0_1 : List Int) (a0_2 : Int) (l0_3 : List Int) (a0_4 : ByteArray) (l1 : List ByteArray) : Option (List ByteArray) := impl_Trie_ends.l0 k (([] : List ByteArray)) l1 (l1.length : Int) 0 a0_0 l0_1 a0_2 l0_3 a0_4
theorem impl_Trie_ends.mono_l : ∀ k, (∀ y0 y1 y2 y3 y4 y5 y6 y7 y8, LeO (impl_Trie_ends.l0 k y0 y1 y2 y3 y4 y5 y6 y7 y8) (impl_Trie_ends.l0 (k + 1) y0 y1 y2 y3 y4 y5 y6 y7 y8))
 | 0 => fun _ _ _ _ _ _ _ _ _ r h => by simp [impl_Trie_ends.l0] at h
 | k + 1 => by
  have ih0 := impl_Trie_ends.mono_l k
  ·intro y0 y1 y2 y3 y4 y5 y6 y7 y8
   unfold impl_Trie_ends.l0
   repeat' first | (with_reducible first | exact ih0 _ _ _ _ _ _ _ _ _ | exact LeO.refl _ | exact LeO.none _ | refine LeO.ite ?_ ?_ | refine LeO.bind ?_ (fun _ => ?_)) | exact LeO.none _ | refine LeO.ite ?_ ?_ | refine LeO.bind ?_ (fun _ => ?_)
theorem impl_Trie_ends.mono : ∀ a0 a1 a2 a3 a4 a5 k, LeO (impl_Trie_ends.f k a0 a1 a2 a3 a4 a5) (impl_Trie_ends.f (k + 1) a0 a1 a2 a3 a4 a5) := by
 intro a0 a1 a2 a3 a4 a5 k; have ih0 := impl_Trie_ends.mono_l k
 unfold impl_Trie_ends.f
 repeat' first | (with_reducible first | exact ih0 _ _ _ _ _ _ _ _ _ | exact LeO.refl _ | exact LeO.none _ | refine LeO.ite ?_ ?_ | refine LeO.bind ?_ (fun _ => ?_)) | exact LeO.none _ | refine LeO.ite ?_ ?_ | refine LeO.bind ?_ (fun _ => ?_)
theorem impl_Trie_ends.calls (k : Nat) (g0 : Nat) (a0_0 : Int) (A0_1 : Option Addr) (c0_1 : Nat) (l0_1 : List Int) (a0_2 : Int) (A0_3 : Option Addr) (c0_3 : Nat) (l0_3 : List Int) (a0_4 : ByteArray) (A1 : Option Addr) (c1 : Nat) (l1 : List ByteArray) (r : List ByteArray) (w : World) (hb0 : w.heap[g0]? = some (.cells #[.int .i64 a0_0, .slice A0_1 l0_1.length c0_1, .int .i64 a0_2, .slice A0_3 l0_3.length c0_3, .string a0_4] 32 (0, 0))) (hr0_1 : Kd.C (Kd.int .i64) w A0_1 l0_1.length l0_1) (hc0_1 : l0_1.length ≤ c0_1) (hr0_3 : Kd.C (Kd.int .i64) w A0_3 l0_3.length l0_3) (hc0_3 : l0_3.length ≤ c0_3) (hr1 : Kd.C Kd.string w A1 l1.length l1) (hc1 : l1.length ≤ c1) (h : impl_Trie_ends.f k a0_0 l0_1 a0_2 l0_3 a0_4 l1 = some r) :
  Calls Try.prog 69 #[.pointer (some ⟨g0, 0, none⟩), .slice A1 l1.length c1] w fun e w' => ∃ v0_ : Value, e = .returned (v0_) ∧ Kd.R Kd.string 9 w' w.heap.size (fun _ => True) v0_ r ∧ Below w.heap.size w w' := by
 have HR0_1 := am hr0_1; have HC0_1 := am hc0_1; clear hr0_1 hc0_1; have HR0_3 := am hr0_3; have HC0_3 := am hc0_3; clear hr0_3 hc0_3; have HR1 := am hr1; have HC1 := am hc1; clear hr1 hc1; have BK0 := am hb0; clear hb0; have HB := am (Below.refl w.heap.size w); have H : (impl_Trie_ends.l0 k (([] : List ByteArray)) l1 (l1.length : Int) 0 a0_0 l0_1 a0_2 l0_3 a0_4) = some r := h; clear h; obtain ⟨y375, hy375⟩ : ∃ y_ : List ByteArray, y_ = (([] : List ByteArray)) := ⟨_, rfl⟩
 replace H : (impl_Trie_ends.l0 k y375 l1 (l1.length : Int) 0 a0_0 l0_1 a0_2 l0_3 a0_4) = some r := by first | (rw [hy375]; with_reducible exact H) | (have H2_ := (Option.bind_some _ _).symm.trans H; rw [hy375]; with_reducible exact H2_) | (have H2_ := (Option.bind_some _ _).symm.trans H; with_reducible exact H2_) | with_reducible exact H | (rw [hy375]; exact H) | exact H
 have Ny375 := am hy375; clear hy375; have H' := am H; clear H
 go_enter Try.func69, Try.ntmps69
 go_wp2_with (first | ((with_reducible refine gate_dst (N := 8) rfl ?_); refine Kd.R_lit Kd.string _ 9 ?hg (N := 8) ?hd (xs := ([] : List ByteArray)) (inner := []) (ok := fun _ => True) (okp := fun _ => True) ?hr ?hp (fun _ hk => hk) trivial (Below.refl _ _) (Nat.le_refl _) (by simp) ?_; (case hd => rfl); (case hg => rfl); (case hr => first | (go_simp; done) | (go_simp; rfl)); (case hp => exact (Reps.none _ _)); intro v376 w3 ho4 hb hg_ hnew_; clear hg_ hnew_; (first | rw [← Ny375.out] at ho4 | (simp only [Int.reduceToNat] at ho4; rw [← Ny375.out] at ho4)); have n0_ := Rm ho4 HB; have n1_ := Kb BK0 hb; have n2_ := Bc HB hb; clear BK0 HB; revert n0_ n1_ n2_; intro HO377 BK0 HB; clear hb ho4))
 (try simp only [aP])
 go_loopg [5, 11] k (fun kq v5 v11 w' => ∃ (x5_1 : List ByteArray) (x11_1 : Int), v11 = .int .i64 x11_1 ∧ Aside0 (impl_Trie_ends.l0 kq x5_1 l1 (l1.length : Int) x11_1 a0_0 l0_1 a0_2 l0_3 a0_4 = some r) ∧ Aside0 (kq ≤ k) ∧ Aside0 (Kd.R Kd.string 9 w' w.heap.size (fun _ => True) v5 x5_1) ∧ Aside0 (w'.heap[g0]? = some (.cells #[.int .i64 a0_0, (.slice A0_1 l0_1.length c0_1), .int .i64 a0_2, (.slice A0_3 l0_3.length c0_3), .string a0_4] 32 (0, 0))) ∧ Aside0 (Below w.heap.size w w'))
 case atStart => exact ⟨(y375), (0), wZ, H', ⟨Nat.le_refl _⟩, ⟨Rz HO377.out⟩, ⟨Kz BK0.out⟩, ⟨Bq⟩⟩
 case round =>
  clear H'
  try clear c1
  try clear p2
  obtain ⟨x5_1, x11_1, rfl, HA, HK1, HO_5, BK0, HB⟩ := hrel; cases gk with
  | zero => exact absurd HA.out (by simp [impl_Trie_ends.l0])
  | succ k1 =>
   have H := HA.out; clear HA
   simp only [impl_Trie_ends.l0] at H
   by_cases c5 : x11_1 < (l1.length : Int)
   ·rw [if_pos c5] at H
    have c5b0 : decide (x11_1 < (l1.length : Int)) = true := decide_eq_true c5; clear c5
    by_cases c6 : 0 ≤ x11_1
    ·rw [if_pos c6] at H
     have c6b0 : decide (0 ≤ x11_1) = true := decide_eq_true c6; clear c6
     by_cases c7 : x11_1 < (l1.length : Int)
     ·rw [if_pos c7] at H
      have c7b0 : decide (x11_1 < (l1.length : Int)) = true := decide_eq_true c7; clear c7
      by_cases c8 : x11_1 < a0_2
      ·rw [if_pos c8] at H
       have c8b0 : decide (x11_1 < a0_2) = true := decide_eq_true c8; clear c8; replace H := Option.bind_eq_some_iff.mp H; obtain ⟨t379, A90, H⟩ := H; (try dsimp -simprocs only at H); have A9 := am A90; clear A90
       by_cases c10 : t379 = true
       ·subst c10
        rw [if_pos rfl] at H
        by_cases c11 : x5_1.length < 8796093022208
        ·rw [if_pos c11] at H
         have LMc11 := am c11; clear c11; obtain ⟨y380, hy380⟩ : ∃ y_ : List ByteArray, y_ = (x5_1 ++ [rdOf ByteArray.empty l1 x11_1]) := ⟨_, rfl⟩
         replace H : (impl_Trie_ends.l0 k1 y380 l1 (l1.length : Int) (wrap64 (x11_1 + 1)) a0_0 l0_1 a0_2 l0_3 a0_4) = some r := by first | (rw [hy380]; with_reducible exact H) | (have H2_ := (Option.bind_some _ _).symm.trans H; rw [hy380]; with_reducible exact H2_) | (have H2_ := (Option.bind_some _ _).symm.trans H; with_reducible exact H2_) | with_reducible exact H | (rw [hy380]; exact H) | exact H
         have Ny380 := am hy380; clear hy380; have H' := am H; clear H; have p378 : 0 ≤ (x11_1 : Int) := dT; have q378 : x11_1 < (l1.length : Int) := dT; obtain ⟨ad378, e378, hx378_0⟩ := Kd.at_string HR1.out x11_1 p378 q378; cases e378; replace hx378_0 := (HB.out.cell (World.block_lt_of_cell? w _ hx378_0)).trans hx378_0; replace p378 := eq_true p378; replace q378 := eq_true q378; obtain ⟨hcz12_0, hcz12_1, hcz12_2, hcz12_3, hcz12_4, hfz12_0, hfz12_1, hfz12_2, hfz12_3, hfz12_4⟩ := cf5 (w := wr) BK0
         go_wp2_with (first | (go_at_call 49; (with_reducible refine (impl_Bits_at.calls_v0_32_2 g0 a0_0 (.slice A0_1 l0_1.length c0_1) a0_4 a0_2 A0_3 c0_3 l0_3 x11_1 true _ ?side1 ?side2 ?side3 A9.out).mono ?_); (case side1 => exact Kz BK0.out); (case side2 => exact Cz (Kd.C_below HR0_3.out HB.out)); (case side3 => exact HC0_3.out); rintro e w' ⟨rfl, ⟨nd, rfl⟩⟩) | ((with_reducible refine gate_builtin (b := .append) (xs := #[.tmp 30, .tmp 32]) rfl ?_); at_builtin; refine Kd.R_append Kd.string (w0 := w) w.heap.size rfl (.tmp 30) (.tmp 32) 38 9 (.string ⟨#[]⟩) 16 rfl Try.underlying38 info9 rfl (by decide) (by omega) u5 x5_1 (rdOf ByteArray.empty l1 x11_1) [.string (rdOf ByteArray.empty l1 x11_1)] (fun _ => True) (fun _ => False) rfl rfl ?aP (fun _ hk => hk.elim) ?aF ?aO ?aB ?aS ?aL ?_; (case aP => exact rfl); (case aB => exact (Bq)); (case aF => exact (fun _ _ => trivial)); (case aO => exact (Rz HO_5.out)); (case aS => exact (below_size (w := w) (Bq))); (case aL => have := LMc11.out; omega); intro v381 w13 ho hb hg hat; rw [← Ny380.out] at ho; have n0_ := am (blk_grown (g := g0) (o := .cells #[.int .i64 a0_0, .slice A0_1 l0_1.length c0_1, .int .i64 a0_2, .slice A0_3 l0_3.length c0_3, .string a0_4] 32 (0, 0)) (Kz BK0.out) hg (Kd.R_ne HO_5.out BK0.out (by decide))); have n1_ := am (hb); have n2_ := am (ho); clear BK0 HB HO_5; revert n0_ n1_ n2_; intro BK0 HB HO382; clear ho hb hg hat))
         go_roundg k1
         case measure => have := HK1.out; omega
         case rel => exact ⟨(y380), (wrap64 (x11_1 + 1)), wZ, H', ⟨by have := HK1.out; omega⟩, ⟨Rz HO382.out⟩, ⟨Kz BK0.out⟩, ⟨Bq⟩⟩
        ·rw [if_neg c11] at H
         exact absurd H (by simp)
       ·replace c10 := Bool.eq_false_iff.mpr c10
        subst c10
        rw [if_neg (show ¬ (false = true) by decide)] at H; have H' := am H; clear H; have p378 : 0 ≤ (x11_1 : Int) := dT; have q378 : x11_1 < (l1.length : Int) := dT; obtain ⟨ad378, e378, hx378_0⟩ := Kd.at_string HR1.out x11_1 p378 q378; cases e378; replace hx378_0 := (HB.out.cell (World.block_lt_of_cell? w _ hx378_0)).trans hx378_0; replace p378 := eq_true p378; replace q378 := eq_true q378; obtain ⟨hcz14_0, hcz14_1, hcz14_2, hcz14_3, hcz14_4, hfz14_0, hfz14_1, hfz14_2, hfz14_3, hfz14_4⟩ := cf5 (w := wr) BK0
        go_wp2_with (first | (go_at_call 49; (with_reducible refine (impl_Bits_at.calls_v0_32_2 g0 a0_0 (.slice A0_1 l0_1.length c0_1) a0_4 a0_2 A0_3 c0_3 l0_3 x11_1 false _ ?side1 ?side2 ?side3 A9.out).mono ?_); (case side1 => exact Kz BK0.out); (case side2 => exact Cz (Kd.C_below HR0_3.out HB.out)); (case side3 => exact HC0_3.out); rintro e w' ⟨rfl, ⟨nd, rfl⟩⟩))
        go_roundg k1
        case measure => have := HK1.out; omega
        case rel => exact ⟨(x5_1), (wrap64 (x11_1 + 1)), wZ, H', ⟨by have := HK1.out; omega⟩, ⟨Rz HO_5.out⟩, ⟨Kz BK0.out⟩, ⟨Bq⟩⟩
      ·rw [if_neg c8] at H
       have c8b0 : decide (x11_1 < a0_2) = false := decide_eq_false c8; clear c8; have H' := am H; clear H; have p378 : 0 ≤ (x11_1 : Int) := dT; have q378 : x11_1 < (l1.length : Int) := dT; obtain ⟨ad378, e378, hx378_0⟩ := Kd.at_string HR1.out x11_1 p378 q378; cases e378; replace hx378_0 := (HB.out.cell (World.block_lt_of_cell? w _ hx378_0)).trans hx378_0; replace p378 := eq_true p378; replace q378 := eq_true q378; obtain ⟨hcz15_0, hcz15_1, hcz15_2, hcz15_3, hcz15_4, hfz15_0, hfz15_1, hfz15_2, hfz15_3, hfz15_4⟩ := cf5 (w := wr) BK0
       go_wp2
       go_roundg k1
       case measure => have := HK1.out; omega
       case rel => exact ⟨(x5_1), (wrap64 (x11_1 + 1)), wZ, H', ⟨by have := HK1.out; omega⟩, ⟨Rz HO_5.out⟩, ⟨Kz BK0.out⟩, ⟨Bq⟩⟩
     ·rw [if_neg c7] at H
      exact absurd H (by simp)
    ·rw [if_neg c6] at H
     exact absurd H (by simp)
   ·rw [if_neg c5] at H
    have c5b0 : decide (x11_1 < (l1.length : Int)) = false := decide_eq_false c5; clear c5; replace H := Option.bind_eq_some_iff.mp H; obtain ⟨t383, A160, H⟩ := H; (try dsimp -simprocs only at H); have A16 := am A160; clear A160; obtain rfl := Option.some.inj H; obtain ⟨Ao17, co17, eo17⟩ := Kd.R_slice HO_5.out; subst eo17
    go_wp2_with (first | ((with_reducible refine gate_callee (f := 90) rfl ?_); refine gL (some 36) Try.func90 #[.slice Ao17 x5_1.length co17] ?_; (with_reducible refine (slices_Sort_string_string.calls (fun k_ => some k_ = (.slice Ao17 x5_1.length co17 : Value).ownBlock) (.slice Ao17 x5_1.length co17) x5_1 t383 w _ ?side1 ?side2 A16.out).mono ?_); (case side1 => repeat (first | (with_reducible first | exact HB.out | apply below_alloc | apply pw_below_drewN | apply below_drew1 | refine below_set ?_ GE0.out) | exact HB.out)); (case side2 => exact Kd.R_tight rfl HO_5.out); rintro e w18 ⟨rfl, hy0, hb, hkp⟩; refine ⟨_, rfl, ?_⟩; have n0_ := am (Kd.R_reok rfl hy0 (fun k_ e_ => HO_5.out.1 k_ e_)); have n1_ := am (blk_kept (Kz BK0.out) hkp (fun hs_ => (fun e_ => (Kd.R_ne HO_5.out BK0.out (by decide)) e_) hs_)); have n2_ := am (hb); clear HO_5 BK0 HB; revert n0_ n1_ n2_; intro HO_5 BK0 HB; (try clear hb); (try clear hkp); (try clear hy0)))
    go_ret
    exact ⟨_, eZ, Rz HO_5.out, Bq⟩

mutual
def impl_IsBits.j0 : Nat → Bool → Int → List Int → Option (Bool)
 | 0, _, _, _ => none
 | k + 1, x18, x385000, x385001 => if x18 = true then (some false) else (impl_IsBits.l0 k x385001 (x385001.length : Int) 0 x385000 x385001)
def impl_IsBits.l0 : Nat → List Int → Int → Int → Int → List Int → Option (Bool)
 | 0, _, _, _, _, _ => none
 | k + 1, x20, x21, x22, x385000, x385001 => if x22 < x21 then (if 0 ≤ x22 then (if x22 < (x20.length : Int) then ((impl_in.f (rd x20 x22) 0 65535).bind fun t388 => (if t388 = true then (impl_IsBits.l0 k x20 x21 (wrap64 (x22 + 1)) x385000 x385001) else (some false))) else (none)) else (none)) else (if (Int.tmod x385000 16) = 0 then (some true) else (if 0 ≤ (wrap64 ((x385001.length : Int) - 1)) then (if (wrap64 ((x385001.length : Int) - 1)) < (x385001.length : Int) then (if 0 ≤ (Int.tmod x385000 16) then (some ((shr .i64 (rd x385001 (wrap64 ((x385001.length : Int) - 1))) (Int.tmod x385000 16)) == 0)) else (none)) else (none)) else (none)))
end
def impl_IsBits.f (k : Nat) (a0_0 : Int) (l0_1 : List Int) : Option (Bool) := (impl_in.f a0_0 0 4096).bind fun t385 => (if t385 = true then ((impl_words.f a0_0).bind fun t386 => (impl_IsBits.j0 k ((l0_1.length : Int) != t386) a0_0 l0_1)) else (impl_IsBits.j0 k true a0_0 l0_1))
theorem impl_IsBits.mono_l : ∀ k, (∀ y0 y1 y2, LeO (impl_IsBits.j0 k y0 y1 y2) (impl_IsBits.j0 (k + 1) y0 y1 y2)) ∧ (∀ y0 y1 y2 y3 y4, LeO (impl_IsBits.l0 k y0 y1 y2 y3 y4) (impl_IsBits.l0 (k + 1) y0 y1 y2 y3 y4))
 | 0 => ⟨fun _ _ _ r h => by simp [impl_IsBits.j0] at h, fun _ _ _ _ _ r h => by simp [impl_IsBits.l0] at h⟩
 | k + 1 => by
  obtain ⟨ih0, ih1⟩ := impl_IsBits.mono_l k; refine ⟨?_, ?_⟩
  ·intro y0 y1 y2
   unfold impl_IsBits.j0
   repeat' first | (with_reducible first | exact ih0 _ _ _ | exact ih1 _ _ _ _ _ | exact LeO.refl _ | exact LeO.none _ | refine LeO.ite ?_ ?_ | refine LeO.bind ?_ (fun _ => ?_)) | exact LeO.none _ | refine LeO.ite ?_ ?_ | refine LeO.bind ?_ (fun _ => ?_)
  ·intro y0 y1 y2 y3 y4
   unfold impl_IsBits.l0
   repeat' first | (with_reducible first | exact ih0 _ _ _ | exact ih1 _ _ _ _ _ | exact LeO.refl _ | exact LeO.none _ | refine LeO.ite ?_ ?_ | refine LeO.bind ?_ (fun _ => ?_)) | exact LeO.none _ | refine LeO.ite ?_ ?_ | refine LeO.bind ?_ (fun _ => ?_)
theorem impl_IsBits.mono : ∀ a0 a1 k, LeO (impl_IsBits.f k a0 a1) (impl_IsBits.f (k + 1) a0 a1) := by
 intro a0 a1 k; obtain ⟨ih0, ih1⟩ := impl_IsBits.mono_l k
 unfold impl_IsBits.f
 repeat' first | (with_reducible first | exact ih0 _ _ _ | exact ih1 _ _ _ _ _ | exact LeO.refl _ | exact LeO.none _ | refine LeO.ite ?_ ?_ | refine LeO.bind ?_ (fun _ => ?_)) | exact LeO.none _ | refine LeO.ite ?_ ?_ | refine LeO.bind ?_ (fun _ => ?_)
theorem impl_IsBits.calls (k : Nat) (a0_0 : Int) (A0_1 : Option Addr) (c0_1 : Nat) (l0_1 : List Int) (r : Bool) (w : World) (hr0_1 : Kd.C (Kd.int .i64) w A0_1 l0_1.length l0_1) (hc0_1 : l0_1.length ≤ c0_1) (h : impl_IsBits.f k a0_0 l0_1 = some r) :
  Calls Try.prog 73 #[.agg #[.int .i64 a0_0, .slice A0_1 l0_1.length c0_1]] w fun e w' => e = .returned (.bool r) ∧ Below w.heap.size w w' := by
 have hu30 := Try.underlying30; have HR0_1 := am hr0_1; have HC0_1 := am hc0_1; clear hr0_1 hc0_1; have HB := am (Below.refl w.heap.size w); have H : ((impl_in.f a0_0 0 4096).bind fun t385 => (if t385 = true then ((impl_words.f a0_0).bind fun t386 => (impl_IsBits.j0 k ((l0_1.length : Int) != t386) a0_0 l0_1)) else (impl_IsBits.j0 k true a0_0 l0_1))) = some r := h; clear h; have HC2 := am H; clear H
 go_enter Try.func73, Try.ntmps73
 go_upto_region 1 with (first | ((with_reducible refine gate_dst (N := 1) rfl ?_); (try (refine gate_guard (by rfl) ?_; dsimp only)); refine bE 1 #[.int .i64 a0_0, .slice A0_1 l0_1.length c0_1] 30 ?_; intro gb384 hg w3 hbox hb; have n0_ := Bb HB hb; have n1_ := am (hbox); have n2_ := Gl HB hg; have n3_ := Gl HB hg; clear HB; revert n0_ n1_ n2_ n3_; intro HB BK384 GW384 GE384; clear hb hbox hg))
 repeat (go_quiet (first | ((with_reducible refine gate_dst (N := 1) rfl ?_); (try (refine gate_guard (by rfl) ?_; dsimp only)); refine bE 1 #[.int .i64 a0_0, .slice A0_1 l0_1.length c0_1] 30 ?_; intro gb384 hg w3 hbox hb; have n0_ := Bb HB hb; have n1_ := am (hbox); have n2_ := Gl HB hg; have n3_ := Gl HB hg; clear HB; revert n0_ n1_ n2_ n3_; intro HB BK384 GW384 GE384; clear hb hbox hg)); go_upto_region 1 with (first | ((with_reducible refine gate_dst (N := 1) rfl ?_); (try (refine gate_guard (by rfl) ?_; dsimp only)); refine bE 1 #[.int .i64 a0_0, .slice A0_1 l0_1.length c0_1] 30 ?_; intro gb384 hg w3 hbox hb; have n0_ := Bb HB hb; have n1_ := am (hbox); have n2_ := Gl HB hg; have n3_ := Gl HB hg; clear HB; revert n0_ n1_ n2_ n3_; intro HB BK384 GW384 GE384; clear hb hbox hg)))
 (try simp only [aP])
 go_cut [18] (fun v18 wc => ∃ (kq : Nat) (x18_1 : Bool), v18 = .bool x18_1 ∧ Aside0 (impl_IsBits.j0 kq x18_1 a0_0 l0_1 = some r) ∧ Aside0 (kq ≤ k) ∧ Aside0 (wc.heap[gb384]? = some (.cells #[.int .i64 a0_0, (.slice A0_1 l0_1.length c0_1)] 30 (0, 0))) ∧ Aside0 (Below w.heap.size w wc))
 case first =>
  have H := HC2.out; clear HC2; replace H := Option.bind_eq_some_iff.mp H; obtain ⟨t385, A40, H⟩ := H; (try dsimp -simprocs only at H); have A4 := am A40; clear A40
  by_cases c5 : t385 = true
  ·subst c5
   rw [if_pos rfl] at H; replace H := Option.bind_eq_some_iff.mp H; obtain ⟨t386, A60, H⟩ := H; (try dsimp -simprocs only at H); have A6 := am A60; clear A60; have H' := am H; clear H; obtain ⟨hcz7_0, hcz7_1, hfz7_0, hfz7_1⟩ := cf2 (w := w3) BK384
   go_wp2_with (first | (go_at_call 75; (with_reducible refine (impl_in.calls a0_0 0 4096 true _ A4.out).mono ?_); rintro e w' ⟨rfl, ⟨nd, rfl⟩⟩; (try exact yZ)) | (go_at_call 91; (with_reducible refine (impl_words.calls a0_0 t386 _ A6.out).mono ?_); rintro e w' ⟨rfl, ⟨nd, rfl⟩⟩; (try exact yZ)))
   repeat (go_quiet (first | (go_at_call 75; (with_reducible refine (impl_in.calls a0_0 0 4096 true _ A4.out).mono ?_); rintro e w' ⟨rfl, ⟨nd, rfl⟩⟩; (try exact yZ)) | (go_at_call 91; (with_reducible refine (impl_words.calls a0_0 t386 _ A6.out).mono ?_); rintro e w' ⟨rfl, ⟨nd, rfl⟩⟩; (try exact yZ))); try go_wp2_with (first | (go_at_call 75; (with_reducible refine (impl_in.calls a0_0 0 4096 true _ A4.out).mono ?_); rintro e w' ⟨rfl, ⟨nd, rfl⟩⟩; (try exact yZ)) | (go_at_call 91; (with_reducible refine (impl_words.calls a0_0 t386 _ A6.out).mono ?_); rintro e w' ⟨rfl, ⟨nd, rfl⟩⟩; (try exact yZ))))
   go_meet
   case rel => exact ⟨_, (((l0_1.length : Int) != t386)), wZ, H', ⟨by first | omega | exact Nat.le_refl _⟩, ⟨Kz BK384.out⟩, ⟨Bq⟩⟩
  ·replace c5 := Bool.eq_false_iff.mpr c5
   subst c5
   rw [if_neg (show ¬ (false = true) by decide)] at H; have H' := am H; clear H; obtain ⟨hcz8_0, hcz8_1, hfz8_0, hfz8_1⟩ := cf2 (w := w3) BK384
   go_wp2_with (first | (go_at_call 75; (with_reducible refine (impl_in.calls a0_0 0 4096 false _ A4.out).mono ?_); rintro e w' ⟨rfl, ⟨nd, rfl⟩⟩; (try exact yZ)))
   repeat (go_quiet (first | (go_at_call 75; (with_reducible refine (impl_in.calls a0_0 0 4096 false _ A4.out).mono ?_); rintro e w' ⟨rfl, ⟨nd, rfl⟩⟩; (try exact yZ))); try go_wp2_with (first | (go_at_call 75; (with_reducible refine (impl_in.calls a0_0 0 4096 false _ A4.out).mono ?_); rintro e w' ⟨rfl, ⟨nd, rfl⟩⟩; (try exact yZ))))
   go_meet
   case rel => exact ⟨_, (true), wZ, H', ⟨by first | omega | exact Nat.le_refl _⟩, ⟨Kz BK384.out⟩, ⟨Bq⟩⟩
 case rest =>
  clear HC2
  try clear p2
  try clear c5
  try clear c7
  try clear hcz7_0
  try clear hcz7_1
  try clear hcz8_0
  try clear hcz8_1
  try clear hfz7_0
  try clear hfz7_1
  try clear hfz8_0
  try clear hfz8_1
  obtain ⟨kq, x18_1, rfl, HA, HJ1, BK384, HB⟩ := hcut; cases kq with
  | zero => exact absurd HA.out (by simp [impl_IsBits.j0])
  | succ kj1 =>
   have H := HA.out; clear HA
   simp only [impl_IsBits.j0] at H
   by_cases c9 : x18_1 = true
   ·subst c9
    rw [if_pos rfl] at H; obtain rfl := Option.some.inj H
    go_wp2
    repeat (go_quiet (fail); try go_wp2)
    go_ret
    exact ⟨eZ, Bq⟩
   ·replace c9 := Bool.eq_false_iff.mpr c9
    subst c9
    rw [if_neg (show ¬ (false = true) by decide)] at H; have H' := am H; clear H; obtain ⟨hcz10_0, hcz10_1, hfz10_0, hfz10_1⟩ := cf2 (w := wc) BK384
    go_wp2
    repeat (go_quiet (fail); try go_wp2)
    go_loopg [22] kj1 (fun kq v22 w' => ∃ (x22_2 : Int), v22 = .int .i64 x22_2 ∧ Aside0 (impl_IsBits.l0 kq l0_1 (l0_1.length : Int) x22_2 a0_0 l0_1 = some r) ∧ Aside0 (kq ≤ kj1) ∧ Aside0 (w'.heap[gb384]? = some (.cells #[.int .i64 a0_0, (.slice A0_1 l0_1.length c0_1)] 30 (0, 0))) ∧ Aside0 (Below w.heap.size w w'))
    case atStart => exact ⟨(0), wZ, H', ⟨Nat.le_refl _⟩, ⟨Kz BK384.out⟩, ⟨Bq⟩⟩
    case round =>
     clear H'
     try clear p2
     try clear c5
     try clear c7
     try clear c9
     try clear hcz10_0
     try clear hcz10_1
     try clear hcz7_0
     try clear hcz7_1
     try clear hcz8_0
     try clear hcz8_1
     try clear hfz10_0
     try clear hfz10_1
     try clear hfz7_0
     try clear hfz7_1
     try clear hfz8_0
     try clear hfz8_1
     try clear p2
     obtain ⟨x22_2, rfl, HA, HK2, BK384, HB⟩ := hrel; cases gk with
     | zero => exact absurd HA.out (by simp [impl_IsBits.l0])
     | succ k2 =>
      have H := HA.out; clear HA
      simp only [impl_IsBits.l0] at H
      by_cases c11 : x22_2 < (l0_1.length : Int)
      ·rw [if_pos c11] at H
       have c11b0 : decide (x22_2 < (l0_1.length : Int)) = true := decide_eq_true c11; clear c11
       by_cases c12 : 0 ≤ x22_2
       ·rw [if_pos c12] at H
        have c12b0 : decide (0 ≤ x22_2) = true := decide_eq_true c12; clear c12
        by_cases c13 : x22_2 < (l0_1.length : Int)
        ·rw [if_pos c13] at H
         have c13b0 : decide (x22_2 < (l0_1.length : Int)) = true := decide_eq_true c13; clear c13; replace H := Option.bind_eq_some_iff.mp H; obtain ⟨t388, A140, H⟩ := H; (try dsimp -simprocs only at H); have A14 := am A140; clear A140
         by_cases c15 : t388 = true
         ·subst c15
          rw [if_pos rfl] at H; have H' := am H; clear H; have p387 : 0 ≤ (x22_2 : Int) := dT; have q387 : x22_2 < (l0_1.length : Int) := dT; obtain ⟨ad387, e387, hx387_0⟩ := Kd.at_int HR0_1.out x22_2 p387 q387; cases e387; replace hx387_0 := (HB.out.cell (World.block_lt_of_cell? w _ hx387_0)).trans hx387_0; replace p387 := eq_true p387; replace q387 := eq_true q387
          go_wp2_with (first | (go_at_call 75; (with_reducible refine (impl_in.calls (rd l0_1 x22_2) 0 65535 true _ A14.out).mono ?_); rintro e w' ⟨rfl, ⟨nd, rfl⟩⟩; (try exact yZ)))
          repeat (go_quiet (first | (go_at_call 75; (with_reducible refine (impl_in.calls (rd l0_1 x22_2) 0 65535 true _ A14.out).mono ?_); rintro e w' ⟨rfl, ⟨nd, rfl⟩⟩; (try exact yZ))); try go_wp2_with (first | (go_at_call 75; (with_reducible refine (impl_in.calls (rd l0_1 x22_2) 0 65535 true _ A14.out).mono ?_); rintro e w' ⟨rfl, ⟨nd, rfl⟩⟩; (try exact yZ))))
          go_roundg k2
          case measure => have := HJ1.out; have := HK2.out; omega
          case rel => exact ⟨(wrap64 (x22_2 + 1)), wZ, H', ⟨by have := HJ1.out; have := HK2.out; omega⟩, ⟨Kz BK384.out⟩, ⟨Bq⟩⟩
         ·replace c15 := Bool.eq_false_iff.mpr c15
          subst c15
          rw [if_neg (show ¬ (false = true) by decide)] at H; obtain rfl := Option.some.inj H; have p387 : 0 ≤ (x22_2 : Int) := dT; have q387 : x22_2 < (l0_1.length : Int) := dT; obtain ⟨ad387, e387, hx387_0⟩ := Kd.at_int HR0_1.out x22_2 p387 q387; cases e387; replace hx387_0 := (HB.out.cell (World.block_lt_of_cell? w _ hx387_0)).trans hx387_0; replace p387 := eq_true p387; replace q387 := eq_true q387
          go_wp2_with (first | (go_at_call 75; (with_reducible refine (impl_in.calls (rd l0_1 x22_2) 0 65535 false _ A14.out).mono ?_); rintro e w' ⟨rfl, ⟨nd, rfl⟩⟩; (try exact yZ)))
          repeat (go_quiet (first | (go_at_call 75; (with_reducible refine (impl_in.calls (rd l0_1 x22_2) 0 65535 false _ A14.out).mono ?_); rintro e w' ⟨rfl, ⟨nd, rfl⟩⟩; (try exact yZ))); try go_wp2_with (first | (go_at_call 75; (with_reducible refine (impl_in.calls (rd l0_1 x22_2) 0 65535 false _ A14.out).mono ?_); rintro e w' ⟨rfl, ⟨nd, rfl⟩⟩; (try exact yZ))))
          go_ret
          exact ⟨eZ, Bq⟩
        ·rw [if_neg c13] at H
         exact absurd H (by simp)
       ·rw [if_neg c12] at H
        exact absurd H (by simp)
      ·rw [if_neg c11] at H
       have c11b0 : decide (x22_2 < (l0_1.length : Int)) = false := decide_eq_false c11; clear c11
       by_cases c16 : (Int.tmod a0_0 16) = 0
       ·rw [if_pos c16] at H
        have c16b0 : ((Int.tmod a0_0 16) == 0) = true := beq_iff_eq.mpr c16; have c16b1 : ((Int.tmod a0_0 16) != 0) = false := bne_eq_false_iff_eq.mpr c16; clear c16; obtain rfl := Option.some.inj H; obtain ⟨hcz17_0, hcz17_1, hfz17_0, hfz17_1⟩ := cf2 (w := wr) BK384
        go_wp2
        repeat (go_quiet (fail); try go_wp2)
        go_ret
        exact ⟨eZ, Bq⟩
       ·rw [if_neg c16] at H
        have c16b0 : ((Int.tmod a0_0 16) == 0) = false := beq_eq_false_iff_ne.mpr c16; have c16b1 : ((Int.tmod a0_0 16) != 0) = true := bne_iff_ne.mpr c16; obtain ⟨ji18, hji18⟩ : ∃ j_ : Int, (wrap64 ((l0_1.length : Int) - 1)) = j_ := ⟨_, rfl⟩
        replace H : (if 0 ≤ (ji18) then (if (ji18) < (l0_1.length : Int) then (if 0 ≤ (Int.tmod a0_0 16) then (some ((shr .i64 (rd l0_1 (ji18)) (Int.tmod a0_0 16)) == 0)) else (none)) else (none)) else (none)) = some r := by first | (rw [hji18] at H; exact H) | (simp only [hji18] at H ⊢; exact H)
        have hji18w : (IntKind.i64.wrap ((l0_1.length : Int) - 1)) = ji18 := (i64_w _).trans hji18
        by_cases c19 : 0 ≤ (ji18)
        ·rw [if_pos c19] at H
         have c19b0 : decide (0 ≤ (ji18)) = true := decide_eq_true c19; clear c19
         by_cases c20 : (ji18) < (l0_1.length : Int)
         ·rw [if_pos c20] at H
          have c20b0 : decide ((ji18) < (l0_1.length : Int)) = true := decide_eq_true c20; clear c20; obtain ⟨ji21, hji21⟩ : ∃ j_ : Int, (Int.tmod a0_0 16) = j_ := ⟨_, rfl⟩
          replace H : (if 0 ≤ (ji21) then (some ((shr .i64 (rd l0_1 (ji18)) (ji21)) == 0)) else (none)) = some r := by first | (rw [hji21] at H; exact H) | (simp only [hji21] at H ⊢; exact H)
          (try rw [hji21] at c16b0)
          (try rw [hji21] at c16b1)
          by_cases c22 : 0 ≤ (ji21)
          ·rw [if_pos c22] at H
           have c22b0 := eq_true c22; have c22b1 : decide (0 ≤ (ji21)) = true := decide_eq_true c22; clear c22; obtain ⟨ji23, hji23⟩ : ∃ j_ : Int, (shr .i64 (rd l0_1 (ji18)) (ji21)) = j_ := ⟨_, rfl⟩
           replace H : (some ((ji23) == 0)) = some r := by first | (rw [hji23] at H; exact H) | (simp only [hji23] at H ⊢; exact H)
           have hji23_ : ((rd l0_1 (ji18)) / 2 ^ min (ji21).toNat 64) = ji23 := hji23; have hji23z : (ji21) ≤ 64 → ((rd l0_1 (ji18)) / 2 ^ (ji21).toNat) = ji23 := shr_small hji23; obtain rfl := Option.some.inj H; obtain ⟨hcz24_0, hcz24_1, hfz24_0, hfz24_1⟩ := cf2 (w := wr) BK384; have p389 : 0 ≤ ((ji18) : Int) := dT; have q389 : (ji18) < (l0_1.length : Int) := dT; obtain ⟨ad389, e389, hx389_0⟩ := Kd.at_int HR0_1.out (ji18) p389 q389; cases e389; replace hx389_0 := (HB.out.cell (World.block_lt_of_cell? w _ hx389_0)).trans hx389_0; replace p389 := eq_true p389; replace q389 := eq_true q389
           go_wp2
           repeat (go_quiet (fail); try go_wp2)
           go_ret
           exact ⟨by first | rfl | (simp [errW_none, errW_some] <;> rfl) | (simp only [← hji18, ← hji21, ← hji23]; first | rfl | (simp [errW_none, errW_some] <;> rfl)) | (simp [*, errW_none, errW_some] <;> rfl), Bq⟩
          ·rw [if_neg c22] at H
           exact absurd H (by simp)
         ·rw [if_neg c20] at H
          exact absurd H (by simp)
        ·rw [if_neg c19] at H
         exact absurd H (by simp)

def slices_Equal_int_int.l0 : Nat → List Int → List Int → Int → Int → Option (Bool)
 | 0, _, _, _, _ => none
 | k + 1, x0, x1, x12, x13 => if x13 < x12 then (if 0 ≤ x13 then (if x13 < (x0.length : Int) then (if x13 < (x1.length : Int) then (if (rd x0 x13) = (rd x1 x13) then (slices_Equal_int_int.l0 k x0 x1 x12 (wrap64 (x13 + 1))) else (some false)) else (none)) else (none)) else (none)) else (some true)
def slices_Equal_int_int.f (k : Nat) (l0 : List Int) (l1 : List Int) : Option (Bool) := if (l0.length : Int) = (l1.length : Int) then (slices_Equal_int_int.l0 k l0 l1 (l0.length : Int) 0) else (some false)
theorem slices_Equal_int_int.mono_l : ∀ k, (∀ y0 y1 y2 y3, LeO (slices_Equal_int_int.l0 k y0 y1 y2 y3) (slices_Equal_int_int.l0 (k + 1) y0 y1 y2 y3))
 | 0 => fun _ _ _ _ r h => by simp [slices_Equal_int_int.l0] at h
 | k + 1 => by
  have ih0 := slices_Equal_int_int.mono_l k
  ·intro y0 y1 y2 y3
   unfold slices_Equal_int_int.l0
   repeat' first | (with_reducible first | exact ih0 _ _ _ _ | exact LeO.refl _ | exact LeO.none _ | refine LeO.ite ?_ ?_ | refine LeO.bind ?_ (fun _ => ?_)) | exact LeO.none _ | refine LeO.ite ?_ ?_ | refine LeO.bind ?_ (fun _ => ?_)
theorem slices_Equal_int_int.mono : ∀ a0 a1 k, LeO (slices_Equal_int_int.f k a0 a1) (slices_Equal_int_int.f (k + 1) a0 a1) := by
 intro a0 a1 k; have ih0 := slices_Equal_int_int.mono_l k
 unfold slices_Equal_int_int.f
 repeat' first | (with_reducible first | exact ih0 _ _ _ _ | exact LeO.refl _ | exact LeO.none _ | refine LeO.ite ?_ ?_ | refine LeO.bind ?_ (fun _ => ?_)) | exact LeO.none _ | refine LeO.ite ?_ ?_ | refine LeO.bind ?_ (fun _ => ?_)
theorem slices_Equal_int_int.calls (k : Nat) (A0 : Option Addr) (c0 : Nat) (l0 : List Int) (A1 : Option Addr) (c1 : Nat) (l1 : List Int) (r : Bool) (w : World) (hr0 : Kd.C (Kd.int .i64) w A0 l0.length l0) (hc0 : l0.length ≤ c0) (hr1 : Kd.C (Kd.int .i64) w A1 l1.length l1) (hc1 : l1.length ≤ c1) (h : slices_Equal_int_int.f k l0 l1 = some r) :
  Calls Try.prog 92 #[.slice A0 l0.length c0, .slice A1 l1.length c1] w fun e w' => e = .returned (.bool r) ∧ Drawn0 w w' := by
 have HR0 := am hr0; have HC0 := am hc0; clear hr0 hc0; have HR1 := am hr1; have HC1 := am hc1; clear hr1 hc1; have H : (if (l0.length : Int) = (l1.length : Int) then (slices_Equal_int_int.l0 k l0 l1 (l0.length : Int) 0) else (some false)) = some r := h; clear h
 by_cases c3 : (l0.length : Int) = (l1.length : Int)
 ·rw [if_pos c3] at H
  have c3b0 : ((l0.length : Int) == (l1.length : Int)) = true := beq_iff_eq.mpr c3; have c3b1 : ((l0.length : Int) != (l1.length : Int)) = false := bne_eq_false_iff_eq.mpr c3
  have c3b2 : (l0.length == l1.length) = true := by first | simpa using c3 | (simp at c3 ⊢; omega)
  clear c3; have H' := am H; clear H
  go_enter Try.func92, Try.ntmps92
  go_wp2
  repeat (go_quiet (fail); try go_wp2)
  go_loopg [13] k (fun kq v13 w' => ∃ (x13_1 : Int), v13 = .int .i64 x13_1 ∧ Aside0 (slices_Equal_int_int.l0 kq l0 l1 (l0.length : Int) x13_1 = some r) ∧ Aside0 (kq ≤ k) ∧ Drawn0 w w')
  case atStart => exact ⟨(0), wZ, H', ⟨Nat.le_refl _⟩, by repeat (first | exact Drawn0.refl _ | apply Drawn0.step)⟩
  case round =>
   clear H'
   try clear c1
   try clear p2
   try clear c3
   try clear c3b0
   try clear c3b1
   try clear c3b2
   obtain ⟨x13_1, rfl, HA, HK1, ⟨m1, rfl⟩⟩ := hrel; cases gk with
   | zero => exact absurd HA.out (by simp [slices_Equal_int_int.l0])
   | succ k1 =>
    have H := HA.out; clear HA
    simp only [slices_Equal_int_int.l0] at H
    by_cases c4 : x13_1 < (l0.length : Int)
    ·rw [if_pos c4] at H
     have c4b0 : decide (x13_1 < (l0.length : Int)) = true := decide_eq_true c4; clear c4
     by_cases c5 : 0 ≤ x13_1
     ·rw [if_pos c5] at H
      have c5b0 : decide (0 ≤ x13_1) = true := decide_eq_true c5; clear c5
      by_cases c6 : x13_1 < (l0.length : Int)
      ·rw [if_pos c6] at H
       have c6b0 : decide (x13_1 < (l0.length : Int)) = true := decide_eq_true c6; clear c6
       by_cases c7 : x13_1 < (l1.length : Int)
       ·rw [if_pos c7] at H
        have c7b0 : decide (x13_1 < (l1.length : Int)) = true := decide_eq_true c7; clear c7
        by_cases c8 : (rd l0 x13_1) = (rd l1 x13_1)
        ·rw [if_pos c8] at H
         have c8b0 : ((rd l0 x13_1) == (rd l1 x13_1)) = true := beq_iff_eq.mpr c8; have c8b1 : ((rd l0 x13_1) != (rd l1 x13_1)) = false := bne_eq_false_iff_eq.mpr c8; clear c8; have H' := am H; clear H; obtain ⟨ad390, e390, hx390_0⟩ := Kd.at_int HR0.out x13_1 dT dT; cases e390; have p390 := eT (0 ≤ (x13_1 : Int)); have q390 := eT (x13_1 < (l0.length : Int)); obtain ⟨ad391, e391, hx391_0⟩ := Kd.at_int HR1.out x13_1 dT dT; cases e391; have p391 := eT (0 ≤ (x13_1 : Int)); have q391 := eT (x13_1 < (l1.length : Int))
         go_wp2
         repeat (go_quiet (fail); try go_wp2)
         go_roundg k1
         case measure => have := HK1.out; omega
         case rel => exact ⟨(wrap64 (x13_1 + 1)), wZ, H', ⟨by have := HK1.out; omega⟩, by repeat (first | exact Drawn0.refl _ | apply Drawn0.step)⟩
        ·rw [if_neg c8] at H
         have c8b0 : ((rd l0 x13_1) == (rd l1 x13_1)) = false := beq_eq_false_iff_ne.mpr c8; have c8b1 : ((rd l0 x13_1) != (rd l1 x13_1)) = true := bne_iff_ne.mpr c8; obtain rfl := Option.some.inj H; obtain ⟨ad390, e390, hx390_0⟩ := Kd.at_int HR0.out x13_1 dT dT; cases e390; have p390 := eT (0 ≤ (x13_1 : Int)); have q390 := eT (x13_1 < (l0.length : Int)); obtain ⟨ad391, e391, hx391_0⟩ := Kd.at_int HR1.out x13_1 dT dT; cases e391; have p391 := eT (0 ≤ (x13_1 : Int)); have q391 := eT (x13_1 < (l1.length : Int))
         go_wp2
         repeat (go_quiet (fail); try go_wp2)
         go_ret
         exact ⟨by first | rfl | (simp; done) | (simp [*]; done), by repeat (first | exact Drawn0.refl _ | apply Drawn0.step)⟩
       ·rw [if_neg c7] at H
        exact absurd H (by simp)
      ·rw [if_neg c6] at H
       exact absurd H (by simp)
     ·rw [if_neg c5] at H
      exact absurd H (by simp)
    ·rw [if_neg c4] at H
     have c4b0 : decide (x13_1 < (l0.length : Int)) = false := decide_eq_false c4; clear c4; obtain rfl := Option.some.inj H
     go_wp2
     repeat (go_quiet (fail); try go_wp2)
     go_ret
     exact ⟨by first | rfl | (simp; done) | (simp [*]; done), by repeat (first | exact Drawn0.refl _ | apply Drawn0.step)⟩
 ·rw [if_neg c3] at H
  have c3b0 : ((l0.length : Int) == (l1.length : Int)) = false := beq_eq_false_iff_ne.mpr c3; have c3b1 : ((l0.length : Int) != (l1.length : Int)) = true := bne_iff_ne.mpr c3
  have c3b2 : (l0.length == l1.length) = false := by first | simpa using c3 | (simp at c3 ⊢; omega)
  obtain rfl := Option.some.inj H
  go_enter Try.func92, Try.ntmps92
  go_wp2
  repeat (go_quiet (fail); try go_wp2)
  go_ret
  exact ⟨by first | rfl | (simp; done) | (simp [*]; done), by repeat (first | exact Drawn0.refl _ | apply Drawn0.step)⟩

def impl_sameBits.f (k : Nat) (a0_0 : Int) (l0_1 : List Int) (a1_0 : Int) (l1_1 : List Int) : Option (Bool) := if a0_0 = a1_0 then ((slices_Equal_int_int.f k l0_1 l1_1).bind fun t394 => (some t394)) else (some false)
theorem impl_sameBits.mono : ∀ a0 a1 a2 a3 k, LeO (impl_sameBits.f k a0 a1 a2 a3) (impl_sameBits.f (k + 1) a0 a1 a2 a3) := by
 intro a0 a1 a2 a3 k
 unfold impl_sameBits.f
 repeat' first | (with_reducible first | exact slices_Equal_int_int.mono _ _ _ | exact LeO.refl _ | exact LeO.none _ | refine LeO.ite ?_ ?_ | refine LeO.bind ?_ (fun _ => ?_)) | exact LeO.none _ | refine LeO.ite ?_ ?_ | refine LeO.bind ?_ (fun _ => ?_)
theorem impl_sameBits.calls (k : Nat) (a0_0 : Int) (A0_1 : Option Addr) (c0_1 : Nat) (l0_1 : List Int) (a1_0 : Int) (A1_1 : Option Addr) (c1_1 : Nat) (l1_1 : List Int) (r : Bool) (w : World) (hr0_1 : Kd.C (Kd.int .i64) w A0_1 l0_1.length l0_1) (hc0_1 : l0_1.length ≤ c0_1) (hr1_1 : Kd.C (Kd.int .i64) w A1_1 l1_1.length l1_1) (hc1_1 : l1_1.length ≤ c1_1) (h : impl_sameBits.f k a0_0 l0_1 a1_0 l1_1 = some r) :
  Calls Try.prog 74 #[.agg #[.int .i64 a0_0, .slice A0_1 l0_1.length c0_1], .agg #[.int .i64 a1_0, .slice A1_1 l1_1.length c1_1]] w fun e w' => e = .returned (.bool r) ∧ Below w.heap.size w w' := by
 have hu30 := Try.underlying30; have HR0_1 := am hr0_1; have HC0_1 := am hc0_1; clear hr0_1 hc0_1; have HR1_1 := am hr1_1; have HC1_1 := am hc1_1; clear hr1_1 hc1_1; have HB := am (Below.refl w.heap.size w); have H : (if a0_0 = a1_0 then ((slices_Equal_int_int.f k l0_1 l1_1).bind fun t394 => (some t394)) else (some false)) = some r := h; clear h
 by_cases c3 : a0_0 = a1_0
 ·rw [if_pos c3] at H
  have c3b0 : (a0_0 == a1_0) = true := beq_iff_eq.mpr c3; have c3b1 : (a0_0 != a1_0) = false := bne_eq_false_iff_eq.mpr c3; clear c3; replace H := Option.bind_eq_some_iff.mp H; obtain ⟨t394, A40, H⟩ := H; (try dsimp -simprocs only at H); have A4 := am A40; clear A40; obtain rfl := Option.some.inj H
  go_enter Try.func74, Try.ntmps74
  go_wp2_with (first | ((with_reducible refine gate_dst (N := 2) rfl ?_); refine bE 2 #[.int .i64 a0_0, .slice A0_1 l0_1.length c0_1] 30 ?_; intro gb392 hg w5 hbox hb; have n0_ := Bb HB hb; have n1_ := am (hbox); have n2_ := Gl HB hg; have n3_ := Gl HB hg; clear HB; revert n0_ n1_ n2_ n3_; intro HB BK392 GW392 GE392; clear hb hbox hg) | ((with_reducible refine gate_dst (N := 3) rfl ?_); refine bE 3 #[.int .i64 a1_0, .slice A1_1 l1_1.length c1_1] 30 ?_; intro gb393 hg w6 hbox hb; have n0_ := Kb BK392 hb; have n1_ := Bc HB hb; have n2_ := am (hbox); have n3_ := Gm HB hg; have n4_ := Gm HB hg; have n5_ := Nl BK392 hg; have n6_ := Ng BK392 hg; clear BK392 HB; revert n0_ n1_ n2_ n3_ n4_ n5_ n6_; intro BK392 HB BK393 GW393 GE393 NB392_393 NB393_392; clear hb hbox hg; have hnb7 := NB392_393.out; have hnc7 := NB393_392.out; obtain ⟨hcz8_0, hcz8_1, hfz8_0, hfz8_1⟩ := cf2 (w := w6) BK392; obtain ⟨hcz9_0, hcz9_1, hfz9_0, hfz9_1⟩ := cf2 (w := w6) BK393) | (go_at_call 92; (with_reducible refine (slices_Equal_int_int.calls k _ _ l0_1 _ _ l1_1 t394 _ ?side1 ?side2 ?side3 ?side4 A4.out).mono ?_); (case side1 => exact Cz (Kd.C_below HR0_1.out HB.out)); (case side2 => exact HC0_1.out); (case side3 => exact Cz (Kd.C_below HR1_1.out HB.out)); (case side4 => exact HC1_1.out); rintro e w' ⟨rfl, ⟨nd, rfl⟩⟩))
  go_ret
  exact ⟨eZ, Bq⟩
 ·rw [if_neg c3] at H
  have c3b0 : (a0_0 == a1_0) = false := beq_eq_false_iff_ne.mpr c3; have c3b1 : (a0_0 != a1_0) = true := bne_iff_ne.mpr c3; obtain rfl := Option.some.inj H
  go_enter Try.func74, Try.ntmps74
  go_wp2_with (first | ((with_reducible refine gate_dst (N := 2) rfl ?_); refine bE 2 #[.int .i64 a0_0, .slice A0_1 l0_1.length c0_1] 30 ?_; intro gb392 hg w10 hbox hb; have n0_ := Bb HB hb; have n1_ := am (hbox); have n2_ := Gl HB hg; have n3_ := Gl HB hg; clear HB; revert n0_ n1_ n2_ n3_; intro HB BK392 GW392 GE392; clear hb hbox hg) | ((with_reducible refine gate_dst (N := 3) rfl ?_); refine bE 3 #[.int .i64 a1_0, .slice A1_1 l1_1.length c1_1] 30 ?_; intro gb393 hg w11 hbox hb; have n0_ := Kb BK392 hb; have n1_ := Bc HB hb; have n2_ := am (hbox); have n3_ := Gm HB hg; have n4_ := Gm HB hg; have n5_ := Nl BK392 hg; have n6_ := Ng BK392 hg; clear BK392 HB; revert n0_ n1_ n2_ n3_ n4_ n5_ n6_; intro BK392 HB BK393 GW393 GE393 NB392_393 NB393_392; clear hb hbox hg; have hnb12 := NB392_393.out; have hnc12 := NB393_392.out; obtain ⟨hcz13_0, hcz13_1, hfz13_0, hfz13_1⟩ := cf2 (w := w11) BK392; obtain ⟨hcz14_0, hcz14_1, hfz14_0, hfz14_1⟩ := cf2 (w := w11) BK393))
  go_ret
  exact ⟨eZ, Bq⟩

end Go.Proofs.Ytalfkfddpamnjaa.PA
