-- printed by a program of this session (wip/gp) out of the translation; Lean checks it
import Derived.Test.YthkcgimnagpmaaaPAx0
import Derived.Test.YthkcgimnagpmaaaPAx2
import Derived.Test.YthkcgimnagpmaaaPAx18
namespace Go.Proofs.Ythkcgimnagpmaaa.PA
open Go.RowKit Go.Proofs.YthkcgimnagpmaaaW.PrintWords Go.Proofs.YthkcgimnagpmaaaW.PrintLast Go.Proofs.YthkcgimnagpmaaaW.PrintMore Go.Proofs.YthkcgimnagpmaaaSq
attribute [local go_sem] max2_int min2_int max_two min_two max_three min_three max_four min_four   -- for this text's walks alone
attribute [local go_sem] Go.Proofs.YthkcgimnagpmaaaGp.str_geq Go.Proofs.YthkcgimnagpmaaaGp.str_gtr Go.Proofs.YthkcgimnagpmaaaGp.str_leq
set_option linter.unusedVariables false
set_option linter.unusedSimpArgs false

set_option maxHeartbeats 8000000
set_option maxRecDepth 100000
/-! ### laws_FnPlainSeedsAreFirst: function 3 -/
mutual
def laws_FnPlainSeedsAreFirst.j0 : Nat → List ByteArray → Int → Int → Int → Bool → Bool → Option (Bool)
 | 0, _, _, _, _, _, _ => none
 | k + 1, x5, x6, x7, x9, x12, x62 => if x62 = true then (some false) else (if x12 = true then (laws_FnPlainSeedsAreFirst.l0 k x5 x6 x9 x7) else (some true))
def laws_FnPlainSeedsAreFirst.l0 : Nat → List ByteArray → Int → Int → Int → Option (Bool)
 | 0, _, _, _, _ => none
 | k + 1, x5, x6, x9, x13 => if x13 < x9 then ((impl_CollisionOf.f k x13 0 x5 x6).bind fun bt1100 => (if bt1100.2.2 = true then (if bt1100.1 ≥ bt1100.2.1 then (laws_FnPlainSeedsAreFirst.j2 k x5 x6 x9 x13 bt1100.1 bt1100.2.1 true) else (laws_FnPlainSeedsAreFirst.j2 k x5 x6 x9 x13 bt1100.1 bt1100.2.1 (decide (bt1100.2.1 ≥ (x5.length : Int))))) else (laws_FnPlainSeedsAreFirst.j2 k x5 x6 x9 x13 bt1100.1 bt1100.2.1 true))) else ((impl_CollisionOf.f k x9 0 x5 x6).bind fun bt1109 => (if bt1109.2.2 = true then (laws_FnPlainSeedsAreFirst.j3 k x5 x6 x9 bt1109.2.2 true) else (laws_FnPlainSeedsAreFirst.j3 k x5 x6 x9 bt1109.2.2 (decide (x6 > 64)))))
def laws_FnPlainSeedsAreFirst.j2 : Nat → List ByteArray → Int → Int → Int → Int → Int → Bool → Option (Bool)
 | 0, _, _, _, _, _, _, _ => none
 | k + 1, x5, x6, x9, x13, x14, x15, x91 => if x91 = true then (some false) else (if 0 ≤ x14 then (if x14 < (x5.length : Int) then ((impl_PlaceOf.f k x13 0 (rdOf ByteArray.empty x5 x14) x6).bind fun bt1104 => (if 0 ≤ x15 then (if x15 < (x5.length : Int) then ((impl_PlaceOf.f k x13 0 (rdOf ByteArray.empty x5 x15) x6).bind fun bt1107 => (if bt1104.2 = true then (if bt1107.2 = true then (if bt1104.1 = bt1107.1 then (laws_FnPlainSeedsAreFirst.l0 k x5 x6 x9 (wrap64 (x13 + 1))) else (some false)) else (some false)) else (some false))) else (none)) else (none))) else (none)) else (none))
def laws_FnPlainSeedsAreFirst.j3 : Nat → List ByteArray → Int → Int → Bool → Bool → Option (Bool)
 | 0, _, _, _, _, _ => none
 | k + 1, x5, x6, x9, x23, x135 => if x135 = true then (some (!x23)) else ((impl_LoadsOf.f k x9 0 x5 x6).bind fun bt1112 => (laws_FnPlainSeedsAreFirst.l1 k x5 bt1112.2 0 bt1112.1 (bt1112.1.length : Int) 0))
def laws_FnPlainSeedsAreFirst.l1 : Nat → List ByteArray → Bool → Int → List Int → Int → Int → Option (Bool)
 | 0, _, _, _, _, _, _ => none
 | k + 1, x5, x25, x26, x145, x146, x147 => if x147 < x146 then (if 0 ≤ x147 then (if x147 < (x145.length : Int) then (if (rd x145 x147) > 1 then (some false) else (laws_FnPlainSeedsAreFirst.l1 k x5 x25 (wrap64 (x26 + (rd x145 x147))) x145 x146 (wrap64 (x147 + 1)))) else (none)) else (none)) else (if x25 = true then (some (x26 == (x5.length : Int))) else (some false))
end
def laws_FnPlainSeedsAreFirst.f (k : Nat) (l0 : List Int) (l1 : List Int) : Option (Bool) := (laws_big.f l0 l1).bind fun t1089 => (if t1089 = true then (some true) else ((spec_DrawPlainSeed.f k l0).bind fun bt1090 => ((impl_PlainSeed.f k bt1090.1 bt1090.2.1 bt1090.2.2.1 bt1090.2.2.2).bind fun bt1096 => ((spec_PlainSeed.f k bt1090.1 bt1090.2.1 bt1090.2.2.1 bt1090.2.2.2).bind fun bt1098 => (if (bt1096.2 != bt1098.2) = true then (laws_FnPlainSeedsAreFirst.j0 k bt1090.1 bt1090.2.1 bt1090.2.2.1 bt1096.1 bt1098.2 true) else (laws_FnPlainSeedsAreFirst.j0 k bt1090.1 bt1090.2.1 bt1090.2.2.1 bt1096.1 bt1098.2 (bt1096.1 != bt1098.1)))))))
theorem laws_FnPlainSeedsAreFirst.mono_l : ∀ k, (∀ y0 y1 y2 y3 y4 y5, LeO (laws_FnPlainSeedsAreFirst.j0 k y0 y1 y2 y3 y4 y5) (laws_FnPlainSeedsAreFirst.j0 (k + 1) y0 y1 y2 y3 y4 y5)) ∧ (∀ y0 y1 y2 y3, LeO (laws_FnPlainSeedsAreFirst.l0 k y0 y1 y2 y3) (laws_FnPlainSeedsAreFirst.l0 (k + 1) y0 y1 y2 y3)) ∧ (∀ y0 y1 y2 y3 y4 y5 y6, LeO (laws_FnPlainSeedsAreFirst.j2 k y0 y1 y2 y3 y4 y5 y6) (laws_FnPlainSeedsAreFirst.j2 (k + 1) y0 y1 y2 y3 y4 y5 y6)) ∧ (∀ y0 y1 y2 y3 y4, LeO (laws_FnPlainSeedsAreFirst.j3 k y0 y1 y2 y3 y4) (laws_FnPlainSeedsAreFirst.j3 (k + 1) y0 y1 y2 y3 y4)) ∧ (∀ y0 y1 y2 y3 y4 y5, LeO (laws_FnPlainSeedsAreFirst.l1 k y0 y1 y2 y3 y4 y5) (laws_FnPlainSeedsAreFirst.l1 (k + 1) y0 y1 y2 y3 y4 y5))
 | 0 => ⟨fun _ _ _ _ _ _ r h => by simp [laws_FnPlainSeedsAreFirst.j0] at h, fun _ _ _ _ r h => by simp [laws_FnPlainSeedsAreFirst.l0] at h, fun _ _ _ _ _ _ _ r h => by simp [laws_FnPlainSeedsAreFirst.j2] at h, fun _ _ _ _ _ r h => by simp [laws_FnPlainSeedsAreFirst.j3] at h, fun _ _ _ _ _ _ r h => by simp [laws_FnPlainSeedsAreFirst.l1] at h⟩
 | k + 1 => by
  obtain ⟨ih0, ih1, ih2, ih3, ih4⟩ := laws_FnPlainSeedsAreFirst.mono_l k; refine ⟨?_, ?_, ?_, ?_, ?_⟩
  ·intro y0 y1 y2 y3 y4 y5
   unfold laws_FnPlainSeedsAreFirst.j0
   repeat' first | (with_reducible first | exact ih0 _ _ _ _ _ _ | exact ih1 _ _ _ _ | exact ih2 _ _ _ _ _ _ _ | exact ih3 _ _ _ _ _ | exact ih4 _ _ _ _ _ _ | exact impl_CollisionOf.mono _ _ _ _ _ | exact impl_LoadsOf.mono _ _ _ _ _ | exact impl_PlaceOf.mono _ _ _ _ _ | exact impl_PlainSeed.mono _ _ _ _ _ | exact spec_DrawPlainSeed.mono _ _ | exact spec_PlainSeed.mono _ _ _ _ _ | exact LeO.refl _ | exact LeO.none _ | refine LeO.ite ?_ ?_ | refine LeO.bind ?_ (fun _ => ?_)) | exact LeO.none _ | refine LeO.ite ?_ ?_ | refine LeO.bind ?_ (fun _ => ?_)
  ·intro y0 y1 y2 y3
   unfold laws_FnPlainSeedsAreFirst.l0
   repeat' first | (with_reducible first | exact ih0 _ _ _ _ _ _ | exact ih1 _ _ _ _ | exact ih2 _ _ _ _ _ _ _ | exact ih3 _ _ _ _ _ | exact ih4 _ _ _ _ _ _ | exact impl_CollisionOf.mono _ _ _ _ _ | exact impl_LoadsOf.mono _ _ _ _ _ | exact impl_PlaceOf.mono _ _ _ _ _ | exact impl_PlainSeed.mono _ _ _ _ _ | exact spec_DrawPlainSeed.mono _ _ | exact spec_PlainSeed.mono _ _ _ _ _ | exact LeO.refl _ | exact LeO.none _ | refine LeO.ite ?_ ?_ | refine LeO.bind ?_ (fun _ => ?_)) | exact LeO.none _ | refine LeO.ite ?_ ?_ | refine LeO.bind ?_ (fun _ => ?_)
  ·intro y0 y1 y2 y3 y4 y5 y6
   unfold laws_FnPlainSeedsAreFirst.j2
   repeat' first | (with_reducible first | exact ih0 _ _ _ _ _ _ | exact ih1 _ _ _ _ | exact ih2 _ _ _ _ _ _ _ | exact ih3 _ _ _ _ _ | exact ih4 _ _ _ _ _ _ | exact impl_CollisionOf.mono _ _ _ _ _ | exact impl_LoadsOf.mono _ _ _ _ _ | exact impl_PlaceOf.mono _ _ _ _ _ | exact impl_PlainSeed.mono _ _ _ _ _ | exact spec_DrawPlainSeed.mono _ _ | exact spec_PlainSeed.mono _ _ _ _ _ | exact LeO.refl _ | exact LeO.none _ | refine LeO.ite ?_ ?_ | refine LeO.bind ?_ (fun _ => ?_)) | exact LeO.none _ | refine LeO.ite ?_ ?_ | refine LeO.bind ?_ (fun _ => ?_)
  ·intro y0 y1 y2 y3 y4
   unfold laws_FnPlainSeedsAreFirst.j3
   repeat' first | (with_reducible first | exact ih0 _ _ _ _ _ _ | exact ih1 _ _ _ _ | exact ih2 _ _ _ _ _ _ _ | exact ih3 _ _ _ _ _ | exact ih4 _ _ _ _ _ _ | exact impl_CollisionOf.mono _ _ _ _ _ | exact impl_LoadsOf.mono _ _ _ _ _ | exact impl_PlaceOf.mono _ _ _ _ _ | exact impl_PlainSeed.mono _ _ _ _ _ | exact spec_DrawPlainSeed.mono _ _ | exact spec_PlainSeed.mono _ _ _ _ _ | exact LeO.refl _ | exact LeO.none _ | refine LeO.ite ?_ ?_ | refine LeO.bind ?_ (fun _ => ?_)) | exact LeO.none _ | refine LeO.ite ?_ ?_ | refine LeO.bind ?_ (fun _ => ?_)
  ·intro y0 y1 y2 y3 y4 y5
   unfold laws_FnPlainSeedsAreFirst.l1
   repeat' first | (with_reducible first | exact ih0 _ _ _ _ _ _ | exact ih1 _ _ _ _ | exact ih2 _ _ _ _ _ _ _ | exact ih3 _ _ _ _ _ | exact ih4 _ _ _ _ _ _ | exact impl_CollisionOf.mono _ _ _ _ _ | exact impl_LoadsOf.mono _ _ _ _ _ | exact impl_PlaceOf.mono _ _ _ _ _ | exact impl_PlainSeed.mono _ _ _ _ _ | exact spec_DrawPlainSeed.mono _ _ | exact spec_PlainSeed.mono _ _ _ _ _ | exact LeO.refl _ | exact LeO.none _ | refine LeO.ite ?_ ?_ | refine LeO.bind ?_ (fun _ => ?_)) | exact LeO.none _ | refine LeO.ite ?_ ?_ | refine LeO.bind ?_ (fun _ => ?_)
theorem laws_FnPlainSeedsAreFirst.mono : ∀ a0 a1 k, LeO (laws_FnPlainSeedsAreFirst.f k a0 a1) (laws_FnPlainSeedsAreFirst.f (k + 1) a0 a1) := by
 intro a0 a1 k; obtain ⟨ih0, ih1, ih2, ih3, ih4⟩ := laws_FnPlainSeedsAreFirst.mono_l k
 unfold laws_FnPlainSeedsAreFirst.f
 repeat' first | (with_reducible first | exact ih0 _ _ _ _ _ _ | exact ih1 _ _ _ _ | exact ih2 _ _ _ _ _ _ _ | exact ih3 _ _ _ _ _ | exact ih4 _ _ _ _ _ _ | exact impl_CollisionOf.mono _ _ _ _ _ | exact impl_LoadsOf.mono _ _ _ _ _ | exact impl_PlaceOf.mono _ _ _ _ _ | exact impl_PlainSeed.mono _ _ _ _ _ | exact spec_DrawPlainSeed.mono _ _ | exact spec_PlainSeed.mono _ _ _ _ _ | exact LeO.refl _ | exact LeO.none _ | refine LeO.ite ?_ ?_ | refine LeO.bind ?_ (fun _ => ?_)) | exact LeO.none _ | refine LeO.ite ?_ ?_ | refine LeO.bind ?_ (fun _ => ?_)
theorem laws_FnPlainSeedsAreFirst.calls (k : Nat) (A0 : Option Addr) (c0 : Nat) (l0 : List Int) (A1 : Option Addr) (c1 : Nat) (l1 : List Int) (r : Bool) (w : World) (hr0 : Kd.C (Kd.int .u8) w A0 l0.length l0) (hc0 : l0.length ≤ c0) (hr1 : Kd.C (Kd.int .u8) w A1 l1.length l1) (hc1 : l1.length ≤ c1) (h : laws_FnPlainSeedsAreFirst.f k l0 l1 = some r) :
  Calls Try.prog 3 #[.slice A0 l0.length c0, .slice A1 l1.length c1] w fun e w' => e = .returned (.bool r) ∧ Below w.heap.size w w' := by
 have HR0 := am hr0; have HC0 := am hc0; clear hr0 hc0; have HR1 := am hr1; have HC1 := am hc1; clear hr1 hc1; have HB := am (Below.refl w.heap.size w); have H : ((laws_big.f l0 l1).bind fun t1089 => (if t1089 = true then (some true) else ((spec_DrawPlainSeed.f k l0).bind fun bt1090 => ((impl_PlainSeed.f k bt1090.1 bt1090.2.1 bt1090.2.2.1 bt1090.2.2.2).bind fun bt1096 => ((spec_PlainSeed.f k bt1090.1 bt1090.2.1 bt1090.2.2.1 bt1090.2.2.2).bind fun bt1098 => (if (bt1096.2 != bt1098.2) = true then (laws_FnPlainSeedsAreFirst.j0 k bt1090.1 bt1090.2.1 bt1090.2.2.1 bt1096.1 bt1098.2 true) else (laws_FnPlainSeedsAreFirst.j0 k bt1090.1 bt1090.2.1 bt1090.2.2.1 bt1096.1 bt1098.2 (bt1096.1 != bt1098.1)))))))) = some r := h; clear h; replace H := Option.bind_eq_some_iff.mp H; obtain ⟨t1089, A30, H⟩ := H; (try dsimp -simprocs only at H); have A3 := am A30; clear A30
 by_cases c4 : t1089 = true
 ·subst c4
  rw [if_pos rfl] at H; obtain rfl := Option.some.inj H
  go_enter Try.func3, Try.ntmps3
  go_wp2_with (first | ((with_reducible refine gate_callee (f := 12) rfl ?_); refine gL (some 31) Try.func12 #[.slice A0 l0.length c0, .slice A1 l1.length c1] ?_; (with_reducible refine (laws_big.calls _ _ l0 _ _ l1 true _ ?side1 ?side2 ?side3 ?side4 A3.out).mono ?_); (case side1 => exact Cz HR0.out); (case side2 => exact HC0.out); (case side3 => exact Cz HR1.out); (case side4 => exact HC1.out); rintro e w' ⟨rfl, ⟨nd, rfl⟩⟩; refine ⟨_, rfl, ?_⟩))
  go_ret
  exact ⟨eZ, Bz HB.out⟩
 ·replace c4 := Bool.eq_false_iff.mpr c4
  subst c4
  rw [if_neg (show ¬ (false = true) by decide)] at H; replace H := Option.bind_eq_some_iff.mp H; obtain ⟨⟨t1090, t1091, t1092, t1093⟩, A50, H⟩ := H; (try dsimp -simprocs only at H); have A5 := am A50; clear A50; replace H := Option.bind_eq_some_iff.mp H; obtain ⟨⟨t1096, t1097⟩, A60, H⟩ := H; (try dsimp -simprocs only at H); have A6 := am A60; clear A60; replace H := Option.bind_eq_some_iff.mp H; obtain ⟨⟨t1098, t1099⟩, A70, H⟩ := H; (try dsimp -simprocs only at H); have A7 := am A70; clear A70; have HC8 := am H; clear H
  go_enter Try.func3, Try.ntmps3
  go_upto_region 6 with (first | ((with_reducible refine gate_callee (f := 12) rfl ?_); refine gL (some 31) Try.func12 #[.slice A0 l0.length c0, .slice A1 l1.length c1] ?_; (with_reducible refine (laws_big.calls _ _ l0 _ _ l1 false _ ?side1 ?side2 ?side3 ?side4 A3.out).mono ?_); (case side1 => exact Cz HR0.out); (case side2 => exact HC0.out); (case side3 => exact Cz HR1.out); (case side4 => exact HC1.out); rintro e w' ⟨rfl, ⟨nd, rfl⟩⟩; refine ⟨_, rfl, ?_⟩) | ((with_reducible refine gate_callee (f := 13) rfl ?_); refine gL (some 34) Try.func13 #[.slice A0 l0.length c0] ?_; (with_reducible refine (spec_DrawPlainSeed.calls k _ _ l0 t1090 t1091 t1092 t1093 _ ?side1 ?side2 A5.out).mono ?_); (case side1 => exact Cz HR0.out); (case side2 => exact HC0.out); rintro e w9 ⟨v1094, rfl, ho0, hb⟩; refine ⟨_, rfl, ?_⟩; have n0_ := Rl ho0 HB; have n1_ := Bb HB hb; clear HB; revert n0_ n1_; intro HO1095 HB; (try clear hb); (try clear hb2); (try clear hk); (try clear hi); (try clear ho0); obtain ⟨Ao10, co10, eo10⟩ := Kd.R_slice HO1095.out; subst eo10) | ((with_reducible refine gate_callee (f := 14) rfl ?_); refine gL (some 44) Try.func14 #[.slice Ao10 t1090.length co10, .int .i64 t1091, .int .i64 t1092, .int .i64 t1093] ?_; (with_reducible refine (impl_PlainSeed.calls k _ _ t1090 t1091 t1092 t1093 t1096 t1097 _ ?side1 ?side2 A6.out).mono ?_); (case side1 => exact Cz ((Kd.R_reads' HO1095.out).2.2)); (case side2 => exact (Kd.R_reads' HO1095.out).2.1); rintro e w11 ⟨rfl, hb⟩; refine ⟨_, rfl, ?_⟩; have n0_ := Rb HO1095 hb; have n1_ := Bb HB hb; clear HO1095 HB; revert n0_ n1_; intro HO1095 HB; (try clear hb); (try clear hb2); (try clear hk); (try clear hi)) | ((with_reducible refine gate_callee (f := 15) rfl ?_); refine gL (some 52) Try.func15 #[.slice Ao10 t1090.length co10, .int .i64 t1091, .int .i64 t1092, .int .i64 t1093] ?_; (with_reducible refine (spec_PlainSeed.calls k _ _ t1090 t1091 t1092 t1093 t1098 t1099 _ ?side1 ?side2 A7.out).mono ?_); (case side1 => exact Cz ((Kd.R_reads' HO1095.out).2.2)); (case side2 => exact (Kd.R_reads' HO1095.out).2.1); rintro e w12 ⟨rfl, hb⟩; refine ⟨_, rfl, ?_⟩; have n0_ := Rb HO1095 hb; have n1_ := Bb HB hb; clear HO1095 HB; revert n0_ n1_; intro HO1095 HB; (try clear hb); (try clear hb2); (try clear hk); (try clear hi)))
  (try simp only [aP])
  go_cut [62] (fun v62 wc => ∃ (kq : Nat) (x62_7 : Bool), v62 = .bool x62_7 ∧ Aside0 (laws_FnPlainSeedsAreFirst.j0 kq t1090 t1091 t1092 t1096 t1099 x62_7 = some r) ∧ Aside0 (kq ≤ k) ∧ Aside0 (Kd.R Kd.string 9 wc w.heap.size (fun _ => True) (.slice Ao10 t1090.length co10) t1090) ∧ Aside0 (Below w.heap.size w wc))
  case first =>
   have H := HC8.out; clear HC8
   by_cases c13 : (t1097 != t1099) = true
   ·rw [if_pos c13] at H
    have c13b0 : (t1097 != t1099) = true := c13
    (try (have c13b1 : decide (t1097 = t1099) = false := by simpa using c13))
    (try (have c13b2 : (t1097 == t1099) = false := by simpa using c13))
    (try (have c13b3 : ¬ (t1097 = t1099) := by simpa using c13))
    clear c13
    (first | rw [c13b0] | (simp only [i64_w, i32_w]; rw [c13b0]) | skip)
    have H' := am H; clear H
    go_wp2
    go_meet
    case rel => exact ⟨_, (true), wZ, H', ⟨by first | omega | exact Nat.le_refl _⟩, ⟨Rz HO1095.out⟩, ⟨Bz HB.out⟩⟩
   ·rw [if_neg c13] at H
    have c13b0 : (t1097 != t1099) = false := by simpa using c13
    (try (have c13b1 : decide (t1097 = t1099) = true := by simpa using c13))
    (try (have c13b2 : (t1097 == t1099) = true := by simpa using c13))
    clear c13
    (first | rw [c13b0] | (simp only [i64_w, i32_w]; rw [c13b0]) | skip)
    have H' := am H; clear H
    go_wp2
    go_meet
    case rel => exact ⟨_, ((t1096 != t1098)), wZ, H', ⟨by first | omega | exact Nat.le_refl _⟩, ⟨Rz HO1095.out⟩, ⟨Bz HB.out⟩⟩
  case rest =>
   clear HC8
   try clear c1
   try clear p2
   try clear c3
   try clear c4
   try clear c12
   try clear c13
   try clear c13b0
   try clear c13b1
   try clear c13b2
   obtain ⟨kq, x62_7, rfl, HA, HJ7, HO_5, HB⟩ := hcut; cases kq with
   | zero => exact absurd HA.out (by simp [laws_FnPlainSeedsAreFirst.j0])
   | succ kj7 =>
    have H := HA.out; clear HA
    simp only [laws_FnPlainSeedsAreFirst.j0] at H
    by_cases c14 : x62_7 = true
    ·subst c14
     rw [if_pos rfl] at H; obtain rfl := Option.some.inj H
     go_wp2
     go_ret
     exact ⟨eZ, Bz HB.out⟩
    ·replace c14 := Bool.eq_false_iff.mpr c14
     subst c14
     rw [if_neg (show ¬ (false = true) by decide)] at H
     by_cases c15 : t1099 = true
     ·subst c15
      rw [if_pos rfl] at H; have H' := am H; clear H
      go_wp2
      go_loopg [13] kj7 (fun kq v13 w' => ∃ (x13_2 : Int), v13 = .int .i64 x13_2 ∧ Aside0 (laws_FnPlainSeedsAreFirst.l0 kq t1090 t1091 t1096 x13_2 = some r) ∧ Aside0 (kq ≤ kj7) ∧ Aside0 (Kd.R Kd.string 9 w' w.heap.size (fun _ => True) (.slice Ao10 t1090.length co10) t1090) ∧ Aside0 (Below w.heap.size w w'))
      case atStart => exact ⟨(t1092), wZ, H', ⟨Nat.le_refl _⟩, ⟨Rz HO_5.out⟩, ⟨Bz HB.out⟩⟩
      case round =>
       clear H'
       try clear c1
       try clear p2
       try clear c3
       try clear c4
       try clear c12
       try clear c13
       try clear c13b0
       try clear c13b1
       try clear c13b2
       try clear c14
       try clear c15
       try clear p2
       obtain ⟨x13_2, rfl, HA, HK2, HO_5, HB⟩ := hrel; cases gk with
       | zero => exact absurd HA.out (by simp [laws_FnPlainSeedsAreFirst.l0])
       | succ k2 =>
        have H := HA.out; clear HA
        simp only [laws_FnPlainSeedsAreFirst.l0] at H
        by_cases c16 : x13_2 < t1096
        ·rw [if_pos c16] at H
         have c16b0 : decide (x13_2 < t1096) = true := decide_eq_true c16; clear c16; replace H := Option.bind_eq_some_iff.mp H; obtain ⟨⟨t1100, t1101, t1102⟩, A170, H⟩ := H; (try dsimp -simprocs only at H); have A17 := am A170; clear A170; have HC18 := am H; clear H
         go_upto_region 14 with (first | ((with_reducible refine gate_callee (f := 16) rfl ?_); refine gL (some 75) Try.func16 #[.int .i64 x13_2, .int .i64 0, .slice Ao10 t1090.length co10, .int .i64 t1091] ?_; (with_reducible refine (impl_CollisionOf.calls k2 x13_2 0 _ _ t1090 t1091 t1100 t1101 t1102 _ ?side1 ?side2 A17.out).mono ?_); (case side1 => exact Cz ((Kd.R_reads' HO_5.out).2.2)); (case side2 => exact (Kd.R_reads' HO_5.out).2.1); rintro e w' ⟨rfl, ⟨nd, rfl⟩⟩; refine ⟨_, rfl, ?_⟩))
         (try simp only [aP])
         go_cut [91] (fun v91 wc => ∃ (kq : Nat) (x91_17 : Bool), v91 = .bool x91_17 ∧ Aside0 (laws_FnPlainSeedsAreFirst.j2 kq t1090 t1091 t1096 x13_2 t1100 t1101 x91_17 = some r) ∧ Aside0 (kq ≤ k2) ∧ Aside0 (Kd.R Kd.string 9 wc w.heap.size (fun _ => True) (.slice Ao10 t1090.length co10) t1090) ∧ Aside0 (Below w.heap.size w wc))
         case first =>
          have H := HC18.out; clear HC18
          by_cases c19 : t1102 = true
          ·subst c19
           rw [if_pos rfl] at H
           by_cases c20 : t1100 ≥ t1101
           ·rw [if_pos c20] at H
            have c20b0 : decide (t1101 ≤ t1100) = true := decide_eq_true c20; clear c20
            (first | rw [c20b0] | (simp only [i64_w, i32_w]; rw [c20b0]) | skip)
            have H' := am H; clear H
            go_wp2
            go_meet
            case rel => exact ⟨_, (true), wZ, H', ⟨by have := HJ7.out; have := HK2.out; first | omega | exact Nat.le_refl _⟩, ⟨Rz HO_5.out⟩, ⟨Bz HB.out⟩⟩
           ·rw [if_neg c20] at H
            have c20b0 : decide (t1101 ≤ t1100) = false := decide_eq_false c20; clear c20
            (first | rw [c20b0] | (simp only [i64_w, i32_w]; rw [c20b0]) | skip)
            have H' := am H; clear H
            go_wp2
            go_meet
            case rel => exact ⟨_, (decide (t1101 ≥ (t1090.length : Int))), wZ, H', ⟨by have := HJ7.out; have := HK2.out; first | omega | exact Nat.le_refl _⟩, ⟨Rz HO_5.out⟩, ⟨Bz HB.out⟩⟩
          ·replace c19 := Bool.eq_false_iff.mpr c19
           subst c19
           rw [if_neg (show ¬ (false = true) by decide)] at H; have H' := am H; clear H
           go_wp2
           go_meet
           case rel => exact ⟨_, (true), wZ, H', ⟨by have := HJ7.out; have := HK2.out; first | omega | exact Nat.le_refl _⟩, ⟨Rz HO_5.out⟩, ⟨Bz HB.out⟩⟩
         case rest =>
          clear HC18
          try clear c1
          try clear c2
          try clear p2
          try clear c3
          try clear c4
          try clear c12
          try clear c13
          try clear c13b0
          try clear c13b1
          try clear c13b2
          try clear c14
          try clear c15
          try clear c16
          try clear c16b0
          try clear c19
          try clear c20
          try clear c20b0
          try clear p2
          obtain ⟨kq, x91_17, rfl, HA, HJ17, HO_5, HB⟩ := hcut; cases kq with
          | zero => exact absurd HA.out (by simp [laws_FnPlainSeedsAreFirst.j2])
          | succ kj17 =>
           have H := HA.out; clear HA
           simp only [laws_FnPlainSeedsAreFirst.j2] at H
           by_cases c21 : x91_17 = true
           ·subst c21
            rw [if_pos rfl] at H; obtain rfl := Option.some.inj H
            go_wp2
            go_ret
            exact ⟨eZ, Bz HB.out⟩
           ·replace c21 := Bool.eq_false_iff.mpr c21
            subst c21
            rw [if_neg (show ¬ (false = true) by decide)] at H
            by_cases c22 : 0 ≤ t1100
            ·rw [if_pos c22] at H
             have c22b0 : decide (0 ≤ t1100) = true := decide_eq_true c22; clear c22
             by_cases c23 : t1100 < (t1090.length : Int)
             ·rw [if_pos c23] at H
              have c23b0 : decide (t1100 < (t1090.length : Int)) = true := decide_eq_true c23; clear c23; replace H := Option.bind_eq_some_iff.mp H; obtain ⟨⟨t1104, t1105⟩, A240, H⟩ := H; (try dsimp -simprocs only at H); have A24 := am A240; clear A240
              by_cases c25 : 0 ≤ t1101
              ·rw [if_pos c25] at H
               have c25b0 : decide (0 ≤ t1101) = true := decide_eq_true c25; clear c25
               by_cases c26 : t1101 < (t1090.length : Int)
               ·rw [if_pos c26] at H
                have c26b0 : decide (t1101 < (t1090.length : Int)) = true := decide_eq_true c26; clear c26; replace H := Option.bind_eq_some_iff.mp H; obtain ⟨⟨t1107, t1108⟩, A270, H⟩ := H; (try dsimp -simprocs only at H); have A27 := am A270; clear A270
                by_cases c28 : t1105 = true
                ·subst c28
                 rw [if_pos rfl] at H
                 by_cases c29 : t1108 = true
                 ·subst c29
                  rw [if_pos rfl] at H
                  by_cases c30 : t1104 = t1107
                  ·rw [if_pos c30] at H
                   have c30b0 : (t1104 == t1107) = true := beq_iff_eq.mpr c30; have c30b1 : (t1104 != t1107) = false := bne_eq_false_iff_eq.mpr c30; clear c30; have H' := am H; clear H; obtain ⟨ad1103, e1103, hx1103_0⟩ := Kd.at_string (Kd.R_reads' HO_5.out).2.2 t1100 dT dT; cases e1103; have p1103 := eT (0 ≤ (t1100 : Int)); have q1103 := eT (t1100 < (t1090.length : Int))
                   go_wp2_with (first | ((with_reducible refine gate_callee (f := 17) rfl ?_); refine gL (some 99) Try.func17 #[.int .i64 x13_2, .int .i64 0, .string (rdOf ByteArray.empty t1090 t1100), .int .i64 t1091] ?_; (with_reducible refine (impl_PlaceOf.calls kj17 x13_2 0 (rdOf ByteArray.empty t1090 t1100) t1091 t1104 true _ A24.out).mono ?_); rintro e w' ⟨rfl, ⟨nd, rfl⟩⟩; refine ⟨_, rfl, ?_⟩; have p1106 : 0 ≤ (t1101 : Int) := dT; have q1106 : t1101 < (t1090.length : Int) := dT; obtain ⟨ad1106, e1106, hx1106_0⟩ := Kd.at_string (Kd.R_reads' HO_5.out).2.2 t1101 p1106 q1106; obtain rfl : ad1103 = ad1106 := (by injection e1106); replace p1106 := eq_true p1106; replace q1106 := eq_true q1106) | ((with_reducible refine gate_callee (f := 17) rfl ?_); refine gL (some 109) Try.func17 #[.int .i64 x13_2, .int .i64 0, .string (rdOf ByteArray.empty t1090 t1101), .int .i64 t1091] ?_; (with_reducible refine (impl_PlaceOf.calls kj17 x13_2 0 (rdOf ByteArray.empty t1090 t1101) t1091 t1107 true _ A27.out).mono ?_); rintro e w' ⟨rfl, ⟨nd, rfl⟩⟩; refine ⟨_, rfl, ?_⟩))
                   go_roundg kj17
                   case measure => have := HJ7.out; have := HK2.out; have := HJ17.out; omega
                   case rel => exact ⟨(wrap64 (x13_2 + 1)), wZ, H', ⟨by have := HJ7.out; have := HK2.out; have := HJ17.out; omega⟩, ⟨Rz HO_5.out⟩, ⟨Bz HB.out⟩⟩
                  ·rw [if_neg c30] at H
                   have c30b0 : (t1104 == t1107) = false := beq_eq_false_iff_ne.mpr c30; have c30b1 : (t1104 != t1107) = true := bne_iff_ne.mpr c30; obtain rfl := Option.some.inj H; obtain ⟨ad1103, e1103, hx1103_0⟩ := Kd.at_string (Kd.R_reads' HO_5.out).2.2 t1100 dT dT; cases e1103; have p1103 := eT (0 ≤ (t1100 : Int)); have q1103 := eT (t1100 < (t1090.length : Int))
                   go_wp2_with (first | ((with_reducible refine gate_callee (f := 17) rfl ?_); refine gL (some 99) Try.func17 #[.int .i64 x13_2, .int .i64 0, .string (rdOf ByteArray.empty t1090 t1100), .int .i64 t1091] ?_; (with_reducible refine (impl_PlaceOf.calls kj17 x13_2 0 (rdOf ByteArray.empty t1090 t1100) t1091 t1104 true _ A24.out).mono ?_); rintro e w' ⟨rfl, ⟨nd, rfl⟩⟩; refine ⟨_, rfl, ?_⟩; have p1106 : 0 ≤ (t1101 : Int) := dT; have q1106 : t1101 < (t1090.length : Int) := dT; obtain ⟨ad1106, e1106, hx1106_0⟩ := Kd.at_string (Kd.R_reads' HO_5.out).2.2 t1101 p1106 q1106; obtain rfl : ad1103 = ad1106 := (by injection e1106); replace p1106 := eq_true p1106; replace q1106 := eq_true q1106) | ((with_reducible refine gate_callee (f := 17) rfl ?_); refine gL (some 109) Try.func17 #[.int .i64 x13_2, .int .i64 0, .string (rdOf ByteArray.empty t1090 t1101), .int .i64 t1091] ?_; (with_reducible refine (impl_PlaceOf.calls kj17 x13_2 0 (rdOf ByteArray.empty t1090 t1101) t1091 t1107 true _ A27.out).mono ?_); rintro e w' ⟨rfl, ⟨nd, rfl⟩⟩; refine ⟨_, rfl, ?_⟩))
                   go_ret
                   exact ⟨eZ, Bz HB.out⟩
                 ·replace c29 := Bool.eq_false_iff.mpr c29
                  subst c29
                  rw [if_neg (show ¬ (false = true) by decide)] at H; obtain rfl := Option.some.inj H; obtain ⟨ad1103, e1103, hx1103_0⟩ := Kd.at_string (Kd.R_reads' HO_5.out).2.2 t1100 dT dT; cases e1103; have p1103 := eT (0 ≤ (t1100 : Int)); have q1103 := eT (t1100 < (t1090.length : Int))
                  go_wp2_with (first | ((with_reducible refine gate_callee (f := 17) rfl ?_); refine gL (some 99) Try.func17 #[.int .i64 x13_2, .int .i64 0, .string (rdOf ByteArray.empty t1090 t1100), .int .i64 t1091] ?_; (with_reducible refine (impl_PlaceOf.calls kj17 x13_2 0 (rdOf ByteArray.empty t1090 t1100) t1091 t1104 true _ A24.out).mono ?_); rintro e w' ⟨rfl, ⟨nd, rfl⟩⟩; refine ⟨_, rfl, ?_⟩; have p1106 : 0 ≤ (t1101 : Int) := dT; have q1106 : t1101 < (t1090.length : Int) := dT; obtain ⟨ad1106, e1106, hx1106_0⟩ := Kd.at_string (Kd.R_reads' HO_5.out).2.2 t1101 p1106 q1106; obtain rfl : ad1103 = ad1106 := (by injection e1106); replace p1106 := eq_true p1106; replace q1106 := eq_true q1106) | ((with_reducible refine gate_callee (f := 17) rfl ?_); refine gL (some 109) Try.func17 #[.int .i64 x13_2, .int .i64 0, .string (rdOf ByteArray.empty t1090 t1101), .int .i64 t1091] ?_; (with_reducible refine (impl_PlaceOf.calls kj17 x13_2 0 (rdOf ByteArray.empty t1090 t1101) t1091 t1107 false _ A27.out).mono ?_); rintro e w' ⟨rfl, ⟨nd, rfl⟩⟩; refine ⟨_, rfl, ?_⟩))
                  go_ret
                  exact ⟨eZ, Bz HB.out⟩
                ·replace c28 := Bool.eq_false_iff.mpr c28
                 subst c28
                 rw [if_neg (show ¬ (false = true) by decide)] at H; obtain rfl := Option.some.inj H; obtain ⟨ad1103, e1103, hx1103_0⟩ := Kd.at_string (Kd.R_reads' HO_5.out).2.2 t1100 dT dT; cases e1103; have p1103 := eT (0 ≤ (t1100 : Int)); have q1103 := eT (t1100 < (t1090.length : Int))
                 go_wp2_with (first | ((with_reducible refine gate_callee (f := 17) rfl ?_); refine gL (some 99) Try.func17 #[.int .i64 x13_2, .int .i64 0, .string (rdOf ByteArray.empty t1090 t1100), .int .i64 t1091] ?_; (with_reducible refine (impl_PlaceOf.calls kj17 x13_2 0 (rdOf ByteArray.empty t1090 t1100) t1091 t1104 false _ A24.out).mono ?_); rintro e w' ⟨rfl, ⟨nd, rfl⟩⟩; refine ⟨_, rfl, ?_⟩; have p1106 : 0 ≤ (t1101 : Int) := dT; have q1106 : t1101 < (t1090.length : Int) := dT; obtain ⟨ad1106, e1106, hx1106_0⟩ := Kd.at_string (Kd.R_reads' HO_5.out).2.2 t1101 p1106 q1106; obtain rfl : ad1103 = ad1106 := (by injection e1106); replace p1106 := eq_true p1106; replace q1106 := eq_true q1106) | ((with_reducible refine gate_callee (f := 17) rfl ?_); refine gL (some 109) Try.func17 #[.int .i64 x13_2, .int .i64 0, .string (rdOf ByteArray.empty t1090 t1101), .int .i64 t1091] ?_; (with_reducible refine (impl_PlaceOf.calls kj17 x13_2 0 (rdOf ByteArray.empty t1090 t1101) t1091 t1107 t1108 _ A27.out).mono ?_); rintro e w' ⟨rfl, ⟨nd, rfl⟩⟩; refine ⟨_, rfl, ?_⟩))
                 go_ret
                 exact ⟨eZ, Bz HB.out⟩
               ·rw [if_neg c26] at H
                exact absurd H (by simp)
              ·rw [if_neg c25] at H
               exact absurd H (by simp)
             ·rw [if_neg c23] at H
              exact absurd H (by simp)
            ·rw [if_neg c22] at H
             exact absurd H (by simp)
        ·rw [if_neg c16] at H
         have c16b0 : decide (x13_2 < t1096) = false := decide_eq_false c16; clear c16; replace H := Option.bind_eq_some_iff.mp H; obtain ⟨⟨t1109, t1110, t1111⟩, A310, H⟩ := H; (try dsimp -simprocs only at H); have A31 := am A310; clear A310; have HC32 := am H; clear H
         go_upto_region 21 with (first | ((with_reducible refine gate_callee (f := 16) rfl ?_); refine gL (some 127) Try.func16 #[.int .i64 t1096, .int .i64 0, .slice Ao10 t1090.length co10, .int .i64 t1091] ?_; (with_reducible refine (impl_CollisionOf.calls k2 t1096 0 _ _ t1090 t1091 t1109 t1110 t1111 _ ?side1 ?side2 A31.out).mono ?_); (case side1 => exact Cz ((Kd.R_reads' HO_5.out).2.2)); (case side2 => exact (Kd.R_reads' HO_5.out).2.1); rintro e w' ⟨rfl, ⟨nd, rfl⟩⟩; refine ⟨_, rfl, ?_⟩))
         (try simp only [aP])
         go_cut [135] (fun v135 wc => ∃ (kq : Nat) (x135_31 : Bool), v135 = .bool x135_31 ∧ Aside0 (laws_FnPlainSeedsAreFirst.j3 kq t1090 t1091 t1096 t1111 x135_31 = some r) ∧ Aside0 (kq ≤ k2) ∧ Aside0 (Kd.R Kd.string 9 wc w.heap.size (fun _ => True) (.slice Ao10 t1090.length co10) t1090) ∧ Aside0 (Below w.heap.size w wc))
         case first =>
          have H := HC32.out; clear HC32
          by_cases c33 : t1111 = true
          ·subst c33
           rw [if_pos rfl] at H; have H' := am H; clear H
           go_wp2
           go_meet
           case rel => exact ⟨_, (true), wZ, H', ⟨by have := HJ7.out; have := HK2.out; first | omega | exact Nat.le_refl _⟩, ⟨Rz HO_5.out⟩, ⟨Bz HB.out⟩⟩
          ·replace c33 := Bool.eq_false_iff.mpr c33
           subst c33
           rw [if_neg (show ¬ (false = true) by decide)] at H; have H' := am H; clear H
           go_wp2
           go_meet
           case rel => exact ⟨_, (decide (t1091 > 64)), wZ, H', ⟨by have := HJ7.out; have := HK2.out; first | omega | exact Nat.le_refl _⟩, ⟨Rz HO_5.out⟩, ⟨Bz HB.out⟩⟩
         case rest =>
          clear HC32
          try clear c1
          try clear p1
          try clear q1
          try clear hx1
          try clear c2
          try clear p2
          try clear c3
          try clear c4
          try clear p6
          try clear p11
          try clear q11
          try clear hx11
          try clear c12
          try clear c13
          try clear c13b0
          try clear c13b1
          try clear c13b2
          try clear c14
          try clear c15
          try clear c16
          try clear c16b0
          try clear c17
          try clear c19
          try clear c20
          try clear c20b0
          try clear c21
          try clear c22
          try clear c22b0
          try clear c23
          try clear c23b0
          try clear c25
          try clear c25b0
          try clear c26
          try clear c26b0
          try clear c28
          try clear c29
          try clear c30
          try clear c30b0
          try clear c30b1
          try clear c33
          try clear hx1103_0
          try clear hx1106_0
          try clear p1103
          try clear p1106
          try clear p2
          try clear q1103
          try clear q1106
          obtain ⟨kq, x135_31, rfl, HA, HJ31, HO_5, HB⟩ := hcut; cases kq with
          | zero => exact absurd HA.out (by simp [laws_FnPlainSeedsAreFirst.j3])
          | succ kj31 =>
           have H := HA.out; clear HA
           simp only [laws_FnPlainSeedsAreFirst.j3] at H
           by_cases c34 : x135_31 = true
           ·subst c34
            rw [if_pos rfl] at H; obtain rfl := Option.some.inj H
            go_wp2
            go_ret
            exact ⟨eZ, Bz HB.out⟩
           ·replace c34 := Bool.eq_false_iff.mpr c34
            subst c34
            rw [if_neg (show ¬ (false = true) by decide)] at H; replace H := Option.bind_eq_some_iff.mp H; obtain ⟨⟨t1112, t1113⟩, A350, H⟩ := H; (try dsimp -simprocs only at H); have A35 := am A350; clear A350; have H' := am H; clear H
            go_wp2_with (first | ((with_reducible refine gate_callee (f := 18) rfl ?_); refine gL (some 142) Try.func18 #[.int .i64 t1096, .int .i64 0, .slice Ao10 t1090.length co10, .int .i64 t1091] ?_; (with_reducible refine (impl_LoadsOf.calls kj31 t1096 0 _ _ t1090 t1091 t1112 t1113 _ ?side1 ?side2 A35.out).mono ?_); (case side1 => exact Cz ((Kd.R_reads' HO_5.out).2.2)); (case side2 => exact (Kd.R_reads' HO_5.out).2.1); rintro e w36 ⟨v1114, rfl, ho0, hb⟩; refine ⟨_, rfl, ?_⟩; have n0_ := Rb HO_5 hb; have n1_ := Rl ho0 HB; have n2_ := Bb HB hb; clear HO_5 HB; revert n0_ n1_ n2_; intro HO_5 HO1115 HB; (try clear hb); (try clear hb2); (try clear hk); (try clear hi); (try clear ho0); obtain ⟨Ao37, co37, eo37⟩ := Kd.R_slice HO1115.out; subst eo37))
            (try simp only [aP])
            go_loopg [26, 147] kj31 (fun kq v26 v147 w' => ∃ (x26_4 : Int) (x147_4 : Int), v26 = .int .i64 x26_4 ∧ v147 = .int .i64 x147_4 ∧ Aside0 (laws_FnPlainSeedsAreFirst.l1 kq t1090 t1113 x26_4 t1112 (t1112.length : Int) x147_4 = some r) ∧ Aside0 (kq ≤ kj31) ∧ Aside0 (Kd.R Kd.string 9 w' w.heap.size (fun _ => True) (.slice Ao10 t1090.length co10) t1090) ∧ Aside0 (Kd.R (Kd.int .i64) 3 w' w.heap.size (fun _ => True) (.slice Ao37 t1112.length co37) t1112) ∧ Aside0 (Below w.heap.size w w'))
            case atStart => exact ⟨(0), (0), wZ, wZ, H', ⟨Nat.le_refl _⟩, ⟨Rz HO_5.out⟩, ⟨Rz HO1115.out⟩, ⟨Bz HB.out⟩⟩
            case round =>
             clear H'
             try clear c1
             try clear p1
             try clear q1
             try clear hx1
             try clear c2
             try clear p2
             try clear c3
             try clear c4
             try clear p6
             try clear p11
             try clear q11
             try clear hx11
             try clear c12
             try clear c13
             try clear c13b0
             try clear c13b1
             try clear c13b2
             try clear c14
             try clear c15
             try clear c16
             try clear c16b0
             try clear c17
             try clear c18
             try clear c19
             try clear c20
             try clear c20b0
             try clear c21
             try clear c22
             try clear c22b0
             try clear c23
             try clear c23b0
             try clear c25
             try clear c25b0
             try clear c26
             try clear c26b0
             try clear c28
             try clear c29
             try clear c30
             try clear c30b0
             try clear c30b1
             try clear c33
             try clear c34
             try clear hx1103_0
             try clear hx1106_0
             try clear p1
             try clear p11
             try clear p1103
             try clear p1106
             try clear p2
             try clear p6
             try clear q1
             try clear q11
             try clear q1103
             try clear q1106
             obtain ⟨x26_4, x147_4, rfl, rfl, HA, HK4, HO_5, HO_145, HB⟩ := hrel; cases gk with
             | zero => exact absurd HA.out (by simp [laws_FnPlainSeedsAreFirst.l1])
             | succ k4 =>
              have H := HA.out; clear HA
              simp only [laws_FnPlainSeedsAreFirst.l1] at H
              by_cases c38 : x147_4 < (t1112.length : Int)
              ·rw [if_pos c38] at H
               have c38b0 : decide (x147_4 < (t1112.length : Int)) = true := decide_eq_true c38; clear c38
               by_cases c39 : 0 ≤ x147_4
               ·rw [if_pos c39] at H
                have c39b0 : decide (0 ≤ x147_4) = true := decide_eq_true c39; clear c39
                by_cases c40 : x147_4 < (t1112.length : Int)
                ·rw [if_pos c40] at H
                 have c40b0 : decide (x147_4 < (t1112.length : Int)) = true := decide_eq_true c40; clear c40
                 by_cases c41 : (rd t1112 x147_4) > 1
                 ·rw [if_pos c41] at H
                  have c41b0 : decide (1 < (rd t1112 x147_4)) = true := decide_eq_true c41; clear c41; obtain rfl := Option.some.inj H; obtain ⟨ad1116, e1116, hx1116_0⟩ := Kd.at_int (Kd.R_reads' HO_145.out).2.2 x147_4 dT dT; cases e1116; have p1116 := eT (0 ≤ (x147_4 : Int)); have q1116 := eT (x147_4 < (t1112.length : Int))
                  go_wp2
                  go_ret
                  exact ⟨eZ, Bz HB.out⟩
                 ·rw [if_neg c41] at H
                  have c41b0 : decide (1 < (rd t1112 x147_4)) = false := decide_eq_false c41; clear c41; have H' := am H; clear H; obtain ⟨ad1116, e1116, hx1116_0⟩ := Kd.at_int (Kd.R_reads' HO_145.out).2.2 x147_4 dT dT; cases e1116; have p1116 := eT (0 ≤ (x147_4 : Int)); have q1116 := eT (x147_4 < (t1112.length : Int))
                  go_wp2
                  go_roundg k4
                  case measure => have := HJ7.out; have := HK2.out; have := HJ31.out; have := HK4.out; omega
                  case rel => exact ⟨(wrap64 (x26_4 + (rd t1112 x147_4))), (wrap64 (x147_4 + 1)), wZ, wZ, H', ⟨by have := HJ7.out; have := HK2.out; have := HJ31.out; have := HK4.out; omega⟩, ⟨Rz HO_5.out⟩, ⟨Rz HO_145.out⟩, ⟨Bz HB.out⟩⟩
                ·rw [if_neg c40] at H
                 exact absurd H (by simp)
               ·rw [if_neg c39] at H
                exact absurd H (by simp)
              ·rw [if_neg c38] at H
               have c38b0 : decide (x147_4 < (t1112.length : Int)) = false := decide_eq_false c38; clear c38
               by_cases c42 : t1113 = true
               ·subst c42
                rw [if_pos rfl] at H; obtain rfl := Option.some.inj H
                go_wp2
                go_ret
                exact ⟨eZ, Bz HB.out⟩
               ·replace c42 := Bool.eq_false_iff.mpr c42
                subst c42
                rw [if_neg (show ¬ (false = true) by decide)] at H; obtain rfl := Option.some.inj H
                go_wp2
                go_ret
                exact ⟨eZ, Bz HB.out⟩
     ·replace c15 := Bool.eq_false_iff.mpr c15
      subst c15
      rw [if_neg (show ¬ (false = true) by decide)] at H; obtain rfl := Option.some.inj H
      go_wp2
      go_ret
      exact ⟨eZ, Bz HB.out⟩

/-- THE ONE PURE STATEMENT of laws_FnPlainSeedsAreFirst: yours. -/
def laws_FnPlainSeedsAreFirst.Pure : Prop := ∀ (l0 : List Int) (l1 : List Int), l0.length ≤ maxLen → l0.length * 1 ≤ 140737488351232 → (∀ x ∈ l0, (Lit.int .u8 x).wf = true) → l1.length ≤ maxLen → l1.length * 1 ≤ 140737488351232 → (∀ x ∈ l1, (Lit.int .u8 x).wf = true) → ∃ k, laws_FnPlainSeedsAreFirst.f k l0 l1 = some true
theorem laws_FnPlainSeedsAreFirst.walk (P : laws_FnPlainSeedsAreFirst.Pure) (a0 : Option Addr) (len0 cap0 : Nat) (z0 : List Int) (a1 : Option Addr) (len1 cap1 : Nat) (z1 : List Int) (w : World) (w0 : (a0 = none ∧ len0 = 0 ∧ cap0 = 0 ∧ z0 = []) ∨ ∃ x, a0 = some x ∧ len0 ≤ cap0 ∧ cap0 ≤ maxLen ∧ z0.length = cap0 ∧ (∀ i, i < z0.length → w.cell? (x.add i) = some (.int .u8 (z0.getD i 0))) ∧ ∀ n ∈ z0, (Lit.int .u8 n).wf = true) (y0 : len0 * 1 ≤ 140737488351232) (w1 : (a1 = none ∧ len1 = 0 ∧ cap1 = 0 ∧ z1 = []) ∨ ∃ x, a1 = some x ∧ len1 ≤ cap1 ∧ cap1 ≤ maxLen ∧ z1.length = cap1 ∧ (∀ i, i < z1.length → w.cell? (x.add i) = some (.int .u8 (z1.getD i 0))) ∧ ∀ n ∈ z1, (Lit.int .u8 n).wf = true) (y1 : len1 * 1 ≤ 140737488351232) :
  Calls Try.prog 3 #[.slice a0 len0 cap0, .slice a1 len1 cap1] w fun e w' => e = .returned (.bool true) ∧ Below w.heap.size w w' := by
 obtain ⟨l0, rfl, hr0, hm0, hw0, hc0⟩ := ReadsInt.ofRowC w0; obtain ⟨l1, rfl, hr1, hm1, hw1, hc1⟩ := ReadsInt.ofRowC w1; obtain ⟨k, h⟩ := P l0 l1 hm0 y0 hw0 hm1 y1 hw1; refine (laws_FnPlainSeedsAreFirst.calls k _ _ l0 _ _ l1 true w (Kd.C_of_reads (d := (0 : Int)) (h1 := fun _ => rfl) hr0) hc0 (Kd.C_of_reads (d := (0 : Int)) (h1 := fun _ => rfl) hr1) hc1 h).mono ?_; rintro e w' ⟨rfl, hd⟩; exact ⟨rfl, hd⟩

end Go.Proofs.Ythkcgimnagpmaaa.PA
