import Derived.Test.YtephjmmkggcmeaaCG1
import Derived.Test.YtephjmmkggcmeaaCG2
-- printed by a program of this session (wip/gp) out of the translation; Lean checks it
namespace Go.Proofs.Ytephjmmkggcmeaa.PG
open Go.RowKit Go.Proofs.YtephjmmkggcmeaaW.PrintWords Go.Proofs.YtephjmmkggcmeaaW.PrintLast Go.Proofs.YtephjmmkggcmeaaW.PrintMore Go.Proofs.YtephjmmkggcmeaaSq
attribute [local go_sem] max2_int min2_int max_two min_two max_three min_three max_four min_four   -- for this text's walks alone
attribute [local go_sem] Go.Proofs.YtephjmmkggcmeaaGp.str_geq Go.Proofs.YtephjmmkggcmeaaGp.str_gtr Go.Proofs.YtephjmmkggcmeaaGp.str_leq
set_option linter.unusedVariables false
set_option linter.unusedSimpArgs false

set_option maxHeartbeats 8000000
set_option maxRecDepth 100000
def slices_Index_int_int.l0 : Nat → List Int → Int → Int → Int → Option (Int)
 | 0, _, _, _, _ => none
 | k + 1, x0, x1, x7, x8 => if x8 < x7 then (if 0 ≤ x8 then (if x8 < (x0.length : Int) then (if x1 = (rd x0 x8) then (some x8) else (slices_Index_int_int.l0 k x0 x1 x7 (wrap64 (x8 + 1)))) else (none)) else (none)) else (some (-1))
def slices_Index_int_int.f (k : Nat) (l0 : List Int) (a1 : Int) : Option (Int) := slices_Index_int_int.l0 k l0 a1 (l0.length : Int) 0
theorem slices_Index_int_int.calls (k : Nat) (A0 : Option Addr) (c0 : Nat) (l0 : List Int) (a1 : Int) (r : Int) (w : World) (hr0 : Kd.C (Kd.int .i64) w A0 l0.length l0) (hc0 : l0.length ≤ c0) (h : slices_Index_int_int.f k l0 a1 = some r) :
  Calls Try.prog 133 #[.slice A0 l0.length c0, .int .i64 a1] w fun e w' => e = .returned (.int .i64 r) ∧ Drawn0 w w' := by
 have HR0 := am hr0; have HC0 := am hc0; clear hr0 hc0; have H : (slices_Index_int_int.l0 k l0 a1 (l0.length : Int) 0) = some r := h; clear h; have H' := am H; clear H
 go_enter Try.func133, Try.ntmps133
 go_wp2
 go_loopg [8] k (fun kq v8 w' => ∃ (x8_1 : Int), v8 = .int .i64 x8_1 ∧ Aside0 (slices_Index_int_int.l0 kq l0 a1 (l0.length : Int) x8_1 = some r) ∧ Aside0 (kq ≤ k) ∧ Drawn0 w w')
 case atStart => exact ⟨(0), wZ, H', ⟨Nat.le_refl _⟩, by repeat (first | exact Drawn0.refl _ | apply Drawn0.step)⟩
 case round =>
  clear H'
  try clear c1
  try clear p2
  obtain ⟨x8_1, rfl, HA, HK1, ⟨m1, rfl⟩⟩ := hrel; cases gk with
  | zero => exact absurd HA.out (by simp [slices_Index_int_int.l0])
  | succ k1 =>
   have H := HA.out; clear HA
   simp only [slices_Index_int_int.l0] at H
   by_cases c3 : x8_1 < (l0.length : Int)
   ·rw [if_pos c3] at H
    have c3b0 : decide (x8_1 < (l0.length : Int)) = true := decide_eq_true c3; clear c3
    by_cases c4 : 0 ≤ x8_1
    ·rw [if_pos c4] at H
     have c4b0 : decide (0 ≤ x8_1) = true := decide_eq_true c4; clear c4
     by_cases c5 : x8_1 < (l0.length : Int)
     ·rw [if_pos c5] at H
      have c5b0 : decide (x8_1 < (l0.length : Int)) = true := decide_eq_true c5; clear c5
      by_cases c6 : a1 = (rd l0 x8_1)
      ·rw [if_pos c6] at H
       have c6b0 : (a1 == (rd l0 x8_1)) = true := beq_iff_eq.mpr c6; have c6b1 : (a1 != (rd l0 x8_1)) = false := bne_eq_false_iff_eq.mpr c6; clear c6; obtain rfl := Option.some.inj H; obtain ⟨ad323, e323, hx323_0⟩ := Kd.at_int HR0.out x8_1 dT dT; cases e323; have p323 := eT (0 ≤ (x8_1 : Int)); have q323 := eT (x8_1 < (l0.length : Int))
       go_wp2
       go_ret
       exact ⟨by first | rfl | (simp; done) | (simp [*]; done), by repeat (first | exact Drawn0.refl _ | apply Drawn0.step)⟩
      ·rw [if_neg c6] at H
       have c6b0 : (a1 == (rd l0 x8_1)) = false := beq_eq_false_iff_ne.mpr c6; have c6b1 : (a1 != (rd l0 x8_1)) = true := bne_iff_ne.mpr c6; have H' := am H; clear H; obtain ⟨ad323, e323, hx323_0⟩ := Kd.at_int HR0.out x8_1 dT dT; cases e323; have p323 := eT (0 ≤ (x8_1 : Int)); have q323 := eT (x8_1 < (l0.length : Int))
       go_wp2
       go_roundg k1
       case measure => have := HK1.out; omega
       case rel => exact ⟨(wrap64 (x8_1 + 1)), wZ, H', ⟨by have := HK1.out; omega⟩, by repeat (first | exact Drawn0.refl _ | apply Drawn0.step)⟩
     ·rw [if_neg c5] at H
      exact absurd H (by simp)
    ·rw [if_neg c4] at H
     exact absurd H (by simp)
   ·rw [if_neg c3] at H
    have c3b0 : decide (x8_1 < (l0.length : Int)) = false := decide_eq_false c3; clear c3; obtain rfl := Option.some.inj H
    go_wp2
    go_ret
    exact ⟨by first | rfl | (simp; done) | (simp [*]; done), by repeat (first | exact Drawn0.refl _ | apply Drawn0.step)⟩

def slices_Contains_int_int.f (k : Nat) (l0 : List Int) (a1 : Int) : Option (Bool) := (slices_Index_int_int.f k l0 a1).bind fun t324 => (some (decide (t324 ≥ 0)))
theorem slices_Contains_int_int.calls (k : Nat) (A0 : Option Addr) (c0 : Nat) (l0 : List Int) (a1 : Int) (r : Bool) (w : World) (hr0 : Kd.C (Kd.int .i64) w A0 l0.length l0) (hc0 : l0.length ≤ c0) (h : slices_Contains_int_int.f k l0 a1 = some r) :
  Calls Try.prog 88 #[.slice A0 l0.length c0, .int .i64 a1] w fun e w' => e = .returned (.bool r) ∧ Drawn0 w w' := by
 have HR0 := am hr0; have HC0 := am hc0; clear hr0 hc0; have H : ((slices_Index_int_int.f k l0 a1).bind fun t324 => (some (decide (t324 ≥ 0)))) = some r := h; clear h; replace H := Option.bind_eq_some_iff.mp H; obtain ⟨t324, A30, H⟩ := H; (try dsimp -simprocs only at H); have A3 := am A30; clear A30; obtain rfl := Option.some.inj H
 go_enter Try.func88, Try.ntmps88
 go_wp2_with (first | ((with_reducible refine gate_callee (f := 133) rfl ?_); refine gL (some 7) Try.func133 #[.slice A0 l0.length c0, .int .i64 a1] ?_; (with_reducible refine (slices_Index_int_int.calls k _ _ l0 a1 t324 _ ?side1 ?side2 A3.out).mono ?_); (case side1 => exact Cz HR0.out); (case side2 => exact HC0.out); rintro e w' ⟨rfl, ⟨nd, rfl⟩⟩; refine ⟨_, rfl, ?_⟩))
 go_ret
 exact ⟨by first | rfl | (simp; done) | (simp [*]; done), by repeat (first | exact Drawn0.refl _ | apply Drawn0.step)⟩

-- NOT PRINTED: function 121 (impl_groups_1)

def impl_groups_1.f (k : Nat) (a0 : Int) (l1_0 : List (List Int)) (l2_0 : List Int) : Option (Bool) := if 0 < (l2_0.length : Int) then (if 0 ≤ (rd l2_0 0) then (if (rd l2_0 0) < (l1_0.length : Int) then ((slices_Contains_int_int.f k (rd_L3 l1_0 (rd l2_0 0)) a0).bind fun t347 => (some t347)) else (none)) else (none)) else (none)
theorem impl_groups_1.calls (k : Nat) (a0 : Int) (g1 : Nat) (A1_0 : Option Addr) (c1_0 : Nat) (l1_0 : List (List Int)) (g2 : Nat) (A2_0 : Option Addr) (c2_0 : Nat) (l2_0 : List Int) (r : Bool) (w : World) (hb1 : w.heap[g1]? = some (.cells #[.slice A1_0 l1_0.length c1_0] 27 (0, 0))) (hr1_0 : Kd.C (Kd.slice 3 (Kd.int .i64)) w A1_0 l1_0.length l1_0) (hc1_0 : l1_0.length ≤ c1_0) (hb2 : w.heap[g2]? = some (.cells #[.slice A2_0 l2_0.length c2_0] 31 (0, 0))) (hr2_0 : Kd.C (Kd.int .i64) w A2_0 l2_0.length l2_0) (hc2_0 : l2_0.length ≤ c2_0) (h : impl_groups_1.f k a0 l1_0 l2_0 = some r) :
  Calls Try.prog 121 #[.int .i64 a0, .pointer (some ⟨g1, 0, none⟩), .pointer (some ⟨g2, 0, none⟩)] w fun e w' => e = .returned (.bool r) ∧ Drawn0 w w' := by
 have HR1_0 := am hr1_0; have HC1_0 := am hc1_0; clear hr1_0 hc1_0; have HR2_0 := am hr2_0; have HC2_0 := am hc2_0; clear hr2_0 hc2_0; have BK1 := am hb1; clear hb1; have BK2 := am hb2; clear hb2; have H : (if 0 < (l2_0.length : Int) then (if 0 ≤ (rd l2_0 0) then (if (rd l2_0 0) < (l1_0.length : Int) then ((slices_Contains_int_int.f k (rd_L3 l1_0 (rd l2_0 0)) a0).bind fun t347 => (some t347)) else (none)) else (none)) else (none)) = some r := h; clear h
 by_cases c4 : 0 < (l2_0.length : Int)
 ·rw [if_pos c4] at H
  have c4b0 : decide (0 < (l2_0.length : Int)) = true := decide_eq_true c4; have c4b1 : decide (0 < l2_0.length) = true := decide_eq_true (by omega); clear c4
  by_cases c5 : 0 ≤ (rd l2_0 0)
  ·rw [if_pos c5] at H
   have c5b0 : decide (0 ≤ (rd l2_0 0)) = true := decide_eq_true c5; clear c5
   by_cases c6 : (rd l2_0 0) < (l1_0.length : Int)
   ·rw [if_pos c6] at H
    have c6b0 : decide ((rd l2_0 0) < (l1_0.length : Int)) = true := decide_eq_true c6; clear c6; replace H := Option.bind_eq_some_iff.mp H; obtain ⟨t347, A70, H⟩ := H; (try dsimp -simprocs only at H); have A7 := am A70; clear A70; obtain rfl := Option.some.inj H; obtain ⟨hcz8_0, hfz8_0⟩ := cf1 (w := w) BK1; obtain ⟨hcz9_0, hfz9_0⟩ := cf1 (w := w) BK2; have p345 : 0 ≤ (0 : Int) := (by omega); have q345 : 0 < (l2_0.length : Int) := dT; obtain ⟨ad345, e345, hx345_0⟩ := Kd.at_int HR2_0.out 0 p345 q345; cases e345; have qi345 : (0 < l2_0.length) = True := eq_true (by omega)
    (try rw [show ((0 : Int)).toNat = 0 from rfl] at hx345_0)
    (try rw [Addr.add_zero'] at hx345_0)
    replace p345 := eq_true p345; replace q345 := eq_true q345; have p346 : 0 ≤ ((rd l2_0 0) : Int) := dT; have q346 : (rd l2_0 0) < (l1_0.length : Int) := dT; obtain ⟨ad346, A346_0, c346_0, e346, hx346_0, hl346_0, hi346_0⟩ := at_L3 HR1_0.out (rd l2_0 0) p346 q346; cases e346; have HR346_0 := am hi346_0; have HC346_0 := am hl346_0; clear hi346_0 hl346_0; replace p346 := eq_true p346; replace q346 := eq_true q346
    go_enter Try.func121, Try.ntmps121
    go_wp2_with (first | (go_at_call 88; (with_reducible refine (slices_Contains_int_int.calls k _ _ (rd_L3 l1_0 (rd l2_0 0)) a0 t347 _ ?side1 ?side2 A7.out).mono ?_); (case side1 => exact Cz HR346_0.out); (case side2 => exact HC346_0.out); rintro e w' ⟨rfl, ⟨nd, rfl⟩⟩; (try exact yZ)))
    repeat (go_quiet (first | (go_at_call 88; (with_reducible refine (slices_Contains_int_int.calls k _ _ (rd_L3 l1_0 (rd l2_0 0)) a0 t347 _ ?side1 ?side2 A7.out).mono ?_); (case side1 => exact Cz HR346_0.out); (case side2 => exact HC346_0.out); rintro e w' ⟨rfl, ⟨nd, rfl⟩⟩; (try exact yZ))); try go_wp2_with (first | (go_at_call 88; (with_reducible refine (slices_Contains_int_int.calls k _ _ (rd_L3 l1_0 (rd l2_0 0)) a0 t347 _ ?side1 ?side2 A7.out).mono ?_); (case side1 => exact Cz HR346_0.out); (case side2 => exact HC346_0.out); rintro e w' ⟨rfl, ⟨nd, rfl⟩⟩; (try exact yZ))))
    go_ret
    exact ⟨by first | rfl | (simp; done) | (simp [*]; done), by repeat (first | exact Drawn0.refl _ | apply Drawn0.step)⟩
   ·rw [if_neg c6] at H
    exact absurd H (by simp)
  ·rw [if_neg c5] at H
   exact absurd H (by simp)
 ·rw [if_neg c4] at H
  exact absurd H (by simp)

def slices_IndexFunc_int_int_at_impl_groups_1.l0 : Nat → List Int → Int → Int → List (List Int) → List Int → Option (Int)
 | 0, _, _, _, _, _ => none
 | k + 1, x0, x7, x8, x3000, x4000 => if x8 < x7 then (if 0 ≤ x8 then (if x8 < (x0.length : Int) then ((impl_groups_1.f k (rd x0 x8) x3000 x4000).bind fun t349 => (if t349 = true then (some x8) else (slices_IndexFunc_int_int_at_impl_groups_1.l0 k x0 x7 (wrap64 (x8 + 1)) x3000 x4000))) else (none)) else (none)) else (some (-1))
def slices_IndexFunc_int_int_at_impl_groups_1.f (k : Nat) (l0 : List Int)  (l2_0 : List (List Int)) (l3_0 : List Int) : Option (Int) := slices_IndexFunc_int_int_at_impl_groups_1.l0 k l0 (l0.length : Int) 0 l2_0 l3_0
theorem slices_IndexFunc_int_int_at_impl_groups_1.calls (k : Nat) (A0 : Option Addr) (c0 : Nat) (l0 : List Int)  (g2 : Nat) (A2_0 : Option Addr) (c2_0 : Nat) (l2_0 : List (List Int)) (g3 : Nat) (A3_0 : Option Addr) (c3_0 : Nat) (l3_0 : List Int) (r : Int) (w : World) (hr0 : Kd.C (Kd.int .i64) w A0 l0.length l0) (hc0 : l0.length ≤ c0) (hb2 : w.heap[g2]? = some (.cells #[.slice A2_0 l2_0.length c2_0] 27 (0, 0))) (hr2_0 : Kd.C (Kd.slice 3 (Kd.int .i64)) w A2_0 l2_0.length l2_0) (hc2_0 : l2_0.length ≤ c2_0) (hb3 : w.heap[g3]? = some (.cells #[.slice A3_0 l3_0.length c3_0] 31 (0, 0))) (hr3_0 : Kd.C (Kd.int .i64) w A3_0 l3_0.length l3_0) (hc3_0 : l3_0.length ≤ c3_0) (h : slices_IndexFunc_int_int_at_impl_groups_1.f k l0 l2_0 l3_0 = some r) :
  Calls Try.prog 148 #[.slice A0 l0.length c0, .func (.func 121) #[] #[.pointer (some ⟨g2, 0, none⟩), .pointer (some ⟨g3, 0, none⟩)]] w fun e w' => e = .returned (.int .i64 r) ∧ Drawn0 w w' := by
 have HR0 := am hr0; have HC0 := am hc0; clear hr0 hc0; have HR2_0 := am hr2_0; have HC2_0 := am hc2_0; clear hr2_0 hc2_0; have HR3_0 := am hr3_0; have HC3_0 := am hc3_0; clear hr3_0 hc3_0; have BK2 := am hb2; clear hb2; have BK3 := am hb3; clear hb3; have H : (slices_IndexFunc_int_int_at_impl_groups_1.l0 k l0 (l0.length : Int) 0 l2_0 l3_0) = some r := h; clear h; have H' := am H; clear H
 go_enter Try.func148, Try.ntmps148
 go_wp2
 go_loopg [8] k (fun kq v8 w' => ∃ (x8_1 : Int), v8 = .int .i64 x8_1 ∧ Aside0 (slices_IndexFunc_int_int_at_impl_groups_1.l0 kq l0 (l0.length : Int) x8_1 l2_0 l3_0 = some r) ∧ Aside0 (kq ≤ k) ∧ Aside0 (w'.heap[g2]? = some (.cells #[(.slice A2_0 l2_0.length c2_0)] 27 (0, 0))) ∧ Aside0 (w'.heap[g3]? = some (.cells #[(.slice A3_0 l3_0.length c3_0)] 31 (0, 0))) ∧ Drawn0 w w')
 case atStart => exact ⟨(0), wZ, H', ⟨Nat.le_refl _⟩, ⟨Kz BK2.out⟩, ⟨Kz BK3.out⟩, by repeat (first | exact Drawn0.refl _ | apply Drawn0.step)⟩
 case round =>
  clear H'
  try clear c1
  try clear c2
  try clear p2
  try clear c3
  obtain ⟨x8_1, rfl, HA, HK1, BK2, BK3, ⟨m1, rfl⟩⟩ := hrel; cases gk with
  | zero => exact absurd HA.out (by simp [slices_IndexFunc_int_int_at_impl_groups_1.l0])
  | succ k1 =>
   have H := HA.out; clear HA
   simp only [slices_IndexFunc_int_int_at_impl_groups_1.l0] at H
   by_cases c5 : x8_1 < (l0.length : Int)
   ·rw [if_pos c5] at H
    have c5b0 : decide (x8_1 < (l0.length : Int)) = true := decide_eq_true c5; clear c5
    by_cases c6 : 0 ≤ x8_1
    ·rw [if_pos c6] at H
     have c6b0 : decide (0 ≤ x8_1) = true := decide_eq_true c6; clear c6
     by_cases c7 : x8_1 < (l0.length : Int)
     ·rw [if_pos c7] at H
      have c7b0 : decide (x8_1 < (l0.length : Int)) = true := decide_eq_true c7; clear c7; replace H := Option.bind_eq_some_iff.mp H; obtain ⟨t349, A80, H⟩ := H; (try dsimp -simprocs only at H); have A8 := am A80; clear A80
      by_cases c9 : t349 = true
      ·subst c9
       rw [if_pos rfl] at H; obtain rfl := Option.some.inj H; obtain ⟨ad348, e348, hx348_0⟩ := Kd.at_int HR0.out x8_1 dT dT; cases e348; have p348 := eT (0 ≤ (x8_1 : Int)); have q348 := eT (x8_1 < (l0.length : Int))
       go_wp2_with (first | (go_at_call 121; (with_reducible refine (impl_groups_1.calls k1 (rd l0 x8_1) g2 A2_0 c2_0 l2_0 g3 A3_0 c3_0 l3_0 true _ ?side1 ?side2 ?side3 ?side4 ?side5 ?side6 A8.out).mono ?_); (case side1 => exact Kz BK2.out); (case side2 => exact Cz HR2_0.out); (case side3 => exact HC2_0.out); (case side4 => exact Kz BK3.out); (case side5 => exact Cz HR3_0.out); (case side6 => exact HC3_0.out); rintro e w' ⟨rfl, ⟨nd, rfl⟩⟩))
       go_ret
       exact ⟨by first | rfl | (simp; done) | (simp [*]; done), by repeat (first | exact Drawn0.refl _ | apply Drawn0.step)⟩
      ·replace c9 := Bool.eq_false_iff.mpr c9
       subst c9
       rw [if_neg (show ¬ (false = true) by decide)] at H; have H' := am H; clear H; obtain ⟨ad348, e348, hx348_0⟩ := Kd.at_int HR0.out x8_1 dT dT; cases e348; have p348 := eT (0 ≤ (x8_1 : Int)); have q348 := eT (x8_1 < (l0.length : Int))
       go_wp2_with (first | (go_at_call 121; (with_reducible refine (impl_groups_1.calls k1 (rd l0 x8_1) g2 A2_0 c2_0 l2_0 g3 A3_0 c3_0 l3_0 false _ ?side1 ?side2 ?side3 ?side4 ?side5 ?side6 A8.out).mono ?_); (case side1 => exact Kz BK2.out); (case side2 => exact Cz HR2_0.out); (case side3 => exact HC2_0.out); (case side4 => exact Kz BK3.out); (case side5 => exact Cz HR3_0.out); (case side6 => exact HC3_0.out); rintro e w' ⟨rfl, ⟨nd, rfl⟩⟩))
       go_roundg k1
       case measure => have := HK1.out; omega
       case rel => exact ⟨(wrap64 (x8_1 + 1)), wZ, H', ⟨by have := HK1.out; omega⟩, ⟨Kz BK2.out⟩, ⟨Kz BK3.out⟩, by repeat (first | exact Drawn0.refl _ | apply Drawn0.step)⟩
     ·rw [if_neg c7] at H
      exact absurd H (by simp)
    ·rw [if_neg c6] at H
     exact absurd H (by simp)
   ·rw [if_neg c5] at H
    have c5b0 : decide (x8_1 < (l0.length : Int)) = false := decide_eq_false c5; clear c5; obtain rfl := Option.some.inj H
    go_wp2
    go_ret
    exact ⟨by first | rfl | (simp; done) | (simp [*]; done), by repeat (first | exact Drawn0.refl _ | apply Drawn0.step)⟩

def slices_ContainsFunc_int_int_at_impl_groups_1.f (k : Nat) (l0 : List Int)  (l2_0 : List (List Int)) (l3_0 : List Int) : Option (Bool) := (slices_IndexFunc_int_int_at_impl_groups_1.f k l0 l2_0 l3_0).bind fun t350 => (some (decide (t350 ≥ 0)))
theorem slices_ContainsFunc_int_int_at_impl_groups_1.calls (k : Nat) (A0 : Option Addr) (c0 : Nat) (l0 : List Int)  (g2 : Nat) (A2_0 : Option Addr) (c2_0 : Nat) (l2_0 : List (List Int)) (g3 : Nat) (A3_0 : Option Addr) (c3_0 : Nat) (l3_0 : List Int) (r : Bool) (w : World) (hr0 : Kd.C (Kd.int .i64) w A0 l0.length l0) (hc0 : l0.length ≤ c0) (hb2 : w.heap[g2]? = some (.cells #[.slice A2_0 l2_0.length c2_0] 27 (0, 0))) (hr2_0 : Kd.C (Kd.slice 3 (Kd.int .i64)) w A2_0 l2_0.length l2_0) (hc2_0 : l2_0.length ≤ c2_0) (hb3 : w.heap[g3]? = some (.cells #[.slice A3_0 l3_0.length c3_0] 31 (0, 0))) (hr3_0 : Kd.C (Kd.int .i64) w A3_0 l3_0.length l3_0) (hc3_0 : l3_0.length ≤ c3_0) (h : slices_ContainsFunc_int_int_at_impl_groups_1.f k l0 l2_0 l3_0 = some r) :
  Calls Try.prog 120 #[.slice A0 l0.length c0, .func (.func 121) #[] #[.pointer (some ⟨g2, 0, none⟩), .pointer (some ⟨g3, 0, none⟩)]] w fun e w' => e = .returned (.bool r) ∧ Drawn0 w w' := by
 have HR0 := am hr0; have HC0 := am hc0; clear hr0 hc0; have HR2_0 := am hr2_0; have HC2_0 := am hc2_0; clear hr2_0 hc2_0; have HR3_0 := am hr3_0; have HC3_0 := am hc3_0; clear hr3_0 hc3_0; have BK2 := am hb2; clear hb2; have BK3 := am hb3; clear hb3; have H : ((slices_IndexFunc_int_int_at_impl_groups_1.f k l0 l2_0 l3_0).bind fun t350 => (some (decide (t350 ≥ 0)))) = some r := h; clear h; replace H := Option.bind_eq_some_iff.mp H; obtain ⟨t350, A50, H⟩ := H; (try dsimp -simprocs only at H); have A5 := am A50; clear A50; obtain rfl := Option.some.inj H
 go_enter Try.func120, Try.ntmps120
 go_wp2_with (first | ((with_reducible refine gate_callee (f := 148) rfl ?_); refine gL (some 7) Try.func148 #[.slice A0 l0.length c0, .func (.func 121) #[] #[.pointer (some ⟨g2, 0, none⟩), .pointer (some ⟨g3, 0, none⟩)]] ?_; (with_reducible refine (slices_IndexFunc_int_int_at_impl_groups_1.calls k _ _ l0  g2 A2_0 c2_0 l2_0 g3 A3_0 c3_0 l3_0 t350 _ ?side1 ?side2 ?side3 ?side4 ?side5 ?side6 ?side7 ?side8 A5.out).mono ?_); (case side1 => exact Cz HR0.out); (case side2 => exact HC0.out); (case side3 => exact Kz BK2.out); (case side4 => exact Cz HR2_0.out); (case side5 => exact HC2_0.out); (case side6 => exact Kz BK3.out); (case side7 => exact Cz HR3_0.out); (case side8 => exact HC3_0.out); rintro e w' ⟨rfl, ⟨nd, rfl⟩⟩; refine ⟨_, rfl, ?_⟩))
 go_ret
 exact ⟨by first | rfl | (simp; done) | (simp [*]; done), by repeat (first | exact Drawn0.refl _ | apply Drawn0.step)⟩

mutual
def impl_groups.l0 : Nat → List (List Int) → List Int → Int → Int → List (List Int) → Option ((List (List Int)))
 | 0, _, _, _, _, _ => none
 | k + 1, x3, x4, x17, x18, x326000 => if x18 < x17 then (if 0 ≤ x18 then (if x18 < (x4.length : Int) then (impl_groups.l0 k x3 (x4.set (x18 : Int).toNat (-1)) x17 (wrap64 (x18 + 1)) x326000) else (none)) else (none)) else (impl_groups.l1 k x3 x4 (x326000.length : Int) 0 x326000)
def impl_groups.l1 : Nat → List (List Int) → List Int → Int → Int → List (List Int) → Option ((List (List Int)))
 | 0, _, _, _, _, _ => none
 | k + 1, x3, x4, x26, x27, x326000 => if x27 < x26 then (if 0 ≤ x27 then (if x27 < (x4.length : Int) then (if (rd x4 x27) ≥ 0 then (impl_groups.l1 k x3 x4 x26 (wrap64 (x27 + 1)) x326000) else (impl_groups.l2 k x3 (x4.set (x27 : Int).toNat (x3.length : Int)) (x3.length : Int) x26 x27 x326000 (([x27] : List Int)))) else (none)) else (none)) else (impl_groups.l4 k x3 x4 (x4.length : Int) 0)
def impl_groups.l2 : Nat → List (List Int) → List Int → Int → Int → Int → List (List Int) → List Int → Option ((List (List Int)))
 | 0, _, _, _, _, _, _, _ => none
 | k + 1, x3, x4, x7, x26, x27, x326000, x339000 => if (x339000.length : Int) > 0 then (impl_groups.l3 k x3 x4 x7 x26 x27 (x326000.length : Int) 0 x326000 x339000) else (if x3.length < 5864062014805 then (impl_groups.l1 k (x3 ++ [[]]) x4 x26 (wrap64 (x27 + 1)) x326000) else (none))
def impl_groups.l3 : Nat → List (List Int) → List Int → Int → Int → Int → Int → Int → List (List Int) → List Int → Option ((List (List Int)))
 | 0, _, _, _, _, _, _, _, _, _ => none
 | k + 1, x3, x4, x7, x26, x27, x49, x50, x326000, x339000 => if x50 < x49 then (if 0 ≤ x50 then (if x50 < (x4.length : Int) then (if (rd x4 x50) < 0 then (if x50 < (x326000.length : Int) then ((slices_ContainsFunc_int_int_at_impl_groups_1.f k (rd_L3 x326000 x50) x326000 x339000).bind fun t344 => (if t344 = true then (if x339000.length < 17592186044416 then (impl_groups.l3 k x3 (x4.set (x50 : Int).toNat x7) x7 x26 x27 x49 (wrap64 (x50 + 1)) x326000 (x339000 ++ [x50])) else (none)) else (impl_groups.l3 k x3 x4 x7 x26 x27 x49 (wrap64 (x50 + 1)) x326000 x339000))) else (none)) else (impl_groups.l3 k x3 x4 x7 x26 x27 x49 (wrap64 (x50 + 1)) x326000 x339000)) else (none)) else (none)) else (if 1 ≤ (x339000.length : Int) then (impl_groups.l2 k x3 x4 x7 x26 x27 x326000 (x339000.drop (1 : Int).toNat)) else (none))
def impl_groups.l4 : Nat → List (List Int) → List Int → Int → Int → Option ((List (List Int)))
 | 0, _, _, _, _ => none
 | k + 1, x3, x80, x81, x82 => if x82 < x81 then (if 0 ≤ x82 then (if x82 < (x80.length : Int) then (if 0 ≤ (rd x80 x82) then (if (rd x80 x82) < (x3.length : Int) then (if (rd_L3 x3 (rd x80 x82)).length < 17592186044416 then (impl_groups.l4 k (x3.set ((rd x80 x82) : Int).toNat ((rd_L3 x3 (rd x80 x82)) ++ [x82])) x80 x81 (wrap64 (x82 + 1))) else (none)) else (none)) else (none)) else (none)) else (none)) else (some x3)
end
def impl_groups.f (k : Nat) (l0 : List (List Int)) : Option ((List (List Int))) := if 0 ≤ (l0.length : Int) then (if ((l0.length : Int) : Int).toNat ≤ 35184372088832 then ((some (List.replicate ((l0.length : Int) : Int).toNat 0 : List Int)).bind fun y329 => (impl_groups.l0 k (([] : List (List Int))) y329 (y329.length : Int) 0 l0)) else (none)) else (none)
theorem impl_groups.calls (k : Nat) (A0 : Option Addr) (c0 : Nat) (l0 : List (List Int)) (r : List (List Int)) (w : World) (hr0 : Kd.C (Kd.slice 3 (Kd.int .i64)) w A0 l0.length l0) (hc0 : l0.length ≤ c0) (h : impl_groups.f k l0 = some r) :
  Calls Try.prog 61 #[.slice A0 l0.length c0] w fun e w' => ∃ v0_ : Value, e = .returned (v0_) ∧ Kd.S (Kd.slice 3 (Kd.int .i64)) 31 w' w.heap.size (fun _ => True) v0_ r ∧ Below w.heap.size w w' := by
 have HR0 := am hr0; have HC0 := am hc0; clear hr0 hc0; have HB := am (Below.refl w.heap.size w); have H : (if 0 ≤ (l0.length : Int) then (if ((l0.length : Int) : Int).toNat ≤ 35184372088832 then ((some (List.replicate ((l0.length : Int) : Int).toNat 0 : List Int)).bind fun y329 => (impl_groups.l0 k (([] : List (List Int))) y329 (y329.length : Int) 0 l0)) else (none)) else (none)) = some r := h; clear h; obtain ⟨y326, hy326⟩ : ∃ y_ : List (List Int), y_ = (([] : List (List Int))) := ⟨_, rfl⟩
 replace H : (if 0 ≤ (l0.length : Int) then (if ((l0.length : Int) : Int).toNat ≤ 35184372088832 then ((some (List.replicate ((l0.length : Int) : Int).toNat 0 : List Int)).bind fun y329 => (impl_groups.l0 k y326 y329 (y329.length : Int) 0 l0)) else (none)) else (none)) = some r := by first | (rw [hy326]; with_reducible exact H) | (have H2_ := (Option.bind_some _ _).symm.trans H; rw [hy326]; with_reducible exact H2_) | (have H2_ := (Option.bind_some _ _).symm.trans H; with_reducible exact H2_) | with_reducible exact H | (rw [hy326]; exact H) | exact H
 have Ny326 := am hy326; clear hy326
 by_cases c2 : 0 ≤ (l0.length : Int)
 ·rw [if_pos c2] at H
  have c2b0 := eq_true c2; have c2b1 : decide (0 ≤ (l0.length : Int)) = true := decide_eq_true c2; clear c2
  by_cases c3 : ((l0.length : Int) : Int).toNat ≤ 35184372088832
  ·rw [if_pos c3] at H
   have c3b0 := eq_true c3; have c3b1 : decide (((l0.length : Int) : Int).toNat ≤ 35184372088832) = true := decide_eq_true c3; clear c3; obtain ⟨y329, hy329⟩ : ∃ y_ : List Int, y_ = (List.replicate ((l0.length : Int) : Int).toNat 0) := ⟨_, rfl⟩
   replace H : (impl_groups.l0 k y326 y329 (y329.length : Int) 0 l0) = some r := by first | (rw [hy329]; with_reducible exact H) | (have H2_ := (Option.bind_some _ _).symm.trans H; rw [hy329]; with_reducible exact H2_) | (have H2_ := (Option.bind_some _ _).symm.trans H; with_reducible exact H2_) | with_reducible exact H | (rw [hy329]; exact H) | exact H
   have Ny329 := am hy329; clear hy329; have H' := am H; clear H
   go_enter Try.func61, Try.ntmps61
   try go_wp2_with (first | ((with_reducible refine gate_dst (N := 1) rfl ?_); refine bE 1 #[.slice A0 l0.length c0] 27 ?_; intro gb325 hg w4 hbox hb; have n0_ := Bb HB hb; have n1_ := am (hbox); have n2_ := Gl HB hg; have n3_ := Gl HB hg; clear HB; revert n0_ n1_ n2_ n3_; intro HB BK325 GW325 GE325; clear hb hbox hg))
   have n0_ := am (blk_drew BK325.out); have n1_ := am (below_drew1 HB.out); clear BK325 HB; revert n0_ n1_; intro BK325 HB; refine start_ (n := 6) (S := fun w' => w'.cell? ⟨gb325, 0, none⟩ = some (.slice A0 l0.length c0)) (ds := []) (bA 6 0) (by kernel_rfl) rfl rfl (cz BK325 0) (fun hHeld => ?_); generalize w4.drew = w5 at BK325 HB hHeld ⊢; refine take_ (i := 1) (N := some 13) (v := ?_) (a' := ?_) (bA 6 2) rfl rfl (by kernel_rfl) (fun _ _ _ h => h) (Or.inl ⟨by rfl, ?_⟩) hHeld ?_ ?_
   rotate_left
   ·intro w' s0
    go_simp
    with_reducible rfl
   rotate_left
   ·simp only [aP, i64_w, i32_w]
    rfl
   refine pure_ (i := 2) (N := some 14) (v := ?_) (a' := ?_) (bA 6 6) rfl rfl (by kernel_rfl) (fun _ _ _ h => h) (Or.inl ⟨by rfl, ?_⟩) ?_ ?_
   rotate_left
   ·intro w'
    go_simp
    with_reducible rfl
   rotate_left
   ·simp only [aP, i64_w, i32_w]
    rfl
   refine join_ (σ := Value × Value) 1 (bA 6 31) (fun s_ => [(12, s_.1), (15, s_.2), (3, s_.1)]) (fun s_ w' => (w'.cell? ⟨gb325, 0, none⟩ = some (.slice A0 l0.length c0)) ∧ (Kd.S (Kd.slice 3 (Kd.int .i64)) 31 w' w.heap.size (fun k_ => some k_ ≠ (s_.2 : Value).ownBlock) s_.1 y326) ∧ (Kd.R (Kd.int .i64) 3 w' w.heap.size (fun _ => True) s_.2 y329) ∧ (w'.heap[gb325]? = some (.cells #[.slice A0 l0.length c0] 27 (0, 0))) ∧ (Below w.heap.size w w')) ?_ ?_
   rotate_left
   ·intro hCont
    refine two_ (i := 0) (j := 3) (Ni := some 12) (Nj := some 15) (bA 6 7) (bA 6 14) rfl rfl rfl rfl (by kernel_rfl) (by decide) (by decide) (fun K hK => ?_) (fun K hK => ?_)
    ·skip
     refine Kd.S_lit_step (Kd.slice 3 (Kd.int .i64)) _ 31 ?hg (N := 12) ?hd (xs := ([] : List (List Int))) (inner := []) (ok := fun _ => True) (okp := fun _ => True) ?hr ?hp (fun _ hk => hk) trivial (Below.refl _ _) (Nat.le_refl _) (by simp) ?_; (case hd => rfl); (case hg => rfl); (case hr => first | (go_simp; done) | (go_simp; rfl)); (case hp => exact (Reps.none _ _)); intro v327 w6 ho7 hb hg_ hnew_; clear hg_ hnew_
     (first | rw [← Ny326.out] at ho7 | (simp only [Int.reduceToNat] at ho7; rw [← Ny326.out] at ho7))
     have n0_ := am (Kd.S_lower ho7 (below_size (w := w) (Bq))); have n1_ := Kb BK325 hb; have n2_ := Bc HB hb; clear BK325 HB; revert n0_ n1_ n2_; intro HO328 BK325 HB; clear hb ho7; refine hK.out _ _ (cz BK325 0) (fun hHeld => ?_); clear hK K; refine norm_ (a' := ?_) ?_ ?_; rotate_left; show Act.put _ (some 12) _ = _; simp only [aP, i64_w, i32_w]; rfl; refine pure_ (i := 4) (N := some 3) (v := ?_) (a' := ?_) (bA 6 23) rfl rfl (by kernel_rfl) (fun _ _ _ h => h) (Or.inl ⟨by rfl, ?_⟩) ?_ ?_
     rotate_left
     ·intro w'
      go_simp
      with_reducible rfl
     rotate_left
     ·simp only [aP, i64_w, i32_w]
      rfl
     refine one_ (i := 3) (N := some 15) (bA 6 31) rfl rfl (by kernel_rfl) (by decide) (fun K hK => ?_); refine Kd.R_make_step (Kd.int .i64) _ 3 (by rfl) (N := 15) rfl 31 _ _ rfl (l0.length : Int) rfl rfl Try.underlying31 (.int .i64 0) 8 info3 rfl (by decide) (by omega) 0 (ok := fun _ => True) (okp := fun _ => True) rfl (fun _ hk => hk) trivial (dT) (Nat.le_trans (Nat.mul_le_mul_right _ (dT : (l0.length : Int).toNat ≤ 35184372088832)) (by omega)) (Below.refl _ _) (Nat.le_refl _) ?_; intro v330 w8 ho9 hb hg_ hnew_; clear hg_ hnew_
     (first | rw [← Ny329.out] at ho9 | (simp only [Int.reduceToNat] at ho9; rw [← Ny329.out] at ho9))
     have n0_ := am (Kd.S_elder' (by (with_reducible repeat (first | apply Kd.S_alloc | apply Kd.S_drewN | apply Kd.S_drew)); exact HO328.out) (Kd.R_base ho9) hb); have n1_ := Rm ho9 HB; have n2_ := Kb BK325 hb; have n3_ := Bc HB hb; clear HO328 BK325 HB; revert n0_ n1_ n2_ n3_; intro HO328 HO331 BK325 HB; clear hb ho9; refine hK.out _ _ (cz BK325 0) (fun hHeld => ?_); clear hK K; refine norm_ (a' := ?_) ?_ ?_; rotate_left; show Act.put _ (some 15) _ = _; simp only [aP, i64_w, i32_w]; rfl; exact norm_ (by simp only [putAll, aP]) (hCont (v327, v330) _ ⟨hHeld, (by (with_reducible repeat (first | apply Kd.S_alloc | apply Kd.S_drewN | apply Kd.S_drew)); exact Kd.S_mono HO328.out (fun _ hk => hk.2)), (Rz HO331.out), (Kz BK325.out), (Bq)⟩)
    ·skip
     refine Kd.R_make_step (Kd.int .i64) _ 3 (by rfl) (N := 15) rfl 31 _ _ rfl (l0.length : Int) rfl rfl Try.underlying31 (.int .i64 0) 8 info3 rfl (by decide) (by omega) 0 (ok := fun _ => True) (okp := fun _ => True) rfl (fun _ hk => hk) trivial (dT) (Nat.le_trans (Nat.mul_le_mul_right _ (dT : (l0.length : Int).toNat ≤ 35184372088832)) (by omega)) (Below.refl _ _) (Nat.le_refl _) ?_; intro v330 w6 ho7 hb hg_ hnew_; clear hg_ hnew_
     (first | rw [← Ny329.out] at ho7 | (simp only [Int.reduceToNat] at ho7; rw [← Ny329.out] at ho7))
     have n0_ := Rm ho7 HB; have n1_ := Kb BK325 hb; have n2_ := Bc HB hb; clear BK325 HB; revert n0_ n1_ n2_; intro HO331 BK325 HB; clear hb ho7; refine hK.out _ _ (cz BK325 0) (fun hHeld => ?_); clear hK K; refine norm_ (a' := ?_) ?_ ?_; rotate_left; show Act.put _ (some 15) _ = _; simp only [aP, i64_w, i32_w]; rfl; refine one_ (i := 0) (N := some 12) (bA 6 15) rfl rfl (by kernel_rfl) (by decide) (fun K hK => ?_); refine Kd.S_lit_step (Kd.slice 3 (Kd.int .i64)) _ 31 ?hg (N := 12) ?hd (xs := ([] : List (List Int))) (inner := []) (ok := fun _ => True) (okp := fun _ => True) ?hr ?hp (fun _ hk => hk) trivial (Below.refl _ _) (Nat.le_refl _) (by simp) ?_; (case hd => rfl); (case hg => rfl); (case hr => first | (go_simp; done) | (go_simp; rfl)); (case hp => exact (Reps.none _ _)); intro v327 w8 ho9 hb hg_ hnew_; clear hg_ hnew_
     (first | rw [← Ny326.out] at ho9 | (simp only [Int.reduceToNat] at ho9; rw [← Ny326.out] at ho9))
     have n0_ := Rb HO331 hb; have n1_ := am (Kd.S_lower (Kd.S_new' ho9 (Kd.R_lt (Rz HO331.out))) (below_size (w := w) (Bq))); have n2_ := Kb BK325 hb; have n3_ := Bc HB hb; clear HO331 BK325 HB; revert n0_ n1_ n2_ n3_; intro HO331 HO328 BK325 HB; clear hb ho9; refine hK.out _ _ (cz BK325 0) (fun hHeld => ?_); clear hK K; refine norm_ (a' := ?_) ?_ ?_; rotate_left; show Act.put _ (some 12) _ = _; simp only [aP, i64_w, i32_w]; rfl; refine pure_ (i := 4) (N := some 3) (v := ?_) (a' := ?_) (bA 6 31) rfl rfl (by kernel_rfl) (fun _ _ _ h => h) (Or.inl ⟨by rfl, ?_⟩) ?_ ?_
     rotate_left
     ·intro w'
      go_simp
      with_reducible rfl
     rotate_left
     ·simp only [aP, i64_w, i32_w]
      rfl
     exact norm_ (by simp only [putAll, aP]) (hCont (v327, v330) _ ⟨hHeld, (by (with_reducible repeat (first | apply Kd.S_alloc | apply Kd.S_drewN | apply Kd.S_drew)); exact Kd.S_mono HO328.out (fun _ hk => hk.2)), (Rz HO331.out), (Kz BK325.out), (Bq)⟩)
   rintro ⟨v327, v330⟩ w10 ⟨hS_, h0_, h1_, h2_, h3_⟩; (try dsimp -simprocs only at h0_ h1_ h2_ h3_); have n0_ := am h0_; have n1_ := am h1_; have n2_ := am h2_; have n3_ : Aside0 (Below w.heap.size w w10) := ⟨h3_⟩; clear BK325 HB; clear h0_ h1_ h2_ h3_; revert n0_ n1_ n2_ n3_; intro HO328 HO331 BK325 HB; have hHeld : w10.cell? ⟨gb325, 0, none⟩ = some (.slice A0 l0.length c0) := hS_; refine norm_ (a' := ?_) ?_ ?_
   rotate_left
   ·simp only [putAll, aP]
    rfl
   refine pure_ (i := 5) (N := some 4) (v := ?_) (a' := ?_) (bA 6 63) rfl rfl (by kernel_rfl) (fun _ _ _ h => h) (Or.inl ⟨by rfl, ?_⟩) ?_ ?_
   rotate_left
   ·intro w'
    go_simp
    with_reducible rfl
   rotate_left
   ·simp only [aP, i64_w, i32_w]
    rfl
   refine done_ (by kernel_rfl) ?_; obtain ⟨Ao11, co11, eo11⟩ := Kd.R_slice HO331.out; subst eo11
   try go_wp2
   go_loopg [18] k (fun kq v18 w' => ∃ (x4_1 : List Int) (x18_1 : Int), v18 = .int .i64 x18_1 ∧ Aside0 (impl_groups.l0 kq y326 x4_1 (y329.length : Int) x18_1 l0 = some r) ∧ Aside0 (kq ≤ k) ∧ Aside0 (Kd.S (Kd.slice 3 (Kd.int .i64)) 31 w' w.heap.size (fun k_ => some k_ ≠ ((.slice Ao11 y329.length co11) : Value).ownBlock) v327 y326) ∧ Aside0 (Kd.R (Kd.int .i64) 3 w' w.heap.size (fun _ => True) (.slice Ao11 y329.length co11) x4_1) ∧ Aside0 (w'.heap[gb325]? = some (.cells #[(.slice A0 l0.length c0)] 27 (0, 0))) ∧ Aside0 (Below w.heap.size w w'))
   case atStart => exact ⟨(y329), (0), wZ, H', ⟨Nat.le_refl _⟩, ⟨by (with_reducible repeat (first | apply Kd.S_alloc | apply Kd.S_drewN | apply Kd.S_drew)); exact HO328.out⟩, ⟨Rz HO331.out⟩, ⟨Kz BK325.out⟩, ⟨Bq⟩⟩
   case round =>
    clear H'
    try clear c2
    try clear c2b0
    try clear c2b1
    try clear p2
    try clear c3
    try clear c3b0
    try clear c3b1
    try clear c6
    obtain ⟨x4_1, x18_1, rfl, HA, HK1, HO_3, HO_4, BK325, HB⟩ := hrel; have hl4_1 := (Kd.R_reads' HO_4.out).1; rw [hl4_1] at HO_4
    (try simp only [hl4_1])
    (try simp only [hl4_1] at BK325)
    (try simp only [hl4_1] at HO_3)
    cases gk with
    | zero => exact absurd HA.out (by simp [impl_groups.l0])
    | succ k1 =>
     have H := HA.out; clear HA
     simp only [impl_groups.l0] at H
     by_cases c12 : x18_1 < (y329.length : Int)
     ·rw [if_pos c12] at H
      have c12b0 : decide (x18_1 < (y329.length : Int)) = true := decide_eq_true c12; (try simp only [hl4_1] at c12b0); clear c12
      by_cases c13 : 0 ≤ x18_1
      ·rw [if_pos c13] at H
       have c13b0 : decide (0 ≤ x18_1) = true := decide_eq_true c13; clear c13
       by_cases c14 : x18_1 < (x4_1.length : Int)
       ·rw [if_pos c14] at H
        have c14b0 : decide (x18_1 < (x4_1.length : Int)) = true := decide_eq_true c14; (try simp only [hl4_1] at c14b0); clear c14; obtain ⟨y332, hy332⟩ : ∃ y_ : List Int, y_ = (x4_1.set (x18_1 : Int).toNat (-1)) := ⟨_, rfl⟩
        replace H : (impl_groups.l0 k1 y326 y332 (y329.length : Int) (wrap64 (x18_1 + 1)) l0) = some r := by first | (rw [hy332]; with_reducible exact H) | (have H2_ := (Option.bind_some _ _).symm.trans H; rw [hy332]; with_reducible exact H2_) | (have H2_ := (Option.bind_some _ _).symm.trans H; with_reducible exact H2_) | with_reducible exact H | (rw [hy332]; exact H) | exact H
        have Ny332 := am hy332; clear hy332; have H' := am H; clear H; have p15 : 0 ≤ (x18_1 : Int) := dT; have q15 : (x18_1 : Int) < ((x4_1.length : Int) : Int) := dT; obtain ⟨go15, co15, eo15, gb15, gl15, cl15, HG15⟩ := Kd.R_form HO_4.out (by omega)
        (first | cases eo15 | (injection eo15 with ea_ en_ ec_; (first | subst ea_ | (injection ea_ with ea_; subst ea_)); subst ec_; clear en_))
        have GB15 := am gb15; have GG15 := am HG15; clear gb15 gl15 HG15; obtain ⟨hx15_0, hf15_0⟩ := Kd.R_celln 0 HO_4.out (x18_1 : Int) p15 q15; replace p15 := eq_true p15; replace q15 := eq_true q15; have HP16 := Kd.R_putg HO_4.out (x18_1 : Int) (-1)
        go_wp2_with (first | ((with_reducible refine gate_store (t := 3) (p := 23) rfl ?_); refine store_event (t := 3) (p := 23) (v := ?vo_w17) (w1 := (wr.setCell ⟨go15, (x18_1 : Int).toNat, none⟩ (.int .i64 (-1)))) ?hg ?ho ?hn ?hr ?_; (case ho => rfl); (case hg => rfl); (case hn => rfl); (case hr => first | (go_simp; done) | (go_simp; rfl)); intro w17 hw; have hg : wr.grownBy w17 (some go15) := (by rw [hw]; exact HP16.2); have hp_ : Kd.R (Kd.int .i64) 3 w17 w.heap.size (fun _ => True) (.slice (some ⟨go15, 0, none⟩) x4_1.length co11) y332 := (by rw [hw, Ny332.out]; exact HP16.1); clear HP16; have n0_ := am (Kd.S_after (v := (.slice (some ⟨go15, 0, none⟩) x4_1.length co11)) (v1 := (.slice (some ⟨go15, 0, none⟩) x4_1.length co11)) (ok := (fun _ => True)) (by (with_reducible repeat (first | apply Kd.S_alloc | apply Kd.S_drewN | apply Kd.S_drew)); exact Kd.S_mono HO_3.out (fun _ hk => ⟨trivial, hk⟩)) hg (.inl rfl)); have n1_ := am (hp_); have n2_ := am (blk_grown (g := gb325) (o := .cells #[.slice A0 l0.length c0] 27 (0, 0)) (Kz BK325.out) hg (Kd.R_ne HO_4.out BK325.out (by decide))); have n3_ := am ((by rw [hw]; exact below_set (HB.out) GB15.out : Below w.heap.size w w17)); clear HO_3 HO_4 BK325 HB; revert n0_ n1_ n2_ n3_; intro HO_3 HO_4 BK325 HB; clear hg hw hp_))
        (try simp only [← hl4_1])
        go_roundg k1
        case measure => have := HK1.out; omega
        case rel => exact ⟨(y332), (wrap64 (x18_1 + 1)), wZ, H', ⟨by have := HK1.out; omega⟩, ⟨by (try simp only [hl4_1]); (with_reducible repeat (first | apply Kd.S_alloc | apply Kd.S_drewN | apply Kd.S_drew)); exact Kd.S_mono HO_3.out (fun _ hk => hk.2)⟩, ⟨by (try simp only [hl4_1]); (with_reducible repeat (first | apply Kd.R_alloc | apply Kd.R_drewN | apply Kd.R_drew)); exact HO_4.out⟩, ⟨by (try simp only [hl4_1]); (with_reducible repeat (first | refine blk_drewN ?_ _ | refine blk_drew ?_ | refine blk_alloc ?_ _)); exact BK325.out⟩, ⟨Bq⟩⟩
       ·rw [if_neg c14] at H
        exact absurd H (by simp)
      ·rw [if_neg c13] at H
       exact absurd H (by simp)
     ·rw [if_neg c12] at H
      have c12b0 : decide (x18_1 < (y329.length : Int)) = false := decide_eq_false c12; (try simp only [hl4_1] at c12b0); clear c12; have H' := am H; clear H; obtain ⟨hcz18_0, hfz18_0⟩ := cf1 (w := wr) BK325
      go_wp2
      go_loopg [3, 27] k1 (fun kq v3 v27 w' => ∃ (x3_2 : List (List Int)) (x4_2 : List Int) (x27_2 : Int), v27 = .int .i64 x27_2 ∧ Aside0 (impl_groups.l1 kq x3_2 x4_2 (l0.length : Int) x27_2 l0 = some r) ∧ Aside0 (kq ≤ k1) ∧ Aside0 (Kd.S (Kd.slice 3 (Kd.int .i64)) 31 w' w.heap.size (fun k_ => some k_ ≠ ((.slice Ao11 x4_1.length co11) : Value).ownBlock) v3 x3_2) ∧ Aside0 (Kd.R (Kd.int .i64) 3 w' w.heap.size (fun _ => True) (.slice Ao11 x4_1.length co11) x4_2) ∧ Aside0 (w'.heap[gb325]? = some (.cells #[(.slice A0 l0.length c0)] 27 (0, 0))) ∧ Aside0 (Below w.heap.size w w'))
      case atStart => exact ⟨(y326), (x4_1), (0), wZ, H', ⟨Nat.le_refl _⟩, ⟨by (try simp only [hl4_1]); (with_reducible repeat (first | apply Kd.S_alloc | apply Kd.S_drewN | apply Kd.S_drew)); exact HO_3.out⟩, ⟨by (try simp only [hl4_1]); (with_reducible repeat (first | apply Kd.R_alloc | apply Kd.R_drewN | apply Kd.R_drew)); exact HO_4.out⟩, ⟨by (try simp only [hl4_1]); (with_reducible repeat (first | refine blk_drewN ?_ _ | refine blk_drew ?_ | refine blk_alloc ?_ _)); exact BK325.out⟩, ⟨Bq⟩⟩
      case round =>
       clear H'
       try clear c1
       try clear p1
       try clear q1
       try clear hx1
       try clear hf1
       try clear c2
       try clear c2b0
       try clear c2b1
       try clear p2
       try clear c3
       try clear c3b0
       try clear c3b1
       try clear c6
       try clear p6
       try clear c12
       try clear c12b0
       try clear c13
       try clear c13b0
       try clear c14
       try clear c14b0
       try clear p15
       try clear q15
       try clear hx15
       try clear hf15
       try clear hcz18_0
       try clear hfz18_0
       try clear hx15_0
       try clear p15
       try clear p2
       try clear q15
       obtain ⟨x3_2, x4_2, x27_2, rfl, HA, HK2, HO_3, HO_4, BK325, HB⟩ := hrel; have hl4_2 := (Kd.R_reads' HO_4.out).1; rw [hl4_2] at HO_4
       (try simp only [hl4_2])
       (try simp only [hl4_2] at BK325)
       (try simp only [hl4_2] at HO_3)
       cases gk with
       | zero => exact absurd HA.out (by simp [impl_groups.l1])
       | succ k2 =>
        have H := HA.out; clear HA
        simp only [impl_groups.l1] at H
        by_cases c19 : x27_2 < (l0.length : Int)
        ·rw [if_pos c19] at H
         have c19b0 : decide (x27_2 < (l0.length : Int)) = true := decide_eq_true c19; (try simp only [hl4_1, hl4_2] at c19b0); clear c19
         by_cases c20 : 0 ≤ x27_2
         ·rw [if_pos c20] at H
          have c20b0 : decide (0 ≤ x27_2) = true := decide_eq_true c20; clear c20
          by_cases c21 : x27_2 < (x4_2.length : Int)
          ·rw [if_pos c21] at H
           have c21b0 : decide (x27_2 < (x4_2.length : Int)) = true := decide_eq_true c21; (try simp only [hl4_1, hl4_2] at c21b0); clear c21
           by_cases c22 : (rd x4_2 x27_2) ≥ 0
           ·rw [if_pos c22] at H
            have c22b0 : decide (0 ≤ (rd x4_2 x27_2)) = true := decide_eq_true c22; clear c22; have H' := am H; clear H; obtain ⟨ad333, e333, hx333_0⟩ := Kd.at_int (Kd.R_reads' HO_4.out).2.2 x27_2 dT dT; cases e333; have p333 := eT (0 ≤ (x27_2 : Int)); have q333 := eT (x27_2 < (x4_2.length : Int))
            go_wp2
            (try simp only [← hl4_2])
            go_roundg k2
            case measure => have := HK1.out; have := HK2.out; omega
            case rel => exact ⟨(x3_2), (x4_2), (wrap64 (x27_2 + 1)), wZ, H', ⟨by have := HK1.out; have := HK2.out; omega⟩, ⟨by (try simp only [hl4_1]); (try simp only [hl4_2]); (with_reducible repeat (first | apply Kd.S_alloc | apply Kd.S_drewN | apply Kd.S_drew)); exact HO_3.out⟩, ⟨by (try simp only [hl4_1]); (try simp only [hl4_2]); (with_reducible repeat (first | apply Kd.R_alloc | apply Kd.R_drewN | apply Kd.R_drew)); exact HO_4.out⟩, ⟨by (try simp only [hl4_1]); (try simp only [hl4_2]); (with_reducible repeat (first | refine blk_drewN ?_ _ | refine blk_drew ?_ | refine blk_alloc ?_ _)); exact BK325.out⟩, ⟨Bq⟩⟩
           ·rw [if_neg c22] at H
            have c22b0 : decide (0 ≤ (rd x4_2 x27_2)) = false := decide_eq_false c22; clear c22; obtain ⟨y334, hy334⟩ : ∃ y_ : List Int, y_ = (x4_2.set (x27_2 : Int).toNat (x3_2.length : Int)) := ⟨_, rfl⟩
            replace H : (impl_groups.l2 k2 x3_2 y334 (x3_2.length : Int) (l0.length : Int) x27_2 l0 (([x27_2] : List Int))) = some r := by first | (rw [hy334]; with_reducible exact H) | (have H2_ := (Option.bind_some _ _).symm.trans H; rw [hy334]; with_reducible exact H2_) | (have H2_ := (Option.bind_some _ _).symm.trans H; with_reducible exact H2_) | with_reducible exact H | (rw [hy334]; exact H) | exact H
            have Ny334 := am hy334; clear hy334; obtain ⟨y335, hy335⟩ : ∃ y_ : List Int, y_ = (([x27_2] : List Int)) := ⟨_, rfl⟩
            replace H : (impl_groups.l2 k2 x3_2 y334 (x3_2.length : Int) (l0.length : Int) x27_2 l0 y335) = some r := by first | (rw [hy335]; with_reducible exact H) | (have H2_ := (Option.bind_some _ _).symm.trans H; rw [hy335]; with_reducible exact H2_) | (have H2_ := (Option.bind_some _ _).symm.trans H; with_reducible exact H2_) | with_reducible exact H | (rw [hy335]; exact H) | exact H
            have Ny335 := am hy335; clear hy335; have H' := am H; clear H; obtain ⟨ad333, e333, hx333_0⟩ := Kd.at_int (Kd.R_reads' HO_4.out).2.2 x27_2 dT dT; cases e333; have p333 := eT (0 ≤ (x27_2 : Int)); have q333 := eT (x27_2 < (x4_2.length : Int)); obtain ⟨Ao24, co24, eo24⟩ := Kd.S_slice HO_3.out; subst eo24; have p23 : 0 ≤ (x27_2 : Int) := dT; have q23 : (x27_2 : Int) < ((x4_2.length : Int) : Int) := dT; obtain ⟨go23, co23, eo23, gb23, gl23, cl23, HG23⟩ := Kd.R_form HO_4.out (by omega)
            (first | cases eo23 | (injection eo23 with ea_ en_ ec_; (first | subst ea_ | (injection ea_ with ea_; subst ea_)); subst ec_; clear en_))
            have GB23 := am gb23; have GG23 := am HG23; clear gb23 gl23 HG23
            (first | simp only [add_plain] at hx333_0 | skip)
            obtain ⟨hx23_0, hf23_0⟩ := Kd.R_celln 0 HO_4.out (x27_2 : Int) p23 q23; replace p23 := eq_true p23; replace q23 := eq_true q23; have HP25 := Kd.R_putg HO_4.out (x27_2 : Int) (x3_2.length : Int)
            go_wp2_with (first | ((with_reducible refine gate_store (t := 3) (p := 40) rfl ?_); refine store_event (t := 3) (p := 40) (v := ?vo_w26) (w1 := (wr.setCell ⟨go23, (x27_2 : Int).toNat, none⟩ (.int .i64 (x3_2.length : Int)))) ?hg ?ho ?hn ?hr ?_; (case ho => rfl); (case hg => rfl); (case hn => rfl); (case hr => first | (go_simp; done) | (go_simp; rfl)); intro w26 hw; have hg : wr.grownBy w26 (some go23) := (by rw [hw]; exact HP25.2); have hp_ : Kd.R (Kd.int .i64) 3 w26 w.heap.size (fun _ => True) (.slice (some ⟨go23, 0, none⟩) x4_2.length co11) y334 := (by rw [hw, Ny334.out]; exact HP25.1); clear HP25; have n0_ := am (Kd.S_after (v := (.slice (some ⟨go23, 0, none⟩) x4_2.length co11)) (v1 := (.slice (some ⟨go23, 0, none⟩) x4_2.length co11)) (ok := (fun _ => True)) (by (with_reducible repeat (first | apply Kd.S_alloc | apply Kd.S_drewN | apply Kd.S_drew)); exact Kd.S_mono HO_3.out (fun _ hk => ⟨trivial, hk⟩)) hg (.inl rfl)); have n1_ := am (hp_); have n2_ := am (blk_grown (g := gb325) (o := .cells #[.slice A0 l0.length c0] 27 (0, 0)) (Kz BK325.out) hg (Kd.R_ne HO_4.out BK325.out (by decide))); have n3_ := am ((by rw [hw]; exact below_set (HB.out) GB23.out : Below w.heap.size w w26)); clear HO_3 HO_4 BK325 HB; revert n0_ n1_ n2_ n3_; intro HO_3 HO_4 BK325 HB; clear hg hw hp_) | ((with_reducible refine gate_dst (N := 42) rfl ?_); refine Kd.R_lit (Kd.int .i64) _ 3 ?hg (N := 42) ?hd (xs := ([x27_2] : List Int)) (inner := [.int .i64 x27_2]) (ok := fun _ => True) (okp := fun _ => True) ?hr ?hp (fun _ hk => hk) trivial (Below.refl _ _) (Nat.le_refl _) (by simp) ?_; (case hd => rfl); (case hg => rfl); (case hr => first | (go_simp; done) | (go_simp; rfl)); (case hp => exact (Reps.one (show Kd.M (Kd.int .i64) _ _ _ x27_2 [.int .i64 x27_2] from rfl) (Reps.none _ _))); intro v336 w27 ho28 hb hg_ hnew_; clear hg_ hnew_; (first | rw [← Ny335.out] at ho28 | (simp only [Int.reduceToNat] at ho28; rw [← Ny335.out] at ho28)); have n0_ := am (Kd.S_elder' (by (with_reducible repeat (first | apply Kd.S_alloc | apply Kd.S_drewN | apply Kd.S_drew)); exact HO_3.out) (Kd.R_base ho28) hb); have n1_ := Re HO_4 (Kd.R_base ho28) hb; have n2_ := Rm (Kd.R_new' ho28 (Kd.R_lt (Rz HO_4.out))) HB; have n3_ := Kb BK325 hb; have n4_ := Bc HB hb; clear HO_3 HO_4 BK325 HB; revert n0_ n1_ n2_ n3_ n4_; intro HO_3 HO_4 HO337 BK325 HB; clear hb ho28) | ((with_reducible refine gate_dst (N := 8) rfl ?_); refine bE 8 #[.slice none 0 0] 31 ?_; intro gb338 hg w29 hbox hb; have n0_ := am (Kd.S_below (Kd.S_elderB (by (with_reducible repeat (first | apply Kd.S_alloc | apply Kd.S_drewN | apply Kd.S_drew)); exact HO_3.out) gb338 (Nat.le_of_eq hg.symm)) hb); have n1_ := Rb HO_4 hb; have n2_ := Rb HO337 hb; have n3_ := Kb BK325 hb; have n4_ := Bc HB hb; have n5_ := am (hbox); have n6_ := Gm HB hg; have n7_ := Gm HB hg; have n8_ := Nl BK325 hg; have n9_ := Ng BK325 hg; clear HO_3 HO_4 HO337 BK325 HB; revert n0_ n1_ n2_ n3_ n4_ n5_ n6_ n7_ n8_ n9_; intro HO_3 HO_4 HO337 BK325 HB BK338 GW338 GE338 NB325_338 NB338_325; clear hb hbox hg; obtain ⟨Ao30, co30, eo30⟩ := Kd.R_slice HO337.out; subst eo30; have hnb31 := NB338_325.out; have hnc31 := NB325_338.out; obtain ⟨hcz32_0, hfz32_0⟩ := cf1 (w := w29) BK338))
            (try simp only [aP])
            go_loopg [8] k2 (fun kq v8 w' => ∃ (x4_3 : List Int) (x339000_3 : List Int) (u339000 : Value) (gb338 : Nat), v8 = .pointer (some ⟨gb338, 0, none⟩) ∧ Aside0 (impl_groups.l2 kq x3_2 x4_3 (x3_2.length : Int) (l0.length : Int) x27_2 l0 x339000_3 = some r) ∧ Aside0 (kq ≤ k2) ∧ Aside0 (Kd.S (Kd.slice 3 (Kd.int .i64)) 31 w' w.heap.size (fun k_ => some k_ ≠ ((.slice (some ⟨go23, 0, none⟩) x4_2.length co11) : Value).ownBlock ∧ some k_ ≠ (u339000 : Value).ownBlock ∧ k_ ≠ gb338) (.slice Ao24 x3_2.length co24) x3_2) ∧ Aside0 (Kd.R (Kd.int .i64) 3 w' w.heap.size (fun k_ => some k_ ≠ (u339000 : Value).ownBlock) (.slice (some ⟨go23, 0, none⟩) x4_2.length co11) x4_3) ∧ Aside0 (Kd.Q (Kd.int .i64) 3 w' w.heap.size (fun k_ => some k_ ≠ ((.slice (some ⟨go23, 0, none⟩) x4_2.length co11) : Value).ownBlock) u339000 x339000_3) ∧ Aside0 (w'.heap[gb325]? = some (.cells #[(.slice A0 l0.length c0)] 27 (0, 0))) ∧ Aside0 (w'.heap[gb338]? = some (.cells #[u339000] 31 (0, 0))) ∧ Aside0 (Below w.heap.size w w') ∧ Aside0 (w.heap.size ≤ gb338) ∧ Aside0 (gb325 ≠ gb338))
            case atStart => exact ⟨(y334), (y335), (.slice Ao30 y335.length co30), gb338, wZ, H', ⟨Nat.le_refl _⟩, ⟨by (try simp only [hl4_1]); (try simp only [hl4_2]); (with_reducible repeat (first | apply Kd.S_alloc | apply Kd.S_drewN | apply Kd.S_drew)); exact Kd.S_mono (Kd.S_far (p := ⟨gb338, 0, none⟩) (Kd.S_mono HO_3.out (fun k_ hk => (⟨hk, hk.2⟩ : _ ∧ k_ ≠ gb338))) (fun _ hk => hk.2) (.slice Ao30 y335.length co30)) (fun _ hk => ⟨hk.1.1.1.2, ⟨hk.1.1.2, hk.1.2⟩⟩)⟩, ⟨by (try simp only [hl4_1]); (try simp only [hl4_2]); (with_reducible repeat (first | apply Kd.R_alloc | apply Kd.R_drewN | apply Kd.R_drew)); exact Kd.R_mono (Kd.R_far (p := ⟨gb338, 0, none⟩) (Kd.R_types HO_4.out BK338.out (by decide)) (fun _ hk => hk.2) (.slice Ao30 y335.length co30)) (fun _ hk => hk.1.2)⟩, ⟨Kd.Q_of_R (by (try simp only [hl4_1]); (try simp only [hl4_2]); (with_reducible repeat (first | apply Kd.R_alloc | apply Kd.R_drewN | apply Kd.R_drew)); exact Kd.R_mono (Kd.R_far (p := ⟨gb338, 0, none⟩) (Kd.R_types HO337.out BK338.out (by decide)) (fun _ hk => hk.2) (.slice Ao30 y335.length co30)) (fun _ hk => hk.1.2))⟩, ⟨by (try simp only [hl4_1]); (try simp only [hl4_2]); (with_reducible repeat (first | refine blk_drewN ?_ _ | refine blk_drew ?_ | refine blk_alloc ?_ _)); refine blk_far ?_ NB325_338.out _; (with_reducible repeat (first | refine blk_drewN ?_ _ | refine blk_drew ?_ | refine blk_alloc ?_ _)); exact BK325.out⟩, ⟨by (try simp only [hl4_1]); (try simp only [hl4_2]); (with_reducible repeat (first | refine blk_drewN ?_ _ | refine blk_drew ?_ | refine blk_alloc ?_ _)); refine blk_put (cs := #[.slice none 0 0]) ?_ 0 _ rfl; (with_reducible repeat (first | refine blk_drewN ?_ _ | refine blk_drew ?_ | refine blk_alloc ?_ _)); exact BK338.out⟩, ⟨Bq⟩, GE338, NB325_338⟩
            case round =>
             clear H'
             try clear c1
             try clear p1
             try clear q1
             try clear hx1
             try clear hf1
             try clear c2
             try clear c2b0
             try clear c2b1
             try clear p2
             try clear q2
             try clear hx2
             try clear hf2
             try clear c3
             try clear c3b0
             try clear c3b1
             try clear p3
             try clear q3
             try clear hx3
             try clear c6
             try clear p6
             try clear c12
             try clear c12b0
             try clear c13
             try clear c13b0
             try clear c14
             try clear c14b0
             try clear p15
             try clear q15
             try clear hx15
             try clear hf15
             try clear c19
             try clear c19b0
             try clear c20
             try clear c20b0
             try clear c21
             try clear c21b0
             try clear c22
             try clear c22b0
             try clear p23
             try clear q23
             try clear hx23
             try clear hf23
             try clear c31
             try clear hcz18_0
             try clear hcz32_0
             try clear hfz18_0
             try clear hfz32_0
             try clear hx15_0
             try clear hx23_0
             try clear hx333_0
             try clear p1
             try clear p15
             try clear p2
             try clear p23
             try clear p333
             try clear p6
             try clear q1
             try clear q15
             try clear q23
             try clear q333
             obtain ⟨x4_3, x339000_3, u339000, gb338, rfl, HA, HK3, HO_3, HO_4, HO_339000, BK325, BK338, HB, GE338, NB325_338⟩ := hrel; have NB338_325 := am (Ne.symm NB325_338.out); have hl4_3 := (Kd.R_reads' HO_4.out).1; rw [hl4_3] at HO_4
             (try simp only [hl4_3])
             (try simp only [hl4_3] at BK325)
             (try simp only [hl4_3] at BK338)
             (try simp only [hl4_3] at HO_3)
             (try simp only [hl4_3] at HO_339000)
             cases gk with
             | zero => exact absurd HA.out (by simp [impl_groups.l2])
             | succ k3 =>
              have H := HA.out; clear HA
              simp only [impl_groups.l2] at H
              by_cases c33 : (x339000_3.length : Int) > 0
              ·rw [if_pos c33] at H
               have c33b0 : decide (0 < (x339000_3.length : Int)) = true := decide_eq_true c33; (try simp only [hl4_1, hl4_2, hl4_3] at c33b0); have c33b1 : decide (0 < x339000_3.length) = true := decide_eq_true (by omega); clear c33; have H' := am H; clear H; have hnb34 := NB338_325.out; have hnc34 := NB325_338.out; obtain ⟨hcz35_0, hfz35_0⟩ := cf1 (w := wr) BK338; obtain ⟨Ao36, co36, eo36, _⟩ := Kd.Q_slice HO_339000.out; subst eo36; obtain ⟨hcz37_0, hfz37_0⟩ := cf1 (w := wr) BK325
               go_wp2
               go_loopg [50] k3 (fun kq v50 w' => ∃ (x4_4 : List Int) (x50_4 : Int) (x339000_4 : List Int) (u339000 : Value), v50 = .int .i64 x50_4 ∧ Aside0 (impl_groups.l3 kq x3_2 x4_4 (x3_2.length : Int) (l0.length : Int) x27_2 (l0.length : Int) x50_4 l0 x339000_4 = some r) ∧ Aside0 (kq ≤ k3) ∧ Aside0 (Kd.S (Kd.slice 3 (Kd.int .i64)) 31 w' w.heap.size (fun k_ => some k_ ≠ ((.slice (some ⟨go23, 0, none⟩) x4_3.length co11) : Value).ownBlock ∧ some k_ ≠ (u339000 : Value).ownBlock ∧ k_ ≠ gb338) (.slice Ao24 x3_2.length co24) x3_2) ∧ Aside0 (Kd.R (Kd.int .i64) 3 w' w.heap.size (fun k_ => some k_ ≠ (u339000 : Value).ownBlock) (.slice (some ⟨go23, 0, none⟩) x4_3.length co11) x4_4) ∧ Aside0 (Kd.Q (Kd.int .i64) 3 w' w.heap.size (fun k_ => some k_ ≠ ((.slice (some ⟨go23, 0, none⟩) x4_3.length co11) : Value).ownBlock) u339000 x339000_4) ∧ Aside0 (w'.heap[gb325]? = some (.cells #[(.slice A0 l0.length c0)] 27 (0, 0))) ∧ Aside0 (w'.heap[gb338]? = some (.cells #[u339000] 31 (0, 0))) ∧ Aside0 (Below w.heap.size w w'))
               case atStart => exact ⟨(x4_3), (0), (x339000_3), (.slice Ao36 x339000_3.length co36), wZ, H', ⟨Nat.le_refl _⟩, ⟨by (try simp only [hl4_1]); (try simp only [hl4_2]); (try simp only [hl4_3]); (with_reducible repeat (first | apply Kd.S_alloc | apply Kd.S_drewN | apply Kd.S_drew)); exact HO_3.out⟩, ⟨by (try simp only [hl4_1]); (try simp only [hl4_2]); (try simp only [hl4_3]); (with_reducible repeat (first | apply Kd.R_alloc | apply Kd.R_drewN | apply Kd.R_drew)); exact HO_4.out⟩, ⟨by (try simp only [hl4_1]); (try simp only [hl4_2]); (try simp only [hl4_3]); (with_reducible repeat (first | apply Kd.Q_alloc | apply Kd.Q_drewN | apply Kd.Q_drew)); exact HO_339000.out⟩, ⟨by (try simp only [hl4_1]); (try simp only [hl4_2]); (try simp only [hl4_3]); (with_reducible repeat (first | refine blk_drewN ?_ _ | refine blk_drew ?_ | refine blk_alloc ?_ _)); exact BK325.out⟩, ⟨by (try simp only [hl4_1]); (try simp only [hl4_2]); (try simp only [hl4_3]); (with_reducible repeat (first | refine blk_drewN ?_ _ | refine blk_drew ?_ | refine blk_alloc ?_ _)); exact BK338.out⟩, ⟨Bq⟩⟩
               case round =>
                clear H'
                try clear c1
                try clear p1
                try clear q1
                try clear hx1
                try clear hf1
                try clear c2
                try clear c2b0
                try clear c2b1
                try clear p2
                try clear q2
                try clear hx2
                try clear hf2
                try clear c3
                try clear c3b0
                try clear c3b1
                try clear p3
                try clear q3
                try clear hx3
                try clear c6
                try clear p6
                try clear c12
                try clear c12b0
                try clear c13
                try clear c13b0
                try clear c14
                try clear c14b0
                try clear p15
                try clear q15
                try clear hx15
                try clear hf15
                try clear c19
                try clear c19b0
                try clear c20
                try clear c20b0
                try clear c21
                try clear c21b0
                try clear c22
                try clear c22b0
                try clear p23
                try clear q23
                try clear hx23
                try clear hf23
                try clear c31
                try clear c33
                try clear c33b0
                try clear c33b1
                try clear p33
                try clear q33
                try clear hx33
                try clear c34
                try clear hcz18_0
                try clear hcz32_0
                try clear hcz35_0
                try clear hcz37_0
                try clear hfz18_0
                try clear hfz32_0
                try clear hfz35_0
                try clear hfz37_0
                try clear hx15_0
                try clear hx23_0
                try clear hx333_0
                try clear p1
                try clear p15
                try clear p2
                try clear p23
                try clear p3
                try clear p333
                try clear p6
                try clear q1
                try clear q15
                try clear q2
                try clear q23
                try clear q3
                try clear q333
                obtain ⟨x4_4, x50_4, x339000_4, u339000, rfl, HA, HK4, HO_3, HO_4, HO_339000, BK325, BK338, HB⟩ := hrel; have hl4_4 := (Kd.R_reads' HO_4.out).1; rw [hl4_4] at HO_4
                (try simp only [hl4_4])
                (try simp only [hl4_4] at BK325)
                (try simp only [hl4_4] at BK338)
                (try simp only [hl4_4] at HO_3)
                (try simp only [hl4_4] at HO_339000)
                cases gk with
                | zero => exact absurd HA.out (by simp [impl_groups.l3])
                | succ k4 =>
                 have H := HA.out; clear HA
                 simp only [impl_groups.l3] at H
                 by_cases c38 : x50_4 < (l0.length : Int)
                 ·rw [if_pos c38] at H
                  have c38b0 : decide (x50_4 < (l0.length : Int)) = true := decide_eq_true c38; (try simp only [hl4_1, hl4_2, hl4_3, hl4_4] at c38b0); clear c38
                  by_cases c39 : 0 ≤ x50_4
                  ·rw [if_pos c39] at H
                   have c39b0 : decide (0 ≤ x50_4) = true := decide_eq_true c39; clear c39
                   by_cases c40 : x50_4 < (x4_4.length : Int)
                   ·rw [if_pos c40] at H
                    have c40b0 : decide (x50_4 < (x4_4.length : Int)) = true := decide_eq_true c40; (try simp only [hl4_1, hl4_2, hl4_3, hl4_4] at c40b0); clear c40
                    by_cases c41 : (rd x4_4 x50_4) < 0
                    ·rw [if_pos c41] at H
                     have c41b0 : decide ((rd x4_4 x50_4) < 0) = true := decide_eq_true c41; clear c41
                     by_cases c42 : x50_4 < (l0.length : Int)
                     ·rw [if_pos c42] at H
                      have c42b0 : decide (x50_4 < (l0.length : Int)) = true := decide_eq_true c42; (try simp only [hl4_1, hl4_2, hl4_3, hl4_4] at c42b0); clear c42; replace H := Option.bind_eq_some_iff.mp H; obtain ⟨t344, A430, H⟩ := H; (try dsimp -simprocs only at H); have A43 := am A430; clear A430
                      by_cases c44 : t344 = true
                      ·subst c44
                       rw [if_pos rfl] at H; obtain ⟨y345, hy345⟩ : ∃ y_ : List Int, y_ = (x4_4.set (x50_4 : Int).toNat (x3_2.length : Int)) := ⟨_, rfl⟩
                       replace H : (if x339000_4.length < 17592186044416 then (impl_groups.l3 k4 x3_2 y345 (x3_2.length : Int) (l0.length : Int) x27_2 (l0.length : Int) (wrap64 (x50_4 + 1)) l0 (x339000_4 ++ [x50_4])) else (none)) = some r := by first | (rw [hy345]; with_reducible exact H) | (have H2_ := (Option.bind_some _ _).symm.trans H; rw [hy345]; with_reducible exact H2_) | (have H2_ := (Option.bind_some _ _).symm.trans H; with_reducible exact H2_) | with_reducible exact H | (rw [hy345]; exact H) | exact H
                       have Ny345 := am hy345; clear hy345
                       by_cases c46 : x339000_4.length < 17592186044416
                       ·rw [if_pos c46] at H
                        have LMc46 := am c46; clear c46; obtain ⟨y346, hy346⟩ : ∃ y_ : List Int, y_ = (x339000_4 ++ [x50_4]) := ⟨_, rfl⟩
                        replace H : (impl_groups.l3 k4 x3_2 y345 (x3_2.length : Int) (l0.length : Int) x27_2 (l0.length : Int) (wrap64 (x50_4 + 1)) l0 y346) = some r := by first | (rw [hy346]; with_reducible exact H) | (have H2_ := (Option.bind_some _ _).symm.trans H; rw [hy346]; with_reducible exact H2_) | (have H2_ := (Option.bind_some _ _).symm.trans H; with_reducible exact H2_) | with_reducible exact H | (rw [hy346]; exact H) | exact H
                        have Ny346 := am hy346; clear hy346; have H' := am H; clear H; have p342 : 0 ≤ (x50_4 : Int) := dT; have q342 : x50_4 < (x4_4.length : Int) := dT; obtain ⟨ad342, e342, hx342_0⟩ := Kd.at_int (Kd.R_reads' HO_4.out).2.2 x50_4 p342 q342; obtain rfl : (⟨go23, 0, none⟩ : Addr) = ad342 := (by injection e342)
                        (first | simp only [add_plain] at hx342_0 | simp only [add_at] at hx342_0 | simp only [Addr.add, Nat.zero_add] at hx342_0 | skip)
                        replace p342 := eq_true p342; replace q342 := eq_true q342; have hnb47 := NB325_338.out; have hnc47 := NB338_325.out; obtain ⟨hcz48_0, hfz48_0⟩ := cf1 (w := wr) BK325; have p343 : 0 ≤ (x50_4 : Int) := dT; have q343 : x50_4 < (l0.length : Int) := dT; obtain ⟨ad343, A343_0, c343_0, e343, hx343_0, hl343_0, hi343_0⟩ := at_L3 HR0.out x50_4 p343 q343; cases e343; replace hx343_0 := (HB.out.cell (World.block_lt_of_cell? w _ hx343_0)).trans hx343_0; have HR343_0 := am hi343_0; have HC343_0 := am hl343_0; clear hi343_0 hl343_0; replace p343 := eq_true p343; replace q343 := eq_true q343; obtain ⟨Ao49, co49, eo49, _⟩ := Kd.Q_slice HO_339000.out; subst eo49
                        go_wp2_with (first | (go_at_call 120; (with_reducible refine (slices_ContainsFunc_int_int_at_impl_groups_1.calls k4 _ _ (rd_L3 l0 x50_4)  gb325 (some ad343) c0 l0 gb338 Ao49 co49 x339000_4 true _ ?side1 ?side2 ?side3 ?side4 ?side5 ?side6 ?side7 ?side8 A43.out).mono ?_); (case side1 => exact Cz (Kd.C_below HR343_0.out HB.out)); (case side2 => exact HC343_0.out); (case side3 => exact Kz BK325.out); (case side4 => exact Cz (Kd.C_below HR0.out HB.out)); (case side5 => exact HC0.out); (case side6 => exact Kz BK338.out); (case side7 => exact Cz ((Kd.Q_reads' HO_339000.out).2.2)); (case side8 => exact (Kd.Q_reads' HO_339000.out).2.1); rintro e w' ⟨rfl, ⟨nd, rfl⟩⟩; (try (rw [drewN_self wr]; generalize hq_ : World.drewN wr _ = wr; have n0_ : Aside0 (Kd.S (Kd.slice 3 (Kd.int .i64)) 31 wr w.heap.size (fun k_ => some k_ ≠ (.slice (some ⟨go23, 0, none⟩) x4_4.length co11 : Value).ownBlock ∧ some k_ ≠ (.slice Ao49 x339000_4.length co49 : Value).ownBlock ∧ k_ ≠ gb338) (.slice Ao24 x3_2.length co24) x3_2) := ⟨by rw [← hq_]; exact (by (with_reducible repeat (first | apply Kd.S_alloc | apply Kd.S_drewN | apply Kd.S_drew)); exact HO_3.out)⟩; have n1_ : Aside0 (Kd.R (Kd.int .i64) 3 wr w.heap.size (fun k_ => some k_ ≠ (.slice Ao49 x339000_4.length co49 : Value).ownBlock) (.slice (some ⟨go23, 0, none⟩) x4_4.length co11) x4_4) := ⟨by rw [← hq_]; exact (Rz HO_4.out)⟩; have n2_ : Aside0 (Kd.Q (Kd.int .i64) 3 wr w.heap.size (fun k_ => some k_ ≠ (.slice (some ⟨go23, 0, none⟩) x4_4.length co11 : Value).ownBlock) (.slice Ao49 x339000_4.length co49) x339000_4) := ⟨by rw [← hq_]; exact (by (with_reducible repeat (first | apply Kd.Q_alloc | apply Kd.Q_drewN | apply Kd.Q_drew)); exact HO_339000.out)⟩; have n3_ : Aside0 (wr.heap[gb325]? = some (.cells #[.slice (some ad343) l0.length c0] 27 (0, 0))) := ⟨by rw [← hq_]; exact (Kz BK325.out)⟩; have n4_ : Aside0 (wr.heap[gb338]? = some (.cells #[.slice Ao49 x339000_4.length co49] 31 (0, 0))) := ⟨by rw [← hq_]; exact (Kz BK338.out)⟩; have n5_ : Aside0 (Below w.heap.size w wr) := ⟨by rw [← hq_]; exact (Bq)⟩; clear HO_3 HO_4 HO_339000 BK325 BK338 HB hq_; revert n0_ n1_ n2_ n3_ n4_ n5_; intro HO_3 HO_4 HO_339000 BK325 BK338 HB)); have p45 : 0 ≤ (x50_4 : Int) := dT; have q45 : (x50_4 : Int) < ((x4_4.length : Int) : Int) := dT; obtain ⟨hx45_0, hf45_0⟩ := Kd.R_celln 0 HO_4.out (x50_4 : Int) p45 q45; replace p45 := eq_true p45; replace q45 := eq_true q45; obtain ⟨hy50_, hz50_⟩ := Kd.R_celln 0 HO_4.out (x50_4 : Int) (dT) (dT); have HP50 := Kd.R_putg HO_4.out (x50_4 : Int) (x3_2.length : Int)) | ((with_reducible refine gate_store (t := 3) (p := 69) rfl ?_); refine store_event (t := 3) (p := 69) (v := ?vo_w51) (w1 := (wr.setCell ⟨go23, (x50_4 : Int).toNat, none⟩ (.int .i64 (x3_2.length : Int)))) ?hg ?ho ?hn ?hr ?_; (case ho => rfl); (case hg => rfl); (case hn => rfl); (case hr => first | (go_simp; done) | (go_simp; rfl)); intro w51 hw; have hg : wr.grownBy w51 (some go23) := (by rw [hw]; exact HP50.2); have hp_ : Kd.R (Kd.int .i64) 3 w51 w.heap.size (fun k_ => some k_ ≠ (.slice Ao49 x339000_4.length co49 : Value).ownBlock) (.slice (some ⟨go23, 0, none⟩) x4_4.length co11) y345 := (by rw [hw, Ny345.out]; exact HP50.1); clear HP50; have n0_ := am (Kd.S_after (v := (.slice (some ⟨go23, 0, none⟩) x4_4.length co11)) (v1 := (.slice (some ⟨go23, 0, none⟩) x4_4.length co11)) (ok := (fun k_ => some k_ ≠ (.slice Ao49 x339000_4.length co49 : Value).ownBlock ∧ k_ ≠ gb338)) (by (with_reducible repeat (first | apply Kd.S_alloc | apply Kd.S_drewN | apply Kd.S_drew)); exact Kd.S_mono HO_3.out (fun _ hk => ⟨⟨hk.2.1, hk.2.2⟩, hk.1⟩)) hg (.inl rfl)); have n1_ := am (hp_); have n2_ := am (Kd.Q_after (v := (.slice (some ⟨go23, 0, none⟩) x4_4.length co11)) (v1 := (.slice (some ⟨go23, 0, none⟩) x4_4.length co11)) (ok := (fun _ => True)) (by (with_reducible repeat (first | apply Kd.Q_alloc | apply Kd.Q_drewN | apply Kd.Q_drew)); exact Kd.Q_mono HO_339000.out (fun _ hk => ⟨trivial, hk⟩)) hg (.inl rfl)); have n3_ := am (blk_grown (g := gb325) (o := .cells #[.slice (some ad343) l0.length c0] 27 (0, 0)) (Kz BK325.out) hg (Kd.R_ne HO_4.out BK325.out (by decide))); have n4_ := am (blk_grown (g := gb338) (o := .cells #[.slice Ao49 x339000_4.length co49] 31 (0, 0)) (Kz BK338.out) hg (Kd.R_ne HO_4.out BK338.out (by decide))); have n5_ := am ((by rw [hw]; exact below_set (HB.out) GB23.out : Below w.heap.size w w51)); clear HO_3 HO_4 HO_339000 BK325 BK338 HB; revert n0_ n1_ n2_ n3_ n4_ n5_; intro HO_3 HO_4 HO_339000 BK325 BK338 HB; clear hg hw hp_; obtain ⟨hcz52_0, hfz52_0⟩ := cf1 (w := w51) BK338) | ((with_reducible refine gate_builtin (b := .append) (xs := #[.tmp 70, .tmp 72]) rfl ?_); at_builtin; refine Kd.Q_append (Kd.int .i64) (w0 := w) w.heap.size rfl (.tmp 70) (.tmp 72) 31 3 (.int .i64 0) 8 rfl Try.underlying31 info3 rfl (by decide) (by omega) (.slice Ao49 x339000_4.length co49) x339000_4 x50_4 [.int .i64 x50_4] (fun k_ => some k_ ≠ (.slice (some ⟨go23, 0, none⟩) x4_4.length co11 : Value).ownBlock) (fun _ => False) rfl rfl ?aP (fun _ hk => hk.elim) ?aF ?aO ?aB ?aS ?aL ?_; (case aP => exact rfl); (case aB => exact (Bq)); (case aF => exact (fun k_ hk => Kd.fresh' (Kd.R_lt (Rz HO_4.out)) k_ hk)); (case aO => exact (by (with_reducible repeat (first | apply Kd.Q_alloc | apply Kd.Q_drewN | apply Kd.Q_drew)); exact Kd.Q_mono HO_339000.out (fun _ hk => hk.2))); (case aS => exact (below_size (w := w) (Bq))); (case aL => have := LMc46.out; omega); intro v347 w53 ho hb hg hat; rw [← Ny346.out] at ho; have n0_ := am (Kd.S_after (ok := (fun k_ => some k_ ≠ (.slice (some ⟨go23, 0, none⟩) x4_4.length co11 : Value).ownBlock ∧ k_ ≠ gb338)) (by (with_reducible repeat (first | apply Kd.S_alloc | apply Kd.S_drewN | apply Kd.S_drew)); exact Kd.S_mono HO_3.out (fun _ hk => ⟨⟨hk.2, hk.1.2⟩, hk.1.1⟩)) hg hat); have n1_ := am (Kd.R_after (ok := (fun _ => True)) (Rz (Kd.R_mono HO_4.out (fun _ hk => ⟨trivial, hk⟩))) hg hat); have n2_ := am (blk_grown (g := gb325) (o := .cells #[.slice (some ad343) l0.length c0] 27 (0, 0)) (Kz BK325.out) hg (Kd.Q_ne HO_339000.out BK325.out (by decide))); have n3_ := am (blk_grown (g := gb338) (o := .cells #[.slice Ao49 x339000_4.length co49] 31 (0, 0)) (Kz BK338.out) hg (Kd.Q_ne HO_339000.out BK338.out (by decide))); have n4_ := am (hb); have n5_ := am (ho); clear HO_3 HO_4 BK325 BK338 HB HO_339000; revert n0_ n1_ n2_ n3_ n4_ n5_; intro HO_3 HO_4 BK325 BK338 HB HO348; clear ho hb hg hat; obtain ⟨Ao54, co54, eo54, _⟩ := Kd.Q_slice HO348.out; subst eo54; obtain ⟨hcz55_0, hfz55_0⟩ := cf1 (w := w53) BK338))
                        (try simp only [← hl4_4])
                        go_roundg k4
                        case measure => have := HK1.out; have := HK2.out; have := HK3.out; have := HK4.out; omega
                        case rel => exact ⟨(y345), (wrap64 (x50_4 + 1)), (y346), (.slice Ao54 y346.length co54), wZ, H', ⟨by have := HK1.out; have := HK2.out; have := HK3.out; have := HK4.out; omega⟩, ⟨by (try simp only [hl4_1]); (try simp only [hl4_2]); (try simp only [hl4_3]); (try simp only [hl4_4]); (with_reducible repeat (first | apply Kd.S_alloc | apply Kd.S_drewN | apply Kd.S_drew)); exact Kd.S_mono (Kd.S_far (p := ⟨gb338, 0, none⟩) (Kd.S_mono HO_3.out (fun k_ hk => (⟨hk, hk.1.2⟩ : _ ∧ k_ ≠ gb338))) (fun _ hk => hk.2) (.slice Ao54 y346.length co54)) (fun _ hk => ⟨hk.1.1.1, ⟨hk.1.2, hk.1.1.2⟩⟩)⟩, ⟨by (try simp only [hl4_1]); (try simp only [hl4_2]); (try simp only [hl4_3]); (try simp only [hl4_4]); (with_reducible repeat (first | apply Kd.R_alloc | apply Kd.R_drewN | apply Kd.R_drew)); exact Kd.R_mono (Kd.R_far (p := ⟨gb338, 0, none⟩) (Kd.R_types HO_4.out BK338.out (by decide)) (fun _ hk => hk.2) (.slice Ao54 y346.length co54)) (fun _ hk => hk.1.2)⟩, ⟨by (try simp only [hl4_1]); (try simp only [hl4_2]); (try simp only [hl4_3]); (try simp only [hl4_4]); (with_reducible repeat (first | apply Kd.Q_alloc | apply Kd.Q_drewN | apply Kd.Q_drew)); exact Kd.Q_mono (Kd.Q_far (p := ⟨gb338, 0, none⟩) (Kd.Q_types HO348.out BK338.out (by decide)) (fun _ hk => hk.2) (.slice Ao54 y346.length co54)) (fun _ hk => hk.1)⟩, ⟨by (try simp only [hl4_1]); (try simp only [hl4_2]); (try simp only [hl4_3]); (try simp only [hl4_4]); (with_reducible repeat (first | refine blk_drewN ?_ _ | refine blk_drew ?_ | refine blk_alloc ?_ _)); refine blk_far ?_ NB325_338.out _; (with_reducible repeat (first | refine blk_drewN ?_ _ | refine blk_drew ?_ | refine blk_alloc ?_ _)); exact BK325.out⟩, ⟨by (try simp only [hl4_1]); (try simp only [hl4_2]); (try simp only [hl4_3]); (try simp only [hl4_4]); (with_reducible repeat (first | refine blk_drewN ?_ _ | refine blk_drew ?_ | refine blk_alloc ?_ _)); refine blk_put (cs := #[.slice Ao49 x339000_4.length co49]) ?_ 0 _ rfl; (with_reducible repeat (first | refine blk_drewN ?_ _ | refine blk_drew ?_ | refine blk_alloc ?_ _)); exact BK338.out⟩, ⟨Bq⟩⟩
                       ·rw [if_neg c46] at H
                        exact absurd H (by simp)
                      ·replace c44 := Bool.eq_false_iff.mpr c44
                       subst c44
                       rw [if_neg (show ¬ (false = true) by decide)] at H; have H' := am H; clear H; have p342 : 0 ≤ (x50_4 : Int) := dT; have q342 : x50_4 < (x4_4.length : Int) := dT; obtain ⟨ad342, e342, hx342_0⟩ := Kd.at_int (Kd.R_reads' HO_4.out).2.2 x50_4 p342 q342; obtain rfl : (⟨go23, 0, none⟩ : Addr) = ad342 := (by injection e342)
                       (first | simp only [add_plain] at hx342_0 | simp only [add_at] at hx342_0 | simp only [Addr.add, Nat.zero_add] at hx342_0 | skip)
                       replace p342 := eq_true p342; replace q342 := eq_true q342; have hnb56 := NB325_338.out; have hnc56 := NB338_325.out; obtain ⟨hcz57_0, hfz57_0⟩ := cf1 (w := wr) BK325; have p343 : 0 ≤ (x50_4 : Int) := dT; have q343 : x50_4 < (l0.length : Int) := dT; obtain ⟨ad343, A343_0, c343_0, e343, hx343_0, hl343_0, hi343_0⟩ := at_L3 HR0.out x50_4 p343 q343; cases e343; replace hx343_0 := (HB.out.cell (World.block_lt_of_cell? w _ hx343_0)).trans hx343_0; have HR343_0 := am hi343_0; have HC343_0 := am hl343_0; clear hi343_0 hl343_0; replace p343 := eq_true p343; replace q343 := eq_true q343; obtain ⟨Ao58, co58, eo58, _⟩ := Kd.Q_slice HO_339000.out; subst eo58
                       go_wp2_with (first | (go_at_call 120; (with_reducible refine (slices_ContainsFunc_int_int_at_impl_groups_1.calls k4 _ _ (rd_L3 l0 x50_4)  gb325 (some ad343) c0 l0 gb338 Ao58 co58 x339000_4 false _ ?side1 ?side2 ?side3 ?side4 ?side5 ?side6 ?side7 ?side8 A43.out).mono ?_); (case side1 => exact Cz (Kd.C_below HR343_0.out HB.out)); (case side2 => exact HC343_0.out); (case side3 => exact Kz BK325.out); (case side4 => exact Cz (Kd.C_below HR0.out HB.out)); (case side5 => exact HC0.out); (case side6 => exact Kz BK338.out); (case side7 => exact Cz ((Kd.Q_reads' HO_339000.out).2.2)); (case side8 => exact (Kd.Q_reads' HO_339000.out).2.1); rintro e w' ⟨rfl, ⟨nd, rfl⟩⟩))
                       (try simp only [← hl4_4])
                       go_roundg k4
                       case measure => have := HK1.out; have := HK2.out; have := HK3.out; have := HK4.out; omega
                       case rel => exact ⟨(x4_4), (wrap64 (x50_4 + 1)), (x339000_4), (.slice Ao58 x339000_4.length co58), wZ, H', ⟨by have := HK1.out; have := HK2.out; have := HK3.out; have := HK4.out; omega⟩, ⟨by (try simp only [hl4_1]); (try simp only [hl4_2]); (try simp only [hl4_3]); (try simp only [hl4_4]); (with_reducible repeat (first | apply Kd.S_alloc | apply Kd.S_drewN | apply Kd.S_drew)); exact HO_3.out⟩, ⟨by (try simp only [hl4_1]); (try simp only [hl4_2]); (try simp only [hl4_3]); (try simp only [hl4_4]); (with_reducible repeat (first | apply Kd.R_alloc | apply Kd.R_drewN | apply Kd.R_drew)); exact HO_4.out⟩, ⟨by (try simp only [hl4_1]); (try simp only [hl4_2]); (try simp only [hl4_3]); (try simp only [hl4_4]); (with_reducible repeat (first | apply Kd.Q_alloc | apply Kd.Q_drewN | apply Kd.Q_drew)); exact HO_339000.out⟩, ⟨by (try simp only [hl4_1]); (try simp only [hl4_2]); (try simp only [hl4_3]); (try simp only [hl4_4]); (with_reducible repeat (first | refine blk_drewN ?_ _ | refine blk_drew ?_ | refine blk_alloc ?_ _)); exact BK325.out⟩, ⟨by (try simp only [hl4_1]); (try simp only [hl4_2]); (try simp only [hl4_3]); (try simp only [hl4_4]); (with_reducible repeat (first | refine blk_drewN ?_ _ | refine blk_drew ?_ | refine blk_alloc ?_ _)); exact BK338.out⟩, ⟨Bq⟩⟩
                     ·rw [if_neg c42] at H
                      exact absurd H (by simp)
                    ·rw [if_neg c41] at H
                     have c41b0 : decide ((rd x4_4 x50_4) < 0) = false := decide_eq_false c41; clear c41; have H' := am H; clear H; have p342 : 0 ≤ (x50_4 : Int) := dT; have q342 : x50_4 < (x4_4.length : Int) := dT; obtain ⟨ad342, e342, hx342_0⟩ := Kd.at_int (Kd.R_reads' HO_4.out).2.2 x50_4 p342 q342; obtain rfl : (⟨go23, 0, none⟩ : Addr) = ad342 := (by injection e342)
                     (first | simp only [add_plain] at hx342_0 | simp only [add_at] at hx342_0 | simp only [Addr.add, Nat.zero_add] at hx342_0 | skip)
                     replace p342 := eq_true p342; replace q342 := eq_true q342
                     go_wp2
                     (try simp only [← hl4_4])
                     go_roundg k4
                     case measure => have := HK1.out; have := HK2.out; have := HK3.out; have := HK4.out; omega
                     case rel => exact ⟨(x4_4), (wrap64 (x50_4 + 1)), (x339000_4), (u339000), wZ, H', ⟨by have := HK1.out; have := HK2.out; have := HK3.out; have := HK4.out; omega⟩, ⟨by (try simp only [hl4_1]); (try simp only [hl4_2]); (try simp only [hl4_3]); (try simp only [hl4_4]); (with_reducible repeat (first | apply Kd.S_alloc | apply Kd.S_drewN | apply Kd.S_drew)); exact HO_3.out⟩, ⟨by (try simp only [hl4_1]); (try simp only [hl4_2]); (try simp only [hl4_3]); (try simp only [hl4_4]); (with_reducible repeat (first | apply Kd.R_alloc | apply Kd.R_drewN | apply Kd.R_drew)); exact HO_4.out⟩, ⟨by (try simp only [hl4_1]); (try simp only [hl4_2]); (try simp only [hl4_3]); (try simp only [hl4_4]); (with_reducible repeat (first | apply Kd.Q_alloc | apply Kd.Q_drewN | apply Kd.Q_drew)); exact HO_339000.out⟩, ⟨by (try simp only [hl4_1]); (try simp only [hl4_2]); (try simp only [hl4_3]); (try simp only [hl4_4]); (with_reducible repeat (first | refine blk_drewN ?_ _ | refine blk_drew ?_ | refine blk_alloc ?_ _)); exact BK325.out⟩, ⟨by (try simp only [hl4_1]); (try simp only [hl4_2]); (try simp only [hl4_3]); (try simp only [hl4_4]); (with_reducible repeat (first | refine blk_drewN ?_ _ | refine blk_drew ?_ | refine blk_alloc ?_ _)); exact BK338.out⟩, ⟨Bq⟩⟩
                   ·rw [if_neg c40] at H
                    exact absurd H (by simp)
                  ·rw [if_neg c39] at H
                   exact absurd H (by simp)
                 ·rw [if_neg c38] at H
                  have c38b0 : decide (x50_4 < (l0.length : Int)) = false := decide_eq_false c38; (try simp only [hl4_1, hl4_2, hl4_3, hl4_4] at c38b0); clear c38
                  by_cases c59 : 1 ≤ (x339000_4.length : Int)
                  ·rw [if_pos c59] at H
                   have c59b0 := eq_true c59; have c59b1 : decide (1 ≤ (x339000_4.length : Int)) = true := decide_eq_true c59; (try simp only [hl4_1, hl4_2, hl4_3, hl4_4] at c59b1); clear c59; obtain ⟨y349, hy349⟩ : ∃ y_ : List Int, y_ = (x339000_4.drop (1 : Int).toNat) := ⟨_, rfl⟩
                   replace H : (impl_groups.l2 k4 x3_2 x4_4 (x3_2.length : Int) (l0.length : Int) x27_2 l0 y349) = some r := by first | (rw [hy349]; with_reducible exact H) | (have H2_ := (Option.bind_some _ _).symm.trans H; rw [hy349]; with_reducible exact H2_) | (have H2_ := (Option.bind_some _ _).symm.trans H; with_reducible exact H2_) | with_reducible exact H | (rw [hy349]; exact H) | exact H
                   have Ny349 := am hy349; clear hy349; have H' := am H; clear H; have hnb60 := NB338_325.out; have hnc60 := NB325_338.out; obtain ⟨hcz61_0, hfz61_0⟩ := cf1 (w := wr) BK338; obtain ⟨Ao62, co62, eo62, _⟩ := Kd.Q_slice HO_339000.out; subst eo62
                   go_wp2_with (first | ((with_reducible refine gate_dst (N := 8) rfl ?_); refine bE 8 #[.slice none 0 0] 31 ?_; intro gb93389 hg wN93389 hbox hb; have n0_ := am (Kd.S_below (Kd.S_elderB (by (with_reducible repeat (first | apply Kd.S_alloc | apply Kd.S_drewN | apply Kd.S_drew)); exact HO_3.out) gb93389 (Nat.le_of_eq hg.symm)) hb); have n1_ := Rb HO_4 hb; have n2_ := am (Kd.Q_below (by (with_reducible repeat (first | apply Kd.Q_alloc | apply Kd.Q_drewN | apply Kd.Q_drew)); exact HO_339000.out) hb); have n3_ := Kb BK325 hb; have n4_ := Bc HB hb; have n5_ := am (hbox); have n6_ := Gm HB hg; have n8_ := Nl BK325 hg; have n9_ := Ng BK325 hg; clear HO_3 HO_4 HO_339000 BK325 HB; revert n0_ n1_ n2_ n3_ n4_ n5_ n6_ n8_ n9_; intro HO_3 HO_4 HO_339000 BK325 HB BK93389 GE93389 NB325_93389 NB93389_325; clear hb hbox hg; have hnb90 := NB93389_325.out; have hnc90 := NB325_93389.out; obtain ⟨hcz90_0, hfz90_0⟩ := cf1 (w := wN93389) BK93389) | ((with_reducible refine gate_store (t := 31) (p := 8) rfl ?_); refine store_event (t := 31) (p := 8) (v := ?vo_w63) (w1 := (wN93389.setCell ⟨gb93389, 0, none⟩ (.slice Ao62 x339000_4.length co62))) ?hg ?ho ?hn ?hr ?_; (case ho => rfl); (case hg => rfl); (case hn => rfl); (case hr => first | (go_simp; done) | (go_simp; rfl)); intro w63 hw; have n0_ : Aside0 (Kd.S (Kd.slice 3 (Kd.int .i64)) 31 w63 w.heap.size (fun k_ => some k_ ≠ (.slice (some ⟨go23, 0, none⟩) x4_4.length co11 : Value).ownBlock ∧ some k_ ≠ (.slice Ao62 x339000_4.length co62 : Value).ownBlock ∧ k_ ≠ gb93389) (.slice Ao24 x3_2.length co24) x3_2) := ⟨(by rw [hw]; exact (by (with_reducible repeat (first | apply Kd.S_alloc | apply Kd.S_drewN | apply Kd.S_drew)); exact Kd.S_mono (Kd.S_far (p := ⟨gb93389, 0, none⟩) (Kd.S_mono HO_3.out (fun k_ hk => (⟨hk, hk.2⟩ : _ ∧ k_ ≠ gb93389))) (fun _ hk => hk.2) (.slice Ao62 x339000_4.length co62)) (fun _ hk => ⟨hk.1.1.1, ⟨hk.1.1.2.1, hk.1.2⟩⟩)))⟩; have n1_ : Aside0 (Kd.R (Kd.int .i64) 3 w63 w.heap.size (fun k_ => some k_ ≠ (.slice Ao62 x339000_4.length co62 : Value).ownBlock) (.slice (some ⟨go23, 0, none⟩) x4_4.length co11) x4_4) := ⟨(by rw [hw]; exact (Rz (Kd.R_mono (Kd.R_far (p := ⟨gb93389, 0, none⟩) (Kd.R_types HO_4.out BK93389.out (by decide)) (fun _ hk => hk.2) (.slice Ao62 x339000_4.length co62)) (fun _ hk => hk.1))))⟩; have n2_ : Aside0 (Kd.Q (Kd.int .i64) 3 w63 w.heap.size (fun k_ => some k_ ≠ (.slice (some ⟨go23, 0, none⟩) x4_4.length co11 : Value).ownBlock) (.slice Ao62 x339000_4.length co62) x339000_4) := ⟨(by rw [hw]; exact (by (with_reducible repeat (first | apply Kd.Q_alloc | apply Kd.Q_drewN | apply Kd.Q_drew)); exact Kd.Q_mono (Kd.Q_far (p := ⟨gb93389, 0, none⟩) (Kd.Q_types HO_339000.out BK93389.out (by decide)) (fun _ hk => hk.2) (.slice Ao62 x339000_4.length co62)) (fun _ hk => hk.1)))⟩; have n3_ : Aside0 (w63.heap[gb325]? = some (.cells #[.slice A0 l0.length c0] 27 (0, 0))) := ⟨(by rw [hw]; exact (by (with_reducible repeat (first | refine blk_drewN ?_ _ | refine blk_drew ?_ | refine blk_alloc ?_ _)); refine blk_far ?_ NB325_93389.out _; exact Kz BK325.out))⟩; have n4_ : Aside0 (w63.heap[gb93389]? = some (.cells #[.slice Ao62 x339000_4.length co62] 31 (0, 0))) := ⟨(by rw [hw]; exact (by (with_reducible repeat (first | refine blk_drewN ?_ _ | refine blk_drew ?_ | refine blk_alloc ?_ _)); refine blk_put (cs := #[.slice none 0 0]) ?_ 0 _ rfl; exact Kz BK93389.out))⟩; have n5_ : Aside0 (Below w.heap.size w w63) := ⟨(by rw [hw]; exact (Bq))⟩; clear hw HO_3 HO_4 HO_339000 BK325 BK93389 HB; revert n0_ n1_ n2_ n3_ n4_ n5_; intro HO_3 HO_4 HO_339000 BK325 BK93389 HB; obtain ⟨hcz64_0, hfz64_0⟩ := cf1 (w := w63) BK93389; have q65 : (1 : Int) ≤ ((x339000_4.length : Int) : Int) := dT; obtain ⟨i065, hi065, _, hsz65, _⟩ := info_parts info3; have hcut65 := cut_from (P := Try.prog) 31 3 .i64 Try.underlying31 hi065 1 hsz65 Ao62 x339000_4.length co62 1 (by omega) q65; have hr65 := Kd.Q_drop (k := (1 : Int).toNat) HO_339000.out (by omega); obtain ⟨A65, hA65⟩ : ∃ A1, A1 = (if co62 = (1 : Int).toNat then Ao62 else (Ao62 : Option Addr).map (·.add ((1 : Int).toNat * 1))) := ⟨_, rfl⟩; obtain ⟨c65, hc65⟩ : ∃ c1, c1 = co62 - (1 : Int).toNat := ⟨_, rfl⟩; have hy65 : y349.length = x339000_4.length - (1 : Int).toNat := (by rw [Ny349.out, List.length_drop]); rw [← Ny349.out] at hr65; rw [← hy65, ← hA65, ← hc65] at hcut65; replace hr65 : Kd.Q (Kd.int .i64) 3 w63 w.heap.size (fun k_ => some k_ ≠ (.slice (some ⟨go23, 0, none⟩) x4_4.length co11 : Value).ownBlock) (.slice A65 y349.length c65) y349 := (by rw [hA65, hc65, hy65]; exact hr65); have HE65 : Aside0 ((Value.slice A65 y349.length c65).ownBlock = (.slice Ao62 x339000_4.length co62 : Value).ownBlock) := ⟨by rw [hA65]; split <;> (cases (Ao62 : Option Addr) <;> rfl)⟩; clear hy65 hi065 hsz65 HO_339000 hA65 hc65; have HO351 := am hr65; clear hr65; replace q65 := eq_true q65; have n_ := am (Kd.S_mono (ok' := fun k_ => (some k_ ≠ (.slice (some ⟨go23, 0, none⟩) x4_4.length co11 : Value).ownBlock ∧ (some k_ ≠ (.slice A65 y349.length c65 : Value).ownBlock ∧ k_ ≠ gb93389))) HO_3.out (fun k_ hk => ⟨hk.1, ⟨(by rw [HE65.out]; exact hk.2.1), hk.2.2⟩⟩)); clear HO_3; have HO_3 := n_; clear n_; have n_ := am (Kd.R_mono (ok' := fun k_ => some k_ ≠ (.slice A65 y349.length c65 : Value).ownBlock) HO_4.out (fun k_ hk => (by rw [HE65.out]; exact hk))); clear HO_4; have HO_4 := n_; clear n_))
                   (try simp only [← hl4_3, ← hl4_4])
                   go_roundg k4
                   case measure => have := HK1.out; have := HK2.out; have := HK3.out; have := HK4.out; omega
                   case rel => exact ⟨(x4_4), (y349), (.slice A65 y349.length c65), gb93389, wZ, H', ⟨by have := HK1.out; have := HK2.out; have := HK3.out; have := HK4.out; omega⟩, ⟨by (try simp only [hl4_1]); (try simp only [hl4_2]); (try simp only [hl4_3]); (try simp only [hl4_4]); (with_reducible repeat (first | apply Kd.S_alloc | apply Kd.S_drewN | apply Kd.S_drew)); exact Kd.S_mono (Kd.S_far (p := ⟨gb93389, 0, none⟩) (Kd.S_mono HO_3.out (fun k_ hk => (⟨hk, hk.2.2⟩ : _ ∧ k_ ≠ gb93389))) (fun _ hk => hk.2) (.slice A65 y349.length c65)) (fun _ hk => ⟨hk.1.1, ⟨hk.1.2.1, hk.1.2.2⟩⟩)⟩, ⟨by (try simp only [hl4_1]); (try simp only [hl4_2]); (try simp only [hl4_3]); (try simp only [hl4_4]); (with_reducible repeat (first | apply Kd.R_alloc | apply Kd.R_drewN | apply Kd.R_drew)); exact Kd.R_mono (Kd.R_far (p := ⟨gb93389, 0, none⟩) (Kd.R_types HO_4.out BK93389.out (by decide)) (fun _ hk => hk.2) (.slice A65 y349.length c65)) (fun _ hk => hk.1)⟩, ⟨by (try simp only [hl4_1]); (try simp only [hl4_2]); (try simp only [hl4_3]); (try simp only [hl4_4]); (with_reducible repeat (first | apply Kd.Q_alloc | apply Kd.Q_drewN | apply Kd.Q_drew)); exact Kd.Q_mono (Kd.Q_far (p := ⟨gb93389, 0, none⟩) (Kd.Q_types HO351.out BK93389.out (by decide)) (fun _ hk => hk.2) (.slice A65 y349.length c65)) (fun _ hk => hk.1)⟩, ⟨by (try simp only [hl4_1]); (try simp only [hl4_2]); (try simp only [hl4_3]); (try simp only [hl4_4]); (with_reducible repeat (first | refine blk_drewN ?_ _ | refine blk_drew ?_ | refine blk_alloc ?_ _)); refine blk_far ?_ NB325_93389.out _; (with_reducible repeat (first | refine blk_drewN ?_ _ | refine blk_drew ?_ | refine blk_alloc ?_ _)); exact BK325.out⟩, ⟨by (try simp only [hl4_1]); (try simp only [hl4_2]); (try simp only [hl4_3]); (try simp only [hl4_4]); (with_reducible repeat (first | refine blk_drewN ?_ _ | refine blk_drew ?_ | refine blk_alloc ?_ _)); refine blk_put (cs := #[.slice Ao62 x339000_4.length co62]) ?_ 0 _ rfl; (with_reducible repeat (first | refine blk_drewN ?_ _ | refine blk_drew ?_ | refine blk_alloc ?_ _)); exact BK93389.out⟩, ⟨Bq⟩, GE93389, NB325_93389⟩
                  ·rw [if_neg c59] at H
                   exact absurd H (by simp)
              ·rw [if_neg c33] at H
               have c33b0 : decide (0 < (x339000_3.length : Int)) = false := decide_eq_false c33; (try simp only [hl4_1, hl4_2, hl4_3] at c33b0); have c33b1 : decide (0 < x339000_3.length) = false := decide_eq_false (by omega); clear c33
               by_cases c66 : x3_2.length < 5864062014805
               ·rw [if_pos c66] at H
                have LMc66 := am c66; clear c66; obtain ⟨y339, hy339⟩ : ∃ y_ : List (List Int), y_ = (x3_2 ++ [[]]) := ⟨_, rfl⟩
                replace H : (impl_groups.l1 k3 y339 x4_3 (l0.length : Int) (wrap64 (x27_2 + 1)) l0) = some r := by first | (rw [hy339]; with_reducible exact H) | (have H2_ := (Option.bind_some _ _).symm.trans H; rw [hy339]; with_reducible exact H2_) | (have H2_ := (Option.bind_some _ _).symm.trans H; with_reducible exact H2_) | with_reducible exact H | (rw [hy339]; exact H) | exact H
                have Ny339 := am hy339; clear hy339; have H' := am H; clear H; have hnb67 := NB338_325.out; have hnc67 := NB325_338.out; obtain ⟨hcz68_0, hfz68_0⟩ := cf1 (w := wr) BK338; obtain ⟨Ao69, co69, eo69, _⟩ := Kd.Q_slice HO_339000.out; subst eo69
                go_wp2_with (first | ((with_reducible refine gate_builtin (b := .append) (xs := #[.tmp 76, .tmp 77]) rfl ?_); at_builtin; refine Kd.S_append (Kd.slice 3 (Kd.int .i64)) (w0 := w) w.heap.size rfl (.tmp 76) (.tmp 77) 27 31 (.slice none 0 0) 24 rfl Try.underlying27 info31 rfl (by decide) (by omega) (.slice Ao24 x3_2.length co24) x3_2 [] [.slice none 0 0] (fun k_ => some k_ ≠ (.slice (some ⟨go23, 0, none⟩) x4_3.length co11 : Value).ownBlock ∧ some k_ ≠ (.slice Ao69 x339000_3.length co69 : Value).ownBlock ∧ k_ ≠ gb338) (fun _ => False) rfl rfl ?aP (fun _ hk => hk.elim) ?aF ?aO ?aB ?aS ?aL ?_; (case aP => exact ⟨.slice none 0 0, rfl, Kd.R_nil _ _ _ _ _⟩); (case aB => exact (Bq)); (case aF => exact (fun k_ hk => ⟨Kd.fresh' (Kd.R_lt (Rz HO_4.out)) k_ hk, Kd.fresh' (Kd.Q_lt (by (with_reducible repeat (first | apply Kd.Q_alloc | apply Kd.Q_drewN | apply Kd.Q_drew)); exact HO_339000.out)) k_ hk, Kd.freshB (g := gb338) (o := .cells #[.slice Ao69 x339000_3.length co69] 31 (0, 0)) (Kz BK338.out) k_ hk⟩)); (case aO => exact (by (with_reducible repeat (first | apply Kd.S_alloc | apply Kd.S_drewN | apply Kd.S_drew)); exact Kd.S_mono HO_3.out (fun k_ hk => ⟨⟨hk.1, ⟨hk.2.1, hk.2.2⟩⟩, fun e_ => e_⟩))); (case aS => exact (below_size (w := w) (Bq))); (case aL => have := LMc66.out; omega); intro v340 w70 ho hb hg hat; rw [← Ny339.out] at ho; have n0_ := am (Kd.R_over' (Rz HO_4.out) (Kd.S_typed (by (with_reducible repeat (first | apply Kd.S_alloc | apply Kd.S_drewN | apply Kd.S_drew)); exact HO_3.out)) (by decide) hg); have n1_ := am (Kd.Q_over' (by (with_reducible repeat (first | apply Kd.Q_alloc | apply Kd.Q_drewN | apply Kd.Q_drew)); exact HO_339000.out) (Kd.S_typed (by (with_reducible repeat (first | apply Kd.S_alloc | apply Kd.S_drewN | apply Kd.S_drew)); exact HO_3.out)) (by decide) hg); have n2_ := am (blk_grown (g := gb325) (o := .cells #[.slice A0 l0.length c0] 27 (0, 0)) (Kz BK325.out) hg (Kd.S_ne HO_3.out BK325.out (by decide))); have n3_ := am (blk_grown (g := gb338) (o := .cells #[.slice Ao69 x339000_3.length co69] 31 (0, 0)) (Kz BK338.out) hg (Kd.S_away HO_3.out (fun _ hk => hk.2.2))); have n4_ := am (hb); have n5_ := am (ho); clear HO_4 HO_339000 BK325 BK338 HB HO_3; revert n0_ n1_ n2_ n3_ n4_ n5_; intro HO_4 HO_339000 BK325 BK338 HB HO341; clear ho hb hg hat))
                (try simp only [← hl4_2, ← hl4_3])
                go_roundg k3
                case measure => have := HK1.out; have := HK2.out; have := HK3.out; omega
                case rel => exact ⟨(y339), (x4_3), (wrap64 (x27_2 + 1)), wZ, H', ⟨by have := HK1.out; have := HK2.out; have := HK3.out; omega⟩, ⟨by (try simp only [hl4_1]); (try simp only [hl4_2]); (try simp only [hl4_3]); (with_reducible repeat (first | apply Kd.S_alloc | apply Kd.S_drewN | apply Kd.S_drew)); exact Kd.S_mono HO341.out (fun _ hk => hk.1)⟩, ⟨by (try simp only [hl4_1]); (try simp only [hl4_2]); (try simp only [hl4_3]); (with_reducible repeat (first | apply Kd.R_alloc | apply Kd.R_drewN | apply Kd.R_drew)); exact Kd.R_mono HO_4.out (fun _ hk => trivial)⟩, ⟨by (try simp only [hl4_1]); (try simp only [hl4_2]); (try simp only [hl4_3]); (with_reducible repeat (first | refine blk_drewN ?_ _ | refine blk_drew ?_ | refine blk_alloc ?_ _)); exact BK325.out⟩, ⟨Bq⟩⟩
               ·rw [if_neg c66] at H
                exact absurd H (by simp)
          ·rw [if_neg c21] at H
           exact absurd H (by simp)
         ·rw [if_neg c20] at H
          exact absurd H (by simp)
        ·rw [if_neg c19] at H
         have c19b0 : decide (x27_2 < (l0.length : Int)) = false := decide_eq_false c19; (try simp only [hl4_1, hl4_2] at c19b0); clear c19; have H' := am H; clear H
         go_wp2
         go_loopg [82] k2 (fun kq v82 w' => ∃ (x3_3 : List (List Int)) (x82_3 : Int), v82 = .int .i64 x82_3 ∧ Aside0 (impl_groups.l4 kq x3_3 x4_2 (x4_2.length : Int) x82_3 = some r) ∧ Aside0 (kq ≤ k2) ∧ Aside0 (Kd.S (Kd.slice 3 (Kd.int .i64)) 31 w' w.heap.size (fun k_ => some k_ ≠ ((.slice Ao11 x4_2.length co11) : Value).ownBlock) u3 x3_3) ∧ Aside0 (Kd.R (Kd.int .i64) 3 w' w.heap.size (fun _ => True) (.slice Ao11 x4_2.length co11) x4_2) ∧ Aside0 (w'.heap[gb325]? = some (.cells #[(.slice A0 l0.length c0)] 27 (0, 0))) ∧ Aside0 (Below w.heap.size w w'))
         case atStart => exact ⟨(x3_2), (0), wZ, H', ⟨Nat.le_refl _⟩, ⟨by (try simp only [hl4_1]); (try simp only [hl4_2]); (with_reducible repeat (first | apply Kd.S_alloc | apply Kd.S_drewN | apply Kd.S_drew)); exact HO_3.out⟩, ⟨by (try simp only [hl4_1]); (try simp only [hl4_2]); (with_reducible repeat (first | apply Kd.R_alloc | apply Kd.R_drewN | apply Kd.R_drew)); exact HO_4.out⟩, ⟨by (try simp only [hl4_1]); (try simp only [hl4_2]); (with_reducible repeat (first | refine blk_drewN ?_ _ | refine blk_drew ?_ | refine blk_alloc ?_ _)); exact BK325.out⟩, ⟨Bq⟩⟩
         case round =>
          clear H'
          try clear c1
          try clear p1
          try clear q1
          try clear hx1
          try clear hf1
          try clear c2
          try clear c2b0
          try clear c2b1
          try clear p2
          try clear q2
          try clear hx2
          try clear hf2
          try clear c3
          try clear c3b0
          try clear c3b1
          try clear p3
          try clear q3
          try clear hx3
          try clear c4
          try clear p4
          try clear q4
          try clear hx4
          try clear hf4
          try clear c5
          try clear c6
          try clear p6
          try clear q6
          try clear c12
          try clear c12b0
          try clear c13
          try clear c13b0
          try clear c14
          try clear c14b0
          try clear p15
          try clear q15
          try clear hx15
          try clear hf15
          try clear c19
          try clear c19b0
          try clear c20
          try clear c20b0
          try clear c21
          try clear c21b0
          try clear c22
          try clear c22b0
          try clear p23
          try clear q23
          try clear hx23
          try clear hf23
          try clear c31
          try clear c33
          try clear c33b0
          try clear c33b1
          try clear p33
          try clear q33
          try clear hx33
          try clear c34
          try clear p34
          try clear q34
          try clear hx34
          try clear c38
          try clear c38b0
          try clear c39
          try clear c39b0
          try clear c40
          try clear c40b0
          try clear c41
          try clear c41b0
          try clear c42
          try clear c42b0
          try clear c44
          try clear p45
          try clear q45
          try clear hx45
          try clear hf45
          try clear c46
          try clear c47
          try clear c56
          try clear c59
          try clear c59b0
          try clear c59b1
          try clear c60
          try clear p64
          try clear c65
          try clear q65
          try clear c66
          try clear c67
          try clear hcz18_0
          try clear hcz32_0
          try clear hcz35_0
          try clear hcz37_0
          try clear hcz48_0
          try clear hcz52_0
          try clear hcz55_0
          try clear hcz57_0
          try clear hcz61_0
          try clear hcz64_0
          try clear hcz68_0
          try clear hfz18_0
          try clear hfz32_0
          try clear hfz35_0
          try clear hfz37_0
          try clear hfz48_0
          try clear hfz52_0
          try clear hfz55_0
          try clear hfz57_0
          try clear hfz61_0
          try clear hfz64_0
          try clear hfz68_0
          try clear hx15_0
          try clear hx23_0
          try clear hx333_0
          try clear hx342_0
          try clear hx343_0
          try clear hx45_0
          try clear p1
          try clear p15
          try clear p2
          try clear p23
          try clear p3
          try clear p33
          try clear p333
          try clear p342
          try clear p343
          try clear p45
          try clear p6
          try clear q1
          try clear q15
          try clear q2
          try clear q23
          try clear q3
          try clear q33
          try clear q333
          try clear q342
          try clear q343
          try clear q45
          try clear q65
          obtain ⟨x3_3, x82_3, rfl, HA, HK3, HO_3, HO_80, BK325, HB⟩ := hrel; cases gk with
          | zero => exact absurd HA.out (by simp [impl_groups.l4])
          | succ k3 =>
           have H := HA.out; clear HA
           simp only [impl_groups.l4] at H
           by_cases c71 : x82_3 < (x4_2.length : Int)
           ·rw [if_pos c71] at H
            have c71b0 : decide (x82_3 < (x4_2.length : Int)) = true := decide_eq_true c71; (try simp only [hl4_1, hl4_2] at c71b0); clear c71
            by_cases c72 : 0 ≤ x82_3
            ·rw [if_pos c72] at H
             have c72b0 : decide (0 ≤ x82_3) = true := decide_eq_true c72; clear c72
             by_cases c73 : x82_3 < (x4_2.length : Int)
             ·rw [if_pos c73] at H
              have c73b0 : decide (x82_3 < (x4_2.length : Int)) = true := decide_eq_true c73; (try simp only [hl4_1, hl4_2] at c73b0); clear c73
              by_cases c74 : 0 ≤ (rd x4_2 x82_3)
              ·rw [if_pos c74] at H
               have c74b0 : decide (0 ≤ (rd x4_2 x82_3)) = true := decide_eq_true c74; clear c74
               by_cases c75 : (rd x4_2 x82_3) < (x3_3.length : Int)
               ·rw [if_pos c75] at H
                have c75b0 : decide ((rd x4_2 x82_3) < (x3_3.length : Int)) = true := decide_eq_true c75; (try simp only [hl4_1, hl4_2] at c75b0); clear c75
                by_cases c76 : (rd_L3 x3_3 (rd x4_2 x82_3)).length < 17592186044416
                ·rw [if_pos c76] at H
                 have LMc76 := am c76; clear c76; obtain ⟨y354, hy354⟩ : ∃ y_ : List Int, y_ = ((rd_L3 x3_3 (rd x4_2 x82_3)) ++ [x82_3]) := ⟨_, rfl⟩
                 replace H : (impl_groups.l4 k3 (x3_3.set ((rd x4_2 x82_3) : Int).toNat y354) x4_2 (x4_2.length : Int) (wrap64 (x82_3 + 1))) = some r := by first | (rw [hy354]; with_reducible exact H) | (have H2_ := (Option.bind_some _ _).symm.trans H; rw [hy354]; with_reducible exact H2_) | (have H2_ := (Option.bind_some _ _).symm.trans H; with_reducible exact H2_) | with_reducible exact H | (rw [hy354]; exact H) | exact H
                 have Ny354 := am hy354; clear hy354; obtain ⟨y357, hy357⟩ : ∃ y_ : List (List Int), y_ = (x3_3.set ((rd x4_2 x82_3) : Int).toNat y354) := ⟨_, rfl⟩
                 replace H : (impl_groups.l4 k3 y357 x4_2 (x4_2.length : Int) (wrap64 (x82_3 + 1))) = some r := by first | (rw [hy357]; with_reducible exact H) | (have H2_ := (Option.bind_some _ _).symm.trans H; rw [hy357]; with_reducible exact H2_) | (have H2_ := (Option.bind_some _ _).symm.trans H; with_reducible exact H2_) | with_reducible exact H | (rw [hy357]; exact H) | exact H
                 have Ny357 := am hy357; clear hy357; have H' := am H; clear H; obtain ⟨ad352, e352, hx352_0⟩ := Kd.at_int (Kd.R_reads' HO_80.out).2.2 x82_3 dT dT; cases e352; have p352 := eT (0 ≤ (x82_3 : Int)); have q352 := eT (x82_3 < (x4_2.length : Int)); obtain ⟨Ao78, co78, eo78⟩ := Kd.S_slice HO_3.out; subst eo78; have p353 : 0 ≤ ((rd x4_2 x82_3) : Int) := dT; have q353 : (rd x4_2 x82_3) < (x3_3.length : Int) := dT; obtain ⟨ad353, A353_0, c353_0, e353, hx353_0, hl353_0, hi353_0⟩ := at_L3 (Kd.S_reads' HO_3.out).2.2 (rd x4_2 x82_3) p353 q353; cases e353; obtain ⟨ce353, hce353, hMe353, hcc353⟩ := Kd.S_get HO_3.out [] (rd x4_2 x82_3) p353 (by first | exact q353 | exact dT | (have e_ := (Kd.S_reads' HO_3.out).1; omega)); obtain ⟨ve353_0, rfl, ge353_0⟩ := hMe353; have hv353_0 := hcc353 0 _ rfl; rw [Nat.add_zero, show ((Kd.slice 3 (Kd.int .i64))).sz = 1 from rfl, Nat.mul_one] at hv353_0; replace hv353_0 := Option.some.inj (hv353_0.symm.trans hx353_0); rw [hv353_0] at ge353_0; have HL353_0 := am (show Kd.R (Kd.int .i64) 3 _ _ _ _ (rd_L3 x3_3 (rd x4_2 x82_3)) from ge353_0); clear hv353_0 ge353_0; have HX353_0 := am hx353_0; clear hcc353 hce353; have HR353_0 := am hi353_0; have HC353_0 := am hl353_0; clear hi353_0 hl353_0; replace p353 := eq_true p353; replace q353 := eq_true q353; obtain ⟨go79, co79, eo79, gb79, gl79, cl79, HG79⟩ := Kd.S_form HO_3.out (by have h_ : ((rd x4_2 x82_3) : Int) < ((x3_3.length : Int) : Int) := dT; have h2_ : 0 ≤ ((rd x4_2 x82_3) : Int) := (dT); omega)
                 (first | cases eo79 | (injection eo79 with ea_ en_ ec_; (first | subst ea_ | (injection ea_ with ea_; subst ea_)); subst ec_; clear en_))
                 have GB79 := am gb79; have GG79 := am HG79; clear gb79 gl79 HG79
                 (first | simp only [add_plain] at hx353_0 | skip)
                 obtain ⟨oki79, ce79, hcl79, hM79, hcc79, _, _, hH79⟩ := Kd.S_elem HO_3.out [] ((rd x4_2 x82_3) : Int) (dT) (by have h_ : ((rd x4_2 x82_3) : Int) < ((x3_3.length : Int) : Int) := dT; first | exact h_ | (have e_ := (Kd.S_reads' HO_3.out).1; omega) | simpa using h_); obtain ⟨ve79_0, rfl, ge79_0⟩ := hM79; have hv79 := hcc79 0 _ rfl; have hX79 := HX353_0.out
                 (try simp only [add_plain] at hX79)
                 (try simp only [Nat.add_zero] at hv79)
                 (try rw [show ((Kd.slice 3 (Kd.int .i64))).sz = 1 from rfl, Nat.mul_one] at hv79)
                 replace hv79 := Option.some.inj (hv79.symm.trans hX79); subst hv79; clear hX79 hcc79 hcl79; have UU79 := am (show Kd.R (Kd.int .i64) 3 _ w.heap.size oki79 (.slice A353_0 (rd_L3 x3_3 (rd x4_2 x82_3)).length c353_0) (rd_L3 x3_3 (rd x4_2 x82_3)) from ge79_0); have HH79 := am hH79; have HN79 := am (Kd.S_reads' HO_3.out).1; clear hH79 ge79_0
                 go_wp2_with (first | ((with_reducible refine gate_builtin (b := .append) (xs := #[.tmp 92, .tmp 94]) rfl ?_); at_builtin; refine Kd.R_append (Kd.int .i64) (w0 := w) w.heap.size rfl (.tmp 92) (.tmp 94) 31 3 (.int .i64 0) 8 rfl Try.underlying31 info3 rfl (by decide) (by omega) (.slice A353_0 (rd_L3 x3_3 (rd x4_2 x82_3)).length c353_0) (rd_L3 x3_3 (rd x4_2 x82_3)) x82_3 [.int .i64 x82_3] (fun k_ => oki79 k_ ∨ ((fun k_ => some k_ ≠ (.slice (some ad352) x4_2.length co11 : Value).ownBlock)) k_ ∧ wr.heap.size ≤ k_) (fun _ => False) rfl rfl ?aP (fun _ hk => hk.elim) ?aF ?aO ?aB ?aS ?aL ?_; (case aP => exact rfl); (case aB => exact (Bq)); (case aF => exact (fun k_ hk => .inr ⟨Kd.fresh' (Kd.R_lt (Rz HO_80.out)) k_ hk, hk⟩)); (case aO => exact (Rz (Kd.R_mono UU79.out (fun _ hk => .inl hk)))); (case aS => exact (below_size (w := w) (Bq))); (case aL => have := LMc76.out; omega); intro v355 w80 ho hb hg hat; rw [← Ny354.out] at ho; have n0_ := am (Kd.R_grown2 (Rz HO_80.out) rfl hg (fun k_ e_ => (HL353_0.out.1 k_ e_).1)); have n1_ := am (blk_grown (g := gb325) (o := .cells #[.slice A0 l0.length c0] 27 (0, 0)) (Kz BK325.out) hg (Kd.R_ne HL353_0.out BK325.out (by decide))); have n2_ := am (hb); have n3_ := am (Kd.H_grown (Kd.H_widen (by repeat (first | exact HH79.out | refine Kd.H_alloc ?_ _ | refine Kd.H_drewN ?_ _ | refine Kd.H_drew ?_))) hg (fun k_ e_ => .inl (UU79.out.1 k_ e_))); have n4_ := am (ho); clear HO_80 BK325 HB HH79 HO_3 UU79 HL353_0; revert n0_ n1_ n2_ n3_ n4_; intro HO_80 BK325 HB HH79 HO356; clear ho hb hg hat; have p77 : 0 ≤ ((rd x4_2 x82_3) : Int) := dT; have q77 : ((rd x4_2 x82_3) : Int) < ((x3_3.length : Int) : Int) := dT; replace p77 := eq_true p77; replace q77 := eq_true q77; obtain ⟨Ao83, co83, eo83⟩ := Kd.R_slice HO356.out; subst eo83; obtain ⟨_, _, hraw81, _, _, hcc81, _⟩ := Kd.H_raw HH79.out (dT) (by have h_ : ((rd x4_2 x82_3) : Int) < ((x3_3.length : Int) : Int) := dT; first | exact h_ | (have e_ := (HN79.out); omega) | simpa using h_); obtain ⟨_, hfr81⟩ := Kd.H_at HH79.out (dT) (by have h_ : ((rd x4_2 x82_3) : Int) < ((x3_3.length : Int) : Int) := dT; first | exact h_ | (have e_ := (HN79.out); omega) | simpa using h_); have hx81_0 := hcc81 0 _ rfl; have hf81_0 := hfr81 0; (try simp only [Nat.add_zero] at hx81_0 hf81_0); (try rw [show ((Kd.slice 3 (Kd.int .i64))).sz = 1 from rfl, Nat.mul_one] at hx81_0); (try rw [show ((Kd.slice 3 (Kd.int .i64))).sz = 1 from rfl, Nat.mul_one] at hf81_0); have HP81 := Kd.S_seg0 HH79.out (dT) (by have h_ : ((rd x4_2 x82_3) : Int) < ((x3_3.length : Int) : Int) := dT; first | exact h_ | (have e_ := (HN79.out); omega) | simpa using h_) (seg := [.slice Ao83 y354.length co83]) (j := 0) (show 1 ≤ 1 from by decide) (x' := y354) (Kd.M_row HO356.out) (fun _ hk => hk); (try simp only [show ((Kd.slice 3 (Kd.int .i64))).sz = 1 from rfl, Nat.mul_one, Nat.add_zero] at HP81); clear hcc81 hfr81) | ((with_reducible refine gate_store (t := 31) (p := 96) rfl ?_); refine store_event (t := 31) (p := 96) (v := ?vo_w82) (w1 := (w80.setCell ⟨go79, ((rd x4_2 x82_3) : Int).toNat, none⟩ (.slice Ao83 y354.length co83))) ?hg ?ho ?hn ?hr ?_; (case ho => rfl); (case hg => rfl); (case hn => rfl); (case hr => first | (go_simp; done) | (go_simp; rfl)); intro w82 hw; have hg : w80.grownBy w82 (some go79) := (by rw [hw]; exact HP81.2); have hp_ : Kd.S (Kd.slice 3 (Kd.int .i64)) 31 w82 w.heap.size (fun k_ => some k_ ≠ (.slice (some ad352) x4_2.length co11 : Value).ownBlock) (.slice (some ⟨go79, 0, none⟩) x3_3.length co78) y357 := (by rw [hw, Ny357.out]; exact HP81.1); clear HP81; have n0_ := am (Kd.R_over' (v := (.slice (some ⟨go79, 0, none⟩) x3_3.length co78)) (Rz HO_80.out) (Kd.R_typed hraw81) (by decide) hg); have n1_ := am (blk_grown (g := gb325) (o := .cells #[.slice A0 l0.length c0] 27 (0, 0)) (Kz BK325.out) hg (Kd.R_ne hraw81 BK325.out (by decide))); have n2_ := am ((by rw [hw]; exact below_set HB.out GB79.out : Below w.heap.size w w82)); have n3_ := am (hp_); clear HO_80 BK325 HB HO356 HH79; revert n0_ n1_ n2_ n3_; intro HO_80 BK325 HB HO_3; clear hg hw hp_ hraw81))
                 go_roundg k3
                 case measure => have := HK1.out; have := HK2.out; have := HK3.out; omega
                 case rel => exact ⟨(y357), (wrap64 (x82_3 + 1)), wZ, H', ⟨by have := HK1.out; have := HK2.out; have := HK3.out; omega⟩, ⟨by (try simp only [hl4_1]); (try simp only [hl4_2]); (with_reducible repeat (first | apply Kd.S_alloc | apply Kd.S_drewN | apply Kd.S_drew)); exact HO_3.out⟩, ⟨by (try simp only [hl4_1]); (try simp only [hl4_2]); (with_reducible repeat (first | apply Kd.R_alloc | apply Kd.R_drewN | apply Kd.R_drew)); exact HO_80.out⟩, ⟨by (try simp only [hl4_1]); (try simp only [hl4_2]); (with_reducible repeat (first | refine blk_drewN ?_ _ | refine blk_drew ?_ | refine blk_alloc ?_ _)); exact BK325.out⟩, ⟨Bq⟩⟩
                ·rw [if_neg c76] at H
                 exact absurd H (by simp)
               ·rw [if_neg c75] at H
                exact absurd H (by simp)
              ·rw [if_neg c74] at H
               exact absurd H (by simp)
             ·rw [if_neg c73] at H
              exact absurd H (by simp)
            ·rw [if_neg c72] at H
             exact absurd H (by simp)
           ·rw [if_neg c71] at H
            have c71b0 : decide (x82_3 < (x4_2.length : Int)) = false := decide_eq_false c71; (try simp only [hl4_1, hl4_2] at c71b0); clear c71; obtain rfl := Option.some.inj H
            go_wp2
            go_ret
            exact ⟨_, eZ, by (with_reducible repeat (first | apply Kd.S_alloc | apply Kd.S_drewN | apply Kd.S_drew)); exact Kd.S_mono HO_3.out (fun _ hk => trivial), Bq⟩
  ·rw [if_neg c3] at H
   exact absurd H (by simp)
 ·rw [if_neg c2] at H
  exact absurd H (by simp)

def impl_KeyGroups.f (k : Nat) (a0 : Int) (l1 : List ByteArray) (a2 : Int) : Option ((List (List Int)) × Bool) := (impl_pairs.f k a0 l1 a2).bind fun bt358 => (if bt358.2 = true then ((impl_groups.f k bt358.1).bind fun t362 => (some (t362, true))) else (some (([] : List (List Int)), false)))
theorem impl_KeyGroups.calls (k : Nat) (a0 : Int) (A1 : Option Addr) (c1 : Nat) (l1 : List ByteArray) (a2 : Int) (r1 : List (List Int)) (r2 : Bool) (w : World) (hr1 : Kd.C Kd.string w A1 l1.length l1) (hc1 : l1.length ≤ c1) (h : impl_KeyGroups.f k a0 l1 a2 = some (r1, r2)) :
  Calls Try.prog 13 #[.int .i64 a0, .slice A1 l1.length c1, .int .i64 a2] w fun e w' => ∃ v0_ : Value, e = .returned (.tuple #[v0_, .bool r2]) ∧ Kd.S (Kd.slice 3 (Kd.int .i64)) 31 w' w.heap.size (fun _ => True) v0_ r1 ∧ Below w.heap.size w w' := by
 have HR1 := am hr1; have HC1 := am hc1; clear hr1 hc1; have HB := am (Below.refl w.heap.size w); have H : ((impl_pairs.f k a0 l1 a2).bind fun bt358 => (if bt358.2 = true then ((impl_groups.f k bt358.1).bind fun t362 => (some (t362, true))) else (some (([] : List (List Int)), false)))) = some (r1, r2) := h; clear h; replace H := Option.bind_eq_some_iff.mp H; obtain ⟨⟨t358, t359⟩, A40, H⟩ := H; (try dsimp -simprocs only at H); have A4 := am A40; clear A40
 by_cases c5 : t359 = true
 ·subst c5
  rw [if_pos rfl] at H; replace H := Option.bind_eq_some_iff.mp H; obtain ⟨t362, A60, H⟩ := H; (try dsimp -simprocs only at H); have A6 := am A60; clear A60
  simp only [Option.some.injEq, Prod.mk.injEq] at H
  obtain ⟨rfl, rfl⟩ := H
  go_enter Try.func13, Try.ntmps13
  go_wp2_with (first | ((with_reducible refine gate_callee (f := 60) rfl ?_); refine gL (some 14) Try.func60 #[.int .i64 a0, .slice A1 l1.length c1, .int .i64 a2] ?_; (with_reducible refine (impl_pairs.calls k a0 _ _ l1 a2 t358 true _ ?side1 ?side2 A4.out).mono ?_); (case side1 => exact Cz HR1.out); (case side2 => exact HC1.out); rintro e w7 ⟨v360, rfl, ho0, hb⟩; refine ⟨_, rfl, ?_⟩; have n0_ := am (Kd.S_lower ho0 (below_size (Bz HB.out))); have n1_ := Bb HB hb; clear HB; revert n0_ n1_; intro HO361 HB; (try clear hb); (try clear hb2); (try clear hk); (try clear hi); (try clear ho0); obtain ⟨Ao8, co8, eo8⟩ := Kd.S_slice HO361.out; subst eo8) | ((with_reducible refine gate_callee (f := 61) rfl ?_); refine gL (some 20) Try.func61 #[.slice Ao8 t358.length co8] ?_; (with_reducible refine (impl_groups.calls k _ _ t358 t362 _ ?side1 ?side2 A6.out).mono ?_); (case side1 => exact Cz ((Kd.S_reads' HO361.out).2.2)); (case side2 => exact (Kd.S_reads' HO361.out).2.1); rintro e w9 ⟨v363, rfl, ho0, hb⟩; refine ⟨_, rfl, ?_⟩; have n0_ := am (Kd.S_elder' (by (with_reducible repeat (first | apply Kd.S_alloc | apply Kd.S_drewN | apply Kd.S_drew)); exact HO361.out) (Kd.S_base ho0) hb); have n1_ := am (Kd.S_lower (Kd.S_new' ho0 (Kd.S_lt (by (with_reducible repeat (first | apply Kd.S_alloc | apply Kd.S_drewN | apply Kd.S_drew)); exact HO361.out))) (below_size (Bz HB.out))); have n2_ := Bb HB hb; clear HO361 HB; revert n0_ n1_ n2_; intro HO361 HO364 HB; (try clear hb); (try clear hb2); (try clear hk); (try clear hi); (try clear ho0)))
  go_ret2
  exact ⟨_, eZ, by (with_reducible repeat (first | apply Kd.S_alloc | apply Kd.S_drewN | apply Kd.S_drew)); exact Kd.S_mono HO364.out (fun _ hk => trivial), Bz HB.out⟩
 ·replace c5 := Bool.eq_false_iff.mpr c5
  subst c5
  rw [if_neg (show ¬ (false = true) by decide)] at H
  simp only [Option.some.injEq, Prod.mk.injEq] at H
  obtain ⟨rfl, rfl⟩ := H
  go_enter Try.func13, Try.ntmps13
  go_wp2_with (first | ((with_reducible refine gate_callee (f := 60) rfl ?_); refine gL (some 14) Try.func60 #[.int .i64 a0, .slice A1 l1.length c1, .int .i64 a2] ?_; (with_reducible refine (impl_pairs.calls k a0 _ _ l1 a2 t358 false _ ?side1 ?side2 A4.out).mono ?_); (case side1 => exact Cz HR1.out); (case side2 => exact HC1.out); rintro e w10 ⟨v360, rfl, ho0, hb⟩; refine ⟨_, rfl, ?_⟩; have n0_ := am (Kd.S_lower ho0 (below_size (Bz HB.out))); have n1_ := Bb HB hb; clear HB; revert n0_ n1_; intro HO361 HB; (try clear hb); (try clear hb2); (try clear hk); (try clear hi); (try clear ho0)))
  go_ret2
  exact ⟨_, eZ, by first | exact Kd.S_nil _ _ _ _ _ | exact Kd.N_nil _ _ _ _ _ | exact Kd.V_nil _ _ _ _ _ | exact Kd.Q_nil _ _ _ _ _ | exact Kd.R_nil _ _ _ _ _, Bz HB.out⟩

def spec_l1In.f (a0 : Int) (a1 : Int) (a2 : Int) : Option (Bool) := if a0 ≥ a1 then (some (decide (a0 ≤ a2))) else (some false)
theorem spec_l1In.calls (a0 : Int) (a1 : Int) (a2 : Int) (r : Bool) (w : World) (h : spec_l1In.f a0 a1 a2 = some r) :
  Calls Try.prog 76 #[.int .i64 a0, .int .i64 a1, .int .i64 a2] w fun e w' => e = .returned (.bool r) ∧ Drawn0 w w' := by
 have H : (if a0 ≥ a1 then (some (decide (a0 ≤ a2))) else (some false)) = some r := h; clear h
 by_cases c4 : a0 ≥ a1
 ·rw [if_pos c4] at H
  have c4b0 : decide (a1 ≤ a0) = true := decide_eq_true c4; clear c4; obtain rfl := Option.some.inj H
  go_enter Try.func76, Try.ntmps76
  go_wp2
  go_ret
  exact ⟨by first | rfl | (simp; done) | (simp [*]; done), by repeat (first | exact Drawn0.refl _ | apply Drawn0.step)⟩
 ·rw [if_neg c4] at H
  have c4b0 : decide (a1 ≤ a0) = false := decide_eq_false c4; clear c4; obtain rfl := Option.some.inj H
  go_enter Try.func76, Try.ntmps76
  go_wp2
  go_ret
  exact ⟨by first | rfl | (simp; done) | (simp [*]; done), by repeat (first | exact Drawn0.refl _ | apply Drawn0.step)⟩

def spec_cuSize.f (a0 : Int) (a1 : Int) : Option (Bool) := (spec_l1In.f a0 0 9999).bind fun t365 => (if t365 = true then ((spec_l1In.f a1 1 64).bind fun t366 => (some t366)) else (some false))
theorem spec_cuSize.calls (a0 : Int) (a1 : Int) (r : Bool) (w : World) (h : spec_cuSize.f a0 a1 = some r) :
  Calls Try.prog 122 #[.int .i64 a0, .int .i64 a1] w fun e w' => e = .returned (.bool r) ∧ Drawn0 w w' := by
 have H : ((spec_l1In.f a0 0 9999).bind fun t365 => (if t365 = true then ((spec_l1In.f a1 1 64).bind fun t366 => (some t366)) else (some false))) = some r := h; clear h; replace H := Option.bind_eq_some_iff.mp H; obtain ⟨t365, A30, H⟩ := H; (try dsimp -simprocs only at H); have A3 := am A30; clear A30
 by_cases c4 : t365 = true
 ·subst c4
  rw [if_pos rfl] at H; replace H := Option.bind_eq_some_iff.mp H; obtain ⟨t366, A50, H⟩ := H; (try dsimp -simprocs only at H); have A5 := am A50; clear A50; obtain rfl := Option.some.inj H
  go_enter Try.func122, Try.ntmps122
  go_wp2_with (first | ((with_reducible refine gate_callee (f := 76) rfl ?_); refine gL (some 6) Try.func76 #[.int .i64 a0, .int .i64 0, .int .i64 9999] ?_; (with_reducible refine (spec_l1In.calls a0 0 9999 true _ A3.out).mono ?_); rintro e w' ⟨rfl, ⟨nd, rfl⟩⟩; refine ⟨_, rfl, ?_⟩) | (go_at_call 76; (with_reducible refine (spec_l1In.calls a1 1 64 t366 _ A5.out).mono ?_); rintro e w' ⟨rfl, ⟨nd, rfl⟩⟩))
  go_ret
  exact ⟨by first | rfl | (simp; done) | (simp [*]; done), by repeat (first | exact Drawn0.refl _ | apply Drawn0.step)⟩
 ·replace c4 := Bool.eq_false_iff.mpr c4
  subst c4
  rw [if_neg (show ¬ (false = true) by decide)] at H; obtain rfl := Option.some.inj H
  go_enter Try.func122, Try.ntmps122
  go_wp2_with (first | ((with_reducible refine gate_callee (f := 76) rfl ?_); refine gL (some 6) Try.func76 #[.int .i64 a0, .int .i64 0, .int .i64 9999] ?_; (with_reducible refine (spec_l1In.calls a0 0 9999 false _ A3.out).mono ?_); rintro e w' ⟨rfl, ⟨nd, rfl⟩⟩; refine ⟨_, rfl, ?_⟩))
  go_ret
  exact ⟨by first | rfl | (simp; done) | (simp [*]; done), by repeat (first | exact Drawn0.refl _ | apply Drawn0.step)⟩

def spec_IsKey.l0 : Nat → ByteArray → Int → Option (Bool)
 | 0, _, _ => none
 | k + 1, x0, x3 => if x3 < (x0.size : Int) then (if 0 ≤ x3 then (if (bt x0 x3) < 33 then (some false) else (if (bt x0 x3) > 125 then (some false) else (spec_IsKey.l0 k x0 (wrap64 (x3 + 1))))) else (none)) else ((spec_l1In.f (x0.size : Int) 1 12).bind fun t367 => (some t367))
def spec_IsKey.f (k : Nat) (a0 : ByteArray) : Option (Bool) := spec_IsKey.l0 k a0 0
theorem spec_IsKey.calls (k : Nat) (a0 : ByteArray) (r : Bool) (w : World) (h : spec_IsKey.f k a0 = some r) :
  Calls Try.prog 101 #[.string a0] w fun e w' => e = .returned (.bool r) ∧ Drawn0 w w' := by
 have H : (spec_IsKey.l0 k a0 0) = some r := h; clear h; have H' := am H; clear H
 go_enter Try.func101, Try.ntmps101
 go_wp2
 go_loopg [3] k (fun kq v3 w' => ∃ (x3_1 : Int), v3 = .int .i64 x3_1 ∧ Aside0 (spec_IsKey.l0 kq a0 x3_1 = some r) ∧ Aside0 (kq ≤ k) ∧ Drawn0 w w')
 case atStart => exact ⟨(0), wZ, H', ⟨Nat.le_refl _⟩, by repeat (first | exact Drawn0.refl _ | apply Drawn0.step)⟩
 case round =>
  clear H'
  try clear c1
  obtain ⟨x3_1, rfl, HA, HK1, ⟨m1, rfl⟩⟩ := hrel; cases gk with
  | zero => exact absurd HA.out (by simp [spec_IsKey.l0])
  | succ k1 =>
   have H := HA.out; clear HA
   simp only [spec_IsKey.l0] at H
   by_cases c2 : x3_1 < (a0.size : Int)
   ·rw [if_pos c2] at H
    have c2b0 : decide (x3_1 < (a0.size : Int)) = true := decide_eq_true c2; clear c2
    by_cases c3 : 0 ≤ x3_1
    ·rw [if_pos c3] at H
     have c3b0 : decide (0 ≤ x3_1) = true := decide_eq_true c3; clear c3
     by_cases c5 : (bt a0 x3_1) < 33
     ·rw [if_pos c5] at H
      have c5b0 : decide ((bt a0 x3_1) < 33) = true := decide_eq_true c5; clear c5; obtain rfl := Option.some.inj H; have p4 : 0 ≤ (x3_1 : Int) := dT; have q4 : x3_1 < (a0.size : Int) := dT; have hx4 := bt_at a0 x3_1; replace p4 := eq_true p4; replace q4 := eq_true q4
      go_wp2
      go_ret
      exact ⟨by first | rfl | (simp; done) | (simp [*]; done), by repeat (first | exact Drawn0.refl _ | apply Drawn0.step)⟩
     ·rw [if_neg c5] at H
      have c5b0 : decide ((bt a0 x3_1) < 33) = false := decide_eq_false c5; clear c5
      by_cases c7 : (bt a0 x3_1) > 125
      ·rw [if_pos c7] at H
       have c7b0 : decide (125 < (bt a0 x3_1)) = true := decide_eq_true c7; clear c7; obtain rfl := Option.some.inj H; have p4 : 0 ≤ (x3_1 : Int) := dT; have q4 : x3_1 < (a0.size : Int) := dT; have hx4 := bt_at a0 x3_1; replace p4 := eq_true p4; replace q4 := eq_true q4; have p6 : 0 ≤ (x3_1 : Int) := dT; have q6 : x3_1 < (a0.size : Int) := dT; have hx6 := bt_at a0 x3_1; replace p6 := eq_true p6; replace q6 := eq_true q6
       go_wp2
       go_ret
       exact ⟨by first | rfl | (simp; done) | (simp [*]; done), by repeat (first | exact Drawn0.refl _ | apply Drawn0.step)⟩
      ·rw [if_neg c7] at H
       have c7b0 : decide (125 < (bt a0 x3_1)) = false := decide_eq_false c7; clear c7; have H' := am H; clear H; have p4 : 0 ≤ (x3_1 : Int) := dT; have q4 : x3_1 < (a0.size : Int) := dT; have hx4 := bt_at a0 x3_1; replace p4 := eq_true p4; replace q4 := eq_true q4; have p6 : 0 ≤ (x3_1 : Int) := dT; have q6 : x3_1 < (a0.size : Int) := dT; have hx6 := bt_at a0 x3_1; replace p6 := eq_true p6; replace q6 := eq_true q6
       go_wp2
       go_roundg k1
       case measure => have := HK1.out; omega
       case rel => exact ⟨(wrap64 (x3_1 + 1)), wZ, H', ⟨by have := HK1.out; omega⟩, by repeat (first | exact Drawn0.refl _ | apply Drawn0.step)⟩
    ·rw [if_neg c3] at H
     exact absurd H (by simp)
   ·rw [if_neg c2] at H
    have c2b0 : decide (x3_1 < (a0.size : Int)) = false := decide_eq_false c2; clear c2; replace H := Option.bind_eq_some_iff.mp H; obtain ⟨t367, A80, H⟩ := H; (try dsimp -simprocs only at H); have A8 := am A80; clear A80; obtain rfl := Option.some.inj H
    go_wp2_with (first | ((with_reducible refine gate_callee (f := 76) rfl ?_); refine gL (some 22) Try.func76 #[.int .i64 (a0.size : Int), .int .i64 1, .int .i64 12] ?_; (with_reducible refine (spec_l1In.calls (a0.size : Int) 1 12 t367 _ A8.out).mono ?_); rintro e w' ⟨rfl, ⟨nd, rfl⟩⟩; refine ⟨_, rfl, ?_⟩))
    go_ret
    exact ⟨by first | rfl | (simp; done) | (simp [*]; done), by repeat (first | exact Drawn0.refl _ | apply Drawn0.step)⟩

def spec_biKeys.l0 : Nat → List ByteArray → List ByteArray → Int → Int → Option (Bool)
 | 0, _, _, _, _ => none
 | k + 1, x0, x5, x6, x7 => if x7 < x6 then (if 0 ≤ x7 then (if x7 < (x5.length : Int) then ((spec_IsKey.f k (rdOf ByteArray.empty x5 x7)).bind fun t369 => (if t369 = true then (if x7 > 0 then (if 0 ≤ (wrap64 (x7 - 1)) then (if (wrap64 (x7 - 1)) < (x0.length : Int) then (if ((Op.bytesLess ((rdOf ByteArray.empty x0 (wrap64 (x7 - 1))).toList) ((rdOf ByteArray.empty x5 x7).toList)) = true) then (spec_biKeys.l0 k x0 x5 x6 (wrap64 (x7 + 1))) else (some false)) else (none)) else (none)) else (spec_biKeys.l0 k x0 x5 x6 (wrap64 (x7 + 1)))) else (some false))) else (none)) else (none)) else (some (decide ((x0.length : Int) ≤ 40)))
def spec_biKeys.f (k : Nat) (l0 : List ByteArray) : Option (Bool) := spec_biKeys.l0 k l0 l0 (l0.length : Int) 0
theorem spec_biKeys.calls (k : Nat) (A0 : Option Addr) (c0 : Nat) (l0 : List ByteArray) (r : Bool) (w : World) (hr0 : Kd.C Kd.string w A0 l0.length l0) (hc0 : l0.length ≤ c0) (h : spec_biKeys.f k l0 = some r) :
  Calls Try.prog 123 #[.slice A0 l0.length c0] w fun e w' => e = .returned (.bool r) ∧ Drawn0 w w' := by
 have HR0 := am hr0; have HC0 := am hc0; clear hr0 hc0; have H : (spec_biKeys.l0 k l0 l0 (l0.length : Int) 0) = some r := h; clear h; have H' := am H; clear H
 go_enter Try.func123, Try.ntmps123
 go_wp2
 go_loopg [7] k (fun kq v7 w' => ∃ (x7_1 : Int), v7 = .int .i64 x7_1 ∧ Aside0 (spec_biKeys.l0 kq l0 l0 (l0.length : Int) x7_1 = some r) ∧ Aside0 (kq ≤ k) ∧ Drawn0 w w')
 case atStart => exact ⟨(0), wZ, H', ⟨Nat.le_refl _⟩, by repeat (first | exact Drawn0.refl _ | apply Drawn0.step)⟩
 case round =>
  clear H'
  try clear c1
  obtain ⟨x7_1, rfl, HA, HK1, ⟨m1, rfl⟩⟩ := hrel; cases gk with
  | zero => exact absurd HA.out (by simp [spec_biKeys.l0])
  | succ k1 =>
   have H := HA.out; clear HA
   simp only [spec_biKeys.l0] at H
   by_cases c2 : x7_1 < (l0.length : Int)
   ·rw [if_pos c2] at H
    have c2b0 : decide (x7_1 < (l0.length : Int)) = true := decide_eq_true c2; clear c2
    by_cases c3 : 0 ≤ x7_1
    ·rw [if_pos c3] at H
     have c3b0 : decide (0 ≤ x7_1) = true := decide_eq_true c3; clear c3
     by_cases c4 : x7_1 < (l0.length : Int)
     ·rw [if_pos c4] at H
      have c4b0 : decide (x7_1 < (l0.length : Int)) = true := decide_eq_true c4; clear c4; replace H := Option.bind_eq_some_iff.mp H; obtain ⟨t369, A50, H⟩ := H; (try dsimp -simprocs only at H); have A5 := am A50; clear A50
      by_cases c6 : t369 = true
      ·subst c6
       rw [if_pos rfl] at H
       by_cases c7 : x7_1 > 0
       ·rw [if_pos c7] at H
        have c7b0 : decide (0 < x7_1) = true := decide_eq_true c7; clear c7; obtain ⟨ji8, hji8⟩ : ∃ j_ : Int, (wrap64 (x7_1 - 1)) = j_ := ⟨_, rfl⟩
        replace H : (if 0 ≤ (ji8) then (if (ji8) < (l0.length : Int) then (if ((Op.bytesLess ((rdOf ByteArray.empty l0 (ji8)).toList) ((rdOf ByteArray.empty l0 x7_1).toList)) = true) then (spec_biKeys.l0 k1 l0 l0 (l0.length : Int) (wrap64 (x7_1 + 1))) else (some false)) else (none)) else (none)) = some r := by first | (rw [hji8] at H; exact H) | (simp only [hji8] at H ⊢; exact H)
        (try rw [hji8] at A5)
        have hji8w : (IntKind.i64.wrap (x7_1 - 1)) = ji8 := (i64_w _).trans hji8
        by_cases c9 : 0 ≤ (ji8)
        ·rw [if_pos c9] at H
         have c9b0 : decide (0 ≤ (ji8)) = true := decide_eq_true c9; clear c9
         by_cases c10 : (ji8) < (l0.length : Int)
         ·rw [if_pos c10] at H
          have c10b0 : decide ((ji8) < (l0.length : Int)) = true := decide_eq_true c10; clear c10
          by_cases c11 : ((Op.bytesLess ((rdOf ByteArray.empty l0 (ji8)).toList) ((rdOf ByteArray.empty l0 x7_1).toList)) = true)
          ·rw [if_pos c11] at H
           have c11b0 : (Op.bytesLess ((rdOf ByteArray.empty l0 (ji8)).toList) ((rdOf ByteArray.empty l0 x7_1).toList)) = true := c11; clear c11; have H' := am H; clear H; obtain ⟨ad368, e368, hx368_0⟩ := Kd.at_string HR0.out x7_1 dT dT; cases e368; have p368 := eT (0 ≤ (x7_1 : Int)); have q368 := eT (x7_1 < (l0.length : Int))
           go_wp2_with (first | ((with_reducible refine gate_callee (f := 101) rfl ?_); refine gL (some 13) Try.func101 #[.string (rdOf ByteArray.empty l0 x7_1)] ?_; (with_reducible refine (spec_IsKey.calls k1 (rdOf ByteArray.empty l0 x7_1) true _ A5.out).mono ?_); rintro e w' ⟨rfl, ⟨nd, rfl⟩⟩; refine ⟨_, rfl, ?_⟩; have p370 : 0 ≤ ((ji8) : Int) := dT; have q370 : (ji8) < (l0.length : Int) := dT; obtain ⟨ad370, e370, hx370_0⟩ := Kd.at_string HR0.out (ji8) p370 q370; obtain rfl : ad368 = ad370 := (by injection e370); replace p370 := eq_true p370; replace q370 := eq_true q370))
           go_roundg k1
           case measure => have := HK1.out; omega
           case rel => exact ⟨(wrap64 (x7_1 + 1)), wZ, H', ⟨by have := HK1.out; omega⟩, by repeat (first | exact Drawn0.refl _ | apply Drawn0.step)⟩
          ·rw [if_neg c11] at H
           have c11b0 : (Op.bytesLess ((rdOf ByteArray.empty l0 (ji8)).toList) ((rdOf ByteArray.empty l0 x7_1).toList)) = false := by simpa using c11
           clear c11; obtain rfl := Option.some.inj H; obtain ⟨ad368, e368, hx368_0⟩ := Kd.at_string HR0.out x7_1 dT dT; cases e368; have p368 := eT (0 ≤ (x7_1 : Int)); have q368 := eT (x7_1 < (l0.length : Int))
           go_wp2_with (first | ((with_reducible refine gate_callee (f := 101) rfl ?_); refine gL (some 13) Try.func101 #[.string (rdOf ByteArray.empty l0 x7_1)] ?_; (with_reducible refine (spec_IsKey.calls k1 (rdOf ByteArray.empty l0 x7_1) true _ A5.out).mono ?_); rintro e w' ⟨rfl, ⟨nd, rfl⟩⟩; refine ⟨_, rfl, ?_⟩; have p370 : 0 ≤ ((ji8) : Int) := dT; have q370 : (ji8) < (l0.length : Int) := dT; obtain ⟨ad370, e370, hx370_0⟩ := Kd.at_string HR0.out (ji8) p370 q370; obtain rfl : ad368 = ad370 := (by injection e370); replace p370 := eq_true p370; replace q370 := eq_true q370))
           go_ret
           exact ⟨by first | rfl | (simp; done) | (simp only [← hji8] <;> (first | rfl | simp)) | (simp [*]; done), by repeat (first | exact Drawn0.refl _ | apply Drawn0.step)⟩
         ·rw [if_neg c10] at H
          exact absurd H (by simp)
        ·rw [if_neg c9] at H
         exact absurd H (by simp)
       ·rw [if_neg c7] at H
        have c7b0 : decide (0 < x7_1) = false := decide_eq_false c7; clear c7; have H' := am H; clear H; obtain ⟨ad368, e368, hx368_0⟩ := Kd.at_string HR0.out x7_1 dT dT; cases e368; have p368 := eT (0 ≤ (x7_1 : Int)); have q368 := eT (x7_1 < (l0.length : Int))
        go_wp2_with (first | ((with_reducible refine gate_callee (f := 101) rfl ?_); refine gL (some 13) Try.func101 #[.string (rdOf ByteArray.empty l0 x7_1)] ?_; (with_reducible refine (spec_IsKey.calls k1 (rdOf ByteArray.empty l0 x7_1) true _ A5.out).mono ?_); rintro e w' ⟨rfl, ⟨nd, rfl⟩⟩; refine ⟨_, rfl, ?_⟩))
        go_roundg k1
        case measure => have := HK1.out; omega
        case rel => exact ⟨(wrap64 (x7_1 + 1)), wZ, H', ⟨by have := HK1.out; omega⟩, by repeat (first | exact Drawn0.refl _ | apply Drawn0.step)⟩
      ·replace c6 := Bool.eq_false_iff.mpr c6
       subst c6
       rw [if_neg (show ¬ (false = true) by decide)] at H; obtain rfl := Option.some.inj H; obtain ⟨ad368, e368, hx368_0⟩ := Kd.at_string HR0.out x7_1 dT dT; cases e368; have p368 := eT (0 ≤ (x7_1 : Int)); have q368 := eT (x7_1 < (l0.length : Int))
       go_wp2_with (first | ((with_reducible refine gate_callee (f := 101) rfl ?_); refine gL (some 13) Try.func101 #[.string (rdOf ByteArray.empty l0 x7_1)] ?_; (with_reducible refine (spec_IsKey.calls k1 (rdOf ByteArray.empty l0 x7_1) false _ A5.out).mono ?_); rintro e w' ⟨rfl, ⟨nd, rfl⟩⟩; refine ⟨_, rfl, ?_⟩))
       go_ret
       exact ⟨by first | rfl | (simp; done) | (simp [*]; done), by repeat (first | exact Drawn0.refl _ | apply Drawn0.step)⟩
     ·rw [if_neg c4] at H
      exact absurd H (by simp)
    ·rw [if_neg c3] at H
     exact absurd H (by simp)
   ·rw [if_neg c2] at H
    have c2b0 : decide (x7_1 < (l0.length : Int)) = false := decide_eq_false c2; clear c2; obtain rfl := Option.some.inj H
    go_wp2
    go_ret
    exact ⟨by first | rfl | (simp; done) | (simp [*]; done), by repeat (first | exact Drawn0.refl _ | apply Drawn0.step)⟩

def spec_cuKeyed.f (k : Nat) (a0 : Int) (l1 : List ByteArray) (a2 : Int) : Option (Bool) := (spec_cuSize.f a0 a2).bind fun t371 => (if t371 = true then ((spec_biKeys.f k l1).bind fun t372 => (some t372)) else (some false))
theorem spec_cuKeyed.calls (k : Nat) (a0 : Int) (A1 : Option Addr) (c1 : Nat) (l1 : List ByteArray) (a2 : Int) (r : Bool) (w : World) (hr1 : Kd.C Kd.string w A1 l1.length l1) (hc1 : l1.length ≤ c1) (h : spec_cuKeyed.f k a0 l1 a2 = some r) :
  Calls Try.prog 62 #[.int .i64 a0, .slice A1 l1.length c1, .int .i64 a2] w fun e w' => e = .returned (.bool r) ∧ Drawn0 w w' := by
 have HR1 := am hr1; have HC1 := am hc1; clear hr1 hc1; have H : ((spec_cuSize.f a0 a2).bind fun t371 => (if t371 = true then ((spec_biKeys.f k l1).bind fun t372 => (some t372)) else (some false))) = some r := h; clear h; replace H := Option.bind_eq_some_iff.mp H; obtain ⟨t371, A40, H⟩ := H; (try dsimp -simprocs only at H); have A4 := am A40; clear A40
 by_cases c5 : t371 = true
 ·subst c5
  rw [if_pos rfl] at H; replace H := Option.bind_eq_some_iff.mp H; obtain ⟨t372, A60, H⟩ := H; (try dsimp -simprocs only at H); have A6 := am A60; clear A60; obtain rfl := Option.some.inj H
  go_enter Try.func62, Try.ntmps62
  go_wp2_with (first | ((with_reducible refine gate_callee (f := 122) rfl ?_); refine gL (some 9) Try.func122 #[.int .i64 a0, .int .i64 a2] ?_; (with_reducible refine (spec_cuSize.calls a0 a2 true _ A4.out).mono ?_); rintro e w' ⟨rfl, ⟨nd, rfl⟩⟩; refine ⟨_, rfl, ?_⟩) | (go_at_call 123; (with_reducible refine (spec_biKeys.calls k _ _ l1 t372 _ ?side1 ?side2 A6.out).mono ?_); (case side1 => exact Cz HR1.out); (case side2 => exact HC1.out); rintro e w' ⟨rfl, ⟨nd, rfl⟩⟩))
  go_ret
  exact ⟨by first | rfl | (simp; done) | (simp [*]; done), by repeat (first | exact Drawn0.refl _ | apply Drawn0.step)⟩
 ·replace c5 := Bool.eq_false_iff.mpr c5
  subst c5
  rw [if_neg (show ¬ (false = true) by decide)] at H; obtain rfl := Option.some.inj H
  go_enter Try.func62, Try.ntmps62
  go_wp2_with (first | ((with_reducible refine gate_callee (f := 122) rfl ?_); refine gL (some 9) Try.func122 #[.int .i64 a0, .int .i64 a2] ?_; (with_reducible refine (spec_cuSize.calls a0 a2 false _ A4.out).mono ?_); rintro e w' ⟨rfl, ⟨nd, rfl⟩⟩; refine ⟨_, rfl, ?_⟩))
  go_ret
  exact ⟨by first | rfl | (simp; done) | (simp [*]; done), by repeat (first | exact Drawn0.refl _ | apply Drawn0.step)⟩

def spec_l1Has.l0 : Nat → Int → List Int → Int → Int → Option (Bool)
 | 0, _, _, _, _ => none
 | k + 1, x1, x7, x8, x9 => if x9 < x8 then (if 0 ≤ x9 then (if x9 < (x7.length : Int) then (if (rd x7 x9) = x1 then (some true) else (spec_l1Has.l0 k x1 x7 x8 (wrap64 (x9 + 1)))) else (none)) else (none)) else (some false)
def spec_l1Has.f (k : Nat) (l0 : List Int) (a1 : Int) : Option (Bool) := spec_l1Has.l0 k a1 l0 (l0.length : Int) 0
theorem spec_l1Has.calls (k : Nat) (A0 : Option Addr) (c0 : Nat) (l0 : List Int) (a1 : Int) (r : Bool) (w : World) (hr0 : Kd.C (Kd.int .i64) w A0 l0.length l0) (hc0 : l0.length ≤ c0) (h : spec_l1Has.f k l0 a1 = some r) :
  Calls Try.prog 82 #[.slice A0 l0.length c0, .int .i64 a1] w fun e w' => e = .returned (.bool r) ∧ Drawn0 w w' := by
 have HR0 := am hr0; have HC0 := am hc0; clear hr0 hc0; have H : (spec_l1Has.l0 k a1 l0 (l0.length : Int) 0) = some r := h; clear h; have H' := am H; clear H
 go_enter Try.func82, Try.ntmps82
 go_wp2
 go_loopg [9] k (fun kq v9 w' => ∃ (x9_1 : Int), v9 = .int .i64 x9_1 ∧ Aside0 (spec_l1Has.l0 kq a1 l0 (l0.length : Int) x9_1 = some r) ∧ Aside0 (kq ≤ k) ∧ Drawn0 w w')
 case atStart => exact ⟨(0), wZ, H', ⟨Nat.le_refl _⟩, by repeat (first | exact Drawn0.refl _ | apply Drawn0.step)⟩
 case round =>
  clear H'
  try clear p2
  obtain ⟨x9_1, rfl, HA, HK1, ⟨m1, rfl⟩⟩ := hrel; cases gk with
  | zero => exact absurd HA.out (by simp [spec_l1Has.l0])
  | succ k1 =>
   have H := HA.out; clear HA
   simp only [spec_l1Has.l0] at H
   by_cases c3 : x9_1 < (l0.length : Int)
   ·rw [if_pos c3] at H
    have c3b0 : decide (x9_1 < (l0.length : Int)) = true := decide_eq_true c3; clear c3
    by_cases c4 : 0 ≤ x9_1
    ·rw [if_pos c4] at H
     have c4b0 : decide (0 ≤ x9_1) = true := decide_eq_true c4; clear c4
     by_cases c5 : x9_1 < (l0.length : Int)
     ·rw [if_pos c5] at H
      have c5b0 : decide (x9_1 < (l0.length : Int)) = true := decide_eq_true c5; clear c5
      by_cases c6 : (rd l0 x9_1) = a1
      ·rw [if_pos c6] at H
       have c6b0 : ((rd l0 x9_1) == a1) = true := beq_iff_eq.mpr c6; have c6b1 : ((rd l0 x9_1) != a1) = false := bne_eq_false_iff_eq.mpr c6; clear c6; obtain rfl := Option.some.inj H; obtain ⟨ad373, e373, hx373_0⟩ := Kd.at_int HR0.out x9_1 dT dT; cases e373; have p373 := eT (0 ≤ (x9_1 : Int)); have q373 := eT (x9_1 < (l0.length : Int))
       go_wp2
       go_ret
       exact ⟨by first | rfl | (simp; done) | (simp [*]; done), by repeat (first | exact Drawn0.refl _ | apply Drawn0.step)⟩
      ·rw [if_neg c6] at H
       have c6b0 : ((rd l0 x9_1) == a1) = false := beq_eq_false_iff_ne.mpr c6; have c6b1 : ((rd l0 x9_1) != a1) = true := bne_iff_ne.mpr c6; have H' := am H; clear H; obtain ⟨ad373, e373, hx373_0⟩ := Kd.at_int HR0.out x9_1 dT dT; cases e373; have p373 := eT (0 ≤ (x9_1 : Int)); have q373 := eT (x9_1 < (l0.length : Int))
       go_wp2
       go_roundg k1
       case measure => have := HK1.out; omega
       case rel => exact ⟨(wrap64 (x9_1 + 1)), wZ, H', ⟨by have := HK1.out; omega⟩, by repeat (first | exact Drawn0.refl _ | apply Drawn0.step)⟩
     ·rw [if_neg c5] at H
      exact absurd H (by simp)
    ·rw [if_neg c4] at H
     exact absurd H (by simp)
   ·rw [if_neg c3] at H
    have c3b0 : decide (x9_1 < (l0.length : Int)) = false := decide_eq_false c3; clear c3; obtain rfl := Option.some.inj H
    go_wp2
    go_ret
    exact ⟨by first | rfl | (simp; done) | (simp [*]; done), by repeat (first | exact Drawn0.refl _ | apply Drawn0.step)⟩

def spec_l1Put.l0 : Nat → List Int → Int → Int → Option (List Int)
 | 0, _, _, _ => none
 | k + 1, x0, x1, x5 => if x5 < (x0.length : Int) then (if 0 ≤ x5 then (if (rd x0 x5) < x1 then (spec_l1Put.l0 k x0 x1 (wrap64 (x5 + 1))) else (if (rd x0 x5) = x1 then (some x0) else ((some (([] : List Int) : List Int)).bind fun y376 => (if x5 ≤ (x0.length : Int) then ((some (x0.take (x5 : Int).toNat : List Int)).bind fun y379 => (if y376.length + y379.length < 17592186044416 then ((some (y376 ++ y379 : List Int)).bind fun y384 => (if y384.length < 17592186044416 then ((some (y384 ++ [x1] : List Int)).bind fun y387 => ((some (x0.drop (x5 : Int).toNat : List Int)).bind fun y390 => (if y387.length + y390.length < 17592186044416 then (some (y387 ++ y390)) else (none)))) else (none))) else (none))) else (none))))) else (none)) else ((some (([] : List Int) : List Int)).bind fun y398 => (if 0 ≤ x5 then (if x5 ≤ (x0.length : Int) then ((some (x0.take (x5 : Int).toNat : List Int)).bind fun y401 => (if y398.length + y401.length < 17592186044416 then ((some (y398 ++ y401 : List Int)).bind fun y406 => (if y406.length < 17592186044416 then ((some (y406 ++ [x1] : List Int)).bind fun y409 => ((some (x0.drop (x5 : Int).toNat : List Int)).bind fun y412 => (if y409.length + y412.length < 17592186044416 then (some (y409 ++ y412)) else (none)))) else (none))) else (none))) else (none)) else (none)))
def spec_l1Put.f (k : Nat) (l0 : List Int) (a1 : Int) : Option (List Int) := spec_l1Put.l0 k l0 a1 0
theorem spec_l1Put.calls (k : Nat) (P0_ : Nat → Prop) (A0 : Option Addr) (c0 : Nat) (l0 : List Int) (a1 : Int) (r : List Int) (w : World) (hs0 : Kd.V (Kd.int .i64) 3 w w.heap.size (fun k_ => P0_ k_) (.slice A0 l0.length c0) l0) (h : spec_l1Put.f k l0 a1 = some r) :
  Calls Try.prog 134 #[.slice A0 l0.length c0, .int .i64 a1] w fun e w' => ∃ v0_ : Value, e = .returned (v0_) ∧ Kd.V (Kd.int .i64) 3 w' w.heap.size (fun k_ => (P0_ k_ ∨ w.heap.size ≤ k_)) v0_ r ∧ Below w.heap.size w w' := by
 have HO0 := am (show Kd.V (Kd.int .i64) 3 w w.heap.size (fun k_ => (P0_ k_ ∨ w.heap.size ≤ k_)) (.slice A0 l0.length c0) l0 from Kd.V_mono hs0 (fun k_ hk => .inl hk)); have HB := am (Below.refl w.heap.size w); have H : (spec_l1Put.l0 k l0 a1 0) = some r := h; clear h; have H' := am H; clear H
 go_enter Try.func134, Try.ntmps134
 go_wp2
 go_loopg [5] k (fun kq v5 w' => ∃ (x5_1 : Int), v5 = .int .i64 x5_1 ∧ Aside0 (spec_l1Put.l0 kq l0 a1 x5_1 = some r) ∧ Aside0 (kq ≤ k) ∧ Aside0 (Kd.V (Kd.int .i64) 3 w' w.heap.size (fun k_ => (P0_ k_ ∨ w.heap.size ≤ k_)) (.slice A0 l0.length c0) l0) ∧ Aside0 (Below w.heap.size w w'))
 case atStart => exact ⟨(0), wZ, H', ⟨Nat.le_refl _⟩, ⟨by (with_reducible repeat (first | apply Kd.V_alloc | apply Kd.V_drewN | apply Kd.V_drew)); exact HO0.out⟩, ⟨Bz HB.out⟩⟩
 case round =>
  clear H'
  try clear c1
  try clear p2
  obtain ⟨x5_1, rfl, HA, HK1, HO_0, HB⟩ := hrel; cases gk with
  | zero => exact absurd HA.out (by simp [spec_l1Put.l0])
  | succ k1 =>
   have H := HA.out; clear HA
   simp only [spec_l1Put.l0] at H
   by_cases c3 : x5_1 < (l0.length : Int)
   ·rw [if_pos c3] at H
    have c3b0 : decide (x5_1 < (l0.length : Int)) = true := decide_eq_true c3; clear c3
    by_cases c4 : 0 ≤ x5_1
    ·rw [if_pos c4] at H
     have c4b0 : decide (0 ≤ x5_1) = true := decide_eq_true c4; clear c4
     by_cases c5 : (rd l0 x5_1) < a1
     ·rw [if_pos c5] at H
      have c5b0 : decide ((rd l0 x5_1) < a1) = true := decide_eq_true c5; clear c5; have H' := am H; clear H; obtain ⟨ad374, e374, hx374_0⟩ := Kd.at_int (Kd.V_reads' HO_0.out).2.2 x5_1 dT dT; cases e374; have p374 := eT (0 ≤ (x5_1 : Int)); have q374 := eT (x5_1 < (l0.length : Int))
      go_wp2
      go_roundg k1
      case measure => have := HK1.out; omega
      case rel => exact ⟨(wrap64 (x5_1 + 1)), wZ, H', ⟨by have := HK1.out; omega⟩, ⟨by (with_reducible repeat (first | apply Kd.V_alloc | apply Kd.V_drewN | apply Kd.V_drew)); exact HO_0.out⟩, ⟨Bz HB.out⟩⟩
     ·rw [if_neg c5] at H
      have c5b0 : decide ((rd l0 x5_1) < a1) = false := decide_eq_false c5; clear c5
      by_cases c6 : (rd l0 x5_1) = a1
      ·rw [if_pos c6] at H
       have c6b0 : ((rd l0 x5_1) == a1) = true := beq_iff_eq.mpr c6; have c6b1 : ((rd l0 x5_1) != a1) = false := bne_eq_false_iff_eq.mpr c6; clear c6; obtain rfl := Option.some.inj H; obtain ⟨ad374, e374, hx374_0⟩ := Kd.at_int (Kd.V_reads' HO_0.out).2.2 x5_1 dT dT; cases e374; have p374 := eT (0 ≤ (x5_1 : Int)); have q374 := eT (x5_1 < (l0.length : Int)); have p375 : 0 ≤ (x5_1 : Int) := dT; have q375 : x5_1 < (l0.length : Int) := dT; obtain ⟨ad375, e375, hx375_0⟩ := Kd.at_int (Kd.V_reads' HO_0.out).2.2 x5_1 p375 q375; obtain rfl : ad374 = ad375 := (by injection e375); replace p375 := eq_true p375; replace q375 := eq_true q375
       go_wp2
       go_ret
       exact ⟨_, eZ, by (with_reducible repeat (first | apply Kd.V_alloc | apply Kd.V_drewN | apply Kd.V_drew)); exact HO_0.out, Bz HB.out⟩
      ·rw [if_neg c6] at H
       have c6b0 : ((rd l0 x5_1) == a1) = false := beq_eq_false_iff_ne.mpr c6; have c6b1 : ((rd l0 x5_1) != a1) = true := bne_iff_ne.mpr c6; obtain ⟨y376, hy376⟩ : ∃ y_ : List Int, y_ = (([] : List Int)) := ⟨_, rfl⟩
       replace H : (if x5_1 ≤ (l0.length : Int) then ((some (l0.take (x5_1 : Int).toNat : List Int)).bind fun y379 => (if y376.length + y379.length < 17592186044416 then ((some (y376 ++ y379 : List Int)).bind fun y384 => (if y384.length < 17592186044416 then ((some (y384 ++ [a1] : List Int)).bind fun y387 => ((some (l0.drop (x5_1 : Int).toNat : List Int)).bind fun y390 => (if y387.length + y390.length < 17592186044416 then (some (y387 ++ y390)) else (none)))) else (none))) else (none))) else (none)) = some r := by first | (rw [hy376]; with_reducible exact H) | (have H2_ := (Option.bind_some _ _).symm.trans H; rw [hy376]; with_reducible exact H2_) | (have H2_ := (Option.bind_some _ _).symm.trans H; with_reducible exact H2_) | with_reducible exact H | (rw [hy376]; exact H) | exact H
       have Ny376 := am hy376; clear hy376; have c7b0 := eq_true (dT : 0 ≤ x5_1)
       by_cases c8 : x5_1 ≤ (l0.length : Int)
       ·rw [if_pos c8] at H
        have c8b0 := eq_true c8; have c8b1 : decide (x5_1 ≤ (l0.length : Int)) = true := decide_eq_true c8; clear c8; obtain ⟨y379, hy379⟩ : ∃ y_ : List Int, y_ = (l0.take (x5_1 : Int).toNat) := ⟨_, rfl⟩
        replace H : (if y376.length + y379.length < 17592186044416 then ((some (y376 ++ y379 : List Int)).bind fun y384 => (if y384.length < 17592186044416 then ((some (y384 ++ [a1] : List Int)).bind fun y387 => ((some (l0.drop (x5_1 : Int).toNat : List Int)).bind fun y390 => (if y387.length + y390.length < 17592186044416 then (some (y387 ++ y390)) else (none)))) else (none))) else (none)) = some r := by first | (rw [hy379]; with_reducible exact H) | (have H2_ := (Option.bind_some _ _).symm.trans H; rw [hy379]; with_reducible exact H2_) | (have H2_ := (Option.bind_some _ _).symm.trans H; with_reducible exact H2_) | with_reducible exact H | (rw [hy379]; exact H) | exact H
        have Ny379 := am hy379; clear hy379
        by_cases c9 : y376.length + y379.length < 17592186044416
        ·rw [if_pos c9] at H
         have LMc9 := am c9; clear c9; obtain ⟨y384, hy384⟩ : ∃ y_ : List Int, y_ = (y376 ++ y379) := ⟨_, rfl⟩
         replace H : (if y384.length < 17592186044416 then ((some (y384 ++ [a1] : List Int)).bind fun y387 => ((some (l0.drop (x5_1 : Int).toNat : List Int)).bind fun y390 => (if y387.length + y390.length < 17592186044416 then (some (y387 ++ y390)) else (none)))) else (none)) = some r := by first | (rw [hy384]; with_reducible exact H) | (have H2_ := (Option.bind_some _ _).symm.trans H; rw [hy384]; with_reducible exact H2_) | (have H2_ := (Option.bind_some _ _).symm.trans H; with_reducible exact H2_) | with_reducible exact H | (rw [hy384]; exact H) | exact H
         have Ny384 := am hy384; clear hy384
         by_cases c10 : y384.length < 17592186044416
         ·rw [if_pos c10] at H
          have LMc10 := am c10; clear c10; obtain ⟨y387, hy387⟩ : ∃ y_ : List Int, y_ = (y384 ++ [a1]) := ⟨_, rfl⟩
          replace H : ((some (l0.drop (x5_1 : Int).toNat : List Int)).bind fun y390 => (if y387.length + y390.length < 17592186044416 then (some (y387 ++ y390)) else (none))) = some r := by first | (rw [hy387]; with_reducible exact H) | (have H2_ := (Option.bind_some _ _).symm.trans H; rw [hy387]; with_reducible exact H2_) | (have H2_ := (Option.bind_some _ _).symm.trans H; with_reducible exact H2_) | with_reducible exact H | (rw [hy387]; exact H) | exact H
          have Ny387 := am hy387; clear hy387; have c11b0 := eq_true (dT : 0 ≤ x5_1); have c12b0 := eq_true (dT : x5_1 ≤ (l0.length : Int)); obtain ⟨y390, hy390⟩ : ∃ y_ : List Int, y_ = (l0.drop (x5_1 : Int).toNat) := ⟨_, rfl⟩
          replace H : (if y387.length + y390.length < 17592186044416 then (some (y387 ++ y390)) else (none)) = some r := by first | (rw [hy390]; with_reducible exact H) | (have H2_ := (Option.bind_some _ _).symm.trans H; rw [hy390]; with_reducible exact H2_) | (have H2_ := (Option.bind_some _ _).symm.trans H; with_reducible exact H2_) | with_reducible exact H | (rw [hy390]; exact H) | exact H
          have Ny390 := am hy390; clear hy390
          by_cases c13 : y387.length + y390.length < 17592186044416
          ·rw [if_pos c13] at H
           have LMc13 := am c13; clear c13; obtain ⟨y395, hy395⟩ : ∃ y_ : List Int, y_ = (y387 ++ y390) := ⟨_, rfl⟩
           replace H : (some y395) = some r := by first | (rw [hy395]; with_reducible exact H) | (have H2_ := (Option.bind_some _ _).symm.trans H; rw [hy395]; with_reducible exact H2_) | (have H2_ := (Option.bind_some _ _).symm.trans H; with_reducible exact H2_) | with_reducible exact H | (rw [hy395]; exact H) | exact H
           have Ny395 := am hy395; clear hy395; obtain rfl := Option.some.inj H; obtain ⟨ad374, e374, hx374_0⟩ := Kd.at_int (Kd.V_reads' HO_0.out).2.2 x5_1 dT dT; cases e374; have p374 := eT (0 ≤ (x5_1 : Int)); have q374 := eT (x5_1 < (l0.length : Int)); have p375 : 0 ≤ (x5_1 : Int) := dT; have q375 : x5_1 < (l0.length : Int) := dT; obtain ⟨ad375, e375, hx375_0⟩ := Kd.at_int (Kd.V_reads' HO_0.out).2.2 x5_1 p375 q375; obtain rfl : ad374 = ad375 := (by injection e375); replace p375 := eq_true p375; replace q375 := eq_true q375
           go_wp2_with (first | ((with_reducible refine gate_dst (N := 34) rfl ?_); refine Kd.R_lit (Kd.int .i64) _ 3 ?hg (N := 34) ?hd (xs := ([] : List Int)) (inner := []) (ok := fun _ => True) (okp := fun _ => True) ?hr ?hp (fun _ hk => hk) trivial (Below.refl _ _) (Nat.le_refl _) (by simp) ?_; (case hd => rfl); (case hg => rfl); (case hr => first | (go_simp; done) | (go_simp; rfl)); (case hp => exact (Reps.none _ _)); intro v377 w14 ho15 hb hg_ hnew_; clear hg_ hnew_; (first | rw [← Ny376.out] at ho15 | (simp only [Int.reduceToNat] at ho15; rw [← Ny376.out] at ho15)); have n0_ := am (Kd.V_elder' (by (with_reducible repeat (first | apply Kd.V_alloc | apply Kd.V_drewN | apply Kd.V_drew)); exact HO_0.out) (Kd.R_base ho15) hb); have n1_ := Rl (Kd.R_newM (M := fun k_ => (w.heap.size ≤ k_)) ho15 (below_size (Bz HB.out)) (fun k_ h_ => h_)) HB; have n2_ := Bb HB hb; clear HO_0 HB; revert n0_ n1_ n2_; intro HO_0 HO378 HB; clear hb ho15; have q16 : (x5_1 : Int) ≤ ((l0.length : Int) : Int) := dT; obtain ⟨i016, hi016, _, hsz16, _⟩ := info_parts info3; have hroom16 : l0.length ≤ c0 := (Kd.V_reads' HO_0.out).2.1; have hC16 : Kd.F (Kd.int .i64) _ _ (some ad374) l0.length l0 := (Kd.V_at (base := w.heap.size) HO_0.out).2.2; have hcut16 := cut_to (P := Try.prog) 31 3 .i64 Try.underlying31 hi016 (some ad374) l0.length c0 x5_1 (dT) q16 hroom16; have hr16 := Kd.F_take (m := (x5_1 : Int).toNat) hC16 (by omega); have hy16 : y379.length = (x5_1 : Int).toNat := (by rw [Ny379.out, List.length_take]; omega); rw [← Ny379.out] at hr16; rw [← hy16] at hcut16; have HO383 := am (show Kd.V (Kd.int .i64) 3 _ w.heap.size _ (.slice (some ad374) y379.length c0) y379 from Kd.V_mk (by omega) hr16); have HC383 := am (show y379.length ≤ c0 from by omega); clear hr16 hC16 hroom16 hi016 hsz16; have KY16 := am hy16; clear hy16; replace q16 := eq_true q16) | ((with_reducible refine gate_builtin (b := .append) (xs := #[.tmp 34, .tmp 37]) rfl ?_); at_builtin; refine Kd.R_append_rows (Kd.int .i64) (w0 := w) w.heap.size rfl (.tmp 34) (.tmp 37) 31 3 (.int .i64 0) 8 rfl Try.underlying31 info3 rfl (by decide) (by omega) v377 y376 y379 _ _ _ (fun k_ => (w.heap.size ≤ k_)) (fun _ => False) rfl rfl ?aO ?aR (fun _ _ h => h) (fun _ h => h.elim) ?aF ?aB ?aS ?aL ?_; (case aR => repeat (first | exact (Kd.V_reads' HO383.out).2.2 | (with_reducible refine Kd.C_alloc ?_ _) | (with_reducible refine Kd.C_drewN ?_ _) | (with_reducible refine Kd.C_drew ?_))); (case aB => exact (Bz HB.out)); (case aF => exact (fun k_ hk => (Nat.le_trans (below_size (Bz HB.out)) hk))); (case aO => exact (Rz (Kd.R_mono HO378.out (fun _ hk => hk.1)))); (case aS => exact (below_size (Bz HB.out))); (case aL => have := LMc9.out; omega); intro v385 w17 ho hb hg hat; rw [← Ny384.out] at ho; have n0_ := am (Kd.V_afterv (ok := (fun k_ => (P0_ k_ ∨ w.heap.size ≤ k_))) (by (with_reducible repeat (first | apply Kd.V_alloc | apply Kd.V_drewN | apply Kd.V_drew)); exact HO_0.out) hg hat); have n1_ := am (Kd.V_afterv (ok := (fun k_ => (P0_ k_ ∨ w.heap.size ≤ k_))) (by (with_reducible repeat (first | apply Kd.V_alloc | apply Kd.V_drewN | apply Kd.V_drew)); exact HO383.out) hg hat); have n2_ := am (hb); have n3_ := am (ho); clear HO_0 HO383 HB HO378; revert n0_ n1_ n2_ n3_; intro HO_0 HO383 HB HO386; clear ho hb hg hat) | ((with_reducible refine gate_builtin (b := .append) (xs := #[.tmp 39, .tmp 41]) rfl ?_); at_builtin; refine Kd.R_append (Kd.int .i64) (w0 := w) w.heap.size rfl (.tmp 39) (.tmp 41) 31 3 (.int .i64 0) 8 rfl Try.underlying31 info3 rfl (by decide) (by omega) v385 y384 a1 [.int .i64 a1] (fun k_ => (w.heap.size ≤ k_)) (fun _ => False) rfl rfl ?aP (fun _ hk => hk.elim) ?aF ?aO ?aB ?aS ?aL ?_; (case aP => exact rfl); (case aB => exact (Bz HB.out)); (case aF => exact (fun k_ hk => (Nat.le_trans (below_size (Bz HB.out)) hk))); (case aO => exact (Rz HO386.out)); (case aS => exact (below_size (Bz HB.out))); (case aL => have := LMc10.out; omega); intro v388 w18 ho hb hg hat; rw [← Ny387.out] at ho; have n0_ := am (Kd.V_afterv (ok := (fun k_ => (P0_ k_ ∨ w.heap.size ≤ k_))) (by (with_reducible repeat (first | apply Kd.V_alloc | apply Kd.V_drewN | apply Kd.V_drew)); exact HO_0.out) hg hat); have n1_ := am (Kd.V_afterv (ok := (fun k_ => (P0_ k_ ∨ w.heap.size ≤ k_))) (by (with_reducible repeat (first | apply Kd.V_alloc | apply Kd.V_drewN | apply Kd.V_drew)); exact HO383.out) hg hat); have n2_ := am (hb); have n3_ := am (ho); clear HO_0 HO383 HB HO386; revert n0_ n1_ n2_ n3_; intro HO_0 HO383 HB HO389; clear ho hb hg hat; have q19 : (x5_1 : Int) ≤ ((l0.length : Int) : Int) := dT; obtain ⟨i019, hi019, _, hsz19, _⟩ := info_parts info3; have hroom19 : l0.length ≤ c0 := (Kd.V_reads' HO_0.out).2.1; have hC19 : Kd.F (Kd.int .i64) _ _ (some ad374) l0.length l0 := (Kd.V_at (base := w.heap.size) HO_0.out).2.2; have q019 : (0 : Int) ≤ (x5_1 : Int) := dT; have hcut19 := cut_from (P := Try.prog) 31 3 .i64 Try.underlying31 hi019 1 hsz19 (some ad374) l0.length c0 x5_1 q019 q19; have hr19 := Kd.F_cut (m := (x5_1 : Int).toNat) (c := c0) hC19 (by omega) hroom19; obtain ⟨A19, hA19⟩ : ∃ A1, A1 = (if c0 = (x5_1 : Int).toNat then (some ad374) else ((some ad374) : Option Addr).map (·.add ((x5_1 : Int).toNat * 1))) := ⟨_, rfl⟩; obtain ⟨c19, hc19⟩ : ∃ c1, c1 = c0 - (x5_1 : Int).toNat := ⟨_, rfl⟩; have hy19 : y390.length = l0.length - (x5_1 : Int).toNat := (by rw [Ny390.out, List.length_drop] <;> omega); rw [show (l0).drop (x5_1 : Int).toNat = y390 from Ny390.out.symm] at hr19; replace hr19 : Kd.F (Kd.int .i64) _ _ A19 y390.length y390 := (by rw [hA19]; exact hr19); rw [← hy19, ← hA19, ← hc19] at hcut19; have HO394 := am (show Kd.V (Kd.int .i64) 3 _ w.heap.size _ (.slice A19 y390.length c19) y390 from Kd.V_mk (by rw [hy19, hc19]; exact Nat.sub_le_sub_right hroom19 _) hr19); have HC394 := am (show y390.length ≤ c19 from by rw [hy19, hc19]; exact Nat.sub_le_sub_right hroom19 _); clear hr19 hC19 hroom19 hi019 hsz19 hc19; have KY19 := am hy19; have KA19 := am hA19; clear hy19 hA19; replace q19 := eq_true q19) | ((with_reducible refine gate_builtin (b := .append) (xs := #[.tmp 43, .tmp 46]) rfl ?_); at_builtin; refine Kd.R_append_rows (Kd.int .i64) (w0 := w) w.heap.size rfl (.tmp 43) (.tmp 46) 31 3 (.int .i64 0) 8 rfl Try.underlying31 info3 rfl (by decide) (by omega) v388 y387 y390 _ _ _ (fun k_ => (w.heap.size ≤ k_)) (fun _ => False) rfl rfl ?aO ?aR (fun _ _ h => h) (fun _ h => h.elim) ?aF ?aB ?aS ?aL ?_; (case aR => repeat (first | exact (Kd.V_reads' HO394.out).2.2 | (with_reducible refine Kd.C_alloc ?_ _) | (with_reducible refine Kd.C_drewN ?_ _) | (with_reducible refine Kd.C_drew ?_))); (case aB => exact (Bz HB.out)); (case aF => exact (fun k_ hk => (Nat.le_trans (below_size (Bz HB.out)) hk))); (case aO => exact (Rz HO389.out)); (case aS => exact (below_size (Bz HB.out))); (case aL => have := LMc13.out; omega); intro v396 w20 ho hb hg hat; rw [← Ny395.out] at ho; have n0_ := am (Kd.V_afterv (ok := (fun k_ => (P0_ k_ ∨ w.heap.size ≤ k_))) (by (with_reducible repeat (first | apply Kd.V_alloc | apply Kd.V_drewN | apply Kd.V_drew)); exact HO_0.out) hg hat); have n1_ := am (Kd.V_afterv (ok := (fun k_ => (P0_ k_ ∨ w.heap.size ≤ k_))) (by (with_reducible repeat (first | apply Kd.V_alloc | apply Kd.V_drewN | apply Kd.V_drew)); exact HO383.out) hg hat); have n2_ := am (Kd.V_afterv (ok := (fun k_ => (P0_ k_ ∨ w.heap.size ≤ k_))) (by (with_reducible repeat (first | apply Kd.V_alloc | apply Kd.V_drewN | apply Kd.V_drew)); exact HO394.out) hg hat); have n3_ := am (hb); have n4_ := am (ho); clear HO_0 HO383 HO394 HB HO389; revert n0_ n1_ n2_ n3_ n4_; intro HO_0 HO383 HO394 HB HO397; clear ho hb hg hat))
           go_ret
           exact ⟨_, eZ, Kd.V_mono (Kd.R_V (Rz HO397.out)) (fun k_ hk => by first | exact ⟨(.inr (hk.1)), hk.2⟩ | exact (.inr (hk))), Bz HB.out⟩
          ·rw [if_neg c13] at H
           exact absurd H (by simp)
         ·rw [if_neg c10] at H
          exact absurd H (by simp)
        ·rw [if_neg c9] at H
         exact absurd H (by simp)
       ·rw [if_neg c8] at H
        exact absurd H (by simp)
    ·rw [if_neg c4] at H
     exact absurd H (by simp)
   ·rw [if_neg c3] at H
    have c3b0 : decide (x5_1 < (l0.length : Int)) = false := decide_eq_false c3; clear c3; obtain ⟨y398, hy398⟩ : ∃ y_ : List Int, y_ = (([] : List Int)) := ⟨_, rfl⟩
    replace H : (if 0 ≤ x5_1 then (if x5_1 ≤ (l0.length : Int) then ((some (l0.take (x5_1 : Int).toNat : List Int)).bind fun y401 => (if y398.length + y401.length < 17592186044416 then ((some (y398 ++ y401 : List Int)).bind fun y406 => (if y406.length < 17592186044416 then ((some (y406 ++ [a1] : List Int)).bind fun y409 => ((some (l0.drop (x5_1 : Int).toNat : List Int)).bind fun y412 => (if y409.length + y412.length < 17592186044416 then (some (y409 ++ y412)) else (none)))) else (none))) else (none))) else (none)) else (none)) = some r := by first | (rw [hy398]; with_reducible exact H) | (have H2_ := (Option.bind_some _ _).symm.trans H; rw [hy398]; with_reducible exact H2_) | (have H2_ := (Option.bind_some _ _).symm.trans H; with_reducible exact H2_) | with_reducible exact H | (rw [hy398]; exact H) | exact H
    have Ny398 := am hy398; clear hy398
    by_cases c21 : 0 ≤ x5_1
    ·rw [if_pos c21] at H
     have c21b0 := eq_true c21; have c21b1 : decide (0 ≤ x5_1) = true := decide_eq_true c21; clear c21
     by_cases c22 : x5_1 ≤ (l0.length : Int)
     ·rw [if_pos c22] at H
      have c22b0 := eq_true c22; have c22b1 : decide (x5_1 ≤ (l0.length : Int)) = true := decide_eq_true c22; clear c22; obtain ⟨y401, hy401⟩ : ∃ y_ : List Int, y_ = (l0.take (x5_1 : Int).toNat) := ⟨_, rfl⟩
      replace H : (if y398.length + y401.length < 17592186044416 then ((some (y398 ++ y401 : List Int)).bind fun y406 => (if y406.length < 17592186044416 then ((some (y406 ++ [a1] : List Int)).bind fun y409 => ((some (l0.drop (x5_1 : Int).toNat : List Int)).bind fun y412 => (if y409.length + y412.length < 17592186044416 then (some (y409 ++ y412)) else (none)))) else (none))) else (none)) = some r := by first | (rw [hy401]; with_reducible exact H) | (have H2_ := (Option.bind_some _ _).symm.trans H; rw [hy401]; with_reducible exact H2_) | (have H2_ := (Option.bind_some _ _).symm.trans H; with_reducible exact H2_) | with_reducible exact H | (rw [hy401]; exact H) | exact H
      have Ny401 := am hy401; clear hy401
      by_cases c23 : y398.length + y401.length < 17592186044416
      ·rw [if_pos c23] at H
       have LMc23 := am c23; clear c23; obtain ⟨y406, hy406⟩ : ∃ y_ : List Int, y_ = (y398 ++ y401) := ⟨_, rfl⟩
       replace H : (if y406.length < 17592186044416 then ((some (y406 ++ [a1] : List Int)).bind fun y409 => ((some (l0.drop (x5_1 : Int).toNat : List Int)).bind fun y412 => (if y409.length + y412.length < 17592186044416 then (some (y409 ++ y412)) else (none)))) else (none)) = some r := by first | (rw [hy406]; with_reducible exact H) | (have H2_ := (Option.bind_some _ _).symm.trans H; rw [hy406]; with_reducible exact H2_) | (have H2_ := (Option.bind_some _ _).symm.trans H; with_reducible exact H2_) | with_reducible exact H | (rw [hy406]; exact H) | exact H
       have Ny406 := am hy406; clear hy406
       by_cases c24 : y406.length < 17592186044416
       ·rw [if_pos c24] at H
        have LMc24 := am c24; clear c24; obtain ⟨y409, hy409⟩ : ∃ y_ : List Int, y_ = (y406 ++ [a1]) := ⟨_, rfl⟩
        replace H : ((some (l0.drop (x5_1 : Int).toNat : List Int)).bind fun y412 => (if y409.length + y412.length < 17592186044416 then (some (y409 ++ y412)) else (none))) = some r := by first | (rw [hy409]; with_reducible exact H) | (have H2_ := (Option.bind_some _ _).symm.trans H; rw [hy409]; with_reducible exact H2_) | (have H2_ := (Option.bind_some _ _).symm.trans H; with_reducible exact H2_) | with_reducible exact H | (rw [hy409]; exact H) | exact H
        have Ny409 := am hy409; clear hy409; have c25b0 := eq_true (dT : 0 ≤ x5_1); have c26b0 := eq_true (dT : x5_1 ≤ (l0.length : Int)); obtain ⟨y412, hy412⟩ : ∃ y_ : List Int, y_ = (l0.drop (x5_1 : Int).toNat) := ⟨_, rfl⟩
        replace H : (if y409.length + y412.length < 17592186044416 then (some (y409 ++ y412)) else (none)) = some r := by first | (rw [hy412]; with_reducible exact H) | (have H2_ := (Option.bind_some _ _).symm.trans H; rw [hy412]; with_reducible exact H2_) | (have H2_ := (Option.bind_some _ _).symm.trans H; with_reducible exact H2_) | with_reducible exact H | (rw [hy412]; exact H) | exact H
        have Ny412 := am hy412; clear hy412
        by_cases c27 : y409.length + y412.length < 17592186044416
        ·rw [if_pos c27] at H
         have LMc27 := am c27; clear c27; obtain ⟨y417, hy417⟩ : ∃ y_ : List Int, y_ = (y409 ++ y412) := ⟨_, rfl⟩
         replace H : (some y417) = some r := by first | (rw [hy417]; with_reducible exact H) | (have H2_ := (Option.bind_some _ _).symm.trans H; rw [hy417]; with_reducible exact H2_) | (have H2_ := (Option.bind_some _ _).symm.trans H; with_reducible exact H2_) | with_reducible exact H | (rw [hy417]; exact H) | exact H
         have Ny417 := am hy417; clear hy417; obtain rfl := Option.some.inj H
         go_wp2_with (first | ((with_reducible refine gate_dst (N := 34) rfl ?_); refine Kd.R_lit (Kd.int .i64) _ 3 ?hg (N := 34) ?hd (xs := ([] : List Int)) (inner := []) (ok := fun _ => True) (okp := fun _ => True) ?hr ?hp (fun _ hk => hk) trivial (Below.refl _ _) (Nat.le_refl _) (by simp) ?_; (case hd => rfl); (case hg => rfl); (case hr => first | (go_simp; done) | (go_simp; rfl)); (case hp => exact (Reps.none _ _)); intro v399 w28 ho29 hb hg_ hnew_; clear hg_ hnew_; (first | rw [← Ny398.out] at ho29 | (simp only [Int.reduceToNat] at ho29; rw [← Ny398.out] at ho29)); have n0_ := am (Kd.V_elder' (by (with_reducible repeat (first | apply Kd.V_alloc | apply Kd.V_drewN | apply Kd.V_drew)); exact HO_0.out) (Kd.R_base ho29) hb); have n1_ := Rl (Kd.R_newM (M := fun k_ => (w.heap.size ≤ k_)) ho29 (below_size (Bz HB.out)) (fun k_ h_ => h_)) HB; have n2_ := Bb HB hb; clear HO_0 HB; revert n0_ n1_ n2_; intro HO_0 HO400 HB; clear hb ho29; have q30 : (x5_1 : Int) ≤ ((l0.length : Int) : Int) := dT; obtain ⟨i030, hi030, _, hsz30, _⟩ := info_parts info3; have hroom30 : l0.length ≤ c0 := (Kd.V_reads' HO_0.out).2.1; have hC30 : Kd.F (Kd.int .i64) _ _ A0 l0.length l0 := (Kd.V_at (base := w.heap.size) HO_0.out).2.2; have hcut30 := cut_to (P := Try.prog) 31 3 .i64 Try.underlying31 hi030 A0 l0.length c0 x5_1 (dT) q30 hroom30; have hr30 := Kd.F_take (m := (x5_1 : Int).toNat) hC30 (by omega); have hy30 : y401.length = (x5_1 : Int).toNat := (by rw [Ny401.out, List.length_take]; omega); rw [← Ny401.out] at hr30; rw [← hy30] at hcut30; have HO405 := am (show Kd.V (Kd.int .i64) 3 _ w.heap.size _ (.slice A0 y401.length c0) y401 from Kd.V_mk (by omega) hr30); have HC405 := am (show y401.length ≤ c0 from by omega); clear hr30 hC30 hroom30 hi030 hsz30; have KY30 := am hy30; clear hy30; replace q30 := eq_true q30) | ((with_reducible refine gate_builtin (b := .append) (xs := #[.tmp 34, .tmp 37]) rfl ?_); at_builtin; refine Kd.R_append_rows (Kd.int .i64) (w0 := w) w.heap.size rfl (.tmp 34) (.tmp 37) 31 3 (.int .i64 0) 8 rfl Try.underlying31 info3 rfl (by decide) (by omega) v399 y398 y401 _ _ _ (fun k_ => (w.heap.size ≤ k_)) (fun _ => False) rfl rfl ?aO ?aR (fun _ _ h => h) (fun _ h => h.elim) ?aF ?aB ?aS ?aL ?_; (case aR => repeat (first | exact (Kd.V_reads' HO405.out).2.2 | (with_reducible refine Kd.C_alloc ?_ _) | (with_reducible refine Kd.C_drewN ?_ _) | (with_reducible refine Kd.C_drew ?_))); (case aB => exact (Bz HB.out)); (case aF => exact (fun k_ hk => (Nat.le_trans (below_size (Bz HB.out)) hk))); (case aO => exact (Rz (Kd.R_mono HO400.out (fun _ hk => hk.1)))); (case aS => exact (below_size (Bz HB.out))); (case aL => have := LMc23.out; omega); intro v407 w31 ho hb hg hat; rw [← Ny406.out] at ho; have n0_ := am (Kd.V_afterv (ok := (fun k_ => (P0_ k_ ∨ w.heap.size ≤ k_))) (by (with_reducible repeat (first | apply Kd.V_alloc | apply Kd.V_drewN | apply Kd.V_drew)); exact HO_0.out) hg hat); have n1_ := am (Kd.V_afterv (ok := (fun k_ => (P0_ k_ ∨ w.heap.size ≤ k_))) (by (with_reducible repeat (first | apply Kd.V_alloc | apply Kd.V_drewN | apply Kd.V_drew)); exact HO405.out) hg hat); have n2_ := am (hb); have n3_ := am (ho); clear HO_0 HO405 HB HO400; revert n0_ n1_ n2_ n3_; intro HO_0 HO405 HB HO408; clear ho hb hg hat) | ((with_reducible refine gate_builtin (b := .append) (xs := #[.tmp 39, .tmp 41]) rfl ?_); at_builtin; refine Kd.R_append (Kd.int .i64) (w0 := w) w.heap.size rfl (.tmp 39) (.tmp 41) 31 3 (.int .i64 0) 8 rfl Try.underlying31 info3 rfl (by decide) (by omega) v407 y406 a1 [.int .i64 a1] (fun k_ => (w.heap.size ≤ k_)) (fun _ => False) rfl rfl ?aP (fun _ hk => hk.elim) ?aF ?aO ?aB ?aS ?aL ?_; (case aP => exact rfl); (case aB => exact (Bz HB.out)); (case aF => exact (fun k_ hk => (Nat.le_trans (below_size (Bz HB.out)) hk))); (case aO => exact (Rz HO408.out)); (case aS => exact (below_size (Bz HB.out))); (case aL => have := LMc24.out; omega); intro v410 w32 ho hb hg hat; rw [← Ny409.out] at ho; have n0_ := am (Kd.V_afterv (ok := (fun k_ => (P0_ k_ ∨ w.heap.size ≤ k_))) (by (with_reducible repeat (first | apply Kd.V_alloc | apply Kd.V_drewN | apply Kd.V_drew)); exact HO_0.out) hg hat); have n1_ := am (Kd.V_afterv (ok := (fun k_ => (P0_ k_ ∨ w.heap.size ≤ k_))) (by (with_reducible repeat (first | apply Kd.V_alloc | apply Kd.V_drewN | apply Kd.V_drew)); exact HO405.out) hg hat); have n2_ := am (hb); have n3_ := am (ho); clear HO_0 HO405 HB HO408; revert n0_ n1_ n2_ n3_; intro HO_0 HO405 HB HO411; clear ho hb hg hat; have q33 : (x5_1 : Int) ≤ ((l0.length : Int) : Int) := dT; obtain ⟨i033, hi033, _, hsz33, _⟩ := info_parts info3; have hroom33 : l0.length ≤ c0 := (Kd.V_reads' HO_0.out).2.1; have hC33 : Kd.F (Kd.int .i64) _ _ A0 l0.length l0 := (Kd.V_at (base := w.heap.size) HO_0.out).2.2; have q033 : (0 : Int) ≤ (x5_1 : Int) := dT; have hcut33 := cut_from (P := Try.prog) 31 3 .i64 Try.underlying31 hi033 1 hsz33 A0 l0.length c0 x5_1 q033 q33; have hr33 := Kd.F_cut (m := (x5_1 : Int).toNat) (c := c0) hC33 (by omega) hroom33; obtain ⟨A33, hA33⟩ : ∃ A1, A1 = (if c0 = (x5_1 : Int).toNat then A0 else (A0 : Option Addr).map (·.add ((x5_1 : Int).toNat * 1))) := ⟨_, rfl⟩; obtain ⟨c33, hc33⟩ : ∃ c1, c1 = c0 - (x5_1 : Int).toNat := ⟨_, rfl⟩; have hy33 : y412.length = l0.length - (x5_1 : Int).toNat := (by rw [Ny412.out, List.length_drop] <;> omega); rw [show (l0).drop (x5_1 : Int).toNat = y412 from Ny412.out.symm] at hr33; replace hr33 : Kd.F (Kd.int .i64) _ _ A33 y412.length y412 := (by rw [hA33]; exact hr33); rw [← hy33, ← hA33, ← hc33] at hcut33; have HO416 := am (show Kd.V (Kd.int .i64) 3 _ w.heap.size _ (.slice A33 y412.length c33) y412 from Kd.V_mk (by rw [hy33, hc33]; exact Nat.sub_le_sub_right hroom33 _) hr33); have HC416 := am (show y412.length ≤ c33 from by rw [hy33, hc33]; exact Nat.sub_le_sub_right hroom33 _); clear hr33 hC33 hroom33 hi033 hsz33 hc33; have KY33 := am hy33; have KA33 := am hA33; clear hy33 hA33; replace q33 := eq_true q33) | ((with_reducible refine gate_builtin (b := .append) (xs := #[.tmp 43, .tmp 46]) rfl ?_); at_builtin; refine Kd.R_append_rows (Kd.int .i64) (w0 := w) w.heap.size rfl (.tmp 43) (.tmp 46) 31 3 (.int .i64 0) 8 rfl Try.underlying31 info3 rfl (by decide) (by omega) v410 y409 y412 _ _ _ (fun k_ => (w.heap.size ≤ k_)) (fun _ => False) rfl rfl ?aO ?aR (fun _ _ h => h) (fun _ h => h.elim) ?aF ?aB ?aS ?aL ?_; (case aR => repeat (first | exact (Kd.V_reads' HO416.out).2.2 | (with_reducible refine Kd.C_alloc ?_ _) | (with_reducible refine Kd.C_drewN ?_ _) | (with_reducible refine Kd.C_drew ?_))); (case aB => exact (Bz HB.out)); (case aF => exact (fun k_ hk => (Nat.le_trans (below_size (Bz HB.out)) hk))); (case aO => exact (Rz HO411.out)); (case aS => exact (below_size (Bz HB.out))); (case aL => have := LMc27.out; omega); intro v418 w34 ho hb hg hat; rw [← Ny417.out] at ho; have n0_ := am (Kd.V_afterv (ok := (fun k_ => (P0_ k_ ∨ w.heap.size ≤ k_))) (by (with_reducible repeat (first | apply Kd.V_alloc | apply Kd.V_drewN | apply Kd.V_drew)); exact HO_0.out) hg hat); have n1_ := am (Kd.V_afterv (ok := (fun k_ => (P0_ k_ ∨ w.heap.size ≤ k_))) (by (with_reducible repeat (first | apply Kd.V_alloc | apply Kd.V_drewN | apply Kd.V_drew)); exact HO405.out) hg hat); have n2_ := am (Kd.V_afterv (ok := (fun k_ => (P0_ k_ ∨ w.heap.size ≤ k_))) (by (with_reducible repeat (first | apply Kd.V_alloc | apply Kd.V_drewN | apply Kd.V_drew)); exact HO416.out) hg hat); have n3_ := am (hb); have n4_ := am (ho); clear HO_0 HO405 HO416 HB HO411; revert n0_ n1_ n2_ n3_ n4_; intro HO_0 HO405 HO416 HB HO419; clear ho hb hg hat))
         go_ret
         exact ⟨_, eZ, Kd.V_mono (Kd.R_V (Rz HO419.out)) (fun k_ hk => by first | exact ⟨(.inr (hk.1)), hk.2⟩ | exact (.inr (hk))), Bz HB.out⟩
        ·rw [if_neg c27] at H
         exact absurd H (by simp)
       ·rw [if_neg c24] at H
        exact absurd H (by simp)
      ·rw [if_neg c23] at H
       exact absurd H (by simp)
     ·rw [if_neg c22] at H
      exact absurd H (by simp)
    ·rw [if_neg c21] at H
     exact absurd H (by simp)

end Go.Proofs.Ytephjmmkggcmeaa.PG
