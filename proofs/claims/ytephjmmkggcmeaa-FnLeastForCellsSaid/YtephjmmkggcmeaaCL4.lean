import Derived.Test.YtephjmmkggcmeaaCL1
import Derived.Test.YtephjmmkggcmeaaCL3
-- printed by a program of this session (wip/gp) out of the translation; Lean checks it
namespace Go.Proofs.Ytephjmmkggcmeaa.PL
open Go.RowKit Go.Proofs.YtephjmmkggcmeaaW.PrintWords Go.Proofs.YtephjmmkggcmeaaW.PrintLast Go.Proofs.YtephjmmkggcmeaaW.PrintMore Go.Proofs.YtephjmmkggcmeaaSq
attribute [local go_sem] max2_int min2_int max_two min_two max_three min_three max_four min_four   -- for this text's walks alone
attribute [local go_sem] Go.Proofs.YtephjmmkggcmeaaGp.str_geq Go.Proofs.YtephjmmkggcmeaaGp.str_gtr Go.Proofs.YtephjmmkggcmeaaGp.str_leq
set_option linter.unusedVariables false
set_option linter.unusedSimpArgs false

set_option maxHeartbeats 8000000
set_option maxRecDepth 100000
def spec_IsKey.l0 : Nat → ByteArray → Int → Option (Bool)
 | 0, _, _ => none
 | k + 1, x0, x3 => if x3 < (x0.size : Int) then (if 0 ≤ x3 then (if (bt x0 x3) < 33 then (some false) else (if (bt x0 x3) > 125 then (some false) else (spec_IsKey.l0 k x0 (wrap64 (x3 + 1))))) else (none)) else ((spec_l1In.f (x0.size : Int) 1 12).bind fun t399 => (some t399))
def spec_IsKey.f (k : Nat) (a0 : ByteArray) : Option (Bool) := spec_IsKey.l0 k a0 0
theorem spec_IsKey.calls (k : Nat) (a0 : ByteArray) (r : Bool) (w : World) (h : spec_IsKey.f k a0 = some r) :
  Calls Try.prog 101 #[.string a0] w fun e w' => e = .returned (.bool r) ∧ Drawn0 w w' := by
 have H : (spec_IsKey.l0 k a0 0) = some r := h; clear h; have H' := am H; clear H
 go_enter Try.func101, Try.ntmps101
 go_wp2
 go_loopg [3] k (fun kq v3 w' => ∃ (x3_1 : Int), v3 = .int .i64 x3_1 ∧ Aside0 (spec_IsKey.l0 kq a0 x3_1 = some r) ∧ Aside0 (kq ≤ k) ∧ Drawn0 w w')
 case atStart => exact ⟨(0), wZ, H', ⟨Nat.le_refl _⟩, by repeat (first | exact Drawn0.refl _ | apply Drawn0.step)⟩
 case round =>
  clear H'
  try clear c1
  obtain ⟨x3_1, rfl, HA, HK1, ⟨m1, rfl⟩⟩ := hrel; cases gk with
  | zero => exact absurd HA.out (by simp [spec_IsKey.l0])
  | succ k1 =>
   have H := HA.out; clear HA
   simp only [spec_IsKey.l0] at H
   by_cases c2 : x3_1 < (a0.size : Int)
   ·rw [if_pos c2] at H
    have c2b0 : decide (x3_1 < (a0.size : Int)) = true := decide_eq_true c2; clear c2
    by_cases c3 : 0 ≤ x3_1
    ·rw [if_pos c3] at H
     have c3b0 : decide (0 ≤ x3_1) = true := decide_eq_true c3; clear c3
     by_cases c5 : (bt a0 x3_1) < 33
     ·rw [if_pos c5] at H
      have c5b0 : decide ((bt a0 x3_1) < 33) = true := decide_eq_true c5; clear c5; obtain rfl := Option.some.inj H; have p4 : 0 ≤ (x3_1 : Int) := dT; have q4 : x3_1 < (a0.size : Int) := dT; have hx4 := bt_at a0 x3_1; replace p4 := eq_true p4; replace q4 := eq_true q4
      go_wp2
      go_ret
      exact ⟨by first | rfl | (simp; done) | (simp [*]; done), by repeat (first | exact Drawn0.refl _ | apply Drawn0.step)⟩
     ·rw [if_neg c5] at H
      have c5b0 : decide ((bt a0 x3_1) < 33) = false := decide_eq_false c5; clear c5
      by_cases c7 : (bt a0 x3_1) > 125
      ·rw [if_pos c7] at H
       have c7b0 : decide (125 < (bt a0 x3_1)) = true := decide_eq_true c7; clear c7; obtain rfl := Option.some.inj H; have p4 : 0 ≤ (x3_1 : Int) := dT; have q4 : x3_1 < (a0.size : Int) := dT; have hx4 := bt_at a0 x3_1; replace p4 := eq_true p4; replace q4 := eq_true q4; have p6 : 0 ≤ (x3_1 : Int) := dT; have q6 : x3_1 < (a0.size : Int) := dT; have hx6 := bt_at a0 x3_1; replace p6 := eq_true p6; replace q6 := eq_true q6
       go_wp2
       go_ret
       exact ⟨by first | rfl | (simp; done) | (simp [*]; done), by repeat (first | exact Drawn0.refl _ | apply Drawn0.step)⟩
      ·rw [if_neg c7] at H
       have c7b0 : decide (125 < (bt a0 x3_1)) = false := decide_eq_false c7; clear c7; have H' := am H; clear H; have p4 : 0 ≤ (x3_1 : Int) := dT; have q4 : x3_1 < (a0.size : Int) := dT; have hx4 := bt_at a0 x3_1; replace p4 := eq_true p4; replace q4 := eq_true q4; have p6 : 0 ≤ (x3_1 : Int) := dT; have q6 : x3_1 < (a0.size : Int) := dT; have hx6 := bt_at a0 x3_1; replace p6 := eq_true p6; replace q6 := eq_true q6
       go_wp2
       go_roundg k1
       case measure => have := HK1.out; omega
       case rel => exact ⟨(wrap64 (x3_1 + 1)), wZ, H', ⟨by have := HK1.out; omega⟩, by repeat (first | exact Drawn0.refl _ | apply Drawn0.step)⟩
    ·rw [if_neg c3] at H
     exact absurd H (by simp)
   ·rw [if_neg c2] at H
    have c2b0 : decide (x3_1 < (a0.size : Int)) = false := decide_eq_false c2; clear c2; replace H := Option.bind_eq_some_iff.mp H; obtain ⟨t399, A80, H⟩ := H; (try dsimp -simprocs only at H); have A8 := am A80; clear A80; obtain rfl := Option.some.inj H
    go_wp2_with (first | ((with_reducible refine gate_callee (f := 76) rfl ?_); refine gL (some 22) Try.func76 #[.int .i64 (a0.size : Int), .int .i64 1, .int .i64 12] ?_; (with_reducible refine (spec_l1In.calls (a0.size : Int) 1 12 t399 _ A8.out).mono ?_); rintro e w' ⟨rfl, ⟨nd, rfl⟩⟩; refine ⟨_, rfl, ?_⟩))
    go_ret
    exact ⟨by first | rfl | (simp; done) | (simp [*]; done), by repeat (first | exact Drawn0.refl _ | apply Drawn0.step)⟩

def spec_biKeys.l0 : Nat → List ByteArray → List ByteArray → Int → Int → Option (Bool)
 | 0, _, _, _, _ => none
 | k + 1, x0, x5, x6, x7 => if x7 < x6 then (if 0 ≤ x7 then (if x7 < (x5.length : Int) then ((spec_IsKey.f k (rdOf ByteArray.empty x5 x7)).bind fun t401 => (if t401 = true then (if x7 > 0 then (if 0 ≤ (wrap64 (x7 - 1)) then (if (wrap64 (x7 - 1)) < (x0.length : Int) then (if ((Op.bytesLess ((rdOf ByteArray.empty x0 (wrap64 (x7 - 1))).toList) ((rdOf ByteArray.empty x5 x7).toList)) = true) then (spec_biKeys.l0 k x0 x5 x6 (wrap64 (x7 + 1))) else (some false)) else (none)) else (none)) else (spec_biKeys.l0 k x0 x5 x6 (wrap64 (x7 + 1)))) else (some false))) else (none)) else (none)) else (some (decide ((x0.length : Int) ≤ 40)))
def spec_biKeys.f (k : Nat) (l0 : List ByteArray) : Option (Bool) := spec_biKeys.l0 k l0 l0 (l0.length : Int) 0
theorem spec_biKeys.calls (k : Nat) (A0 : Option Addr) (c0 : Nat) (l0 : List ByteArray) (r : Bool) (w : World) (hr0 : Kd.C Kd.string w A0 l0.length l0) (hc0 : l0.length ≤ c0) (h : spec_biKeys.f k l0 = some r) :
  Calls Try.prog 123 #[.slice A0 l0.length c0] w fun e w' => e = .returned (.bool r) ∧ Drawn0 w w' := by
 have HR0 := am hr0; have HC0 := am hc0; clear hr0 hc0; have H : (spec_biKeys.l0 k l0 l0 (l0.length : Int) 0) = some r := h; clear h; have H' := am H; clear H
 go_enter Try.func123, Try.ntmps123
 go_wp2
 go_loopg [7] k (fun kq v7 w' => ∃ (x7_1 : Int), v7 = .int .i64 x7_1 ∧ Aside0 (spec_biKeys.l0 kq l0 l0 (l0.length : Int) x7_1 = some r) ∧ Aside0 (kq ≤ k) ∧ Drawn0 w w')
 case atStart => exact ⟨(0), wZ, H', ⟨Nat.le_refl _⟩, by repeat (first | exact Drawn0.refl _ | apply Drawn0.step)⟩
 case round =>
  clear H'
  try clear c1
  obtain ⟨x7_1, rfl, HA, HK1, ⟨m1, rfl⟩⟩ := hrel; cases gk with
  | zero => exact absurd HA.out (by simp [spec_biKeys.l0])
  | succ k1 =>
   have H := HA.out; clear HA
   simp only [spec_biKeys.l0] at H
   by_cases c2 : x7_1 < (l0.length : Int)
   ·rw [if_pos c2] at H
    have c2b0 : decide (x7_1 < (l0.length : Int)) = true := decide_eq_true c2; clear c2
    by_cases c3 : 0 ≤ x7_1
    ·rw [if_pos c3] at H
     have c3b0 : decide (0 ≤ x7_1) = true := decide_eq_true c3; clear c3
     by_cases c4 : x7_1 < (l0.length : Int)
     ·rw [if_pos c4] at H
      have c4b0 : decide (x7_1 < (l0.length : Int)) = true := decide_eq_true c4; clear c4; replace H := Option.bind_eq_some_iff.mp H; obtain ⟨t401, A50, H⟩ := H; (try dsimp -simprocs only at H); have A5 := am A50; clear A50
      by_cases c6 : t401 = true
      ·subst c6
       rw [if_pos rfl] at H
       by_cases c7 : x7_1 > 0
       ·rw [if_pos c7] at H
        have c7b0 : decide (0 < x7_1) = true := decide_eq_true c7; clear c7; obtain ⟨ji8, hji8⟩ : ∃ j_ : Int, (wrap64 (x7_1 - 1)) = j_ := ⟨_, rfl⟩
        replace H : (if 0 ≤ (ji8) then (if (ji8) < (l0.length : Int) then (if ((Op.bytesLess ((rdOf ByteArray.empty l0 (ji8)).toList) ((rdOf ByteArray.empty l0 x7_1).toList)) = true) then (spec_biKeys.l0 k1 l0 l0 (l0.length : Int) (wrap64 (x7_1 + 1))) else (some false)) else (none)) else (none)) = some r := by first | (rw [hji8] at H; exact H) | (simp only [hji8] at H ⊢; exact H)
        (try rw [hji8] at A5)
        have hji8w : (IntKind.i64.wrap (x7_1 - 1)) = ji8 := (i64_w _).trans hji8
        by_cases c9 : 0 ≤ (ji8)
        ·rw [if_pos c9] at H
         have c9b0 : decide (0 ≤ (ji8)) = true := decide_eq_true c9; clear c9
         by_cases c10 : (ji8) < (l0.length : Int)
         ·rw [if_pos c10] at H
          have c10b0 : decide ((ji8) < (l0.length : Int)) = true := decide_eq_true c10; clear c10
          by_cases c11 : ((Op.bytesLess ((rdOf ByteArray.empty l0 (ji8)).toList) ((rdOf ByteArray.empty l0 x7_1).toList)) = true)
          ·rw [if_pos c11] at H
           have c11b0 : (Op.bytesLess ((rdOf ByteArray.empty l0 (ji8)).toList) ((rdOf ByteArray.empty l0 x7_1).toList)) = true := c11; clear c11; have H' := am H; clear H; obtain ⟨ad400, e400, hx400_0⟩ := Kd.at_string HR0.out x7_1 dT dT; cases e400; have p400 := eT (0 ≤ (x7_1 : Int)); have q400 := eT (x7_1 < (l0.length : Int))
           go_wp2_with (first | ((with_reducible refine gate_callee (f := 101) rfl ?_); refine gL (some 13) Try.func101 #[.string (rdOf ByteArray.empty l0 x7_1)] ?_; (with_reducible refine (spec_IsKey.calls k1 (rdOf ByteArray.empty l0 x7_1) true _ A5.out).mono ?_); rintro e w' ⟨rfl, ⟨nd, rfl⟩⟩; refine ⟨_, rfl, ?_⟩; have p402 : 0 ≤ ((ji8) : Int) := dT; have q402 : (ji8) < (l0.length : Int) := dT; obtain ⟨ad402, e402, hx402_0⟩ := Kd.at_string HR0.out (ji8) p402 q402; obtain rfl : ad400 = ad402 := (by injection e402); replace p402 := eq_true p402; replace q402 := eq_true q402))
           go_roundg k1
           case measure => have := HK1.out; omega
           case rel => exact ⟨(wrap64 (x7_1 + 1)), wZ, H', ⟨by have := HK1.out; omega⟩, by repeat (first | exact Drawn0.refl _ | apply Drawn0.step)⟩
          ·rw [if_neg c11] at H
           have c11b0 : (Op.bytesLess ((rdOf ByteArray.empty l0 (ji8)).toList) ((rdOf ByteArray.empty l0 x7_1).toList)) = false := by simpa using c11
           clear c11; obtain rfl := Option.some.inj H; obtain ⟨ad400, e400, hx400_0⟩ := Kd.at_string HR0.out x7_1 dT dT; cases e400; have p400 := eT (0 ≤ (x7_1 : Int)); have q400 := eT (x7_1 < (l0.length : Int))
           go_wp2_with (first | ((with_reducible refine gate_callee (f := 101) rfl ?_); refine gL (some 13) Try.func101 #[.string (rdOf ByteArray.empty l0 x7_1)] ?_; (with_reducible refine (spec_IsKey.calls k1 (rdOf ByteArray.empty l0 x7_1) true _ A5.out).mono ?_); rintro e w' ⟨rfl, ⟨nd, rfl⟩⟩; refine ⟨_, rfl, ?_⟩; have p402 : 0 ≤ ((ji8) : Int) := dT; have q402 : (ji8) < (l0.length : Int) := dT; obtain ⟨ad402, e402, hx402_0⟩ := Kd.at_string HR0.out (ji8) p402 q402; obtain rfl : ad400 = ad402 := (by injection e402); replace p402 := eq_true p402; replace q402 := eq_true q402))
           go_ret
           exact ⟨by first | rfl | (simp; done) | (simp only [← hji8] <;> (first | rfl | simp)) | (simp [*]; done), by repeat (first | exact Drawn0.refl _ | apply Drawn0.step)⟩
         ·rw [if_neg c10] at H
          exact absurd H (by simp)
        ·rw [if_neg c9] at H
         exact absurd H (by simp)
       ·rw [if_neg c7] at H
        have c7b0 : decide (0 < x7_1) = false := decide_eq_false c7; clear c7; have H' := am H; clear H; obtain ⟨ad400, e400, hx400_0⟩ := Kd.at_string HR0.out x7_1 dT dT; cases e400; have p400 := eT (0 ≤ (x7_1 : Int)); have q400 := eT (x7_1 < (l0.length : Int))
        go_wp2_with (first | ((with_reducible refine gate_callee (f := 101) rfl ?_); refine gL (some 13) Try.func101 #[.string (rdOf ByteArray.empty l0 x7_1)] ?_; (with_reducible refine (spec_IsKey.calls k1 (rdOf ByteArray.empty l0 x7_1) true _ A5.out).mono ?_); rintro e w' ⟨rfl, ⟨nd, rfl⟩⟩; refine ⟨_, rfl, ?_⟩))
        go_roundg k1
        case measure => have := HK1.out; omega
        case rel => exact ⟨(wrap64 (x7_1 + 1)), wZ, H', ⟨by have := HK1.out; omega⟩, by repeat (first | exact Drawn0.refl _ | apply Drawn0.step)⟩
      ·replace c6 := Bool.eq_false_iff.mpr c6
       subst c6
       rw [if_neg (show ¬ (false = true) by decide)] at H; obtain rfl := Option.some.inj H; obtain ⟨ad400, e400, hx400_0⟩ := Kd.at_string HR0.out x7_1 dT dT; cases e400; have p400 := eT (0 ≤ (x7_1 : Int)); have q400 := eT (x7_1 < (l0.length : Int))
       go_wp2_with (first | ((with_reducible refine gate_callee (f := 101) rfl ?_); refine gL (some 13) Try.func101 #[.string (rdOf ByteArray.empty l0 x7_1)] ?_; (with_reducible refine (spec_IsKey.calls k1 (rdOf ByteArray.empty l0 x7_1) false _ A5.out).mono ?_); rintro e w' ⟨rfl, ⟨nd, rfl⟩⟩; refine ⟨_, rfl, ?_⟩))
       go_ret
       exact ⟨by first | rfl | (simp; done) | (simp [*]; done), by repeat (first | exact Drawn0.refl _ | apply Drawn0.step)⟩
     ·rw [if_neg c4] at H
      exact absurd H (by simp)
    ·rw [if_neg c3] at H
     exact absurd H (by simp)
   ·rw [if_neg c2] at H
    have c2b0 : decide (x7_1 < (l0.length : Int)) = false := decide_eq_false c2; clear c2; obtain rfl := Option.some.inj H
    go_wp2
    go_ret
    exact ⟨by first | rfl | (simp; done) | (simp [*]; done), by repeat (first | exact Drawn0.refl _ | apply Drawn0.step)⟩

def spec_cuKeyed.f (k : Nat) (a0 : Int) (l1 : List ByteArray) (a2 : Int) : Option (Bool) := (spec_cuSize.f a0 a2).bind fun t403 => (if t403 = true then ((spec_biKeys.f k l1).bind fun t404 => (some t404)) else (some false))
theorem spec_cuKeyed.calls (k : Nat) (a0 : Int) (A1 : Option Addr) (c1 : Nat) (l1 : List ByteArray) (a2 : Int) (r : Bool) (w : World) (hr1 : Kd.C Kd.string w A1 l1.length l1) (hc1 : l1.length ≤ c1) (h : spec_cuKeyed.f k a0 l1 a2 = some r) :
  Calls Try.prog 62 #[.int .i64 a0, .slice A1 l1.length c1, .int .i64 a2] w fun e w' => e = .returned (.bool r) ∧ Drawn0 w w' := by
 have HR1 := am hr1; have HC1 := am hc1; clear hr1 hc1; have H : ((spec_cuSize.f a0 a2).bind fun t403 => (if t403 = true then ((spec_biKeys.f k l1).bind fun t404 => (some t404)) else (some false))) = some r := h; clear h; replace H := Option.bind_eq_some_iff.mp H; obtain ⟨t403, A40, H⟩ := H; (try dsimp -simprocs only at H); have A4 := am A40; clear A40
 by_cases c5 : t403 = true
 ·subst c5
  rw [if_pos rfl] at H; replace H := Option.bind_eq_some_iff.mp H; obtain ⟨t404, A60, H⟩ := H; (try dsimp -simprocs only at H); have A6 := am A60; clear A60; obtain rfl := Option.some.inj H
  go_enter Try.func62, Try.ntmps62
  go_wp2_with (first | ((with_reducible refine gate_callee (f := 122) rfl ?_); refine gL (some 9) Try.func122 #[.int .i64 a0, .int .i64 a2] ?_; (with_reducible refine (spec_cuSize.calls a0 a2 true _ A4.out).mono ?_); rintro e w' ⟨rfl, ⟨nd, rfl⟩⟩; refine ⟨_, rfl, ?_⟩) | (go_at_call 123; (with_reducible refine (spec_biKeys.calls k _ _ l1 t404 _ ?side1 ?side2 A6.out).mono ?_); (case side1 => exact Cz HR1.out); (case side2 => exact HC1.out); rintro e w' ⟨rfl, ⟨nd, rfl⟩⟩))
  go_ret
  exact ⟨by first | rfl | (simp; done) | (simp [*]; done), by repeat (first | exact Drawn0.refl _ | apply Drawn0.step)⟩
 ·replace c5 := Bool.eq_false_iff.mpr c5
  subst c5
  rw [if_neg (show ¬ (false = true) by decide)] at H; obtain rfl := Option.some.inj H
  go_enter Try.func62, Try.ntmps62
  go_wp2_with (first | ((with_reducible refine gate_callee (f := 122) rfl ?_); refine gL (some 9) Try.func122 #[.int .i64 a0, .int .i64 a2] ?_; (with_reducible refine (spec_cuSize.calls a0 a2 false _ A4.out).mono ?_); rintro e w' ⟨rfl, ⟨nd, rfl⟩⟩; refine ⟨_, rfl, ?_⟩))
  go_ret
  exact ⟨by first | rfl | (simp; done) | (simp [*]; done), by repeat (first | exact Drawn0.refl _ | apply Drawn0.step)⟩

def spec_l1Least.f (a0 : Int) (a1 : Int) : Option (Int) := if a0 < a1 then (some a0) else (some a1)
theorem spec_l1Least.calls (a0 : Int) (a1 : Int) (r : Int) (w : World) (h : spec_l1Least.f a0 a1 = some r) :
  Calls Try.prog 77 #[.int .i64 a0, .int .i64 a1] w fun e w' => e = .returned (.int .i64 r) ∧ Drawn0 w w' := by
 have H : (if a0 < a1 then (some a0) else (some a1)) = some r := h; clear h
 by_cases c3 : a0 < a1
 ·rw [if_pos c3] at H
  have c3b0 : decide (a0 < a1) = true := decide_eq_true c3; clear c3; obtain rfl := Option.some.inj H
  go_enter Try.func77, Try.ntmps77
  go_wp2
  go_ret
  exact ⟨by first | rfl | (simp; done) | (simp [*]; done), by repeat (first | exact Drawn0.refl _ | apply Drawn0.step)⟩
 ·rw [if_neg c3] at H
  have c3b0 : decide (a0 < a1) = false := decide_eq_false c3; clear c3; obtain rfl := Option.some.inj H
  go_enter Try.func77, Try.ntmps77
  go_wp2
  go_ret
  exact ⟨by first | rfl | (simp; done) | (simp [*]; done), by repeat (first | exact Drawn0.refl _ | apply Drawn0.step)⟩

def spec_biHash.l0 : Nat → ByteArray → Int → Int → Option (Int)
 | 0, _, _, _ => none
 | k + 1, x2, x7, x8 => if x8 < (x2.size : Int) then (if 0 ≤ x8 then (spec_biHash.l0 k x2 (Int.tmod (wrap64 ((wrap64 (263 * x7)) + (wrap64 (bt x2 x8)))) 65521) (wrap64 (x8 + 1))) else (none)) else (some (Int.tmod (wrap64 ((Int.tmod (wrap64 ((Int.tmod (wrap64 ((Int.tmod (wrap64 ((Int.tmod (wrap64 (x7 * x7)) 65521) * (Int.tmod (wrap64 (x7 * x7)) 65521))) 65521) * x7)) 65521) * (Int.tmod (wrap64 ((Int.tmod (wrap64 ((Int.tmod (wrap64 (x7 * x7)) 65521) * (Int.tmod (wrap64 (x7 * x7)) 65521))) 65521) * x7)) 65521))) 65521) * x7)) 65521))
def spec_biHash.f (k : Nat) (a0 : Int) (a1 : Int) (a2 : ByteArray) : Option (Int) := spec_biHash.l0 k a2 (Int.tmod (wrap64 ((wrap64 ((wrap64 (31 * a0)) + (wrap64 (977 * a1)))) + 7)) 65521) 0
theorem spec_biHash.calls (k : Nat) (a0 : Int) (a1 : Int) (a2 : ByteArray) (r : Int) (w : World) (h : spec_biHash.f k a0 a1 a2 = some r) :
  Calls Try.prog 166 #[.int .i64 a0, .int .i64 a1, .string a2] w fun e w' => e = .returned (.int .i64 r) ∧ Drawn0 w w' := by
 have H : (spec_biHash.l0 k a2 (Int.tmod (wrap64 ((wrap64 ((wrap64 (31 * a0)) + (wrap64 (977 * a1)))) + 7)) 65521) 0) = some r := h; clear h; have H' := am H; clear H
 go_enter Try.func166, Try.ntmps166
 go_wp2
 go_loopg [7, 8] k (fun kq v7 v8 w' => ∃ (x7_1 : Int) (x8_1 : Int), v7 = .int .i64 x7_1 ∧ v8 = .int .i64 x8_1 ∧ Aside0 (spec_biHash.l0 kq a2 x7_1 x8_1 = some r) ∧ Aside0 (kq ≤ k) ∧ Drawn0 w w')
 case atStart => exact ⟨(Int.tmod (wrap64 ((wrap64 ((wrap64 (31 * a0)) + (wrap64 (977 * a1)))) + 7)) 65521), (0), wZ, wZ, H', ⟨Nat.le_refl _⟩, by repeat (first | exact Drawn0.refl _ | apply Drawn0.step)⟩
 case round =>
  clear H'
  try clear c1
  try clear p2
  obtain ⟨x7_1, x8_1, rfl, rfl, HA, HK1, ⟨m1, rfl⟩⟩ := hrel; cases gk with
  | zero => exact absurd HA.out (by simp [spec_biHash.l0])
  | succ k1 =>
   have H := HA.out; clear HA
   simp only [spec_biHash.l0] at H
   by_cases c4 : x8_1 < (a2.size : Int)
   ·rw [if_pos c4] at H
    have c4b0 : decide (x8_1 < (a2.size : Int)) = true := decide_eq_true c4; clear c4
    by_cases c5 : 0 ≤ x8_1
    ·rw [if_pos c5] at H
     have c5b0 : decide (0 ≤ x8_1) = true := decide_eq_true c5; clear c5; have H' := am H; clear H; have p6 : 0 ≤ (x8_1 : Int) := dT; have q6 : x8_1 < (a2.size : Int) := dT; have hx6 := bt_at a2 x8_1; replace p6 := eq_true p6; replace q6 := eq_true q6
     go_wp2
     go_roundg k1
     case measure => have := HK1.out; omega
     case rel => exact ⟨(Int.tmod (wrap64 ((wrap64 (263 * x7_1)) + (wrap64 (bt a2 x8_1)))) 65521), (wrap64 (x8_1 + 1)), wZ, wZ, H', ⟨by have := HK1.out; omega⟩, by repeat (first | exact Drawn0.refl _ | apply Drawn0.step)⟩
    ·rw [if_neg c5] at H
     exact absurd H (by simp)
   ·rw [if_neg c4] at H
    have c4b0 : decide (x8_1 < (a2.size : Int)) = false := decide_eq_false c4; clear c4; obtain rfl := Option.some.inj H
    go_wp2
    go_ret
    exact ⟨by first | rfl | (simp; done) | (simp [*]; done), by repeat (first | exact Drawn0.refl _ | apply Drawn0.step)⟩

def spec_biPlace.f (k : Nat) (a0 : Int) (a1 : Int) (a2 : ByteArray) (a3 : Int) : Option (Int) := (spec_biHash.f k a0 a1 a2).bind fun t405 => (some (wrap64 (Int.tdiv (wrap64 (t405 * a3)) 65521)))
theorem spec_biPlace.calls (k : Nat) (a0 : Int) (a1 : Int) (a2 : ByteArray) (a3 : Int) (r : Int) (w : World) (h : spec_biPlace.f k a0 a1 a2 a3 = some r) :
  Calls Try.prog 149 #[.int .i64 a0, .int .i64 a1, .string a2, .int .i64 a3] w fun e w' => e = .returned (.int .i64 r) ∧ Drawn0 w w' := by
 have H : ((spec_biHash.f k a0 a1 a2).bind fun t405 => (some (wrap64 (Int.tdiv (wrap64 (t405 * a3)) 65521)))) = some r := h; clear h; replace H := Option.bind_eq_some_iff.mp H; obtain ⟨t405, A50, H⟩ := H; (try dsimp -simprocs only at H); have A5 := am A50; clear A50; obtain rfl := Option.some.inj H
 go_enter Try.func149, Try.ntmps149
 go_wp2_with (first | ((with_reducible refine gate_callee (f := 166) rfl ?_); refine gL (some 12) Try.func166 #[.int .i64 a0, .int .i64 a1, .string a2] ?_; (with_reducible refine (spec_biHash.calls k a0 a1 a2 t405 _ A5.out).mono ?_); rintro e w' ⟨rfl, ⟨nd, rfl⟩⟩; refine ⟨_, rfl, ?_⟩))
 go_ret
 exact ⟨by first | rfl | (simp; done) | (simp [*]; done), by repeat (first | exact Drawn0.refl _ | apply Drawn0.step)⟩

def spec_cuCells.f (k : Nat) (a0 : Int) (a1 : ByteArray) (a2 : Int) : Option (List Int) := (spec_biPlace.f k a0 0 a1 a2).bind fun t406 => ((spec_biPlace.f k a0 1 a1 a2).bind fun t407 => (some (([t406, t407] : List Int))))
theorem spec_cuCells.calls (k : Nat) (a0 : Int) (a1 : ByteArray) (a2 : Int) (r : List Int) (w : World) (h : spec_cuCells.f k a0 a1 a2 = some r) :
  Calls Try.prog 125 #[.int .i64 a0, .string a1, .int .i64 a2] w fun e w' => ∃ v0_ : Value, e = .returned (v0_) ∧ Kd.R (Kd.int .i64) 3 w' w.heap.size (fun _ => True) v0_ r ∧ Below w.heap.size w w' := by
 have HB := am (Below.refl w.heap.size w); have H : ((spec_biPlace.f k a0 0 a1 a2).bind fun t406 => ((spec_biPlace.f k a0 1 a1 a2).bind fun t407 => (some (([t406, t407] : List Int))))) = some r := h; clear h; replace H := Option.bind_eq_some_iff.mp H; obtain ⟨t406, A40, H⟩ := H; (try dsimp -simprocs only at H); have A4 := am A40; clear A40; replace H := Option.bind_eq_some_iff.mp H; obtain ⟨t407, A50, H⟩ := H; (try dsimp -simprocs only at H); have A5 := am A50; clear A50; obtain ⟨y408, hy408⟩ : ∃ y_ : List Int, y_ = (([t406, t407] : List Int)) := ⟨_, rfl⟩
 replace H : (some y408) = some r := by first | (rw [hy408]; with_reducible exact H) | (have H2_ := (Option.bind_some _ _).symm.trans H; rw [hy408]; with_reducible exact H2_) | (have H2_ := (Option.bind_some _ _).symm.trans H; with_reducible exact H2_) | with_reducible exact H | (rw [hy408]; exact H) | exact H
 have Ny408 := am hy408; clear hy408; obtain rfl := Option.some.inj H
 go_enter Try.func125, Try.ntmps125
 go_wp2_with (first | ((with_reducible refine gate_callee (f := 149) rfl ?_); refine gL (some 10) Try.func149 #[.int .i64 a0, .int .i64 0, .string a1, .int .i64 a2] ?_; (with_reducible refine (spec_biPlace.calls k a0 0 a1 a2 t406 _ A4.out).mono ?_); rintro e w' ⟨rfl, ⟨nd, rfl⟩⟩; refine ⟨_, rfl, ?_⟩) | ((with_reducible refine gate_callee (f := 149) rfl ?_); refine gL (some 14) Try.func149 #[.int .i64 a0, .int .i64 1, .string a1, .int .i64 a2] ?_; (with_reducible refine (spec_biPlace.calls k a0 1 a1 a2 t407 _ A5.out).mono ?_); rintro e w' ⟨rfl, ⟨nd, rfl⟩⟩; refine ⟨_, rfl, ?_⟩) | ((with_reducible refine gate_dst (N := 15) rfl ?_); refine Kd.R_lit (Kd.int .i64) _ 3 ?hg (N := 15) ?hd (xs := ([t406, t407] : List Int)) (inner := [.int .i64 t406, .int .i64 t407]) (ok := fun _ => True) (okp := fun _ => True) ?hr ?hp (fun _ hk => hk) trivial (Below.refl _ _) (Nat.le_refl _) (by simp) ?_; (case hd => rfl); (case hg => rfl); (case hr => first | (go_simp; done) | (go_simp; rfl)); (case hp => exact (Reps.one (show Kd.M (Kd.int .i64) _ _ _ t406 [.int .i64 t406] from rfl) (Reps.one (show Kd.M (Kd.int .i64) _ _ _ t407 [.int .i64 t407] from rfl) (Reps.none _ _)))); intro v409 w6 ho7 hb hg_ hnew_; clear hg_ hnew_; (first | rw [← Ny408.out] at ho7 | (simp only [Int.reduceToNat] at ho7; rw [← Ny408.out] at ho7)); have n0_ := Rl ho7 HB; have n1_ := Bb HB hb; clear HB; revert n0_ n1_; intro HO410 HB; clear hb ho7))
 go_ret
 exact ⟨_, eZ, Rz HO410.out, Bz HB.out⟩

def spec_cuPairs.l0 : Nat → Int → Int → List (List Int) → List ByteArray → Int → Int → Option ((List (List Int)))
 | 0, _, _, _, _, _, _ => none
 | k + 1, x0, x2, x7, x10, x11, x12 => if x12 < x11 then (if 0 ≤ x12 then (if x12 < (x10.length : Int) then ((spec_cuCells.f k x0 (rdOf ByteArray.empty x10 x12) x2).bind fun t412 => (if x7.length < 5864062014805 then (spec_cuPairs.l0 k x0 x2 (x7 ++ [t412]) x10 x11 (wrap64 (x12 + 1))) else (none))) else (none)) else (none)) else (some x7)
def spec_cuPairs.f (k : Nat) (a0 : Int) (l1 : List ByteArray) (a2 : Int) : Option ((List (List Int))) := spec_cuPairs.l0 k a0 a2 ([] : List (List Int)) l1 (l1.length : Int) 0
theorem spec_cuPairs.calls (k : Nat) (a0 : Int) (A1 : Option Addr) (c1 : Nat) (l1 : List ByteArray) (a2 : Int) (r : List (List Int)) (w : World) (hr1 : Kd.C Kd.string w A1 l1.length l1) (hc1 : l1.length ≤ c1) (h : spec_cuPairs.f k a0 l1 a2 = some r) :
  Calls Try.prog 64 #[.int .i64 a0, .slice A1 l1.length c1, .int .i64 a2] w fun e w' => ∃ v0_ : Value, e = .returned (v0_) ∧ Kd.S (Kd.slice 3 (Kd.int .i64)) 31 w' w.heap.size (fun _ => True) v0_ r ∧ Below w.heap.size w w' := by
 have HR1 := am hr1; have HC1 := am hc1; clear hr1 hc1; have HB := am (Below.refl w.heap.size w); have H : (spec_cuPairs.l0 k a0 a2 ([] : List (List Int)) l1 (l1.length : Int) 0) = some r := h; clear h; have H' := am H; clear H
 go_enter Try.func64, Try.ntmps64
 go_wp2
 go_loopg [7, 12] k (fun kq v7 v12 w' => ∃ (x7_1 : List (List Int)) (x12_1 : Int), v12 = .int .i64 x12_1 ∧ Aside0 (spec_cuPairs.l0 kq a0 a2 x7_1 l1 (l1.length : Int) x12_1 = some r) ∧ Aside0 (kq ≤ k) ∧ Aside0 (Kd.S (Kd.slice 3 (Kd.int .i64)) 31 w' w.heap.size (fun _ => True) v7 x7_1) ∧ Aside0 (Below w.heap.size w w'))
 case atStart => exact ⟨(([] : List (List Int))), (0), wZ, H', ⟨Nat.le_refl _⟩, ⟨by first | exact Kd.S_nil _ _ _ _ _ | exact Kd.N_nil _ _ _ _ _ | exact Kd.V_nil _ _ _ _ _ | exact Kd.Q_nil _ _ _ _ _ | exact Kd.R_nil _ _ _ _ _⟩, ⟨Bz HB.out⟩⟩
 case round =>
  clear H'
  try clear c1
  try clear p2
  obtain ⟨x7_1, x12_1, rfl, HA, HK1, HO_7, HB⟩ := hrel; cases gk with
  | zero => exact absurd HA.out (by simp [spec_cuPairs.l0])
  | succ k1 =>
   have H := HA.out; clear HA
   simp only [spec_cuPairs.l0] at H
   by_cases c4 : x12_1 < (l1.length : Int)
   ·rw [if_pos c4] at H
    have c4b0 : decide (x12_1 < (l1.length : Int)) = true := decide_eq_true c4; clear c4
    by_cases c5 : 0 ≤ x12_1
    ·rw [if_pos c5] at H
     have c5b0 : decide (0 ≤ x12_1) = true := decide_eq_true c5; clear c5
     by_cases c6 : x12_1 < (l1.length : Int)
     ·rw [if_pos c6] at H
      have c6b0 : decide (x12_1 < (l1.length : Int)) = true := decide_eq_true c6; clear c6; replace H := Option.bind_eq_some_iff.mp H; obtain ⟨t412, A70, H⟩ := H; (try dsimp -simprocs only at H); have A7 := am A70; clear A70
      by_cases c8 : x7_1.length < 5864062014805
      ·rw [if_pos c8] at H
       have LMc8 := am c8; clear c8; obtain ⟨y415, hy415⟩ : ∃ y_ : List (List Int), y_ = (x7_1 ++ [t412]) := ⟨_, rfl⟩
       replace H : (spec_cuPairs.l0 k1 a0 a2 y415 l1 (l1.length : Int) (wrap64 (x12_1 + 1))) = some r := by first | (rw [hy415]; with_reducible exact H) | (have H2_ := (Option.bind_some _ _).symm.trans H; rw [hy415]; with_reducible exact H2_) | (have H2_ := (Option.bind_some _ _).symm.trans H; with_reducible exact H2_) | with_reducible exact H | (rw [hy415]; exact H) | exact H
       have Ny415 := am hy415; clear hy415; have H' := am H; clear H; have p411 : 0 ≤ (x12_1 : Int) := dT; have q411 : x12_1 < (l1.length : Int) := dT; obtain ⟨ad411, e411, hx411_0⟩ := Kd.at_string HR1.out x12_1 p411 q411; cases e411; replace hx411_0 := (HB.out.cell (World.block_lt_of_cell? w _ hx411_0)).trans hx411_0; replace p411 := eq_true p411; replace q411 := eq_true q411
       go_wp2_with (first | ((with_reducible refine gate_callee (f := 125) rfl ?_); refine gL (some 20) Try.func125 #[.int .i64 a0, .string (rdOf ByteArray.empty l1 x12_1), .int .i64 a2] ?_; (with_reducible refine (spec_cuCells.calls k1 a0 (rdOf ByteArray.empty l1 x12_1) a2 t412 _ A7.out).mono ?_); rintro e w9 ⟨v413, rfl, ho0, hb⟩; refine ⟨_, rfl, ?_⟩; have n0_ := am (Kd.S_elder' (by (with_reducible repeat (first | apply Kd.S_alloc | apply Kd.S_drewN | apply Kd.S_drew)); exact HO_7.out) (Kd.R_base ho0) hb); have n1_ := Rl ho0 HB; have n2_ := Bb HB hb; clear HO_7 HB; revert n0_ n1_ n2_; intro HO_7 HO414 HB; (try clear hb); (try clear hb2); (try clear hk); (try clear hi); (try clear ho0); obtain ⟨Ao11, co11, eo11⟩ := Kd.R_slice HO414.out; subst eo11) | ((with_reducible refine gate_builtin (b := .append) (xs := #[.tmp 16, .tmp 21]) rfl ?_); at_builtin; refine Kd.S_append (Kd.slice 3 (Kd.int .i64)) (w0 := w) w.heap.size rfl (.tmp 16) (.tmp 21) 27 31 (.slice none 0 0) 24 rfl Try.underlying27 info31 rfl (by decide) (by omega) u7 x7_1 t412 [.slice Ao11 t412.length co11] (fun _ => True) (fun k_ => some k_ = (.slice Ao11 t412.length co11 : Value).ownBlock) rfl rfl ?aP (fun k_ hk_ => ((Kd.R_mono (ok' := fun k_ => ((fun _ => True)) k_ ∧ some k_ ≠ (u7 : Value).ownBlock) (Kd.R_apart' (HO414.out) (Kd.S_typed HO_7.out) (by decide)) (fun k_ hk => ⟨trivial, hk.2⟩))).1 k_ hk_.symm) ?aF ?aO ?aB ?aS ?aL ?_; (case aP => exact Kd.M_row (Kd.R_mono (Kd.R_tight rfl (Kd.R_mono (ok' := fun k_ => ((fun _ => True)) k_ ∧ some k_ ≠ (u7 : Value).ownBlock) (Kd.R_apart' (HO414.out) (Kd.S_typed HO_7.out) (by decide)) (fun k_ hk => ⟨trivial, hk.2⟩))) (fun _ h_ => h_))); (case aB => exact (Bz HB.out)); (case aF => exact (fun _ _ => trivial)); (case aO => exact (by (with_reducible repeat (first | apply Kd.S_alloc | apply Kd.S_drewN | apply Kd.S_drew)); exact Kd.S_mono HO_7.out (fun k_ hk => ⟨trivial, fun e_ => hk.2 e_⟩))); (case aS => exact (below_size (Bz HB.out))); (case aL => have := LMc8.out; omega); intro v416 w10 ho hb hg hat; rw [← Ny415.out] at ho; have n0_ := am (hb); have n1_ := am (ho); clear HB HO_7 HO414; revert n0_ n1_; intro HB HO417; clear ho hb hg hat))
       go_roundg k1
       case measure => have := HK1.out; omega
       case rel => exact ⟨(y415), (wrap64 (x12_1 + 1)), wZ, H', ⟨by have := HK1.out; omega⟩, ⟨by (with_reducible repeat (first | apply Kd.S_alloc | apply Kd.S_drewN | apply Kd.S_drew)); exact HO417.out⟩, ⟨Bz HB.out⟩⟩
      ·rw [if_neg c8] at H
       exact absurd H (by simp)
     ·rw [if_neg c6] at H
      exact absurd H (by simp)
    ·rw [if_neg c5] at H
     exact absurd H (by simp)
   ·rw [if_neg c4] at H
    have c4b0 : decide (x12_1 < (l1.length : Int)) = false := decide_eq_false c4; clear c4; obtain rfl := Option.some.inj H
    go_wp2
    go_ret
    exact ⟨_, eZ, by (with_reducible repeat (first | apply Kd.S_alloc | apply Kd.S_drewN | apply Kd.S_drew)); exact HO_7.out, Bz HB.out⟩

def spec_l1Has.l0 : Nat → Int → List Int → Int → Int → Option (Bool)
 | 0, _, _, _, _ => none
 | k + 1, x1, x7, x8, x9 => if x9 < x8 then (if 0 ≤ x9 then (if x9 < (x7.length : Int) then (if (rd x7 x9) = x1 then (some true) else (spec_l1Has.l0 k x1 x7 x8 (wrap64 (x9 + 1)))) else (none)) else (none)) else (some false)
def spec_l1Has.f (k : Nat) (l0 : List Int) (a1 : Int) : Option (Bool) := spec_l1Has.l0 k a1 l0 (l0.length : Int) 0
theorem spec_l1Has.calls (k : Nat) (A0 : Option Addr) (c0 : Nat) (l0 : List Int) (a1 : Int) (r : Bool) (w : World) (hr0 : Kd.C (Kd.int .i64) w A0 l0.length l0) (hc0 : l0.length ≤ c0) (h : spec_l1Has.f k l0 a1 = some r) :
  Calls Try.prog 82 #[.slice A0 l0.length c0, .int .i64 a1] w fun e w' => e = .returned (.bool r) ∧ Drawn0 w w' := by
 have HR0 := am hr0; have HC0 := am hc0; clear hr0 hc0; have H : (spec_l1Has.l0 k a1 l0 (l0.length : Int) 0) = some r := h; clear h; have H' := am H; clear H
 go_enter Try.func82, Try.ntmps82
 go_wp2
 go_loopg [9] k (fun kq v9 w' => ∃ (x9_1 : Int), v9 = .int .i64 x9_1 ∧ Aside0 (spec_l1Has.l0 kq a1 l0 (l0.length : Int) x9_1 = some r) ∧ Aside0 (kq ≤ k) ∧ Drawn0 w w')
 case atStart => exact ⟨(0), wZ, H', ⟨Nat.le_refl _⟩, by repeat (first | exact Drawn0.refl _ | apply Drawn0.step)⟩
 case round =>
  clear H'
  try clear p2
  obtain ⟨x9_1, rfl, HA, HK1, ⟨m1, rfl⟩⟩ := hrel; cases gk with
  | zero => exact absurd HA.out (by simp [spec_l1Has.l0])
  | succ k1 =>
   have H := HA.out; clear HA
   simp only [spec_l1Has.l0] at H
   by_cases c3 : x9_1 < (l0.length : Int)
   ·rw [if_pos c3] at H
    have c3b0 : decide (x9_1 < (l0.length : Int)) = true := decide_eq_true c3; clear c3
    by_cases c4 : 0 ≤ x9_1
    ·rw [if_pos c4] at H
     have c4b0 : decide (0 ≤ x9_1) = true := decide_eq_true c4; clear c4
     by_cases c5 : x9_1 < (l0.length : Int)
     ·rw [if_pos c5] at H
      have c5b0 : decide (x9_1 < (l0.length : Int)) = true := decide_eq_true c5; clear c5
      by_cases c6 : (rd l0 x9_1) = a1
      ·rw [if_pos c6] at H
       have c6b0 : ((rd l0 x9_1) == a1) = true := beq_iff_eq.mpr c6; have c6b1 : ((rd l0 x9_1) != a1) = false := bne_eq_false_iff_eq.mpr c6; clear c6; obtain rfl := Option.some.inj H; obtain ⟨ad418, e418, hx418_0⟩ := Kd.at_int HR0.out x9_1 dT dT; cases e418; have p418 := eT (0 ≤ (x9_1 : Int)); have q418 := eT (x9_1 < (l0.length : Int))
       go_wp2
       go_ret
       exact ⟨by first | rfl | (simp; done) | (simp [*]; done), by repeat (first | exact Drawn0.refl _ | apply Drawn0.step)⟩
      ·rw [if_neg c6] at H
       have c6b0 : ((rd l0 x9_1) == a1) = false := beq_eq_false_iff_ne.mpr c6; have c6b1 : ((rd l0 x9_1) != a1) = true := bne_iff_ne.mpr c6; have H' := am H; clear H; obtain ⟨ad418, e418, hx418_0⟩ := Kd.at_int HR0.out x9_1 dT dT; cases e418; have p418 := eT (0 ≤ (x9_1 : Int)); have q418 := eT (x9_1 < (l0.length : Int))
       go_wp2
       go_roundg k1
       case measure => have := HK1.out; omega
       case rel => exact ⟨(wrap64 (x9_1 + 1)), wZ, H', ⟨by have := HK1.out; omega⟩, by repeat (first | exact Drawn0.refl _ | apply Drawn0.step)⟩
     ·rw [if_neg c5] at H
      exact absurd H (by simp)
    ·rw [if_neg c4] at H
     exact absurd H (by simp)
   ·rw [if_neg c3] at H
    have c3b0 : decide (x9_1 < (l0.length : Int)) = false := decide_eq_false c3; clear c3; obtain rfl := Option.some.inj H
    go_wp2
    go_ret
    exact ⟨by first | rfl | (simp; done) | (simp [*]; done), by repeat (first | exact Drawn0.refl _ | apply Drawn0.step)⟩

def spec_l1Put.l0 : Nat → List Int → Int → Int → Option (List Int)
 | 0, _, _, _ => none
 | k + 1, x0, x1, x5 => if x5 < (x0.length : Int) then (if 0 ≤ x5 then (if (rd x0 x5) < x1 then (spec_l1Put.l0 k x0 x1 (wrap64 (x5 + 1))) else (if (rd x0 x5) = x1 then (some x0) else ((some (([] : List Int) : List Int)).bind fun y421 => (if x5 ≤ (x0.length : Int) then ((some (x0.take (x5 : Int).toNat : List Int)).bind fun y424 => (if y421.length + y424.length < 17592186044416 then ((some (y421 ++ y424 : List Int)).bind fun y429 => (if y429.length < 17592186044416 then ((some (y429 ++ [x1] : List Int)).bind fun y432 => ((some (x0.drop (x5 : Int).toNat : List Int)).bind fun y435 => (if y432.length + y435.length < 17592186044416 then (some (y432 ++ y435)) else (none)))) else (none))) else (none))) else (none))))) else (none)) else ((some (([] : List Int) : List Int)).bind fun y443 => (if 0 ≤ x5 then (if x5 ≤ (x0.length : Int) then ((some (x0.take (x5 : Int).toNat : List Int)).bind fun y446 => (if y443.length + y446.length < 17592186044416 then ((some (y443 ++ y446 : List Int)).bind fun y451 => (if y451.length < 17592186044416 then ((some (y451 ++ [x1] : List Int)).bind fun y454 => ((some (x0.drop (x5 : Int).toNat : List Int)).bind fun y457 => (if y454.length + y457.length < 17592186044416 then (some (y454 ++ y457)) else (none)))) else (none))) else (none))) else (none)) else (none)))
def spec_l1Put.f (k : Nat) (l0 : List Int) (a1 : Int) : Option (List Int) := spec_l1Put.l0 k l0 a1 0
theorem spec_l1Put.calls (k : Nat) (P0_ : Nat → Prop) (A0 : Option Addr) (c0 : Nat) (l0 : List Int) (a1 : Int) (r : List Int) (w : World) (hs0 : Kd.V (Kd.int .i64) 3 w w.heap.size (fun k_ => P0_ k_) (.slice A0 l0.length c0) l0) (h : spec_l1Put.f k l0 a1 = some r) :
  Calls Try.prog 134 #[.slice A0 l0.length c0, .int .i64 a1] w fun e w' => ∃ v0_ : Value, e = .returned (v0_) ∧ Kd.V (Kd.int .i64) 3 w' w.heap.size (fun k_ => (P0_ k_ ∨ w.heap.size ≤ k_)) v0_ r ∧ Below w.heap.size w w' := by
 have HO0 := am (show Kd.V (Kd.int .i64) 3 w w.heap.size (fun k_ => (P0_ k_ ∨ w.heap.size ≤ k_)) (.slice A0 l0.length c0) l0 from Kd.V_mono hs0 (fun k_ hk => .inl hk)); have HB := am (Below.refl w.heap.size w); have H : (spec_l1Put.l0 k l0 a1 0) = some r := h; clear h; have H' := am H; clear H
 go_enter Try.func134, Try.ntmps134
 go_wp2
 go_loopg [5] k (fun kq v5 w' => ∃ (x5_1 : Int), v5 = .int .i64 x5_1 ∧ Aside0 (spec_l1Put.l0 kq l0 a1 x5_1 = some r) ∧ Aside0 (kq ≤ k) ∧ Aside0 (Kd.V (Kd.int .i64) 3 w' w.heap.size (fun k_ => (P0_ k_ ∨ w.heap.size ≤ k_)) (.slice A0 l0.length c0) l0) ∧ Aside0 (Below w.heap.size w w'))
 case atStart => exact ⟨(0), wZ, H', ⟨Nat.le_refl _⟩, ⟨by (with_reducible repeat (first | apply Kd.V_alloc | apply Kd.V_drewN | apply Kd.V_drew)); exact HO0.out⟩, ⟨Bz HB.out⟩⟩
 case round =>
  clear H'
  try clear c1
  try clear p2
  obtain ⟨x5_1, rfl, HA, HK1, HO_0, HB⟩ := hrel; cases gk with
  | zero => exact absurd HA.out (by simp [spec_l1Put.l0])
  | succ k1 =>
   have H := HA.out; clear HA
   simp only [spec_l1Put.l0] at H
   by_cases c3 : x5_1 < (l0.length : Int)
   ·rw [if_pos c3] at H
    have c3b0 : decide (x5_1 < (l0.length : Int)) = true := decide_eq_true c3; clear c3
    by_cases c4 : 0 ≤ x5_1
    ·rw [if_pos c4] at H
     have c4b0 : decide (0 ≤ x5_1) = true := decide_eq_true c4; clear c4
     by_cases c5 : (rd l0 x5_1) < a1
     ·rw [if_pos c5] at H
      have c5b0 : decide ((rd l0 x5_1) < a1) = true := decide_eq_true c5; clear c5; have H' := am H; clear H; obtain ⟨ad419, e419, hx419_0⟩ := Kd.at_int (Kd.V_reads' HO_0.out).2.2 x5_1 dT dT; cases e419; have p419 := eT (0 ≤ (x5_1 : Int)); have q419 := eT (x5_1 < (l0.length : Int))
      go_wp2
      go_roundg k1
      case measure => have := HK1.out; omega
      case rel => exact ⟨(wrap64 (x5_1 + 1)), wZ, H', ⟨by have := HK1.out; omega⟩, ⟨by (with_reducible repeat (first | apply Kd.V_alloc | apply Kd.V_drewN | apply Kd.V_drew)); exact HO_0.out⟩, ⟨Bz HB.out⟩⟩
     ·rw [if_neg c5] at H
      have c5b0 : decide ((rd l0 x5_1) < a1) = false := decide_eq_false c5; clear c5
      by_cases c6 : (rd l0 x5_1) = a1
      ·rw [if_pos c6] at H
       have c6b0 : ((rd l0 x5_1) == a1) = true := beq_iff_eq.mpr c6; have c6b1 : ((rd l0 x5_1) != a1) = false := bne_eq_false_iff_eq.mpr c6; clear c6; obtain rfl := Option.some.inj H; obtain ⟨ad419, e419, hx419_0⟩ := Kd.at_int (Kd.V_reads' HO_0.out).2.2 x5_1 dT dT; cases e419; have p419 := eT (0 ≤ (x5_1 : Int)); have q419 := eT (x5_1 < (l0.length : Int)); have p420 : 0 ≤ (x5_1 : Int) := dT; have q420 : x5_1 < (l0.length : Int) := dT; obtain ⟨ad420, e420, hx420_0⟩ := Kd.at_int (Kd.V_reads' HO_0.out).2.2 x5_1 p420 q420; obtain rfl : ad419 = ad420 := (by injection e420); replace p420 := eq_true p420; replace q420 := eq_true q420
       go_wp2
       go_ret
       exact ⟨_, eZ, by (with_reducible repeat (first | apply Kd.V_alloc | apply Kd.V_drewN | apply Kd.V_drew)); exact HO_0.out, Bz HB.out⟩
      ·rw [if_neg c6] at H
       have c6b0 : ((rd l0 x5_1) == a1) = false := beq_eq_false_iff_ne.mpr c6; have c6b1 : ((rd l0 x5_1) != a1) = true := bne_iff_ne.mpr c6; obtain ⟨y421, hy421⟩ : ∃ y_ : List Int, y_ = (([] : List Int)) := ⟨_, rfl⟩
       replace H : (if x5_1 ≤ (l0.length : Int) then ((some (l0.take (x5_1 : Int).toNat : List Int)).bind fun y424 => (if y421.length + y424.length < 17592186044416 then ((some (y421 ++ y424 : List Int)).bind fun y429 => (if y429.length < 17592186044416 then ((some (y429 ++ [a1] : List Int)).bind fun y432 => ((some (l0.drop (x5_1 : Int).toNat : List Int)).bind fun y435 => (if y432.length + y435.length < 17592186044416 then (some (y432 ++ y435)) else (none)))) else (none))) else (none))) else (none)) = some r := by first | (rw [hy421]; with_reducible exact H) | (have H2_ := (Option.bind_some _ _).symm.trans H; rw [hy421]; with_reducible exact H2_) | (have H2_ := (Option.bind_some _ _).symm.trans H; with_reducible exact H2_) | with_reducible exact H | (rw [hy421]; exact H) | exact H
       have Ny421 := am hy421; clear hy421; have c7b0 := eq_true (dT : 0 ≤ x5_1)
       by_cases c8 : x5_1 ≤ (l0.length : Int)
       ·rw [if_pos c8] at H
        have c8b0 := eq_true c8; have c8b1 : decide (x5_1 ≤ (l0.length : Int)) = true := decide_eq_true c8; clear c8; obtain ⟨y424, hy424⟩ : ∃ y_ : List Int, y_ = (l0.take (x5_1 : Int).toNat) := ⟨_, rfl⟩
        replace H : (if y421.length + y424.length < 17592186044416 then ((some (y421 ++ y424 : List Int)).bind fun y429 => (if y429.length < 17592186044416 then ((some (y429 ++ [a1] : List Int)).bind fun y432 => ((some (l0.drop (x5_1 : Int).toNat : List Int)).bind fun y435 => (if y432.length + y435.length < 17592186044416 then (some (y432 ++ y435)) else (none)))) else (none))) else (none)) = some r := by first | (rw [hy424]; with_reducible exact H) | (have H2_ := (Option.bind_some _ _).symm.trans H; rw [hy424]; with_reducible exact H2_) | (have H2_ := (Option.bind_some _ _).symm.trans H; with_reducible exact H2_) | with_reducible exact H | (rw [hy424]; exact H) | exact H
        have Ny424 := am hy424; clear hy424
        by_cases c9 : y421.length + y424.length < 17592186044416
        ·rw [if_pos c9] at H
         have LMc9 := am c9; clear c9; obtain ⟨y429, hy429⟩ : ∃ y_ : List Int, y_ = (y421 ++ y424) := ⟨_, rfl⟩
         replace H : (if y429.length < 17592186044416 then ((some (y429 ++ [a1] : List Int)).bind fun y432 => ((some (l0.drop (x5_1 : Int).toNat : List Int)).bind fun y435 => (if y432.length + y435.length < 17592186044416 then (some (y432 ++ y435)) else (none)))) else (none)) = some r := by first | (rw [hy429]; with_reducible exact H) | (have H2_ := (Option.bind_some _ _).symm.trans H; rw [hy429]; with_reducible exact H2_) | (have H2_ := (Option.bind_some _ _).symm.trans H; with_reducible exact H2_) | with_reducible exact H | (rw [hy429]; exact H) | exact H
         have Ny429 := am hy429; clear hy429
         by_cases c10 : y429.length < 17592186044416
         ·rw [if_pos c10] at H
          have LMc10 := am c10; clear c10; obtain ⟨y432, hy432⟩ : ∃ y_ : List Int, y_ = (y429 ++ [a1]) := ⟨_, rfl⟩
          replace H : ((some (l0.drop (x5_1 : Int).toNat : List Int)).bind fun y435 => (if y432.length + y435.length < 17592186044416 then (some (y432 ++ y435)) else (none))) = some r := by first | (rw [hy432]; with_reducible exact H) | (have H2_ := (Option.bind_some _ _).symm.trans H; rw [hy432]; with_reducible exact H2_) | (have H2_ := (Option.bind_some _ _).symm.trans H; with_reducible exact H2_) | with_reducible exact H | (rw [hy432]; exact H) | exact H
          have Ny432 := am hy432; clear hy432; have c11b0 := eq_true (dT : 0 ≤ x5_1); have c12b0 := eq_true (dT : x5_1 ≤ (l0.length : Int)); obtain ⟨y435, hy435⟩ : ∃ y_ : List Int, y_ = (l0.drop (x5_1 : Int).toNat) := ⟨_, rfl⟩
          replace H : (if y432.length + y435.length < 17592186044416 then (some (y432 ++ y435)) else (none)) = some r := by first | (rw [hy435]; with_reducible exact H) | (have H2_ := (Option.bind_some _ _).symm.trans H; rw [hy435]; with_reducible exact H2_) | (have H2_ := (Option.bind_some _ _).symm.trans H; with_reducible exact H2_) | with_reducible exact H | (rw [hy435]; exact H) | exact H
          have Ny435 := am hy435; clear hy435
          by_cases c13 : y432.length + y435.length < 17592186044416
          ·rw [if_pos c13] at H
           have LMc13 := am c13; clear c13; obtain ⟨y440, hy440⟩ : ∃ y_ : List Int, y_ = (y432 ++ y435) := ⟨_, rfl⟩
           replace H : (some y440) = some r := by first | (rw [hy440]; with_reducible exact H) | (have H2_ := (Option.bind_some _ _).symm.trans H; rw [hy440]; with_reducible exact H2_) | (have H2_ := (Option.bind_some _ _).symm.trans H; with_reducible exact H2_) | with_reducible exact H | (rw [hy440]; exact H) | exact H
           have Ny440 := am hy440; clear hy440; obtain rfl := Option.some.inj H; obtain ⟨ad419, e419, hx419_0⟩ := Kd.at_int (Kd.V_reads' HO_0.out).2.2 x5_1 dT dT; cases e419; have p419 := eT (0 ≤ (x5_1 : Int)); have q419 := eT (x5_1 < (l0.length : Int)); have p420 : 0 ≤ (x5_1 : Int) := dT; have q420 : x5_1 < (l0.length : Int) := dT; obtain ⟨ad420, e420, hx420_0⟩ := Kd.at_int (Kd.V_reads' HO_0.out).2.2 x5_1 p420 q420; obtain rfl : ad419 = ad420 := (by injection e420); replace p420 := eq_true p420; replace q420 := eq_true q420
           go_wp2_with (first | ((with_reducible refine gate_dst (N := 34) rfl ?_); refine Kd.R_lit (Kd.int .i64) _ 3 ?hg (N := 34) ?hd (xs := ([] : List Int)) (inner := []) (ok := fun _ => True) (okp := fun _ => True) ?hr ?hp (fun _ hk => hk) trivial (Below.refl _ _) (Nat.le_refl _) (by simp) ?_; (case hd => rfl); (case hg => rfl); (case hr => first | (go_simp; done) | (go_simp; rfl)); (case hp => exact (Reps.none _ _)); intro v422 w14 ho15 hb hg_ hnew_; clear hg_ hnew_; (first | rw [← Ny421.out] at ho15 | (simp only [Int.reduceToNat] at ho15; rw [← Ny421.out] at ho15)); have n0_ := am (Kd.V_elder' (by (with_reducible repeat (first | apply Kd.V_alloc | apply Kd.V_drewN | apply Kd.V_drew)); exact HO_0.out) (Kd.R_base ho15) hb); have n1_ := Rl (Kd.R_newM (M := fun k_ => (w.heap.size ≤ k_)) ho15 (below_size (Bz HB.out)) (fun k_ h_ => h_)) HB; have n2_ := Bb HB hb; clear HO_0 HB; revert n0_ n1_ n2_; intro HO_0 HO423 HB; clear hb ho15; have q16 : (x5_1 : Int) ≤ ((l0.length : Int) : Int) := dT; obtain ⟨i016, hi016, _, hsz16, _⟩ := info_parts info3; have hroom16 : l0.length ≤ c0 := (Kd.V_reads' HO_0.out).2.1; have hC16 : Kd.F (Kd.int .i64) _ _ (some ad419) l0.length l0 := (Kd.V_at (base := w.heap.size) HO_0.out).2.2; have hcut16 := cut_to (P := Try.prog) 31 3 .i64 Try.underlying31 hi016 (some ad419) l0.length c0 x5_1 (dT) q16 hroom16; have hr16 := Kd.F_take (m := (x5_1 : Int).toNat) hC16 (by omega); have hy16 : y424.length = (x5_1 : Int).toNat := (by rw [Ny424.out, List.length_take]; omega); rw [← Ny424.out] at hr16; rw [← hy16] at hcut16; have HO428 := am (show Kd.V (Kd.int .i64) 3 _ w.heap.size _ (.slice (some ad419) y424.length c0) y424 from Kd.V_mk (by omega) hr16); have HC428 := am (show y424.length ≤ c0 from by omega); clear hr16 hC16 hroom16 hi016 hsz16; have KY16 := am hy16; clear hy16; replace q16 := eq_true q16) | ((with_reducible refine gate_builtin (b := .append) (xs := #[.tmp 34, .tmp 37]) rfl ?_); at_builtin; refine Kd.R_append_rows (Kd.int .i64) (w0 := w) w.heap.size rfl (.tmp 34) (.tmp 37) 31 3 (.int .i64 0) 8 rfl Try.underlying31 info3 rfl (by decide) (by omega) v422 y421 y424 _ _ _ (fun k_ => (w.heap.size ≤ k_)) (fun _ => False) rfl rfl ?aO ?aR (fun _ _ h => h) (fun _ h => h.elim) ?aF ?aB ?aS ?aL ?_; (case aR => repeat (first | exact (Kd.V_reads' HO428.out).2.2 | (with_reducible refine Kd.C_alloc ?_ _) | (with_reducible refine Kd.C_drewN ?_ _) | (with_reducible refine Kd.C_drew ?_))); (case aB => exact (Bz HB.out)); (case aF => exact (fun k_ hk => (Nat.le_trans (below_size (Bz HB.out)) hk))); (case aO => exact (Rz (Kd.R_mono HO423.out (fun _ hk => hk.1)))); (case aS => exact (below_size (Bz HB.out))); (case aL => have := LMc9.out; omega); intro v430 w17 ho hb hg hat; rw [← Ny429.out] at ho; have n0_ := am (Kd.V_afterv (ok := (fun k_ => (P0_ k_ ∨ w.heap.size ≤ k_))) (by (with_reducible repeat (first | apply Kd.V_alloc | apply Kd.V_drewN | apply Kd.V_drew)); exact HO_0.out) hg hat); have n1_ := am (Kd.V_afterv (ok := (fun k_ => (P0_ k_ ∨ w.heap.size ≤ k_))) (by (with_reducible repeat (first | apply Kd.V_alloc | apply Kd.V_drewN | apply Kd.V_drew)); exact HO428.out) hg hat); have n2_ := am (hb); have n3_ := am (ho); clear HO_0 HO428 HB HO423; revert n0_ n1_ n2_ n3_; intro HO_0 HO428 HB HO431; clear ho hb hg hat) | ((with_reducible refine gate_builtin (b := .append) (xs := #[.tmp 39, .tmp 41]) rfl ?_); at_builtin; refine Kd.R_append (Kd.int .i64) (w0 := w) w.heap.size rfl (.tmp 39) (.tmp 41) 31 3 (.int .i64 0) 8 rfl Try.underlying31 info3 rfl (by decide) (by omega) v430 y429 a1 [.int .i64 a1] (fun k_ => (w.heap.size ≤ k_)) (fun _ => False) rfl rfl ?aP (fun _ hk => hk.elim) ?aF ?aO ?aB ?aS ?aL ?_; (case aP => exact rfl); (case aB => exact (Bz HB.out)); (case aF => exact (fun k_ hk => (Nat.le_trans (below_size (Bz HB.out)) hk))); (case aO => exact (Rz HO431.out)); (case aS => exact (below_size (Bz HB.out))); (case aL => have := LMc10.out; omega); intro v433 w18 ho hb hg hat; rw [← Ny432.out] at ho; have n0_ := am (Kd.V_afterv (ok := (fun k_ => (P0_ k_ ∨ w.heap.size ≤ k_))) (by (with_reducible repeat (first | apply Kd.V_alloc | apply Kd.V_drewN | apply Kd.V_drew)); exact HO_0.out) hg hat); have n1_ := am (Kd.V_afterv (ok := (fun k_ => (P0_ k_ ∨ w.heap.size ≤ k_))) (by (with_reducible repeat (first | apply Kd.V_alloc | apply Kd.V_drewN | apply Kd.V_drew)); exact HO428.out) hg hat); have n2_ := am (hb); have n3_ := am (ho); clear HO_0 HO428 HB HO431; revert n0_ n1_ n2_ n3_; intro HO_0 HO428 HB HO434; clear ho hb hg hat; have q19 : (x5_1 : Int) ≤ ((l0.length : Int) : Int) := dT; obtain ⟨i019, hi019, _, hsz19, _⟩ := info_parts info3; have hroom19 : l0.length ≤ c0 := (Kd.V_reads' HO_0.out).2.1; have hC19 : Kd.F (Kd.int .i64) _ _ (some ad419) l0.length l0 := (Kd.V_at (base := w.heap.size) HO_0.out).2.2; have q019 : (0 : Int) ≤ (x5_1 : Int) := dT; have hcut19 := cut_from (P := Try.prog) 31 3 .i64 Try.underlying31 hi019 1 hsz19 (some ad419) l0.length c0 x5_1 q019 q19; have hr19 := Kd.F_cut (m := (x5_1 : Int).toNat) (c := c0) hC19 (by omega) hroom19; obtain ⟨A19, hA19⟩ : ∃ A1, A1 = (if c0 = (x5_1 : Int).toNat then (some ad419) else ((some ad419) : Option Addr).map (·.add ((x5_1 : Int).toNat * 1))) := ⟨_, rfl⟩; obtain ⟨c19, hc19⟩ : ∃ c1, c1 = c0 - (x5_1 : Int).toNat := ⟨_, rfl⟩; have hy19 : y435.length = l0.length - (x5_1 : Int).toNat := (by rw [Ny435.out, List.length_drop] <;> omega); rw [show (l0).drop (x5_1 : Int).toNat = y435 from Ny435.out.symm] at hr19; replace hr19 : Kd.F (Kd.int .i64) _ _ A19 y435.length y435 := (by rw [hA19]; exact hr19); rw [← hy19, ← hA19, ← hc19] at hcut19; have HO439 := am (show Kd.V (Kd.int .i64) 3 _ w.heap.size _ (.slice A19 y435.length c19) y435 from Kd.V_mk (by rw [hy19, hc19]; exact Nat.sub_le_sub_right hroom19 _) hr19); have HC439 := am (show y435.length ≤ c19 from by rw [hy19, hc19]; exact Nat.sub_le_sub_right hroom19 _); clear hr19 hC19 hroom19 hi019 hsz19 hc19; have KY19 := am hy19; have KA19 := am hA19; clear hy19 hA19; replace q19 := eq_true q19) | ((with_reducible refine gate_builtin (b := .append) (xs := #[.tmp 43, .tmp 46]) rfl ?_); at_builtin; refine Kd.R_append_rows (Kd.int .i64) (w0 := w) w.heap.size rfl (.tmp 43) (.tmp 46) 31 3 (.int .i64 0) 8 rfl Try.underlying31 info3 rfl (by decide) (by omega) v433 y432 y435 _ _ _ (fun k_ => (w.heap.size ≤ k_)) (fun _ => False) rfl rfl ?aO ?aR (fun _ _ h => h) (fun _ h => h.elim) ?aF ?aB ?aS ?aL ?_; (case aR => repeat (first | exact (Kd.V_reads' HO439.out).2.2 | (with_reducible refine Kd.C_alloc ?_ _) | (with_reducible refine Kd.C_drewN ?_ _) | (with_reducible refine Kd.C_drew ?_))); (case aB => exact (Bz HB.out)); (case aF => exact (fun k_ hk => (Nat.le_trans (below_size (Bz HB.out)) hk))); (case aO => exact (Rz HO434.out)); (case aS => exact (below_size (Bz HB.out))); (case aL => have := LMc13.out; omega); intro v441 w20 ho hb hg hat; rw [← Ny440.out] at ho; have n0_ := am (Kd.V_afterv (ok := (fun k_ => (P0_ k_ ∨ w.heap.size ≤ k_))) (by (with_reducible repeat (first | apply Kd.V_alloc | apply Kd.V_drewN | apply Kd.V_drew)); exact HO_0.out) hg hat); have n1_ := am (Kd.V_afterv (ok := (fun k_ => (P0_ k_ ∨ w.heap.size ≤ k_))) (by (with_reducible repeat (first | apply Kd.V_alloc | apply Kd.V_drewN | apply Kd.V_drew)); exact HO428.out) hg hat); have n2_ := am (Kd.V_afterv (ok := (fun k_ => (P0_ k_ ∨ w.heap.size ≤ k_))) (by (with_reducible repeat (first | apply Kd.V_alloc | apply Kd.V_drewN | apply Kd.V_drew)); exact HO439.out) hg hat); have n3_ := am (hb); have n4_ := am (ho); clear HO_0 HO428 HO439 HB HO434; revert n0_ n1_ n2_ n3_ n4_; intro HO_0 HO428 HO439 HB HO442; clear ho hb hg hat))
           go_ret
           exact ⟨_, eZ, Kd.V_mono (Kd.R_V (Rz HO442.out)) (fun k_ hk => by first | exact ⟨(.inr (hk.1)), hk.2⟩ | exact (.inr (hk))), Bz HB.out⟩
          ·rw [if_neg c13] at H
           exact absurd H (by simp)
         ·rw [if_neg c10] at H
          exact absurd H (by simp)
        ·rw [if_neg c9] at H
         exact absurd H (by simp)
       ·rw [if_neg c8] at H
        exact absurd H (by simp)
    ·rw [if_neg c4] at H
     exact absurd H (by simp)
   ·rw [if_neg c3] at H
    have c3b0 : decide (x5_1 < (l0.length : Int)) = false := decide_eq_false c3; clear c3; obtain ⟨y443, hy443⟩ : ∃ y_ : List Int, y_ = (([] : List Int)) := ⟨_, rfl⟩
    replace H : (if 0 ≤ x5_1 then (if x5_1 ≤ (l0.length : Int) then ((some (l0.take (x5_1 : Int).toNat : List Int)).bind fun y446 => (if y443.length + y446.length < 17592186044416 then ((some (y443 ++ y446 : List Int)).bind fun y451 => (if y451.length < 17592186044416 then ((some (y451 ++ [a1] : List Int)).bind fun y454 => ((some (l0.drop (x5_1 : Int).toNat : List Int)).bind fun y457 => (if y454.length + y457.length < 17592186044416 then (some (y454 ++ y457)) else (none)))) else (none))) else (none))) else (none)) else (none)) = some r := by first | (rw [hy443]; with_reducible exact H) | (have H2_ := (Option.bind_some _ _).symm.trans H; rw [hy443]; with_reducible exact H2_) | (have H2_ := (Option.bind_some _ _).symm.trans H; with_reducible exact H2_) | with_reducible exact H | (rw [hy443]; exact H) | exact H
    have Ny443 := am hy443; clear hy443
    by_cases c21 : 0 ≤ x5_1
    ·rw [if_pos c21] at H
     have c21b0 := eq_true c21; have c21b1 : decide (0 ≤ x5_1) = true := decide_eq_true c21; clear c21
     by_cases c22 : x5_1 ≤ (l0.length : Int)
     ·rw [if_pos c22] at H
      have c22b0 := eq_true c22; have c22b1 : decide (x5_1 ≤ (l0.length : Int)) = true := decide_eq_true c22; clear c22; obtain ⟨y446, hy446⟩ : ∃ y_ : List Int, y_ = (l0.take (x5_1 : Int).toNat) := ⟨_, rfl⟩
      replace H : (if y443.length + y446.length < 17592186044416 then ((some (y443 ++ y446 : List Int)).bind fun y451 => (if y451.length < 17592186044416 then ((some (y451 ++ [a1] : List Int)).bind fun y454 => ((some (l0.drop (x5_1 : Int).toNat : List Int)).bind fun y457 => (if y454.length + y457.length < 17592186044416 then (some (y454 ++ y457)) else (none)))) else (none))) else (none)) = some r := by first | (rw [hy446]; with_reducible exact H) | (have H2_ := (Option.bind_some _ _).symm.trans H; rw [hy446]; with_reducible exact H2_) | (have H2_ := (Option.bind_some _ _).symm.trans H; with_reducible exact H2_) | with_reducible exact H | (rw [hy446]; exact H) | exact H
      have Ny446 := am hy446; clear hy446
      by_cases c23 : y443.length + y446.length < 17592186044416
      ·rw [if_pos c23] at H
       have LMc23 := am c23; clear c23; obtain ⟨y451, hy451⟩ : ∃ y_ : List Int, y_ = (y443 ++ y446) := ⟨_, rfl⟩
       replace H : (if y451.length < 17592186044416 then ((some (y451 ++ [a1] : List Int)).bind fun y454 => ((some (l0.drop (x5_1 : Int).toNat : List Int)).bind fun y457 => (if y454.length + y457.length < 17592186044416 then (some (y454 ++ y457)) else (none)))) else (none)) = some r := by first | (rw [hy451]; with_reducible exact H) | (have H2_ := (Option.bind_some _ _).symm.trans H; rw [hy451]; with_reducible exact H2_) | (have H2_ := (Option.bind_some _ _).symm.trans H; with_reducible exact H2_) | with_reducible exact H | (rw [hy451]; exact H) | exact H
       have Ny451 := am hy451; clear hy451
       by_cases c24 : y451.length < 17592186044416
       ·rw [if_pos c24] at H
        have LMc24 := am c24; clear c24; obtain ⟨y454, hy454⟩ : ∃ y_ : List Int, y_ = (y451 ++ [a1]) := ⟨_, rfl⟩
        replace H : ((some (l0.drop (x5_1 : Int).toNat : List Int)).bind fun y457 => (if y454.length + y457.length < 17592186044416 then (some (y454 ++ y457)) else (none))) = some r := by first | (rw [hy454]; with_reducible exact H) | (have H2_ := (Option.bind_some _ _).symm.trans H; rw [hy454]; with_reducible exact H2_) | (have H2_ := (Option.bind_some _ _).symm.trans H; with_reducible exact H2_) | with_reducible exact H | (rw [hy454]; exact H) | exact H
        have Ny454 := am hy454; clear hy454; have c25b0 := eq_true (dT : 0 ≤ x5_1); have c26b0 := eq_true (dT : x5_1 ≤ (l0.length : Int)); obtain ⟨y457, hy457⟩ : ∃ y_ : List Int, y_ = (l0.drop (x5_1 : Int).toNat) := ⟨_, rfl⟩
        replace H : (if y454.length + y457.length < 17592186044416 then (some (y454 ++ y457)) else (none)) = some r := by first | (rw [hy457]; with_reducible exact H) | (have H2_ := (Option.bind_some _ _).symm.trans H; rw [hy457]; with_reducible exact H2_) | (have H2_ := (Option.bind_some _ _).symm.trans H; with_reducible exact H2_) | with_reducible exact H | (rw [hy457]; exact H) | exact H
        have Ny457 := am hy457; clear hy457
        by_cases c27 : y454.length + y457.length < 17592186044416
        ·rw [if_pos c27] at H
         have LMc27 := am c27; clear c27; obtain ⟨y462, hy462⟩ : ∃ y_ : List Int, y_ = (y454 ++ y457) := ⟨_, rfl⟩
         replace H : (some y462) = some r := by first | (rw [hy462]; with_reducible exact H) | (have H2_ := (Option.bind_some _ _).symm.trans H; rw [hy462]; with_reducible exact H2_) | (have H2_ := (Option.bind_some _ _).symm.trans H; with_reducible exact H2_) | with_reducible exact H | (rw [hy462]; exact H) | exact H
         have Ny462 := am hy462; clear hy462; obtain rfl := Option.some.inj H
         go_wp2_with (first | ((with_reducible refine gate_dst (N := 34) rfl ?_); refine Kd.R_lit (Kd.int .i64) _ 3 ?hg (N := 34) ?hd (xs := ([] : List Int)) (inner := []) (ok := fun _ => True) (okp := fun _ => True) ?hr ?hp (fun _ hk => hk) trivial (Below.refl _ _) (Nat.le_refl _) (by simp) ?_; (case hd => rfl); (case hg => rfl); (case hr => first | (go_simp; done) | (go_simp; rfl)); (case hp => exact (Reps.none _ _)); intro v444 w28 ho29 hb hg_ hnew_; clear hg_ hnew_; (first | rw [← Ny443.out] at ho29 | (simp only [Int.reduceToNat] at ho29; rw [← Ny443.out] at ho29)); have n0_ := am (Kd.V_elder' (by (with_reducible repeat (first | apply Kd.V_alloc | apply Kd.V_drewN | apply Kd.V_drew)); exact HO_0.out) (Kd.R_base ho29) hb); have n1_ := Rl (Kd.R_newM (M := fun k_ => (w.heap.size ≤ k_)) ho29 (below_size (Bz HB.out)) (fun k_ h_ => h_)) HB; have n2_ := Bb HB hb; clear HO_0 HB; revert n0_ n1_ n2_; intro HO_0 HO445 HB; clear hb ho29; have q30 : (x5_1 : Int) ≤ ((l0.length : Int) : Int) := dT; obtain ⟨i030, hi030, _, hsz30, _⟩ := info_parts info3; have hroom30 : l0.length ≤ c0 := (Kd.V_reads' HO_0.out).2.1; have hC30 : Kd.F (Kd.int .i64) _ _ A0 l0.length l0 := (Kd.V_at (base := w.heap.size) HO_0.out).2.2; have hcut30 := cut_to (P := Try.prog) 31 3 .i64 Try.underlying31 hi030 A0 l0.length c0 x5_1 (dT) q30 hroom30; have hr30 := Kd.F_take (m := (x5_1 : Int).toNat) hC30 (by omega); have hy30 : y446.length = (x5_1 : Int).toNat := (by rw [Ny446.out, List.length_take]; omega); rw [← Ny446.out] at hr30; rw [← hy30] at hcut30; have HO450 := am (show Kd.V (Kd.int .i64) 3 _ w.heap.size _ (.slice A0 y446.length c0) y446 from Kd.V_mk (by omega) hr30); have HC450 := am (show y446.length ≤ c0 from by omega); clear hr30 hC30 hroom30 hi030 hsz30; have KY30 := am hy30; clear hy30; replace q30 := eq_true q30) | ((with_reducible refine gate_builtin (b := .append) (xs := #[.tmp 34, .tmp 37]) rfl ?_); at_builtin; refine Kd.R_append_rows (Kd.int .i64) (w0 := w) w.heap.size rfl (.tmp 34) (.tmp 37) 31 3 (.int .i64 0) 8 rfl Try.underlying31 info3 rfl (by decide) (by omega) v444 y443 y446 _ _ _ (fun k_ => (w.heap.size ≤ k_)) (fun _ => False) rfl rfl ?aO ?aR (fun _ _ h => h) (fun _ h => h.elim) ?aF ?aB ?aS ?aL ?_; (case aR => repeat (first | exact (Kd.V_reads' HO450.out).2.2 | (with_reducible refine Kd.C_alloc ?_ _) | (with_reducible refine Kd.C_drewN ?_ _) | (with_reducible refine Kd.C_drew ?_))); (case aB => exact (Bz HB.out)); (case aF => exact (fun k_ hk => (Nat.le_trans (below_size (Bz HB.out)) hk))); (case aO => exact (Rz (Kd.R_mono HO445.out (fun _ hk => hk.1)))); (case aS => exact (below_size (Bz HB.out))); (case aL => have := LMc23.out; omega); intro v452 w31 ho hb hg hat; rw [← Ny451.out] at ho; have n0_ := am (Kd.V_afterv (ok := (fun k_ => (P0_ k_ ∨ w.heap.size ≤ k_))) (by (with_reducible repeat (first | apply Kd.V_alloc | apply Kd.V_drewN | apply Kd.V_drew)); exact HO_0.out) hg hat); have n1_ := am (Kd.V_afterv (ok := (fun k_ => (P0_ k_ ∨ w.heap.size ≤ k_))) (by (with_reducible repeat (first | apply Kd.V_alloc | apply Kd.V_drewN | apply Kd.V_drew)); exact HO450.out) hg hat); have n2_ := am (hb); have n3_ := am (ho); clear HO_0 HO450 HB HO445; revert n0_ n1_ n2_ n3_; intro HO_0 HO450 HB HO453; clear ho hb hg hat) | ((with_reducible refine gate_builtin (b := .append) (xs := #[.tmp 39, .tmp 41]) rfl ?_); at_builtin; refine Kd.R_append (Kd.int .i64) (w0 := w) w.heap.size rfl (.tmp 39) (.tmp 41) 31 3 (.int .i64 0) 8 rfl Try.underlying31 info3 rfl (by decide) (by omega) v452 y451 a1 [.int .i64 a1] (fun k_ => (w.heap.size ≤ k_)) (fun _ => False) rfl rfl ?aP (fun _ hk => hk.elim) ?aF ?aO ?aB ?aS ?aL ?_; (case aP => exact rfl); (case aB => exact (Bz HB.out)); (case aF => exact (fun k_ hk => (Nat.le_trans (below_size (Bz HB.out)) hk))); (case aO => exact (Rz HO453.out)); (case aS => exact (below_size (Bz HB.out))); (case aL => have := LMc24.out; omega); intro v455 w32 ho hb hg hat; rw [← Ny454.out] at ho; have n0_ := am (Kd.V_afterv (ok := (fun k_ => (P0_ k_ ∨ w.heap.size ≤ k_))) (by (with_reducible repeat (first | apply Kd.V_alloc | apply Kd.V_drewN | apply Kd.V_drew)); exact HO_0.out) hg hat); have n1_ := am (Kd.V_afterv (ok := (fun k_ => (P0_ k_ ∨ w.heap.size ≤ k_))) (by (with_reducible repeat (first | apply Kd.V_alloc | apply Kd.V_drewN | apply Kd.V_drew)); exact HO450.out) hg hat); have n2_ := am (hb); have n3_ := am (ho); clear HO_0 HO450 HB HO453; revert n0_ n1_ n2_ n3_; intro HO_0 HO450 HB HO456; clear ho hb hg hat; have q33 : (x5_1 : Int) ≤ ((l0.length : Int) : Int) := dT; obtain ⟨i033, hi033, _, hsz33, _⟩ := info_parts info3; have hroom33 : l0.length ≤ c0 := (Kd.V_reads' HO_0.out).2.1; have hC33 : Kd.F (Kd.int .i64) _ _ A0 l0.length l0 := (Kd.V_at (base := w.heap.size) HO_0.out).2.2; have q033 : (0 : Int) ≤ (x5_1 : Int) := dT; have hcut33 := cut_from (P := Try.prog) 31 3 .i64 Try.underlying31 hi033 1 hsz33 A0 l0.length c0 x5_1 q033 q33; have hr33 := Kd.F_cut (m := (x5_1 : Int).toNat) (c := c0) hC33 (by omega) hroom33; obtain ⟨A33, hA33⟩ : ∃ A1, A1 = (if c0 = (x5_1 : Int).toNat then A0 else (A0 : Option Addr).map (·.add ((x5_1 : Int).toNat * 1))) := ⟨_, rfl⟩; obtain ⟨c33, hc33⟩ : ∃ c1, c1 = c0 - (x5_1 : Int).toNat := ⟨_, rfl⟩; have hy33 : y457.length = l0.length - (x5_1 : Int).toNat := (by rw [Ny457.out, List.length_drop] <;> omega); rw [show (l0).drop (x5_1 : Int).toNat = y457 from Ny457.out.symm] at hr33; replace hr33 : Kd.F (Kd.int .i64) _ _ A33 y457.length y457 := (by rw [hA33]; exact hr33); rw [← hy33, ← hA33, ← hc33] at hcut33; have HO461 := am (show Kd.V (Kd.int .i64) 3 _ w.heap.size _ (.slice A33 y457.length c33) y457 from Kd.V_mk (by rw [hy33, hc33]; exact Nat.sub_le_sub_right hroom33 _) hr33); have HC461 := am (show y457.length ≤ c33 from by rw [hy33, hc33]; exact Nat.sub_le_sub_right hroom33 _); clear hr33 hC33 hroom33 hi033 hsz33 hc33; have KY33 := am hy33; have KA33 := am hA33; clear hy33 hA33; replace q33 := eq_true q33) | ((with_reducible refine gate_builtin (b := .append) (xs := #[.tmp 43, .tmp 46]) rfl ?_); at_builtin; refine Kd.R_append_rows (Kd.int .i64) (w0 := w) w.heap.size rfl (.tmp 43) (.tmp 46) 31 3 (.int .i64 0) 8 rfl Try.underlying31 info3 rfl (by decide) (by omega) v455 y454 y457 _ _ _ (fun k_ => (w.heap.size ≤ k_)) (fun _ => False) rfl rfl ?aO ?aR (fun _ _ h => h) (fun _ h => h.elim) ?aF ?aB ?aS ?aL ?_; (case aR => repeat (first | exact (Kd.V_reads' HO461.out).2.2 | (with_reducible refine Kd.C_alloc ?_ _) | (with_reducible refine Kd.C_drewN ?_ _) | (with_reducible refine Kd.C_drew ?_))); (case aB => exact (Bz HB.out)); (case aF => exact (fun k_ hk => (Nat.le_trans (below_size (Bz HB.out)) hk))); (case aO => exact (Rz HO456.out)); (case aS => exact (below_size (Bz HB.out))); (case aL => have := LMc27.out; omega); intro v463 w34 ho hb hg hat; rw [← Ny462.out] at ho; have n0_ := am (Kd.V_afterv (ok := (fun k_ => (P0_ k_ ∨ w.heap.size ≤ k_))) (by (with_reducible repeat (first | apply Kd.V_alloc | apply Kd.V_drewN | apply Kd.V_drew)); exact HO_0.out) hg hat); have n1_ := am (Kd.V_afterv (ok := (fun k_ => (P0_ k_ ∨ w.heap.size ≤ k_))) (by (with_reducible repeat (first | apply Kd.V_alloc | apply Kd.V_drewN | apply Kd.V_drew)); exact HO450.out) hg hat); have n2_ := am (Kd.V_afterv (ok := (fun k_ => (P0_ k_ ∨ w.heap.size ≤ k_))) (by (with_reducible repeat (first | apply Kd.V_alloc | apply Kd.V_drewN | apply Kd.V_drew)); exact HO461.out) hg hat); have n3_ := am (hb); have n4_ := am (ho); clear HO_0 HO450 HO461 HB HO456; revert n0_ n1_ n2_ n3_ n4_; intro HO_0 HO450 HO461 HB HO464; clear ho hb hg hat))
         go_ret
         exact ⟨_, eZ, Kd.V_mono (Kd.R_V (Rz HO464.out)) (fun k_ hk => by first | exact ⟨(.inr (hk.1)), hk.2⟩ | exact (.inr (hk))), Bz HB.out⟩
        ·rw [if_neg c27] at H
         exact absurd H (by simp)
       ·rw [if_neg c24] at H
        exact absurd H (by simp)
      ·rw [if_neg c23] at H
       exact absurd H (by simp)
     ·rw [if_neg c22] at H
      exact absurd H (by simp)
    ·rw [if_neg c21] at H
     exact absurd H (by simp)

mutual
def spec_cuGroup.l0 : Nat → List (List Int) → List Int → Bool → Option (List Int)
 | 0, _, _, _ => none
 | k + 1, x0, x5, x6 => if x6 = true then (spec_cuGroup.l1 k x0 x5 false x0 (x0.length : Int) 0) else (some x5)
def spec_cuGroup.l1 : Nat → List (List Int) → List Int → Bool → List (List Int) → Int → Int → Option (List Int)
 | 0, _, _, _, _, _, _ => none
 | k + 1, x0, x5, x6, x14, x15, x16 => if x16 < x15 then (if 0 ≤ x16 then (if x16 < (x14.length : Int) then (spec_cuGroup.l2 k x0 x5 x6 x16 (rd_L3 x14 x16) x14 x15 x16 x5 (x5.length : Int) 0) else (none)) else (none)) else (spec_cuGroup.l0 k x0 x5 x6)
def spec_cuGroup.l2 : Nat → List (List Int) → List Int → Bool → Int → List Int → List (List Int) → Int → Int → List Int → Int → Int → Option (List Int)
 | 0, _, _, _, _, _, _, _, _, _, _, _ => none
 | k + 1, x0, x5, x6, x7, x8, x14, x15, x16, x21, x22, x23 => if x23 < x22 then (if 0 ≤ x23 then (if x23 < (x21.length : Int) then ((spec_l1Has.f k x5 x7).bind fun t470 => (if t470 = true then (spec_cuGroup.l2 k x0 x5 x6 x7 x8 x14 x15 x16 x21 x22 (wrap64 (x23 + 1))) else (if 0 ≤ (rd x21 x23) then (if (rd x21 x23) < (x0.length : Int) then (if 0 < (x8.length : Int) then ((spec_l1Has.f k (rd_L3 x0 (rd x21 x23)) (rd x8 0)).bind fun t473 => (if t473 = true then ((spec_l1Put.f k x5 x7).bind fun t474 => (spec_cuGroup.l2 k x0 t474 true x7 x8 x14 x15 x16 x21 x22 (wrap64 (x23 + 1)))) else (if 1 < (x8.length : Int) then ((spec_l1Has.f k (rd_L3 x0 (rd x21 x23)) (rd x8 1)).bind fun t479 => (if t479 = true then ((spec_l1Put.f k x5 x7).bind fun t480 => (spec_cuGroup.l2 k x0 t480 true x7 x8 x14 x15 x16 x21 x22 (wrap64 (x23 + 1)))) else (spec_cuGroup.l2 k x0 x5 x6 x7 x8 x14 x15 x16 x21 x22 (wrap64 (x23 + 1))))) else (none)))) else (none)) else (none)) else (none)))) else (none)) else (none)) else (spec_cuGroup.l1 k x0 x5 x6 x14 x15 (wrap64 (x16 + 1)))
end
def spec_cuGroup.f (k : Nat) (l0 : List (List Int)) (a1 : Int) : Option (List Int) := spec_cuGroup.l0 k l0 (([a1] : List Int)) true
theorem spec_cuGroup.calls (k : Nat) (A0 : Option Addr) (c0 : Nat) (l0 : List (List Int)) (a1 : Int) (r : List Int) (w : World) (hr0 : Kd.C (Kd.slice 3 (Kd.int .i64)) w A0 l0.length l0) (hc0 : l0.length ≤ c0) (h : spec_cuGroup.f k l0 a1 = some r) :
  Calls Try.prog 124 #[.slice A0 l0.length c0, .int .i64 a1] w fun e w' => ∃ v0_ : Value, e = .returned (v0_) ∧ Kd.V (Kd.int .i64) 3 w' w.heap.size (fun k_ => (w.heap.size ≤ k_)) v0_ r ∧ Below w.heap.size w w' := by
 have HR0 := am hr0; have HC0 := am hc0; clear hr0 hc0; have HB := am (Below.refl w.heap.size w); have H : (spec_cuGroup.l0 k l0 (([a1] : List Int)) true) = some r := h; clear h; obtain ⟨y465, hy465⟩ : ∃ y_ : List Int, y_ = (([a1] : List Int)) := ⟨_, rfl⟩
 replace H : (spec_cuGroup.l0 k l0 y465 true) = some r := by first | (rw [hy465]; with_reducible exact H) | (have H2_ := (Option.bind_some _ _).symm.trans H; rw [hy465]; with_reducible exact H2_) | (have H2_ := (Option.bind_some _ _).symm.trans H; with_reducible exact H2_) | with_reducible exact H | (rw [hy465]; exact H) | exact H
 have Ny465 := am hy465; clear hy465; have H' := am H; clear H
 go_enter Try.func124, Try.ntmps124
 go_wp2_with (first | ((with_reducible refine gate_dst (N := 12) rfl ?_); refine Kd.R_lit (Kd.int .i64) _ 3 ?hg (N := 12) ?hd (xs := ([a1] : List Int)) (inner := [.int .i64 a1]) (ok := fun _ => True) (okp := fun _ => True) ?hr ?hp (fun _ hk => hk) trivial (Below.refl _ _) (Nat.le_refl _) (by simp) ?_; (case hd => rfl); (case hg => rfl); (case hr => first | (go_simp; done) | (go_simp; rfl)); (case hp => exact (Reps.one (show Kd.M (Kd.int .i64) _ _ _ a1 [.int .i64 a1] from rfl) (Reps.none _ _))); intro v466 w3 ho4 hb hg_ hnew_; clear hg_ hnew_; (first | rw [← Ny465.out] at ho4 | (simp only [Int.reduceToNat] at ho4; rw [← Ny465.out] at ho4)); have n0_ := Rl (Kd.R_newM (M := fun k_ => (w.heap.size ≤ k_)) ho4 (below_size (Bz HB.out)) (fun k_ h_ => h_)) HB; have n1_ := Bb HB hb; clear HB; revert n0_ n1_; intro HO467 HB; clear hb ho4))
 repeat (go_quiet (first | ((with_reducible refine gate_dst (N := 12) rfl ?_); refine Kd.R_lit (Kd.int .i64) _ 3 ?hg (N := 12) ?hd (xs := ([a1] : List Int)) (inner := [.int .i64 a1]) (ok := fun _ => True) (okp := fun _ => True) ?hr ?hp (fun _ hk => hk) trivial (Below.refl _ _) (Nat.le_refl _) (by simp) ?_; (case hd => rfl); (case hg => rfl); (case hr => first | (go_simp; done) | (go_simp; rfl)); (case hp => exact (Reps.one (show Kd.M (Kd.int .i64) _ _ _ a1 [.int .i64 a1] from rfl) (Reps.none _ _))); intro v466 w3 ho4 hb hg_ hnew_; clear hg_ hnew_; (first | rw [← Ny465.out] at ho4 | (simp only [Int.reduceToNat] at ho4; rw [← Ny465.out] at ho4)); have n0_ := Rl (Kd.R_newM (M := fun k_ => (w.heap.size ≤ k_)) ho4 (below_size (Bz HB.out)) (fun k_ h_ => h_)) HB; have n1_ := Bb HB hb; clear HB; revert n0_ n1_; intro HO467 HB; clear hb ho4)); try go_wp2_with (first | ((with_reducible refine gate_dst (N := 12) rfl ?_); refine Kd.R_lit (Kd.int .i64) _ 3 ?hg (N := 12) ?hd (xs := ([a1] : List Int)) (inner := [.int .i64 a1]) (ok := fun _ => True) (okp := fun _ => True) ?hr ?hp (fun _ hk => hk) trivial (Below.refl _ _) (Nat.le_refl _) (by simp) ?_; (case hd => rfl); (case hg => rfl); (case hr => first | (go_simp; done) | (go_simp; rfl)); (case hp => exact (Reps.one (show Kd.M (Kd.int .i64) _ _ _ a1 [.int .i64 a1] from rfl) (Reps.none _ _))); intro v466 w3 ho4 hb hg_ hnew_; clear hg_ hnew_; (first | rw [← Ny465.out] at ho4 | (simp only [Int.reduceToNat] at ho4; rw [← Ny465.out] at ho4)); have n0_ := Rl (Kd.R_newM (M := fun k_ => (w.heap.size ≤ k_)) ho4 (below_size (Bz HB.out)) (fun k_ h_ => h_)) HB; have n1_ := Bb HB hb; clear HB; revert n0_ n1_; intro HO467 HB; clear hb ho4)))
 (try simp only [aP])
 go_loopg [5, 6] k (fun kq v5 v6 w' => ∃ (x5_1 : List Int) (x6_1 : Bool), v6 = .bool x6_1 ∧ Aside0 (spec_cuGroup.l0 kq l0 x5_1 x6_1 = some r) ∧ Aside0 (kq ≤ k) ∧ Aside0 (Kd.V (Kd.int .i64) 3 w' w.heap.size (fun k_ => (w.heap.size ≤ k_)) v5 x5_1) ∧ Aside0 (Below w.heap.size w w'))
 case atStart => exact ⟨(y465), (true), wZ, H', ⟨Nat.le_refl _⟩, ⟨Kd.R_V (Rz (Kd.R_mono HO467.out (fun _ hk => hk.1)))⟩, ⟨Bz HB.out⟩⟩
 case round =>
  clear H'
  try clear c1
  try clear p2
  obtain ⟨x5_1, x6_1, rfl, HA, HK1, HO_5, HB⟩ := hrel; cases gk with
  | zero => exact absurd HA.out (by simp [spec_cuGroup.l0])
  | succ k1 =>
   have H := HA.out; clear HA
   simp only [spec_cuGroup.l0] at H
   by_cases c5 : x6_1 = true
   ·subst c5
    rw [if_pos rfl] at H; have H' := am H; clear H
    go_wp2
    repeat (go_quiet (fail); try go_wp2)
    go_loopg [5, 6, 16] k1 (fun kq v5 v6 v16 w' => ∃ (x5_2 : List Int) (x6_2 : Bool) (x16_2 : Int), v6 = .bool x6_2 ∧ v16 = .int .i64 x16_2 ∧ Aside0 (spec_cuGroup.l1 kq l0 x5_2 x6_2 l0 (l0.length : Int) x16_2 = some r) ∧ Aside0 (kq ≤ k1) ∧ Aside0 (Kd.V (Kd.int .i64) 3 w' w.heap.size (fun k_ => (w.heap.size ≤ k_)) v5 x5_2) ∧ Aside0 (Below w.heap.size w w'))
    case atStart => exact ⟨(x5_1), (false), (0), wZ, wZ, H', ⟨Nat.le_refl _⟩, ⟨by (with_reducible repeat (first | apply Kd.V_alloc | apply Kd.V_drewN | apply Kd.V_drew)); exact HO_5.out⟩, ⟨Bz HB.out⟩⟩
    case round =>
     clear H'
     try clear c1
     try clear p2
     try clear c5
     try clear p2
     try clear HO_5
     obtain ⟨x5_2, x6_2, x16_2, rfl, rfl, HA, HK2, HO_5, HB⟩ := hrel; cases gk with
     | zero => exact absurd HA.out (by simp [spec_cuGroup.l1])
     | succ k2 =>
      have H := HA.out; clear HA
      simp only [spec_cuGroup.l1] at H
      by_cases c6 : x16_2 < (l0.length : Int)
      ·rw [if_pos c6] at H
       have c6b0 : decide (x16_2 < (l0.length : Int)) = true := decide_eq_true c6; clear c6
       by_cases c7 : 0 ≤ x16_2
       ·rw [if_pos c7] at H
        have c7b0 : decide (0 ≤ x16_2) = true := decide_eq_true c7; clear c7
        by_cases c8 : x16_2 < (l0.length : Int)
        ·rw [if_pos c8] at H
         have c8b0 : decide (x16_2 < (l0.length : Int)) = true := decide_eq_true c8; clear c8; have H' := am H; clear H; have p468 : 0 ≤ (x16_2 : Int) := dT; have q468 : x16_2 < (l0.length : Int) := dT; obtain ⟨ad468, A468_0, c468_0, e468, hx468_0, hl468_0, hi468_0⟩ := at_L3 HR0.out x16_2 p468 q468; cases e468; replace hx468_0 := (HB.out.cell (World.block_lt_of_cell? w _ hx468_0)).trans hx468_0; have HR468_0 := am hi468_0; have HC468_0 := am hl468_0; clear hi468_0 hl468_0; replace p468 := eq_true p468; replace q468 := eq_true q468; obtain ⟨Ao9, co9, eo9⟩ := Kd.V_slice HO_5.out; (first | subst eo9 | (injection eo9 with f1_ f2_ f3_; have f4_ := f1_.symm; have f5_ := f3_.symm; clear f1_ f2_ f3_; subst f4_; subst f5_))
         go_wp2
         repeat (go_quiet (fail); try go_wp2)
         go_loopg [5, 6, 23] k2 (fun kq v5 v6 v23 w' => ∃ (x5_3 : List Int) (x6_3 : Bool) (x23_3 : Int), v6 = .bool x6_3 ∧ v23 = .int .i64 x23_3 ∧ Aside0 (spec_cuGroup.l2 kq l0 x5_3 x6_3 x16_2 (rd_L3 l0 x16_2) l0 (l0.length : Int) x16_2 x5_2 (x5_2.length : Int) x23_3 = some r) ∧ Aside0 (kq ≤ k2) ∧ Aside0 (Kd.V (Kd.int .i64) 3 w' w.heap.size (fun k_ => (w.heap.size ≤ k_)) v5 x5_3) ∧ Aside0 (Kd.V (Kd.int .i64) 3 w' w.heap.size (fun k_ => (w.heap.size ≤ k_)) (.slice Ao9 x5_2.length co9) x5_2) ∧ Aside0 (Below w.heap.size w w'))
         case atStart => exact ⟨(x5_2), (x6_2), (0), wZ, wZ, H', ⟨Nat.le_refl _⟩, ⟨by (with_reducible repeat (first | apply Kd.V_alloc | apply Kd.V_drewN | apply Kd.V_drew)); exact HO_5.out⟩, ⟨by (with_reducible repeat (first | apply Kd.V_alloc | apply Kd.V_drewN | apply Kd.V_drew)); exact HO_5.out⟩, ⟨Bz HB.out⟩⟩
         case round =>
          clear H'
          try clear c1
          try clear p2
          try clear c4
          try clear p4
          try clear q4
          try clear hx4
          try clear c5
          try clear c6
          try clear c6b0
          try clear c7
          try clear c7b0
          try clear c8
          try clear c8b0
          try clear hx468_0
          try clear p2
          try clear p468
          try clear q468
          try clear HO_5
          obtain ⟨x5_3, x6_3, x23_3, rfl, rfl, HA, HK3, HO_5, HO_21, HB⟩ := hrel; cases gk with
          | zero => exact absurd HA.out (by simp [spec_cuGroup.l2])
          | succ k3 =>
           have H := HA.out; clear HA
           simp only [spec_cuGroup.l2] at H
           by_cases c10 : x23_3 < (x5_2.length : Int)
           ·rw [if_pos c10] at H
            have c10b0 : decide (x23_3 < (x5_2.length : Int)) = true := decide_eq_true c10; clear c10
            by_cases c11 : 0 ≤ x23_3
            ·rw [if_pos c11] at H
             have c11b0 : decide (0 ≤ x23_3) = true := decide_eq_true c11; clear c11
             by_cases c12 : x23_3 < (x5_2.length : Int)
             ·rw [if_pos c12] at H
              have c12b0 : decide (x23_3 < (x5_2.length : Int)) = true := decide_eq_true c12; clear c12; replace H := Option.bind_eq_some_iff.mp H; obtain ⟨t470, A130, H⟩ := H; (try dsimp -simprocs only at H); have A13 := am A130; clear A130
              by_cases c14 : t470 = true
              ·subst c14
               rw [if_pos rfl] at H; have H' := am H; clear H; obtain ⟨ad469, e469, hx469_0⟩ := Kd.at_int (Kd.V_reads' HO_21.out).2.2 x23_3 dT dT; cases e469; have p469 := eT (0 ≤ (x23_3 : Int)); have q469 := eT (x23_3 < (x5_2.length : Int)); obtain ⟨Ao15, co15, eo15⟩ := Kd.V_slice HO_5.out; (first | subst eo15 | (injection eo15 with f1_ f2_ f3_; have f4_ := f1_.symm; have f5_ := f3_.symm; clear f1_ f2_ f3_; subst f4_; subst f5_))
               go_wp2_with (first | (go_at_call 82; (with_reducible refine (spec_l1Has.calls k3 _ _ x5_3 x16_2 true _ ?side1 ?side2 A13.out).mono ?_); (case side1 => exact Cz ((Kd.V_reads' HO_5.out).2.2)); (case side2 => exact (Kd.V_reads' HO_5.out).2.1); rintro e w' ⟨rfl, ⟨nd, rfl⟩⟩; (try exact yZ)))
               repeat (go_quiet (first | (go_at_call 82; (with_reducible refine (spec_l1Has.calls k3 _ _ x5_3 x16_2 true _ ?side1 ?side2 A13.out).mono ?_); (case side1 => exact Cz ((Kd.V_reads' HO_5.out).2.2)); (case side2 => exact (Kd.V_reads' HO_5.out).2.1); rintro e w' ⟨rfl, ⟨nd, rfl⟩⟩; (try exact yZ))); try go_wp2_with (first | (go_at_call 82; (with_reducible refine (spec_l1Has.calls k3 _ _ x5_3 x16_2 true _ ?side1 ?side2 A13.out).mono ?_); (case side1 => exact Cz ((Kd.V_reads' HO_5.out).2.2)); (case side2 => exact (Kd.V_reads' HO_5.out).2.1); rintro e w' ⟨rfl, ⟨nd, rfl⟩⟩; (try exact yZ))))
               go_roundg k3
               case measure => have := HK1.out; have := HK2.out; have := HK3.out; omega
               case rel => exact ⟨(x5_3), (x6_3), (wrap64 (x23_3 + 1)), wZ, wZ, H', ⟨by have := HK1.out; have := HK2.out; have := HK3.out; omega⟩, ⟨by (with_reducible repeat (first | apply Kd.V_alloc | apply Kd.V_drewN | apply Kd.V_drew)); exact HO_5.out⟩, ⟨by (with_reducible repeat (first | apply Kd.V_alloc | apply Kd.V_drewN | apply Kd.V_drew)); exact HO_21.out⟩, ⟨Bz HB.out⟩⟩
              ·replace c14 := Bool.eq_false_iff.mpr c14
               subst c14
               rw [if_neg (show ¬ (false = true) by decide)] at H
               by_cases c16 : 0 ≤ (rd x5_2 x23_3)
               ·rw [if_pos c16] at H
                have c16b0 : decide (0 ≤ (rd x5_2 x23_3)) = true := decide_eq_true c16; clear c16
                by_cases c17 : (rd x5_2 x23_3) < (l0.length : Int)
                ·rw [if_pos c17] at H
                 have c17b0 : decide ((rd x5_2 x23_3) < (l0.length : Int)) = true := decide_eq_true c17; clear c17
                 by_cases c18 : 0 < ((rd_L3 l0 x16_2).length : Int)
                 ·rw [if_pos c18] at H
                  have c18b0 : decide (0 < ((rd_L3 l0 x16_2).length : Int)) = true := decide_eq_true c18; have c18b1 : decide (0 < (rd_L3 l0 x16_2).length) = true := decide_eq_true (by omega); clear c18; replace H := Option.bind_eq_some_iff.mp H; obtain ⟨t473, A190, H⟩ := H; (try dsimp -simprocs only at H); have A19 := am A190; clear A190
                  by_cases c20 : t473 = true
                  ·subst c20
                   rw [if_pos rfl] at H; replace H := Option.bind_eq_some_iff.mp H; obtain ⟨t474, A210, H⟩ := H; (try dsimp -simprocs only at H); have A21 := am A210; clear A210; have H' := am H; clear H; obtain ⟨ad469, e469, hx469_0⟩ := Kd.at_int (Kd.V_reads' HO_21.out).2.2 x23_3 dT dT; cases e469; have p469 := eT (0 ≤ (x23_3 : Int)); have q469 := eT (x23_3 < (x5_2.length : Int)); obtain ⟨Ao22, co22, eo22⟩ := Kd.V_slice HO_5.out; (first | subst eo22 | (injection eo22 with f1_ f2_ f3_; have f4_ := f1_.symm; have f5_ := f3_.symm; clear f1_ f2_ f3_; subst f4_; subst f5_))
                   have p471 : 0 ≤ ((rd x5_2 x23_3) : Int) := dT; have q471 : (rd x5_2 x23_3) < (l0.length : Int) := dT; obtain ⟨ad471, A471_0, c471_0, e471, hx471_0, hl471_0, hi471_0⟩ := at_L3 HR0.out (rd x5_2 x23_3) p471 q471; obtain rfl : ad468 = ad471 := (by injection e471); replace hx471_0 := (HB.out.cell (World.block_lt_of_cell? w _ hx471_0)).trans hx471_0; have HR471_0 := am hi471_0; have HC471_0 := am hl471_0; clear hi471_0 hl471_0; replace p471 := eq_true p471; replace q471 := eq_true q471; have p472 : 0 ≤ (0 : Int) := (by omega); have q472 : 0 < ((rd_L3 l0 x16_2).length : Int) := dT; obtain ⟨ad472, e472, hx472_0⟩ := Kd.at_int HR468_0.out 0 p472 q472; cases e472; have qi472 : (0 < (rd_L3 l0 x16_2).length) = True := eq_true (by omega); (try rw [show ((0 : Int)).toNat = 0 from rfl] at hx472_0); (try rw [Addr.add_zero'] at hx472_0); replace hx472_0 := (HB.out.cell (World.block_lt_of_cell? w _ hx472_0)).trans hx472_0; replace p472 := eq_true p472; replace q472 := eq_true q472
                   go_wp2_with (first | (go_at_call 82; (with_reducible refine (spec_l1Has.calls k3 _ _ x5_3 x16_2 false _ ?side1 ?side2 A13.out).mono ?_); (case side1 => exact Cz ((Kd.V_reads' HO_5.out).2.2)); (case side2 => exact (Kd.V_reads' HO_5.out).2.1); rintro e w' ⟨rfl, ⟨nd, rfl⟩⟩; (try exact yZ)) | (go_at_call 82; (with_reducible refine (spec_l1Has.calls k3 _ _ (rd_L3 l0 (rd x5_2 x23_3)) (rd (rd_L3 l0 x16_2) 0) true _ ?side1 ?side2 A19.out).mono ?_); (case side1 => exact Kd.C_below HR471_0.out (Bz HB.out)); (case side2 => exact HC471_0.out); rintro e w' ⟨rfl, ⟨nd, rfl⟩⟩; (try exact yZ)) | (go_at_call 134; (with_reducible refine (spec_l1Put.calls k3 (fun k_ => (w.heap.size ≤ k_)) _ _ x5_3 x16_2 t474 _ ?side1 A21.out).mono ?_); (case side1 => exact HO_5.out); rintro e w23 ⟨v475, rfl, ho0, hb⟩; have n0_ := am (Kd.V_below (by (with_reducible repeat (first | apply Kd.V_alloc | apply Kd.V_drewN | apply Kd.V_drew)); exact HO_5.out) hb); have n1_ := am (Kd.V_below (by (with_reducible repeat (first | apply Kd.V_alloc | apply Kd.V_drewN | apply Kd.V_drew)); exact HO_21.out) hb); have n2_ := am (Kd.V_lower (Kd.V_mono (ok' := fun k_ => (w.heap.size ≤ k_)) ho0 (fun k_ hk_ => Or.elim hk_ (fun hs_ => hs_) (fun hn_ => (Nat.le_trans (below_size (Bz HB.out)) hn_)))) (below_size (Bz HB.out))); have n3_ := Bb HB hb; clear HO_5 HO_21 HB; revert n0_ n1_ n2_ n3_; intro HO_5 HO_21 HO476 HB; (try clear hb); (try clear hb2); (try clear hk); (try clear hi); (try clear ho0)))
                   repeat (go_quiet (first | (go_at_call 82; (with_reducible refine (spec_l1Has.calls k3 _ _ x5_3 x16_2 false _ ?side1 ?side2 A13.out).mono ?_); (case side1 => exact Cz ((Kd.V_reads' HO_5.out).2.2)); (case side2 => exact (Kd.V_reads' HO_5.out).2.1); rintro e w' ⟨rfl, ⟨nd, rfl⟩⟩; (try exact yZ)) | (go_at_call 82; (with_reducible refine (spec_l1Has.calls k3 _ _ (rd_L3 l0 (rd x5_2 x23_3)) (rd (rd_L3 l0 x16_2) 0) true _ ?side1 ?side2 A19.out).mono ?_); (case side1 => exact Kd.C_below HR471_0.out (Bz HB.out)); (case side2 => exact HC471_0.out); rintro e w' ⟨rfl, ⟨nd, rfl⟩⟩; (try exact yZ)) | (go_at_call 134; (with_reducible refine (spec_l1Put.calls k3 (fun k_ => (w.heap.size ≤ k_)) _ _ x5_3 x16_2 t474 _ ?side1 A21.out).mono ?_); (case side1 => exact HO_5.out); rintro e w23 ⟨v475, rfl, ho0, hb⟩; have n0_ := am (Kd.V_below (by (with_reducible repeat (first | apply Kd.V_alloc | apply Kd.V_drewN | apply Kd.V_drew)); exact HO_5.out) hb); have n1_ := am (Kd.V_below (by (with_reducible repeat (first | apply Kd.V_alloc | apply Kd.V_drewN | apply Kd.V_drew)); exact HO_21.out) hb); have n2_ := am (Kd.V_lower (Kd.V_mono (ok' := fun k_ => (w.heap.size ≤ k_)) ho0 (fun k_ hk_ => Or.elim hk_ (fun hs_ => hs_) (fun hn_ => (Nat.le_trans (below_size (Bz HB.out)) hn_)))) (below_size (Bz HB.out))); have n3_ := Bb HB hb; clear HO_5 HO_21 HB; revert n0_ n1_ n2_ n3_; intro HO_5 HO_21 HO476 HB; (try clear hb); (try clear hb2); (try clear hk); (try clear hi); (try clear ho0))); try go_wp2_with (first | (go_at_call 82; (with_reducible refine (spec_l1Has.calls k3 _ _ x5_3 x16_2 false _ ?side1 ?side2 A13.out).mono ?_); (case side1 => exact Cz ((Kd.V_reads' HO_5.out).2.2)); (case side2 => exact (Kd.V_reads' HO_5.out).2.1); rintro e w' ⟨rfl, ⟨nd, rfl⟩⟩; (try exact yZ)) | (go_at_call 82; (with_reducible refine (spec_l1Has.calls k3 _ _ (rd_L3 l0 (rd x5_2 x23_3)) (rd (rd_L3 l0 x16_2) 0) true _ ?side1 ?side2 A19.out).mono ?_); (case side1 => exact Kd.C_below HR471_0.out (Bz HB.out)); (case side2 => exact HC471_0.out); rintro e w' ⟨rfl, ⟨nd, rfl⟩⟩; (try exact yZ)) | (go_at_call 134; (with_reducible refine (spec_l1Put.calls k3 (fun k_ => (w.heap.size ≤ k_)) _ _ x5_3 x16_2 t474 _ ?side1 A21.out).mono ?_); (case side1 => exact HO_5.out); rintro e w23 ⟨v475, rfl, ho0, hb⟩; have n0_ := am (Kd.V_below (by (with_reducible repeat (first | apply Kd.V_alloc | apply Kd.V_drewN | apply Kd.V_drew)); exact HO_5.out) hb); have n1_ := am (Kd.V_below (by (with_reducible repeat (first | apply Kd.V_alloc | apply Kd.V_drewN | apply Kd.V_drew)); exact HO_21.out) hb); have n2_ := am (Kd.V_lower (Kd.V_mono (ok' := fun k_ => (w.heap.size ≤ k_)) ho0 (fun k_ hk_ => Or.elim hk_ (fun hs_ => hs_) (fun hn_ => (Nat.le_trans (below_size (Bz HB.out)) hn_)))) (below_size (Bz HB.out))); have n3_ := Bb HB hb; clear HO_5 HO_21 HB; revert n0_ n1_ n2_ n3_; intro HO_5 HO_21 HO476 HB; (try clear hb); (try clear hb2); (try clear hk); (try clear hi); (try clear ho0))))
                   go_roundg k3
                   case measure => have := HK1.out; have := HK2.out; have := HK3.out; omega
                   case rel => exact ⟨(t474), (true), (wrap64 (x23_3 + 1)), wZ, wZ, H', ⟨by have := HK1.out; have := HK2.out; have := HK3.out; omega⟩, ⟨by (with_reducible repeat (first | apply Kd.V_alloc | apply Kd.V_drewN | apply Kd.V_drew)); exact HO476.out⟩, ⟨by (with_reducible repeat (first | apply Kd.V_alloc | apply Kd.V_drewN | apply Kd.V_drew)); exact HO_21.out⟩, ⟨Bz HB.out⟩⟩
                  ·replace c20 := Bool.eq_false_iff.mpr c20
                   subst c20
                   rw [if_neg (show ¬ (false = true) by decide)] at H
                   by_cases c24 : 1 < ((rd_L3 l0 x16_2).length : Int)
                   ·rw [if_pos c24] at H
                    have c24b0 : decide (1 < ((rd_L3 l0 x16_2).length : Int)) = true := decide_eq_true c24; have c24b1 : decide (1 < (rd_L3 l0 x16_2).length) = true := decide_eq_true (by omega); clear c24; replace H := Option.bind_eq_some_iff.mp H; obtain ⟨t479, A250, H⟩ := H; (try dsimp -simprocs only at H); have A25 := am A250; clear A250
                    by_cases c26 : t479 = true
                    ·subst c26
                     rw [if_pos rfl] at H; replace H := Option.bind_eq_some_iff.mp H; obtain ⟨t480, A270, H⟩ := H; (try dsimp -simprocs only at H); have A27 := am A270; clear A270; have H' := am H; clear H; obtain ⟨ad469, e469, hx469_0⟩ := Kd.at_int (Kd.V_reads' HO_21.out).2.2 x23_3 dT dT; cases e469; have p469 := eT (0 ≤ (x23_3 : Int)); have q469 := eT (x23_3 < (x5_2.length : Int)); obtain ⟨Ao28, co28, eo28⟩ := Kd.V_slice HO_5.out; (first | subst eo28 | (injection eo28 with f1_ f2_ f3_; have f4_ := f1_.symm; have f5_ := f3_.symm; clear f1_ f2_ f3_; subst f4_; subst f5_))
                     have p471 : 0 ≤ ((rd x5_2 x23_3) : Int) := dT; have q471 : (rd x5_2 x23_3) < (l0.length : Int) := dT; obtain ⟨ad471, A471_0, c471_0, e471, hx471_0, hl471_0, hi471_0⟩ := at_L3 HR0.out (rd x5_2 x23_3) p471 q471; obtain rfl : ad468 = ad471 := (by injection e471); replace hx471_0 := (HB.out.cell (World.block_lt_of_cell? w _ hx471_0)).trans hx471_0; have HR471_0 := am hi471_0; have HC471_0 := am hl471_0; clear hi471_0 hl471_0; replace p471 := eq_true p471; replace q471 := eq_true q471; have p472 : 0 ≤ (0 : Int) := (by omega); have q472 : 0 < ((rd_L3 l0 x16_2).length : Int) := dT; obtain ⟨ad472, e472, hx472_0⟩ := Kd.at_int HR468_0.out 0 p472 q472; cases e472; have qi472 : (0 < (rd_L3 l0 x16_2).length) = True := eq_true (by omega); (try rw [show ((0 : Int)).toNat = 0 from rfl] at hx472_0); (try rw [Addr.add_zero'] at hx472_0); replace hx472_0 := (HB.out.cell (World.block_lt_of_cell? w _ hx472_0)).trans hx472_0; replace p472 := eq_true p472; replace q472 := eq_true q472
                     have p477 : 0 ≤ ((rd x5_2 x23_3) : Int) := dT; have q477 : (rd x5_2 x23_3) < (l0.length : Int) := dT; obtain ⟨ad477, A477_0, c477_0, e477, hx477_0, hl477_0, hi477_0⟩ := at_L3 HR0.out (rd x5_2 x23_3) p477 q477; obtain rfl : ad468 = ad477 := (by injection e477); replace hx477_0 := (HB.out.cell (World.block_lt_of_cell? w _ hx477_0)).trans hx477_0; have HR477_0 := am hi477_0; have HC477_0 := am hl477_0; clear hi477_0 hl477_0; replace p477 := eq_true p477; replace q477 := eq_true q477; have ea_ := Option.some.inj (hx471_0.symm.trans hx477_0); injection ea_ with ea_ en_ ec_; subst ea_; subst ec_; clear en_; have p478 : 0 ≤ (1 : Int) := (by omega); have q478 : 1 < ((rd_L3 l0 x16_2).length : Int) := dT; obtain ⟨ad478, e478, hx478_0⟩ := Kd.at_int HR468_0.out 1 p478 q478; obtain rfl : ad472 = ad478 := (by injection e478); (try simp only [show (1 : Int).toNat = 1 from rfl, Nat.reduceMul, Nat.reduceEqDiff, Go.Addr.add, ↓reduceIte] at hx478_0); have qi478 : (1 < (rd_L3 l0 x16_2).length) = True := eq_true (by omega); (try rw [show ((1 : Int)).toNat = 1 from rfl] at hx478_0); replace hx478_0 := (HB.out.cell (World.block_lt_of_cell? w _ hx478_0)).trans hx478_0; replace p478 := eq_true p478; replace q478 := eq_true q478
                     go_wp2_with (first | (go_at_call 82; (with_reducible refine (spec_l1Has.calls k3 _ _ x5_3 x16_2 false _ ?side1 ?side2 A13.out).mono ?_); (case side1 => exact Cz ((Kd.V_reads' HO_5.out).2.2)); (case side2 => exact (Kd.V_reads' HO_5.out).2.1); rintro e w' ⟨rfl, ⟨nd, rfl⟩⟩; (try exact yZ)) | (go_at_call 82; (with_reducible refine (spec_l1Has.calls k3 _ _ (rd_L3 l0 (rd x5_2 x23_3)) (rd (rd_L3 l0 x16_2) 0) false _ ?side1 ?side2 A19.out).mono ?_); (case side1 => exact Kd.C_below HR471_0.out (Bz HB.out)); (case side2 => exact HC471_0.out); rintro e w' ⟨rfl, ⟨nd, rfl⟩⟩; (try exact yZ)) | (go_at_call 82; (with_reducible refine (spec_l1Has.calls k3 _ _ (rd_L3 l0 (rd x5_2 x23_3)) (rd (rd_L3 l0 x16_2) 1) true _ ?side1 ?side2 A25.out).mono ?_); (case side1 => exact Kd.C_below HR477_0.out (Bz HB.out)); (case side2 => exact HC477_0.out); rintro e w' ⟨rfl, ⟨nd, rfl⟩⟩; (try exact yZ)) | (go_at_call 134; (with_reducible refine (spec_l1Put.calls k3 (fun k_ => (w.heap.size ≤ k_)) _ _ x5_3 x16_2 t480 _ ?side1 A27.out).mono ?_); (case side1 => exact HO_5.out); rintro e w29 ⟨v481, rfl, ho0, hb⟩; have n0_ := am (Kd.V_below (by (with_reducible repeat (first | apply Kd.V_alloc | apply Kd.V_drewN | apply Kd.V_drew)); exact HO_5.out) hb); have n1_ := am (Kd.V_below (by (with_reducible repeat (first | apply Kd.V_alloc | apply Kd.V_drewN | apply Kd.V_drew)); exact HO_21.out) hb); have n2_ := am (Kd.V_lower (Kd.V_mono (ok' := fun k_ => (w.heap.size ≤ k_)) ho0 (fun k_ hk_ => Or.elim hk_ (fun hs_ => hs_) (fun hn_ => (Nat.le_trans (below_size (Bz HB.out)) hn_)))) (below_size (Bz HB.out))); have n3_ := Bb HB hb; clear HO_5 HO_21 HB; revert n0_ n1_ n2_ n3_; intro HO_5 HO_21 HO482 HB; (try clear hb); (try clear hb2); (try clear hk); (try clear hi); (try clear ho0)))
                     repeat (go_quiet (first | (go_at_call 82; (with_reducible refine (spec_l1Has.calls k3 _ _ x5_3 x16_2 false _ ?side1 ?side2 A13.out).mono ?_); (case side1 => exact Cz ((Kd.V_reads' HO_5.out).2.2)); (case side2 => exact (Kd.V_reads' HO_5.out).2.1); rintro e w' ⟨rfl, ⟨nd, rfl⟩⟩; (try exact yZ)) | (go_at_call 82; (with_reducible refine (spec_l1Has.calls k3 _ _ (rd_L3 l0 (rd x5_2 x23_3)) (rd (rd_L3 l0 x16_2) 0) false _ ?side1 ?side2 A19.out).mono ?_); (case side1 => exact Kd.C_below HR471_0.out (Bz HB.out)); (case side2 => exact HC471_0.out); rintro e w' ⟨rfl, ⟨nd, rfl⟩⟩; (try exact yZ)) | (go_at_call 82; (with_reducible refine (spec_l1Has.calls k3 _ _ (rd_L3 l0 (rd x5_2 x23_3)) (rd (rd_L3 l0 x16_2) 1) true _ ?side1 ?side2 A25.out).mono ?_); (case side1 => exact Kd.C_below HR477_0.out (Bz HB.out)); (case side2 => exact HC477_0.out); rintro e w' ⟨rfl, ⟨nd, rfl⟩⟩; (try exact yZ)) | (go_at_call 134; (with_reducible refine (spec_l1Put.calls k3 (fun k_ => (w.heap.size ≤ k_)) _ _ x5_3 x16_2 t480 _ ?side1 A27.out).mono ?_); (case side1 => exact HO_5.out); rintro e w29 ⟨v481, rfl, ho0, hb⟩; have n0_ := am (Kd.V_below (by (with_reducible repeat (first | apply Kd.V_alloc | apply Kd.V_drewN | apply Kd.V_drew)); exact HO_5.out) hb); have n1_ := am (Kd.V_below (by (with_reducible repeat (first | apply Kd.V_alloc | apply Kd.V_drewN | apply Kd.V_drew)); exact HO_21.out) hb); have n2_ := am (Kd.V_lower (Kd.V_mono (ok' := fun k_ => (w.heap.size ≤ k_)) ho0 (fun k_ hk_ => Or.elim hk_ (fun hs_ => hs_) (fun hn_ => (Nat.le_trans (below_size (Bz HB.out)) hn_)))) (below_size (Bz HB.out))); have n3_ := Bb HB hb; clear HO_5 HO_21 HB; revert n0_ n1_ n2_ n3_; intro HO_5 HO_21 HO482 HB; (try clear hb); (try clear hb2); (try clear hk); (try clear hi); (try clear ho0))); try go_wp2_with (first | (go_at_call 82; (with_reducible refine (spec_l1Has.calls k3 _ _ x5_3 x16_2 false _ ?side1 ?side2 A13.out).mono ?_); (case side1 => exact Cz ((Kd.V_reads' HO_5.out).2.2)); (case side2 => exact (Kd.V_reads' HO_5.out).2.1); rintro e w' ⟨rfl, ⟨nd, rfl⟩⟩; (try exact yZ)) | (go_at_call 82; (with_reducible refine (spec_l1Has.calls k3 _ _ (rd_L3 l0 (rd x5_2 x23_3)) (rd (rd_L3 l0 x16_2) 0) false _ ?side1 ?side2 A19.out).mono ?_); (case side1 => exact Kd.C_below HR471_0.out (Bz HB.out)); (case side2 => exact HC471_0.out); rintro e w' ⟨rfl, ⟨nd, rfl⟩⟩; (try exact yZ)) | (go_at_call 82; (with_reducible refine (spec_l1Has.calls k3 _ _ (rd_L3 l0 (rd x5_2 x23_3)) (rd (rd_L3 l0 x16_2) 1) true _ ?side1 ?side2 A25.out).mono ?_); (case side1 => exact Kd.C_below HR477_0.out (Bz HB.out)); (case side2 => exact HC477_0.out); rintro e w' ⟨rfl, ⟨nd, rfl⟩⟩; (try exact yZ)) | (go_at_call 134; (with_reducible refine (spec_l1Put.calls k3 (fun k_ => (w.heap.size ≤ k_)) _ _ x5_3 x16_2 t480 _ ?side1 A27.out).mono ?_); (case side1 => exact HO_5.out); rintro e w29 ⟨v481, rfl, ho0, hb⟩; have n0_ := am (Kd.V_below (by (with_reducible repeat (first | apply Kd.V_alloc | apply Kd.V_drewN | apply Kd.V_drew)); exact HO_5.out) hb); have n1_ := am (Kd.V_below (by (with_reducible repeat (first | apply Kd.V_alloc | apply Kd.V_drewN | apply Kd.V_drew)); exact HO_21.out) hb); have n2_ := am (Kd.V_lower (Kd.V_mono (ok' := fun k_ => (w.heap.size ≤ k_)) ho0 (fun k_ hk_ => Or.elim hk_ (fun hs_ => hs_) (fun hn_ => (Nat.le_trans (below_size (Bz HB.out)) hn_)))) (below_size (Bz HB.out))); have n3_ := Bb HB hb; clear HO_5 HO_21 HB; revert n0_ n1_ n2_ n3_; intro HO_5 HO_21 HO482 HB; (try clear hb); (try clear hb2); (try clear hk); (try clear hi); (try clear ho0))))
                     go_roundg k3
                     case measure => have := HK1.out; have := HK2.out; have := HK3.out; omega
                     case rel => exact ⟨(t480), (true), (wrap64 (x23_3 + 1)), wZ, wZ, H', ⟨by have := HK1.out; have := HK2.out; have := HK3.out; omega⟩, ⟨by (with_reducible repeat (first | apply Kd.V_alloc | apply Kd.V_drewN | apply Kd.V_drew)); exact HO482.out⟩, ⟨by (with_reducible repeat (first | apply Kd.V_alloc | apply Kd.V_drewN | apply Kd.V_drew)); exact HO_21.out⟩, ⟨Bz HB.out⟩⟩
                    ·replace c26 := Bool.eq_false_iff.mpr c26
                     subst c26
                     rw [if_neg (show ¬ (false = true) by decide)] at H; have H' := am H; clear H; obtain ⟨ad469, e469, hx469_0⟩ := Kd.at_int (Kd.V_reads' HO_21.out).2.2 x23_3 dT dT; cases e469; have p469 := eT (0 ≤ (x23_3 : Int)); have q469 := eT (x23_3 < (x5_2.length : Int)); obtain ⟨Ao30, co30, eo30⟩ := Kd.V_slice HO_5.out; (first | subst eo30 | (injection eo30 with f1_ f2_ f3_; have f4_ := f1_.symm; have f5_ := f3_.symm; clear f1_ f2_ f3_; subst f4_; subst f5_))
                     have p471 : 0 ≤ ((rd x5_2 x23_3) : Int) := dT; have q471 : (rd x5_2 x23_3) < (l0.length : Int) := dT; obtain ⟨ad471, A471_0, c471_0, e471, hx471_0, hl471_0, hi471_0⟩ := at_L3 HR0.out (rd x5_2 x23_3) p471 q471; obtain rfl : ad468 = ad471 := (by injection e471); replace hx471_0 := (HB.out.cell (World.block_lt_of_cell? w _ hx471_0)).trans hx471_0; have HR471_0 := am hi471_0; have HC471_0 := am hl471_0; clear hi471_0 hl471_0; replace p471 := eq_true p471; replace q471 := eq_true q471; have p472 : 0 ≤ (0 : Int) := (by omega); have q472 : 0 < ((rd_L3 l0 x16_2).length : Int) := dT; obtain ⟨ad472, e472, hx472_0⟩ := Kd.at_int HR468_0.out 0 p472 q472; cases e472; have qi472 : (0 < (rd_L3 l0 x16_2).length) = True := eq_true (by omega); (try rw [show ((0 : Int)).toNat = 0 from rfl] at hx472_0); (try rw [Addr.add_zero'] at hx472_0); replace hx472_0 := (HB.out.cell (World.block_lt_of_cell? w _ hx472_0)).trans hx472_0; replace p472 := eq_true p472; replace q472 := eq_true q472
                     have p477 : 0 ≤ ((rd x5_2 x23_3) : Int) := dT; have q477 : (rd x5_2 x23_3) < (l0.length : Int) := dT; obtain ⟨ad477, A477_0, c477_0, e477, hx477_0, hl477_0, hi477_0⟩ := at_L3 HR0.out (rd x5_2 x23_3) p477 q477; obtain rfl : ad468 = ad477 := (by injection e477); replace hx477_0 := (HB.out.cell (World.block_lt_of_cell? w _ hx477_0)).trans hx477_0; have HR477_0 := am hi477_0; have HC477_0 := am hl477_0; clear hi477_0 hl477_0; replace p477 := eq_true p477; replace q477 := eq_true q477; have ea_ := Option.some.inj (hx471_0.symm.trans hx477_0); injection ea_ with ea_ en_ ec_; subst ea_; subst ec_; clear en_; have p478 : 0 ≤ (1 : Int) := (by omega); have q478 : 1 < ((rd_L3 l0 x16_2).length : Int) := dT; obtain ⟨ad478, e478, hx478_0⟩ := Kd.at_int HR468_0.out 1 p478 q478; obtain rfl : ad472 = ad478 := (by injection e478); (try simp only [show (1 : Int).toNat = 1 from rfl, Nat.reduceMul, Nat.reduceEqDiff, Go.Addr.add, ↓reduceIte] at hx478_0); have qi478 : (1 < (rd_L3 l0 x16_2).length) = True := eq_true (by omega); (try rw [show ((1 : Int)).toNat = 1 from rfl] at hx478_0); replace hx478_0 := (HB.out.cell (World.block_lt_of_cell? w _ hx478_0)).trans hx478_0; replace p478 := eq_true p478; replace q478 := eq_true q478
                     go_wp2_with (first | (go_at_call 82; (with_reducible refine (spec_l1Has.calls k3 _ _ x5_3 x16_2 false _ ?side1 ?side2 A13.out).mono ?_); (case side1 => exact Cz ((Kd.V_reads' HO_5.out).2.2)); (case side2 => exact (Kd.V_reads' HO_5.out).2.1); rintro e w' ⟨rfl, ⟨nd, rfl⟩⟩; (try exact yZ)) | (go_at_call 82; (with_reducible refine (spec_l1Has.calls k3 _ _ (rd_L3 l0 (rd x5_2 x23_3)) (rd (rd_L3 l0 x16_2) 0) false _ ?side1 ?side2 A19.out).mono ?_); (case side1 => exact Kd.C_below HR471_0.out (Bz HB.out)); (case side2 => exact HC471_0.out); rintro e w' ⟨rfl, ⟨nd, rfl⟩⟩; (try exact yZ)) | (go_at_call 82; (with_reducible refine (spec_l1Has.calls k3 _ _ (rd_L3 l0 (rd x5_2 x23_3)) (rd (rd_L3 l0 x16_2) 1) false _ ?side1 ?side2 A25.out).mono ?_); (case side1 => exact Kd.C_below HR477_0.out (Bz HB.out)); (case side2 => exact HC477_0.out); rintro e w' ⟨rfl, ⟨nd, rfl⟩⟩; (try exact yZ)))
                     repeat (go_quiet (first | (go_at_call 82; (with_reducible refine (spec_l1Has.calls k3 _ _ x5_3 x16_2 false _ ?side1 ?side2 A13.out).mono ?_); (case side1 => exact Cz ((Kd.V_reads' HO_5.out).2.2)); (case side2 => exact (Kd.V_reads' HO_5.out).2.1); rintro e w' ⟨rfl, ⟨nd, rfl⟩⟩; (try exact yZ)) | (go_at_call 82; (with_reducible refine (spec_l1Has.calls k3 _ _ (rd_L3 l0 (rd x5_2 x23_3)) (rd (rd_L3 l0 x16_2) 0) false _ ?side1 ?side2 A19.out).mono ?_); (case side1 => exact Kd.C_below HR471_0.out (Bz HB.out)); (case side2 => exact HC471_0.out); rintro e w' ⟨rfl, ⟨nd, rfl⟩⟩; (try exact yZ)) | (go_at_call 82; (with_reducible refine (spec_l1Has.calls k3 _ _ (rd_L3 l0 (rd x5_2 x23_3)) (rd (rd_L3 l0 x16_2) 1) false _ ?side1 ?side2 A25.out).mono ?_); (case side1 => exact Kd.C_below HR477_0.out (Bz HB.out)); (case side2 => exact HC477_0.out); rintro e w' ⟨rfl, ⟨nd, rfl⟩⟩; (try exact yZ))); try go_wp2_with (first | (go_at_call 82; (with_reducible refine (spec_l1Has.calls k3 _ _ x5_3 x16_2 false _ ?side1 ?side2 A13.out).mono ?_); (case side1 => exact Cz ((Kd.V_reads' HO_5.out).2.2)); (case side2 => exact (Kd.V_reads' HO_5.out).2.1); rintro e w' ⟨rfl, ⟨nd, rfl⟩⟩; (try exact yZ)) | (go_at_call 82; (with_reducible refine (spec_l1Has.calls k3 _ _ (rd_L3 l0 (rd x5_2 x23_3)) (rd (rd_L3 l0 x16_2) 0) false _ ?side1 ?side2 A19.out).mono ?_); (case side1 => exact Kd.C_below HR471_0.out (Bz HB.out)); (case side2 => exact HC471_0.out); rintro e w' ⟨rfl, ⟨nd, rfl⟩⟩; (try exact yZ)) | (go_at_call 82; (with_reducible refine (spec_l1Has.calls k3 _ _ (rd_L3 l0 (rd x5_2 x23_3)) (rd (rd_L3 l0 x16_2) 1) false _ ?side1 ?side2 A25.out).mono ?_); (case side1 => exact Kd.C_below HR477_0.out (Bz HB.out)); (case side2 => exact HC477_0.out); rintro e w' ⟨rfl, ⟨nd, rfl⟩⟩; (try exact yZ))))
                     go_roundg k3
                     case measure => have := HK1.out; have := HK2.out; have := HK3.out; omega
                     case rel => exact ⟨(x5_3), (x6_3), (wrap64 (x23_3 + 1)), wZ, wZ, H', ⟨by have := HK1.out; have := HK2.out; have := HK3.out; omega⟩, ⟨by (with_reducible repeat (first | apply Kd.V_alloc | apply Kd.V_drewN | apply Kd.V_drew)); exact HO_5.out⟩, ⟨by (with_reducible repeat (first | apply Kd.V_alloc | apply Kd.V_drewN | apply Kd.V_drew)); exact HO_21.out⟩, ⟨Bz HB.out⟩⟩
                   ·rw [if_neg c24] at H
                    exact absurd H (by simp)
                 ·rw [if_neg c18] at H
                  exact absurd H (by simp)
                ·rw [if_neg c17] at H
                 exact absurd H (by simp)
               ·rw [if_neg c16] at H
                exact absurd H (by simp)
             ·rw [if_neg c12] at H
              exact absurd H (by simp)
            ·rw [if_neg c11] at H
             exact absurd H (by simp)
           ·rw [if_neg c10] at H
            have c10b0 : decide (x23_3 < (x5_2.length : Int)) = false := decide_eq_false c10; clear c10; have H' := am H; clear H
            go_wp2
            repeat (go_quiet (fail); try go_wp2)
            go_roundg k3
            case measure => have := HK1.out; have := HK2.out; have := HK3.out; omega
            case rel => exact ⟨(x5_3), (x6_3), (wrap64 (x16_2 + 1)), wZ, wZ, H', ⟨by have := HK1.out; have := HK2.out; have := HK3.out; omega⟩, ⟨by (with_reducible repeat (first | apply Kd.V_alloc | apply Kd.V_drewN | apply Kd.V_drew)); exact HO_5.out⟩, ⟨Bz HB.out⟩⟩
        ·rw [if_neg c8] at H
         exact absurd H (by simp)
       ·rw [if_neg c7] at H
        exact absurd H (by simp)
      ·rw [if_neg c6] at H
       have c6b0 : decide (x16_2 < (l0.length : Int)) = false := decide_eq_false c6; clear c6; have H' := am H; clear H
       go_wp2
       repeat (go_quiet (fail); try go_wp2)
       go_roundg k2
       case measure => have := HK1.out; have := HK2.out; omega
       case rel => exact ⟨(x5_2), (x6_2), wZ, H', ⟨by have := HK1.out; have := HK2.out; omega⟩, ⟨by (with_reducible repeat (first | apply Kd.V_alloc | apply Kd.V_drewN | apply Kd.V_drew)); exact HO_5.out⟩, ⟨Bz HB.out⟩⟩
   ·replace c5 := Bool.eq_false_iff.mpr c5
    subst c5
    rw [if_neg (show ¬ (false = true) by decide)] at H; obtain rfl := Option.some.inj H
    go_wp2
    repeat (go_quiet (fail); try go_wp2)
    go_ret
    exact ⟨_, eZ, by (with_reducible repeat (first | apply Kd.V_alloc | apply Kd.V_drewN | apply Kd.V_drew)); exact HO_5.out, Bz HB.out⟩

def spec_cuGroups.l0 : Nat → List (List Int) → List (List Int) → Int → Int → Option ((List (List Int)))
 | 0, _, _, _, _ => none
 | k + 1, x0, x3, x7, x8 => if x8 < x7 then ((spec_cuGroup.f k x0 x8).bind fun t483 => (if 0 < (t483.length : Int) then (if (rd t483 0) = x8 then (if x3.length < 5864062014805 then (spec_cuGroups.l0 k x0 (x3 ++ [t483]) x7 (wrap64 (x8 + 1))) else (none)) else (spec_cuGroups.l0 k x0 x3 x7 (wrap64 (x8 + 1)))) else (none))) else (some x3)
def spec_cuGroups.f (k : Nat) (l0 : List (List Int)) : Option ((List (List Int))) := spec_cuGroups.l0 k l0 ([] : List (List Int)) (l0.length : Int) 0
theorem spec_cuGroups.calls (k : Nat) (A0 : Option Addr) (c0 : Nat) (l0 : List (List Int)) (r : List (List Int)) (w : World) (hr0 : Kd.C (Kd.slice 3 (Kd.int .i64)) w A0 l0.length l0) (hc0 : l0.length ≤ c0) (h : spec_cuGroups.f k l0 = some r) :
  Calls Try.prog 63 #[.slice A0 l0.length c0] w fun e w' => ∃ v0_ : Value, e = .returned (v0_) ∧ Kd.N (Kd.slice 3 (Kd.int .i64)) 31 w' w.heap.size (fun k_ => (w.heap.size ≤ k_)) v0_ r ∧ Below w.heap.size w w' := by
 have HR0 := am hr0; have HC0 := am hc0; clear hr0 hc0; have HB := am (Below.refl w.heap.size w); have H : (spec_cuGroups.l0 k l0 ([] : List (List Int)) (l0.length : Int) 0) = some r := h; clear h; have H' := am H; clear H
 go_enter Try.func63, Try.ntmps63
 go_wp2
 go_loopg [3, 8] k (fun kq v3 v8 w' => ∃ (x3_1 : List (List Int)) (x8_1 : Int), v8 = .int .i64 x8_1 ∧ Aside0 (spec_cuGroups.l0 kq l0 x3_1 (l0.length : Int) x8_1 = some r) ∧ Aside0 (kq ≤ k) ∧ Aside0 (Kd.N (Kd.slice 3 (Kd.int .i64)) 31 w' w.heap.size (fun k_ => (w.heap.size ≤ k_)) v3 x3_1) ∧ Aside0 (Below w.heap.size w w'))
 case atStart => exact ⟨(([] : List (List Int))), (0), wZ, H', ⟨Nat.le_refl _⟩, ⟨by first | exact Kd.S_nil _ _ _ _ _ | exact Kd.N_nil _ _ _ _ _ | exact Kd.V_nil _ _ _ _ _ | exact Kd.Q_nil _ _ _ _ _ | exact Kd.R_nil _ _ _ _ _⟩, ⟨Bz HB.out⟩⟩
 case round =>
  clear H'; obtain ⟨x3_1, x8_1, rfl, HA, HK1, HO_3, HB⟩ := hrel; cases gk with
  | zero => exact absurd HA.out (by simp [spec_cuGroups.l0])
  | succ k1 =>
   have H := HA.out; clear HA
   simp only [spec_cuGroups.l0] at H
   by_cases c2 : x8_1 < (l0.length : Int)
   ·rw [if_pos c2] at H
    have c2b0 : decide (x8_1 < (l0.length : Int)) = true := decide_eq_true c2; clear c2; replace H := Option.bind_eq_some_iff.mp H; obtain ⟨t483, A30, H⟩ := H; (try dsimp -simprocs only at H); have A3 := am A30; clear A30
    by_cases c4 : 0 < (t483.length : Int)
    ·rw [if_pos c4] at H
     have c4b0 : decide (0 < (t483.length : Int)) = true := decide_eq_true c4; have c4b1 : decide (0 < t483.length) = true := decide_eq_true (by omega); clear c4
     by_cases c5 : (rd t483 0) = x8_1
     ·rw [if_pos c5] at H
      have c5b0 : ((rd t483 0) == x8_1) = true := beq_iff_eq.mpr c5; have c5b1 : ((rd t483 0) != x8_1) = false := bne_eq_false_iff_eq.mpr c5; clear c5
      by_cases c6 : x3_1.length < 5864062014805
      ·rw [if_pos c6] at H
       have LMc6 := am c6; clear c6; obtain ⟨y487, hy487⟩ : ∃ y_ : List (List Int), y_ = (x3_1 ++ [t483]) := ⟨_, rfl⟩
       replace H : (spec_cuGroups.l0 k1 l0 y487 (l0.length : Int) (wrap64 (x8_1 + 1))) = some r := by first | (rw [hy487]; with_reducible exact H) | (have H2_ := (Option.bind_some _ _).symm.trans H; rw [hy487]; with_reducible exact H2_) | (have H2_ := (Option.bind_some _ _).symm.trans H; with_reducible exact H2_) | with_reducible exact H | (rw [hy487]; exact H) | exact H
       have Ny487 := am hy487; clear hy487; have H' := am H; clear H
       go_wp2_with (first | ((with_reducible refine gate_callee (f := 124) rfl ?_); refine gL (some 13) Try.func124 #[.slice A0 l0.length c0, .int .i64 x8_1] ?_; (with_reducible refine (spec_cuGroup.calls k1 _ _ l0 x8_1 t483 _ ?side1 ?side2 A3.out).mono ?_); (case side1 => exact Cz (Kd.C_below HR0.out HB.out)); (case side2 => exact HC0.out); rintro e w7 ⟨v484, rfl, ho0, hb⟩; refine ⟨_, rfl, ?_⟩; have n0_ := am (Kd.N_below (by (with_reducible repeat (first | apply Kd.N_alloc | apply Kd.N_drewN | apply Kd.N_drew)); exact HO_3.out) hb); have n1_ := am (Kd.V_lower (Kd.V_mono (ok' := fun k_ => (w.heap.size ≤ k_) ∧ some k_ ≠ (u3 : Value).ownBlock) ho0 (fun k_ hk_ => ⟨(Nat.le_trans (below_size (Bz HB.out)) hk_), (Kd.fresh' (Kd.N_lt (by (with_reducible repeat (first | apply Kd.N_alloc | apply Kd.N_drewN | apply Kd.N_drew)); exact HO_3.out)) k_ hk_)⟩)) (below_size (Bz HB.out))); have n2_ := Bb HB hb; clear HO_3 HB; revert n0_ n1_ n2_; intro HO_3 HO485 HB; (try clear hb); (try clear hb2); (try clear hk); (try clear hi); (try clear ho0); obtain ⟨Ao8, co8, eo8⟩ := Kd.V_slice HO485.out; subst eo8; have p486 : 0 ≤ (0 : Int) := (by omega); have q486 : 0 < (t483.length : Int) := dT; obtain ⟨ad486, e486, hx486_0⟩ := Kd.at_int (Kd.V_reads' HO485.out).2.2 0 p486 q486; cases e486; have qi486 : (0 < t483.length) = True := eq_true (by omega); (try rw [show ((0 : Int)).toNat = 0 from rfl] at hx486_0); (try rw [Addr.add_zero'] at hx486_0); replace p486 := eq_true p486; replace q486 := eq_true q486) | ((with_reducible refine gate_builtin (b := .append) (xs := #[.tmp 19, .tmp 21]) rfl ?_); at_builtin; refine Kd.N_append (Kd.slice 3 (Kd.int .i64)) (w0 := w) w.heap.size rfl (.tmp 19) (.tmp 21) 27 31 (.slice none 0 0) 24 rfl Try.underlying27 info31 rfl (by decide) (by omega) u3 x3_1 t483 [.slice (some ad486) t483.length co8] (fun k_ => (w.heap.size ≤ k_)) (fun k_ => ((fun k_ => (w.heap.size ≤ k_))) k_ ∧ some k_ ≠ (u3 : Value).ownBlock) rfl rfl ?aP (fun _ hk => hk) ?aF ?aO ?aB ?aS ?aL ?_; (case aP => exact (Kd.FK_slice_mk (Kd.V_reads' (Kd.V_mono (ok' := (fun k_ => ((fun k_ => (w.heap.size ≤ k_))) k_ ∧ some k_ ≠ (u3 : Value).ownBlock)) (HO485.out) (fun k_ hk => ⟨hk.1, hk.2⟩))).2.1 (Kd.V_F (Kd.V_mono (ok' := (fun k_ => ((fun k_ => (w.heap.size ≤ k_))) k_ ∧ some k_ ≠ (u3 : Value).ownBlock)) (HO485.out) (fun k_ hk => ⟨hk.1, hk.2⟩))))); (case aB => exact (Bz HB.out)); (case aF => exact (fun k_ hk => (Nat.le_trans (below_size (Bz HB.out)) hk))); (case aO => exact (by (with_reducible repeat (first | apply Kd.N_alloc | apply Kd.N_drewN | apply Kd.N_drew)); exact HO_3.out)); (case aS => exact (below_size (Bz HB.out))); (case aL => have := LMc6.out; omega); intro v488 w9 ho hb hg hat; rw [← Ny487.out] at ho; have n0_ := am (Kd.V_afterv (ok := (fun k_ => (w.heap.size ≤ k_))) (by (with_reducible repeat (first | apply Kd.V_alloc | apply Kd.V_drewN | apply Kd.V_drew)); exact HO485.out) hg hat); have n1_ := am (hb); have n2_ := am (ho); clear HO485 HB HO_3; revert n0_ n1_ n2_; intro HO485 HB HO489; clear ho hb hg hat))
       go_roundg k1
       case measure => have := HK1.out; omega
       case rel => exact ⟨(y487), (wrap64 (x8_1 + 1)), wZ, H', ⟨by have := HK1.out; omega⟩, ⟨by (with_reducible repeat (first | apply Kd.N_alloc | apply Kd.N_drewN | apply Kd.N_drew)); exact HO489.out⟩, ⟨Bz HB.out⟩⟩
      ·rw [if_neg c6] at H
       exact absurd H (by simp)
     ·rw [if_neg c5] at H
      have c5b0 : ((rd t483 0) == x8_1) = false := beq_eq_false_iff_ne.mpr c5; have c5b1 : ((rd t483 0) != x8_1) = true := bne_iff_ne.mpr c5; have H' := am H; clear H
      go_wp2_with (first | ((with_reducible refine gate_callee (f := 124) rfl ?_); refine gL (some 13) Try.func124 #[.slice A0 l0.length c0, .int .i64 x8_1] ?_; (with_reducible refine (spec_cuGroup.calls k1 _ _ l0 x8_1 t483 _ ?side1 ?side2 A3.out).mono ?_); (case side1 => exact Cz (Kd.C_below HR0.out HB.out)); (case side2 => exact HC0.out); rintro e w10 ⟨v484, rfl, ho0, hb⟩; refine ⟨_, rfl, ?_⟩; have n0_ := am (Kd.N_below (by (with_reducible repeat (first | apply Kd.N_alloc | apply Kd.N_drewN | apply Kd.N_drew)); exact HO_3.out) hb); have n1_ := am (Kd.V_lower (Kd.V_mono (ok' := fun k_ => (w.heap.size ≤ k_) ∧ some k_ ≠ (u3 : Value).ownBlock) ho0 (fun k_ hk_ => ⟨(Nat.le_trans (below_size (Bz HB.out)) hk_), (Kd.fresh' (Kd.N_lt (by (with_reducible repeat (first | apply Kd.N_alloc | apply Kd.N_drewN | apply Kd.N_drew)); exact HO_3.out)) k_ hk_)⟩)) (below_size (Bz HB.out))); have n2_ := Bb HB hb; clear HO_3 HB; revert n0_ n1_ n2_; intro HO_3 HO485 HB; (try clear hb); (try clear hb2); (try clear hk); (try clear hi); (try clear ho0); obtain ⟨Ao11, co11, eo11⟩ := Kd.V_slice HO485.out; subst eo11; have p486 : 0 ≤ (0 : Int) := (by omega); have q486 : 0 < (t483.length : Int) := dT; obtain ⟨ad486, e486, hx486_0⟩ := Kd.at_int (Kd.V_reads' HO485.out).2.2 0 p486 q486; cases e486; have qi486 : (0 < t483.length) = True := eq_true (by omega); (try rw [show ((0 : Int)).toNat = 0 from rfl] at hx486_0); (try rw [Addr.add_zero'] at hx486_0); replace p486 := eq_true p486; replace q486 := eq_true q486))
      go_roundg k1
      case measure => have := HK1.out; omega
      case rel => exact ⟨(x3_1), (wrap64 (x8_1 + 1)), wZ, H', ⟨by have := HK1.out; omega⟩, ⟨by (with_reducible repeat (first | apply Kd.N_alloc | apply Kd.N_drewN | apply Kd.N_drew)); exact HO_3.out⟩, ⟨Bz HB.out⟩⟩
    ·rw [if_neg c4] at H
     exact absurd H (by simp)
   ·rw [if_neg c2] at H
    have c2b0 : decide (x8_1 < (l0.length : Int)) = false := decide_eq_false c2; clear c2; obtain rfl := Option.some.inj H
    go_wp2
    go_ret
    exact ⟨_, eZ, by (with_reducible repeat (first | apply Kd.N_alloc | apply Kd.N_drewN | apply Kd.N_drew)); exact HO_3.out, Bz HB.out⟩

def spec_cuWide.l0 : Nat → List (List Int) → List Int → List Int → Int → Int → Option (Int)
 | 0, _, _, _, _, _ => none
 | k + 1, x0, x5, x8, x9, x10 => if x10 < x9 then (if 0 ≤ x10 then (if x10 < (x8.length : Int) then (if 0 ≤ (rd x8 x10) then (if (rd x8 x10) < (x0.length : Int) then (if 0 < ((rd_L3 x0 (rd x8 x10)).length : Int) then ((spec_l1Put.f k x5 (rd (rd_L3 x0 (rd x8 x10)) 0)).bind fun t493 => (if 1 < ((rd_L3 x0 (rd x8 x10)).length : Int) then ((spec_l1Put.f k t493 (rd (rd_L3 x0 (rd x8 x10)) 1)).bind fun t498 => (spec_cuWide.l0 k x0 t498 x8 x9 (wrap64 (x10 + 1)))) else (none))) else (none)) else (none)) else (none)) else (none)) else (none)) else (some (x5.length : Int))
def spec_cuWide.f (k : Nat) (l0 : List (List Int)) (l1 : List Int) : Option (Int) := spec_cuWide.l0 k l0 ([] : List Int) l1 (l1.length : Int) 0
def spec_cuWide.T5 : Bool × List (List Nat × List Nat) := (true, [([], []), ([], []), ([], []), ([1, 2], [1, 2]), ([3], [3]), ([4], [4]), ([5], [5]), ([0, 6], [0, 6]), ([], []), ([], []), ([8, 9], [8, 9]), ([10], [10]), ([11], [11]), ([12], [12]), ([7, 13, 7], [7, 13]), ([14, 14, 0, 1, 2, 3, 4, 5, 6, 7, 8, 9, 10, 11, 12, 13, 14], [0, 14])])
def spec_cuWide.B5 : List Nat := [0, 0, 0, 6, 14, 30, 62, 127, 0, 0, 768, 1792, 3840, 7936, 16383, 32767]
theorem spec_cuWide.tab5 : rtab .any (opsOf Try.f91 5) = spec_cuWide.T5 := by kernel_rfl
theorem spec_cuWide.bits5 : waitsOk spec_cuWide.T5.2 spec_cuWide.B5 = true := by kernel_rfl
theorem spec_cuWide.calls (k : Nat) (A0 : Option Addr) (c0 : Nat) (l0 : List (List Int)) (A1 : Option Addr) (c1 : Nat) (l1 : List Int) (r : Int) (w : World) (hr0 : Kd.C (Kd.slice 3 (Kd.int .i64)) w A0 l0.length l0) (hc0 : l0.length ≤ c0) (hr1 : Kd.C (Kd.int .i64) w A1 l1.length l1) (hc1 : l1.length ≤ c1) (h : spec_cuWide.f k l0 l1 = some r) :
  Calls Try.prog 91 #[.slice A0 l0.length c0, .slice A1 l1.length c1] w fun e w' => e = .returned (.int .i64 r) ∧ Below w.heap.size w w' := by
 have HR0 := am hr0; have HC0 := am hc0; clear hr0 hc0; have HR1 := am hr1; have HC1 := am hc1; clear hr1 hc1; have HB := am (Below.refl w.heap.size w); have H : (spec_cuWide.l0 k l0 ([] : List Int) l1 (l1.length : Int) 0) = some r := h; clear h; have H' := am H; clear H
 go_enter Try.func91, Try.ntmps91
 go_wp2
 go_loopg [5, 10] k (fun kq v5 v10 w' => ∃ (x5_1 : List Int) (x10_1 : Int), v10 = .int .i64 x10_1 ∧ Aside0 (spec_cuWide.l0 kq l0 x5_1 l1 (l1.length : Int) x10_1 = some r) ∧ Aside0 (kq ≤ k) ∧ Aside0 (Kd.V (Kd.int .i64) 3 w' w.heap.size (fun _ => True) v5 x5_1) ∧ Aside0 (Below w.heap.size w w'))
 case atStart => exact ⟨(([] : List Int)), (0), wZ, H', ⟨Nat.le_refl _⟩, ⟨Kd.V_nil _ _ _ _ _⟩, ⟨Bz HB.out⟩⟩
 case round =>
  clear H'
  try clear c1
  try clear p2
  obtain ⟨x5_1, x10_1, rfl, HA, HK1, HO_5, HB⟩ := hrel; cases gk with
  | zero => exact absurd HA.out (by simp [spec_cuWide.l0])
  | succ k1 =>
   have H := HA.out; clear HA
   simp only [spec_cuWide.l0] at H
   by_cases c3 : x10_1 < (l1.length : Int)
   ·rw [if_pos c3] at H
    have c3b0 : decide (x10_1 < (l1.length : Int)) = true := decide_eq_true c3; clear c3
    by_cases c4 : 0 ≤ x10_1
    ·rw [if_pos c4] at H
     have c4b0 : decide (0 ≤ x10_1) = true := decide_eq_true c4; clear c4
     by_cases c5 : x10_1 < (l1.length : Int)
     ·rw [if_pos c5] at H
      have c5b0 : decide (x10_1 < (l1.length : Int)) = true := decide_eq_true c5; clear c5
      by_cases c6 : 0 ≤ (rd l1 x10_1)
      ·rw [if_pos c6] at H
       have c6b0 : decide (0 ≤ (rd l1 x10_1)) = true := decide_eq_true c6; clear c6
       by_cases c7 : (rd l1 x10_1) < (l0.length : Int)
       ·rw [if_pos c7] at H
        have c7b0 : decide ((rd l1 x10_1) < (l0.length : Int)) = true := decide_eq_true c7; clear c7
        by_cases c8 : 0 < ((rd_L3 l0 (rd l1 x10_1)).length : Int)
        ·rw [if_pos c8] at H
         have c8b0 : decide (0 < ((rd_L3 l0 (rd l1 x10_1)).length : Int)) = true := decide_eq_true c8; have c8b1 : decide (0 < (rd_L3 l0 (rd l1 x10_1)).length) = true := decide_eq_true (by omega); clear c8; replace H := Option.bind_eq_some_iff.mp H; obtain ⟨t493, A90, H⟩ := H; (try dsimp -simprocs only at H); have A9 := am A90; clear A90
         by_cases c10 : 1 < ((rd_L3 l0 (rd l1 x10_1)).length : Int)
         ·rw [if_pos c10] at H
          have c10b0 : decide (1 < ((rd_L3 l0 (rd l1 x10_1)).length : Int)) = true := decide_eq_true c10; have c10b1 : decide (1 < (rd_L3 l0 (rd l1 x10_1)).length) = true := decide_eq_true (by omega); clear c10; replace H := Option.bind_eq_some_iff.mp H; obtain ⟨t498, A110, H⟩ := H; (try dsimp -simprocs only at H); have A11 := am A110; clear A110; have H' := am H; clear H; have p490 : 0 ≤ (x10_1 : Int) := dT; have q490 : x10_1 < (l1.length : Int) := dT; obtain ⟨ad490, e490, hx490_0⟩ := Kd.at_int HR1.out x10_1 p490 q490; cases e490; replace hx490_0 := (HB.out.cell (World.block_lt_of_cell? w _ hx490_0)).trans hx490_0; replace p490 := eq_true p490; replace q490 := eq_true q490
          try go_wp2
          have n0_ := am (Kd.V_drew HO_5.out); have n1_ := am (below_drew1 HB.out); clear HO_5 HB; revert n0_ n1_; intro HO_5 HB; have p491 : 0 ≤ ((rd l1 x10_1) : Int) := dT; have q491 : (rd l1 x10_1) < (l0.length : Int) := dT; obtain ⟨ad491, A491_0, c491_0, e491, hx491_0, hl491_0, hi491_0⟩ := at_L3 HR0.out (rd l1 x10_1) p491 q491; have hw491_0 := hx491_0; cases e491; replace hx491_0 := (HB.out.cell (World.block_lt_of_cell? w _ hx491_0)).trans hx491_0; have HR491_0 := am hi491_0; have HC491_0 := am hl491_0; clear hi491_0 hl491_0; replace p491 := eq_true p491; replace q491 := eq_true q491; have p492 : 0 ≤ (0 : Int) := (by omega); have q492 : 0 < ((rd_L3 l0 (rd l1 x10_1)).length : Int) := dT; obtain ⟨ad492, e492, hx492_0⟩ := Kd.at_int HR491_0.out 0 p492 q492; have hw492_0 := hx492_0
          (try rw [show ((0 : Int)).toNat = 0 from rfl] at hw492_0)
          (try rw [show 0 * 1 = 0 from rfl] at hw492_0)
          (try rw [Addr.add_zero'] at hw492_0)
          cases e492; have qi492 : (0 < (rd_L3 l0 (rd l1 x10_1)).length) = True := eq_true (by omega)
          (try rw [show ((0 : Int)).toNat = 0 from rfl] at hx492_0)
          (try rw [Addr.add_zero'] at hx492_0)
          replace hx492_0 := (HB.out.cell (World.block_lt_of_cell? w _ hx492_0)).trans hx492_0; replace p492 := eq_true p492; replace q492 := eq_true q492; have p496 : 0 ≤ ((rd l1 x10_1) : Int) := dT; have q496 : (rd l1 x10_1) < (l0.length : Int) := dT; obtain ⟨ad496, A496_0, c496_0, e496, hx496_0, hl496_0, hi496_0⟩ := at_L3 HR0.out (rd l1 x10_1) p496 q496; have hw496_0 := hx496_0; obtain rfl : ad491 = ad496 := (by injection e496); replace hx496_0 := (HB.out.cell (World.block_lt_of_cell? w _ hx496_0)).trans hx496_0; have HR496_0 := am hi496_0; have HC496_0 := am hl496_0; clear hi496_0 hl496_0; replace p496 := eq_true p496; replace q496 := eq_true q496; have ea_ := Option.some.inj (hx491_0.symm.trans hx496_0)
          injection ea_ with ea_ en_ ec_
          subst ea_; subst ec_; clear en_; have p497 : 0 ≤ (1 : Int) := (by omega); have q497 : 1 < ((rd_L3 l0 (rd l1 x10_1)).length : Int) := dT; obtain ⟨ad497, e497, hx497_0⟩ := Kd.at_int HR496_0.out 1 p497 q497; have hw497_0 := hx497_0
          (try rw [show ((1 : Int)).toNat = 1 from rfl] at hw497_0)
          (try rw [show 1 * 1 = 1 from rfl] at hw497_0)
          (try simp only [Nat.reduceMul, Nat.reduceEqDiff, Go.Addr.add, ↓reduceIte] at hw497_0)
          cases e497
          (try simp only [show (1 : Int).toNat = 1 from rfl, Nat.reduceMul, Nat.reduceEqDiff, Go.Addr.add, ↓reduceIte] at hx497_0)
          have qi497 : (1 < (rd_L3 l0 (rd l1 x10_1)).length) = True := eq_true (by omega)
          (try rw [show ((1 : Int)).toNat = 1 from rfl] at hx497_0)
          replace hx497_0 := (HB.out.cell (World.block_lt_of_cell? w _ hx497_0)).trans hx497_0; replace p497 := eq_true p497; replace q497 := eq_true q497; obtain ⟨Ao13, co13, eo13⟩ := Kd.V_slice HO_5.out
          (first | subst eo13 | (injection eo13 with f1_ f2_ f3_; have f4_ := f1_.symm; have f5_ := f3_.symm; clear f1_ f2_ f3_; subst f4_; subst f5_))
          refine start_ (n := 16) (S := fun w' => w'.cell? (ad491.add ((rd l1 x10_1)).toNat) = some (.slice (some ad492) (rd_L3 l0 (rd l1 x10_1)).length c491_0) ∧ w'.cell? ad492 = some (.int .i64 (rd (rd_L3 l0 (rd l1 x10_1)) 0)) ∧ w'.cell? (ad491.add ((rd l1 x10_1)).toNat) = some (.slice (some ad492) (rd_L3 l0 (rd l1 x10_1)).length c491_0) ∧ w'.cell? ⟨ad492.block, ad492.off + 1, none⟩ = some (.int .i64 (rd (rd_L3 l0 (rd l1 x10_1)) 1))) (ds := []) (bA 16 0) (by kernel_rfl) rfl rfl ⟨((HB.out.cell (World.block_lt_of_cell? w _ hw491_0)).trans hw491_0), ((HB.out.cell (World.block_lt_of_cell? w _ hw492_0)).trans hw492_0), ((HB.out.cell (World.block_lt_of_cell? w _ hw496_0)).trans hw496_0), ((HB.out.cell (World.block_lt_of_cell? w _ hw497_0)).trans hw497_0)⟩ (fun hHeld => ?_); refine with_tabW spec_cuWide.tab5 spec_cuWide.bits5 (fun HT_ HW_ => ?_); generalize wr.drew = w12 at HO_5 HB HR491_0 HR496_0 hx491_0 hx492_0 hx496_0 hx497_0 hHeld ⊢; refine pZ 0 (some 14) (bA 16 1) HT_.out ?_; refine pZ 1 (some 15) (bA 16 3) HT_.out ?_; refine pZ 2 (some 16) (bA 16 7) HT_.out ?_; refine pZ 3 (some 17) (bA 16 15) HT_.out ?_; refine pZ 8 (some 22) (bA 16 271) HT_.out ?_; refine pZ 9 (some 23) (bA 16 783) HT_.out ?_; refine pZ 10 (some 24) (bA 16 1807) HT_.out ?_; refine tZ4 4 (some 18) (bA 16 1823) HT_.out HW_.out hHeld ?_; refine pZ 5 (some 19) (bA 16 1855) HT_.out ?_; refine tZ4 6 (some 20) (bA 16 1919) HT_.out HW_.out hHeld ?_; refine tZ4 11 (some 25) (bA 16 3967) HT_.out HW_.out hHeld ?_; refine pZ 12 (some 26) (bA 16 8063) HT_.out ?_; refine tZ4 13 (some 27) (bA 16 16255) HT_.out HW_.out hHeld ?_; refine oZ 7 (some 21) (bA 16 16383) HT_.out (fun K hK => ?_); refine gZ Try.func134 #[.slice Ao13 x5_1.length co13, .int .i64 (rd (rd_L3 l0 (rd l1 x10_1)) 0)] ?_
          with_reducible refine (spec_l1Put.calls k1 (fun k_ => True) _ _ x5_1 (rd (rd_L3 l0 (rd l1 x10_1)) 0) t493 _ ?side1 A9.out).mono ?_
          (case side1 => exact HO_5.out)
          rintro e w14 ⟨v494, rfl, ho0, hb⟩; refine ⟨_, rfl, ?_⟩; have n0_ := am (Kd.V_below (by (with_reducible repeat (first | apply Kd.V_alloc | apply Kd.V_drewN | apply Kd.V_drew)); exact HO_5.out) hb); have n1_ := am (Kd.V_lower (Kd.V_mono (ok' := fun k_ => True) ho0 (fun k_ hk_ => trivial)) (below_size (Bz HB.out))); have n2_ := Bb HB hb; clear HO_5 HB; revert n0_ n1_ n2_; intro HO_5 HO495 HB
          (try clear hb)
          (try clear hb2)
          (try clear hk)
          (try clear hi)
          (try clear ho0)
          obtain ⟨Ao15, co15, eo15⟩ := Kd.V_slice HO495.out
          (first | subst eo15 | (injection eo15 with f1_ f2_ f3_; have f4_ := f1_.symm; have f5_ := f3_.symm; clear f1_ f2_ f3_; subst f4_; subst f5_))
          refine hK.out _ _ ⟨((HB.out.cell (World.block_lt_of_cell? w _ hw491_0)).trans hw491_0), ((HB.out.cell (World.block_lt_of_cell? w _ hw492_0)).trans hw492_0), ((HB.out.cell (World.block_lt_of_cell? w _ hw496_0)).trans hw496_0), ((HB.out.cell (World.block_lt_of_cell? w _ hw497_0)).trans hw497_0)⟩ (fun hHeld => ?_); clear hK K; refine norm_ (a' := ?_) ?_ ?_; rotate_left; show Act.put _ (some 21) _ = _; simp only [aP, i64_w, i32_w]; rfl; refine oZ 14 (some 28) (bA 16 32767) HT_.out (fun K hK => ?_); refine gZ Try.func134 #[.slice Ao15 t493.length co15, .int .i64 (rd (rd_L3 l0 (rd l1 x10_1)) 1)] ?_
          with_reducible refine (spec_l1Put.calls k1 (fun k_ => True) _ _ t493 (rd (rd_L3 l0 (rd l1 x10_1)) 1) t498 _ ?side1 A11.out).mono ?_
          (case side1 => exact HO495.out)
          rintro e w16 ⟨v499, rfl, ho0, hb⟩; refine ⟨_, rfl, ?_⟩; have n0_ := am (Kd.V_below (by (with_reducible repeat (first | apply Kd.V_alloc | apply Kd.V_drewN | apply Kd.V_drew)); exact HO_5.out) hb); have n1_ := am (Kd.V_below (by (with_reducible repeat (first | apply Kd.V_alloc | apply Kd.V_drewN | apply Kd.V_drew)); exact HO495.out) hb); have n2_ := am (Kd.V_lower (Kd.V_mono (ok' := fun k_ => True) ho0 (fun k_ hk_ => trivial)) (below_size (Bz HB.out))); have n3_ := Bb HB hb; clear HO_5 HO495 HB; revert n0_ n1_ n2_ n3_; intro HO_5 HO495 HO500 HB
          (try clear hb)
          (try clear hb2)
          (try clear hk)
          (try clear hi)
          (try clear ho0)
          refine hK.out _ _ ⟨((HB.out.cell (World.block_lt_of_cell? w _ hw491_0)).trans hw491_0), ((HB.out.cell (World.block_lt_of_cell? w _ hw492_0)).trans hw492_0), ((HB.out.cell (World.block_lt_of_cell? w _ hw496_0)).trans hw496_0), ((HB.out.cell (World.block_lt_of_cell? w _ hw497_0)).trans hw497_0)⟩ (fun hHeld => ?_); clear hK K; refine norm_ (a' := ?_) ?_ ?_; rotate_left; show Act.put _ (some 28) _ = _; simp only [aP, i64_w, i32_w]; rfl; refine pZ 15 (some 5) (bA 16 65535) HT_.out ?_; refine done_ (done_of HT_.out (by kernel_rfl)) ?_
          try go_wp2
          go_roundg k1
          case measure => have := HK1.out; omega
          case rel => exact ⟨(t498), (wrap64 (x10_1 + 1)), wZ, H', ⟨by have := HK1.out; omega⟩, ⟨by (with_reducible repeat (first | apply Kd.V_alloc | apply Kd.V_drewN | apply Kd.V_drew)); exact HO500.out⟩, ⟨Bz HB.out⟩⟩
         ·rw [if_neg c10] at H
          exact absurd H (by simp)
        ·rw [if_neg c8] at H
         exact absurd H (by simp)
       ·rw [if_neg c7] at H
        exact absurd H (by simp)
      ·rw [if_neg c6] at H
       exact absurd H (by simp)
     ·rw [if_neg c5] at H
      exact absurd H (by simp)
    ·rw [if_neg c4] at H
     exact absurd H (by simp)
   ·rw [if_neg c3] at H
    have c3b0 : decide (x10_1 < (l1.length : Int)) = false := decide_eq_false c3; clear c3; obtain rfl := Option.some.inj H; obtain ⟨Ao17, co17, eo17⟩ := Kd.V_slice HO_5.out; subst eo17
    go_wp2
    go_ret
    exact ⟨eZ, Bz HB.out⟩

def spec_cuMost.l0 : Nat → List (List Int) → Int → List (List Int) → Int → Int → Option (Int)
 | 0, _, _, _, _, _ => none
 | k + 1, x0, x3, x7, x8, x9 => if x9 < x8 then (if 0 ≤ x9 then (if x9 < (x7.length : Int) then ((spec_cuWide.f k x0 (rd_L3 x7 x9)).bind fun t505 => ((spec_l1Least.f ((rd_L3 x7 x9).length : Int) t505).bind fun t506 => (spec_cuMost.l0 k x0 (wrap64 (x3 + t506)) x7 x8 (wrap64 (x9 + 1))))) else (none)) else (none)) else (some x3)
def spec_cuMost.f (k : Nat) (l0 : List (List Int)) : Option (Int) := (spec_cuGroups.f k l0).bind fun t501 => (spec_cuMost.l0 k l0 0 t501 (t501.length : Int) 0)
theorem spec_cuMost.calls (k : Nat) (A0 : Option Addr) (c0 : Nat) (l0 : List (List Int)) (r : Int) (w : World) (hr0 : Kd.C (Kd.slice 3 (Kd.int .i64)) w A0 l0.length l0) (hc0 : l0.length ≤ c0) (h : spec_cuMost.f k l0 = some r) :
  Calls Try.prog 129 #[.slice A0 l0.length c0] w fun e w' => e = .returned (.int .i64 r) ∧ Below w.heap.size w w' := by
 have HR0 := am hr0; have HC0 := am hc0; clear hr0 hc0; have HB := am (Below.refl w.heap.size w); have H : ((spec_cuGroups.f k l0).bind fun t501 => (spec_cuMost.l0 k l0 0 t501 (t501.length : Int) 0)) = some r := h; clear h; replace H := Option.bind_eq_some_iff.mp H; obtain ⟨t501, A20, H⟩ := H; (try dsimp -simprocs only at H); have A2 := am A20; clear A20; have H' := am H; clear H
 go_enter Try.func129, Try.ntmps129
 go_wp2_with (first | ((with_reducible refine gate_callee (f := 63) rfl ?_); refine gL (some 7) Try.func63 #[.slice A0 l0.length c0] ?_; (with_reducible refine (spec_cuGroups.calls k _ _ l0 t501 _ ?side1 ?side2 A2.out).mono ?_); (case side1 => exact Cz HR0.out); (case side2 => exact HC0.out); rintro e w3 ⟨v502, rfl, ho0, hb⟩; refine ⟨_, rfl, ?_⟩; have n0_ := am (Kd.N_lower (Kd.N_mono (ok' := fun k_ => True) ho0 (fun k_ hk_ => trivial)) (below_size (Bz HB.out))); have n1_ := Bb HB hb; clear HB; revert n0_ n1_; intro HO503 HB; (try clear hb); (try clear hb2); (try clear hk); (try clear hi); (try clear ho0); obtain ⟨Ao4, co4, eo4⟩ := Kd.N_slice HO503.out; subst eo4))
 (try simp only [aP])
 go_loopg [3, 9] k (fun kq v3 v9 w' => ∃ (x3_1 : Int) (x9_1 : Int), v3 = .int .i64 x3_1 ∧ v9 = .int .i64 x9_1 ∧ Aside0 (spec_cuMost.l0 kq l0 x3_1 t501 (t501.length : Int) x9_1 = some r) ∧ Aside0 (kq ≤ k) ∧ Aside0 (Kd.N (Kd.slice 3 (Kd.int .i64)) 31 w' w.heap.size (fun _ => True) (.slice Ao4 t501.length co4) t501) ∧ Aside0 (Below w.heap.size w w'))
 case atStart => exact ⟨(0), (0), wZ, wZ, H', ⟨Nat.le_refl _⟩, ⟨by (with_reducible repeat (first | apply Kd.N_alloc | apply Kd.N_drewN | apply Kd.N_drew)); exact HO503.out⟩, ⟨Bz HB.out⟩⟩
 case round =>
  clear H'
  try clear c1
  try clear p2
  obtain ⟨x3_1, x9_1, rfl, rfl, HA, HK1, HO_7, HB⟩ := hrel; cases gk with
  | zero => exact absurd HA.out (by simp [spec_cuMost.l0])
  | succ k1 =>
   have H := HA.out; clear HA
   simp only [spec_cuMost.l0] at H
   by_cases c5 : x9_1 < (t501.length : Int)
   ·rw [if_pos c5] at H
    have c5b0 : decide (x9_1 < (t501.length : Int)) = true := decide_eq_true c5; clear c5
    by_cases c6 : 0 ≤ x9_1
    ·rw [if_pos c6] at H
     have c6b0 : decide (0 ≤ x9_1) = true := decide_eq_true c6; clear c6
     by_cases c7 : x9_1 < (t501.length : Int)
     ·rw [if_pos c7] at H
      have c7b0 : decide (x9_1 < (t501.length : Int)) = true := decide_eq_true c7; clear c7; replace H := Option.bind_eq_some_iff.mp H; obtain ⟨t505, A80, H⟩ := H; (try dsimp -simprocs only at H); have A8 := am A80; clear A80; replace H := Option.bind_eq_some_iff.mp H; obtain ⟨t506, A90, H⟩ := H; (try dsimp -simprocs only at H); have A9 := am A90; clear A90; have H' := am H; clear H; have p504 : 0 ≤ (x9_1 : Int) := dT; have q504 : x9_1 < (t501.length : Int) := dT; obtain ⟨ad504, A504_0, c504_0, e504, hx504_0, hl504_0, hi504_0⟩ := at_L3 (Kd.N_reads' HO_7.out).2.2 x9_1 p504 q504; cases e504; obtain ⟨ce504, hce504, hMe504, hcc504⟩ := Kd.N_get HO_7.out [] x9_1 p504 (by first | exact q504 | exact dT | (have e_ := (Kd.N_reads' HO_7.out).1; omega)); obtain ⟨ua504_0, uc504_0, rfl, ul504_0, ge504_0⟩ := Kd.FK_slice_open hMe504; have hv504_0 := hcc504 0 _ rfl; rw [Nat.add_zero, show ((Kd.slice 3 (Kd.int .i64))).sz = 1 from rfl, Nat.mul_one] at hv504_0; replace hv504_0 := Option.some.inj (hv504_0.symm.trans hx504_0)
      injection hv504_0 with hva_ hvn_ hvc_
      rw [hva_] at ge504_0; rw [hvc_] at ul504_0; have HL504_0 := am (show Kd.V (Kd.int .i64) 3 _ w.heap.size _ _ (rd_L3 t501 x9_1) from Kd.V_mk ul504_0 ge504_0); clear hva_ hvn_ hvc_ ge504_0 ul504_0; clear hcc504 hce504; have HR504_0 := am hi504_0; have HC504_0 := am hl504_0; clear hi504_0 hl504_0; replace p504 := eq_true p504; replace q504 := eq_true q504
      go_wp2_with (first | ((with_reducible refine gate_callee (f := 91) rfl ?_); refine gL (some 18) Try.func91 #[.slice A0 l0.length c0, .slice A504_0 (rd_L3 t501 x9_1).length c504_0] ?_; (with_reducible refine (spec_cuWide.calls k1 _ _ l0 _ _ (rd_L3 t501 x9_1) t505 _ ?side1 ?side2 ?side3 ?side4 A8.out).mono ?_); (case side1 => exact Cz (Kd.C_below HR0.out HB.out)); (case side2 => exact HC0.out); (case side3 => repeat (first | exact (by repeat (first | (with_reducible exact HR504_0.out) | (with_reducible refine Kd.C_alloc ?_ _) | (with_reducible refine Kd.C_drewN ?_ _) | (with_reducible refine Kd.C_drew ?_) | exact HR504_0.out)) | (with_reducible refine Kd.C_alloc ?_ _) | (with_reducible refine Kd.C_drewN ?_ _) | (with_reducible refine Kd.C_drew ?_))); (case side4 => exact HC504_0.out); rintro e w10 ⟨rfl, hb⟩; refine ⟨_, rfl, ?_⟩; have n0_ := am (Kd.N_below (by (with_reducible repeat (first | apply Kd.N_alloc | apply Kd.N_drewN | apply Kd.N_drew)); exact HO_7.out) hb); have n1_ := am (Kd.V_below (by (with_reducible repeat (first | apply Kd.V_alloc | apply Kd.V_drewN | apply Kd.V_drew)); exact HL504_0.out) hb); have n2_ := am (Kd.C_below (by repeat (first | (with_reducible exact HR504_0.out) | (with_reducible refine Kd.C_alloc ?_ _) | (with_reducible refine Kd.C_drewN ?_ _) | (with_reducible refine Kd.C_drew ?_) | exact HR504_0.out)) hb); have n3_ := Bb HB hb; clear HO_7 HL504_0 HR504_0 HB; revert n0_ n1_ n2_ n3_; intro HO_7 HL504_0 HR504_0 HB; (try clear hb); (try clear hb2); (try clear hk); (try clear hi)) | ((with_reducible refine gate_callee (f := 77) rfl ?_); refine gL (some 19) Try.func77 #[.int .i64 ((rd_L3 t501 x9_1).length : Int), .int .i64 t505] ?_; (with_reducible refine (spec_l1Least.calls ((rd_L3 t501 x9_1).length : Int) t505 t506 _ A9.out).mono ?_); rintro e w' ⟨rfl, ⟨nd, rfl⟩⟩; refine ⟨_, rfl, ?_⟩))
      go_roundg k1
      case measure => have := HK1.out; omega
      case rel => exact ⟨(wrap64 (x3_1 + t506)), (wrap64 (x9_1 + 1)), wZ, wZ, H', ⟨by have := HK1.out; omega⟩, ⟨by (with_reducible repeat (first | apply Kd.N_alloc | apply Kd.N_drewN | apply Kd.N_drew)); exact HO_7.out⟩, ⟨Bz HB.out⟩⟩
     ·rw [if_neg c7] at H
      exact absurd H (by simp)
    ·rw [if_neg c6] at H
     exact absurd H (by simp)
   ·rw [if_neg c5] at H
    have c5b0 : decide (x9_1 < (t501.length : Int)) = false := decide_eq_false c5; clear c5; obtain rfl := Option.some.inj H
    go_wp2
    go_ret
    exact ⟨eZ, Bz HB.out⟩

def spec_cuFits.f (k : Nat) (a0 : Int) (l1 : List ByteArray) (a2 : Int) : Option (Bool) := (spec_cuPairs.f k a0 l1 a2).bind fun t507 => ((spec_cuMost.f k t507).bind fun t510 => (some (t510 == (l1.length : Int))))
theorem spec_cuFits.calls (k : Nat) (a0 : Int) (A1 : Option Addr) (c1 : Nat) (l1 : List ByteArray) (a2 : Int) (r : Bool) (w : World) (hr1 : Kd.C Kd.string w A1 l1.length l1) (hc1 : l1.length ≤ c1) (h : spec_cuFits.f k a0 l1 a2 = some r) :
  Calls Try.prog 78 #[.int .i64 a0, .slice A1 l1.length c1, .int .i64 a2] w fun e w' => e = .returned (.bool r) ∧ Below w.heap.size w w' := by
 have HR1 := am hr1; have HC1 := am hc1; clear hr1 hc1; have HB := am (Below.refl w.heap.size w); have H : ((spec_cuPairs.f k a0 l1 a2).bind fun t507 => ((spec_cuMost.f k t507).bind fun t510 => (some (t510 == (l1.length : Int))))) = some r := h; clear h; replace H := Option.bind_eq_some_iff.mp H; obtain ⟨t507, A40, H⟩ := H; (try dsimp -simprocs only at H); have A4 := am A40; clear A40; replace H := Option.bind_eq_some_iff.mp H; obtain ⟨t510, A50, H⟩ := H; (try dsimp -simprocs only at H); have A5 := am A50; clear A50; obtain rfl := Option.some.inj H
 go_enter Try.func78, Try.ntmps78
 go_wp2_with (first | ((with_reducible refine gate_callee (f := 64) rfl ?_); refine gL (some 10) Try.func64 #[.int .i64 a0, .slice A1 l1.length c1, .int .i64 a2] ?_; (with_reducible refine (spec_cuPairs.calls k a0 _ _ l1 a2 t507 _ ?side1 ?side2 A4.out).mono ?_); (case side1 => exact Cz HR1.out); (case side2 => exact HC1.out); rintro e w6 ⟨v508, rfl, ho0, hb⟩; refine ⟨_, rfl, ?_⟩; have n0_ := am (Kd.S_lower ho0 (below_size (Bz HB.out))); have n1_ := Bb HB hb; clear HB; revert n0_ n1_; intro HO509 HB; (try clear hb); (try clear hb2); (try clear hk); (try clear hi); (try clear ho0); obtain ⟨Ao7, co7, eo7⟩ := Kd.S_slice HO509.out; subst eo7) | ((with_reducible refine gate_callee (f := 129) rfl ?_); refine gL (some 11) Try.func129 #[.slice Ao7 t507.length co7] ?_; (with_reducible refine (spec_cuMost.calls k _ _ t507 t510 _ ?side1 ?side2 A5.out).mono ?_); (case side1 => exact Cz ((Kd.S_reads' HO509.out).2.2)); (case side2 => exact (Kd.S_reads' HO509.out).2.1); rintro e w8 ⟨rfl, hb⟩; refine ⟨_, rfl, ?_⟩; have n0_ := am (Kd.S_below (by (with_reducible repeat (first | apply Kd.S_alloc | apply Kd.S_drewN | apply Kd.S_drew)); exact HO509.out) hb); have n1_ := Bb HB hb; clear HO509 HB; revert n0_ n1_; intro HO509 HB; (try clear hb); (try clear hb2); (try clear hk); (try clear hi)))
 go_ret
 exact ⟨eZ, Bz HB.out⟩

mutual
def spec_FirstCuckooSeed.j0 : Nat → List ByteArray → Int → Int → Int → Bool → Option (Int × Bool)
 | 0, _, _, _, _, _ => none
 | k + 1, x0, x1, x2, x3, x28 => if x28 = true then (some (0, false)) else (spec_FirstCuckooSeed.l0 k x0 x1 x3 x2)
def spec_FirstCuckooSeed.l0 : Nat → List ByteArray → Int → Int → Int → Option (Int × Bool)
 | 0, _, _, _, _ => none
 | k + 1, x0, x1, x3, x10 => if x10 < x3 then ((spec_cuFits.f k x10 x0 x1).bind fun t515 => (if t515 = true then (some (x10, true)) else (spec_FirstCuckooSeed.l0 k x0 x1 x3 (wrap64 (x10 + 1))))) else (some (0, false))
end
def spec_FirstCuckooSeed.f (k : Nat) (l0 : List ByteArray) (a1 : Int) (a2 : Int) (a3 : Int) : Option (Int × Bool) := (spec_cuKeyed.f k 0 l0 a1).bind fun t511 => (if t511 = true then ((spec_l1In.f a2 0 10000).bind fun t512 => (if t512 = true then ((spec_l1Least.f 10000 (wrap64 (a2 + 100))).bind fun t513 => ((spec_l1In.f a3 a2 t513).bind fun t514 => (spec_FirstCuckooSeed.j0 k l0 a1 a2 a3 (!t514)))) else (spec_FirstCuckooSeed.j0 k l0 a1 a2 a3 true))) else (spec_FirstCuckooSeed.j0 k l0 a1 a2 a3 true))
theorem spec_FirstCuckooSeed.calls (k : Nat) (A0 : Option Addr) (c0 : Nat) (l0 : List ByteArray) (a1 : Int) (a2 : Int) (a3 : Int) (r1 : Int) (r2 : Bool) (w : World) (hr0 : Kd.C Kd.string w A0 l0.length l0) (hc0 : l0.length ≤ c0) (h : spec_FirstCuckooSeed.f k l0 a1 a2 a3 = some (r1, r2)) :
  Calls Try.prog 21 #[.slice A0 l0.length c0, .int .i64 a1, .int .i64 a2, .int .i64 a3] w fun e w' => e = .returned (.tuple #[.int .i64 r1, .bool r2]) ∧ Below w.heap.size w w' := by
 have HR0 := am hr0; have HC0 := am hc0; clear hr0 hc0; have HB := am (Below.refl w.heap.size w); have H : ((spec_cuKeyed.f k 0 l0 a1).bind fun t511 => (if t511 = true then ((spec_l1In.f a2 0 10000).bind fun t512 => (if t512 = true then ((spec_l1Least.f 10000 (wrap64 (a2 + 100))).bind fun t513 => ((spec_l1In.f a3 a2 t513).bind fun t514 => (spec_FirstCuckooSeed.j0 k l0 a1 a2 a3 (!t514)))) else (spec_FirstCuckooSeed.j0 k l0 a1 a2 a3 true))) else (spec_FirstCuckooSeed.j0 k l0 a1 a2 a3 true))) = some (r1, r2) := h; clear h; have HC5 := am H; clear H
 go_enter Try.func21, Try.ntmps21
 go_upto_region 1 with (fail)
 go_cut [28] (fun v28 wc => ∃ (kq : Nat) (x28_4 : Bool), v28 = .bool x28_4 ∧ Aside0 (spec_FirstCuckooSeed.j0 kq l0 a1 a2 a3 x28_4 = some (r1, r2)) ∧ Aside0 (kq ≤ k) ∧ Aside0 (Below w.heap.size w wc))
 case first =>
  have H := HC5.out; clear HC5; replace H := Option.bind_eq_some_iff.mp H; obtain ⟨t511, A60, H⟩ := H; (try dsimp -simprocs only at H); have A6 := am A60; clear A60
  by_cases c7 : t511 = true
  ·subst c7
   rw [if_pos rfl] at H; replace H := Option.bind_eq_some_iff.mp H; obtain ⟨t512, A80, H⟩ := H; (try dsimp -simprocs only at H); have A8 := am A80; clear A80
   by_cases c9 : t512 = true
   ·subst c9
    rw [if_pos rfl] at H; replace H := Option.bind_eq_some_iff.mp H; obtain ⟨t513, A100, H⟩ := H; (try dsimp -simprocs only at H); have A10 := am A100; clear A100; replace H := Option.bind_eq_some_iff.mp H; obtain ⟨t514, A110, H⟩ := H; (try dsimp -simprocs only at H); have A11 := am A110; clear A110; have H' := am H; clear H
    go_wp2_with (first | ((with_reducible refine gate_callee (f := 62) rfl ?_); refine gL (some 13) Try.func62 #[.int .i64 0, .slice A0 l0.length c0, .int .i64 a1] ?_; (with_reducible refine (spec_cuKeyed.calls k 0 _ _ l0 a1 true _ ?side1 ?side2 A6.out).mono ?_); (case side1 => exact Cz (Kd.C_below HR0.out HB.out)); (case side2 => exact HC0.out); rintro e w' ⟨rfl, ⟨nd, rfl⟩⟩; refine ⟨_, rfl, ?_⟩) | (go_at_call 76; (with_reducible refine (spec_l1In.calls a2 0 10000 true _ A8.out).mono ?_); rintro e w' ⟨rfl, ⟨nd, rfl⟩⟩) | (go_at_call 77; (with_reducible refine (spec_l1Least.calls 10000 (wrap64 (a2 + 100)) t513 _ A10.out).mono ?_); rintro e w' ⟨rfl, ⟨nd, rfl⟩⟩) | (go_at_call 76; (with_reducible refine (spec_l1In.calls a3 a2 t513 t514 _ A11.out).mono ?_); rintro e w' ⟨rfl, ⟨nd, rfl⟩⟩))
    go_meet
    case rel => exact ⟨_, (!t514), wZ, H', ⟨by first | omega | exact Nat.le_refl _⟩, ⟨Bz HB.out⟩⟩
   ·replace c9 := Bool.eq_false_iff.mpr c9
    subst c9
    rw [if_neg (show ¬ (false = true) by decide)] at H; have H' := am H; clear H
    go_wp2_with (first | ((with_reducible refine gate_callee (f := 62) rfl ?_); refine gL (some 13) Try.func62 #[.int .i64 0, .slice A0 l0.length c0, .int .i64 a1] ?_; (with_reducible refine (spec_cuKeyed.calls k 0 _ _ l0 a1 true _ ?side1 ?side2 A6.out).mono ?_); (case side1 => exact Cz (Kd.C_below HR0.out HB.out)); (case side2 => exact HC0.out); rintro e w' ⟨rfl, ⟨nd, rfl⟩⟩; refine ⟨_, rfl, ?_⟩) | (go_at_call 76; (with_reducible refine (spec_l1In.calls a2 0 10000 false _ A8.out).mono ?_); rintro e w' ⟨rfl, ⟨nd, rfl⟩⟩))
    go_meet
    case rel => exact ⟨_, (true), wZ, H', ⟨by first | omega | exact Nat.le_refl _⟩, ⟨Bz HB.out⟩⟩
  ·replace c7 := Bool.eq_false_iff.mpr c7
   subst c7
   rw [if_neg (show ¬ (false = true) by decide)] at H; have H' := am H; clear H
   go_wp2_with (first | ((with_reducible refine gate_callee (f := 62) rfl ?_); refine gL (some 13) Try.func62 #[.int .i64 0, .slice A0 l0.length c0, .int .i64 a1] ?_; (with_reducible refine (spec_cuKeyed.calls k 0 _ _ l0 a1 false _ ?side1 ?side2 A6.out).mono ?_); (case side1 => exact Cz (Kd.C_below HR0.out HB.out)); (case side2 => exact HC0.out); rintro e w' ⟨rfl, ⟨nd, rfl⟩⟩; refine ⟨_, rfl, ?_⟩))
   go_meet
   case rel => exact ⟨_, (true), wZ, H', ⟨by first | omega | exact Nat.le_refl _⟩, ⟨Bz HB.out⟩⟩
 case rest =>
  clear HC5
  try clear c2
  try clear p2
  try clear c6
  try clear p6
  try clear c7
  try clear c9
  obtain ⟨kq, x28_4, rfl, HA, HJ4, HB⟩ := hcut; cases kq with
  | zero => exact absurd HA.out (by simp [spec_FirstCuckooSeed.j0])
  | succ kj4 =>
   have H := HA.out; clear HA
   simp only [spec_FirstCuckooSeed.j0] at H
   by_cases c12 : x28_4 = true
   ·subst c12
    rw [if_pos rfl] at H
    simp only [Option.some.injEq, Prod.mk.injEq] at H
    obtain ⟨rfl, rfl⟩ := H
    go_wp2
    go_ret2
    exact ⟨eZ, Bz HB.out⟩
   ·replace c12 := Bool.eq_false_iff.mpr c12
    subst c12
    rw [if_neg (show ¬ (false = true) by decide)] at H; have H' := am H; clear H
    go_wp2
    go_loopg [10] kj4 (fun kq v10 w' => ∃ (x10_2 : Int), v10 = .int .i64 x10_2 ∧ Aside0 (spec_FirstCuckooSeed.l0 kq l0 a1 a3 x10_2 = some (r1, r2)) ∧ Aside0 (kq ≤ kj4) ∧ Aside0 (Below w.heap.size w w'))
    case atStart => exact ⟨(a2), wZ, H', ⟨Nat.le_refl _⟩, ⟨Bz HB.out⟩⟩
    case round =>
     clear H'
     try clear c1
     try clear c2
     try clear p2
     try clear c6
     try clear p6
     try clear c7
     try clear c9
     try clear c12
     try clear p2
     try clear p6
     obtain ⟨x10_2, rfl, HA, HK2, HB⟩ := hrel; cases gk with
     | zero => exact absurd HA.out (by simp [spec_FirstCuckooSeed.l0])
     | succ k2 =>
      have H := HA.out; clear HA
      simp only [spec_FirstCuckooSeed.l0] at H
      by_cases c13 : x10_2 < a3
      ·rw [if_pos c13] at H
       have c13b0 : decide (x10_2 < a3) = true := decide_eq_true c13; clear c13; replace H := Option.bind_eq_some_iff.mp H; obtain ⟨t515, A140, H⟩ := H; (try dsimp -simprocs only at H); have A14 := am A140; clear A140
       by_cases c15 : t515 = true
       ·subst c15
        rw [if_pos rfl] at H
        simp only [Option.some.injEq, Prod.mk.injEq] at H
        obtain ⟨rfl, rfl⟩ := H
        go_wp2_with (first | ((with_reducible refine gate_callee (f := 78) rfl ?_); refine gL (some 38) Try.func78 #[.int .i64 x10_2, .slice A0 l0.length c0, .int .i64 a1] ?_; (with_reducible refine (spec_cuFits.calls k2 x10_2 _ _ l0 a1 true _ ?side1 ?side2 A14.out).mono ?_); (case side1 => exact Cz (Kd.C_below HR0.out HB.out)); (case side2 => exact HC0.out); rintro e w16 ⟨rfl, hb⟩; refine ⟨_, rfl, ?_⟩; have n0_ := Bb HB hb; clear HB; revert n0_; intro HB; (try clear hb); (try clear hb2); (try clear hk); (try clear hi)))
        go_ret2
        exact ⟨eZ, Bz HB.out⟩
       ·replace c15 := Bool.eq_false_iff.mpr c15
        subst c15
        rw [if_neg (show ¬ (false = true) by decide)] at H; have H' := am H; clear H
        go_wp2_with (first | ((with_reducible refine gate_callee (f := 78) rfl ?_); refine gL (some 38) Try.func78 #[.int .i64 x10_2, .slice A0 l0.length c0, .int .i64 a1] ?_; (with_reducible refine (spec_cuFits.calls k2 x10_2 _ _ l0 a1 false _ ?side1 ?side2 A14.out).mono ?_); (case side1 => exact Cz (Kd.C_below HR0.out HB.out)); (case side2 => exact HC0.out); rintro e w17 ⟨rfl, hb⟩; refine ⟨_, rfl, ?_⟩; have n0_ := Bb HB hb; clear HB; revert n0_; intro HB; (try clear hb); (try clear hb2); (try clear hk); (try clear hi)))
        go_roundg k2
        case measure => have := HJ4.out; have := HK2.out; omega
        case rel => exact ⟨(wrap64 (x10_2 + 1)), wZ, H', ⟨by have := HJ4.out; have := HK2.out; omega⟩, ⟨Bz HB.out⟩⟩
      ·rw [if_neg c13] at H
       have c13b0 : decide (x10_2 < a3) = false := decide_eq_false c13; clear c13
       simp only [Option.some.injEq, Prod.mk.injEq] at H
       obtain ⟨rfl, rfl⟩ := H
       go_wp2
       go_ret2
       exact ⟨eZ, Bz HB.out⟩

end Go.Proofs.Ytephjmmkggcmeaa.PL
