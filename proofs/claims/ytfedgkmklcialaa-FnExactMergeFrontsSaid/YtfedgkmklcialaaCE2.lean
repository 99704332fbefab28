import Derived.Test.YtfedgkmklcialaaCE1
-- printed by a program of this session (wip/gp) out of the translation; Lean checks it
namespace Go.Proofs.Ytfedgkmklcialaa.PM
open Go.RowKit Go.Proofs.YtfedgkmklcialaaW.PrintWords Go.Proofs.YtfedgkmklcialaaW.PrintLast Go.Proofs.YtfedgkmklcialaaW.PrintMore Go.Proofs.YtfedgkmklcialaaSq
attribute [local go_sem] max2_int min2_int max_two min_two max_three min_three max_four min_four   -- for this text's walks alone
attribute [local go_sem] Go.Proofs.YtfedgkmklcialaaGp.str_geq Go.Proofs.YtfedgkmklcialaaGp.str_gtr Go.Proofs.YtfedgkmklcialaaGp.str_leq
set_option linter.unusedVariables false
set_option linter.unusedSimpArgs false

set_option maxHeartbeats 8000000
set_option maxRecDepth 100000
def spec_l1In.f (a0 : Int) (a1 : Int) (a2 : Int) : Option (Bool) := if a0 ≥ a1 then (some (decide (a0 ≤ a2))) else (some false)
theorem spec_l1In.calls (a0 : Int) (a1 : Int) (a2 : Int) (r : Bool) (w : World) (h : spec_l1In.f a0 a1 a2 = some r) :
  Calls Try.prog 39 #[.int .i64 a0, .int .i64 a1, .int .i64 a2] w fun e w' => e = .returned (.bool r) ∧ Drawn0 w w' := by
 have H : (if a0 ≥ a1 then (some (decide (a0 ≤ a2))) else (some false)) = some r := h; clear h
 by_cases c4 : a0 ≥ a1
 ·rw [if_pos c4] at H
  have c4b0 : decide (a1 ≤ a0) = true := decide_eq_true c4; clear c4; obtain rfl := Option.some.inj H
  go_enter Try.func39, Try.ntmps39
  go_wp2
  go_ret
  exact ⟨by first | rfl | (simp; done) | (simp [*]; done), by repeat (first | exact Drawn0.refl _ | apply Drawn0.step)⟩
 ·rw [if_neg c4] at H
  have c4b0 : decide (a1 ≤ a0) = false := decide_eq_false c4; clear c4; obtain rfl := Option.some.inj H
  go_enter Try.func39, Try.ntmps39
  go_wp2
  go_ret
  exact ⟨by first | rfl | (simp; done) | (simp [*]; done), by repeat (first | exact Drawn0.refl _ | apply Drawn0.step)⟩

def spec_IsKey.l0 : Nat → ByteArray → Int → Option (Bool)
 | 0, _, _ => none
 | k + 1, x0, x3 => if x3 < (x0.size : Int) then (if 0 ≤ x3 then (if (bt x0 x3) < 33 then (some false) else (if (bt x0 x3) > 125 then (some false) else (spec_IsKey.l0 k x0 (wrap64 (x3 + 1))))) else (none)) else ((spec_l1In.f (x0.size : Int) 1 12).bind fun t149 => (some t149))
def spec_IsKey.f (k : Nat) (a0 : ByteArray) : Option (Bool) := spec_IsKey.l0 k a0 0
theorem spec_IsKey.calls (k : Nat) (a0 : ByteArray) (r : Bool) (w : World) (h : spec_IsKey.f k a0 = some r) :
  Calls Try.prog 64 #[.string a0] w fun e w' => e = .returned (.bool r) ∧ Drawn0 w w' := by
 have H : (spec_IsKey.l0 k a0 0) = some r := h; clear h; have H' := am H; clear H
 go_enter Try.func64, Try.ntmps64
 go_wp2
 go_loopg [3] k (fun kq v3 w' => ∃ (x3_1 : Int), v3 = .int .i64 x3_1 ∧ Aside0 (spec_IsKey.l0 kq a0 x3_1 = some r) ∧ Aside0 (kq ≤ k) ∧ Drawn0 w w')
 case atStart => exact ⟨(0), wZ, H', ⟨Nat.le_refl _⟩, by repeat (first | exact Drawn0.refl _ | apply Drawn0.step)⟩
 case round =>
  clear H'; obtain ⟨x3_1, rfl, HA, HK1, ⟨m1, rfl⟩⟩ := hrel; cases gk with
  | zero => exact absurd HA.out (by simp [spec_IsKey.l0])
  | succ k1 =>
   have H := HA.out; clear HA
   simp only [spec_IsKey.l0] at H
   by_cases c2 : x3_1 < (a0.size : Int)
   ·rw [if_pos c2] at H
    have c2b0 : decide (x3_1 < (a0.size : Int)) = true := decide_eq_true c2; clear c2
    by_cases c3 : 0 ≤ x3_1
    ·rw [if_pos c3] at H
     have c3b0 : decide (0 ≤ x3_1) = true := decide_eq_true c3; clear c3
     by_cases c5 : (bt a0 x3_1) < 33
     ·rw [if_pos c5] at H
      have c5b0 : decide ((bt a0 x3_1) < 33) = true := decide_eq_true c5; clear c5; obtain rfl := Option.some.inj H; have p4 : 0 ≤ (x3_1 : Int) := dT; have q4 : x3_1 < (a0.size : Int) := dT; have hx4 := bt_at a0 x3_1; replace p4 := eq_true p4; replace q4 := eq_true q4
      go_wp2
      go_ret
      exact ⟨by first | rfl | (simp; done) | (simp [*]; done), by repeat (first | exact Drawn0.refl _ | apply Drawn0.step)⟩
     ·rw [if_neg c5] at H
      have c5b0 : decide ((bt a0 x3_1) < 33) = false := decide_eq_false c5; clear c5
      by_cases c7 : (bt a0 x3_1) > 125
      ·rw [if_pos c7] at H
       have c7b0 : decide (125 < (bt a0 x3_1)) = true := decide_eq_true c7; clear c7; obtain rfl := Option.some.inj H; have p4 : 0 ≤ (x3_1 : Int) := dT; have q4 : x3_1 < (a0.size : Int) := dT; have hx4 := bt_at a0 x3_1; replace p4 := eq_true p4; replace q4 := eq_true q4; have p6 : 0 ≤ (x3_1 : Int) := dT; have q6 : x3_1 < (a0.size : Int) := dT; have hx6 := bt_at a0 x3_1; replace p6 := eq_true p6; replace q6 := eq_true q6
       go_wp2
       go_ret
       exact ⟨by first | rfl | (simp; done) | (simp [*]; done), by repeat (first | exact Drawn0.refl _ | apply Drawn0.step)⟩
      ·rw [if_neg c7] at H
       have c7b0 : decide (125 < (bt a0 x3_1)) = false := decide_eq_false c7; clear c7; have H' := am H; clear H; have p4 : 0 ≤ (x3_1 : Int) := dT; have q4 : x3_1 < (a0.size : Int) := dT; have hx4 := bt_at a0 x3_1; replace p4 := eq_true p4; replace q4 := eq_true q4; have p6 : 0 ≤ (x3_1 : Int) := dT; have q6 : x3_1 < (a0.size : Int) := dT; have hx6 := bt_at a0 x3_1; replace p6 := eq_true p6; replace q6 := eq_true q6
       go_wp2
       go_roundg k1
       case measure => have := HK1.out; omega
       case rel => exact ⟨(wrap64 (x3_1 + 1)), wZ, H', ⟨by have := HK1.out; omega⟩, by repeat (first | exact Drawn0.refl _ | apply Drawn0.step)⟩
    ·rw [if_neg c3] at H
     exact absurd H (by simp)
   ·rw [if_neg c2] at H
    have c2b0 : decide (x3_1 < (a0.size : Int)) = false := decide_eq_false c2; clear c2; obtain ⟨t149, A8, H⟩ := ob H; (try dsimp -simprocs only at H); obtain rfl := Option.some.inj H
    go_wp2_with (first | ((with_reducible refine gate_callee (f := 39) rfl ?_); refine gL (some 22) Try.func39 #[.int .i64 (a0.size : Int), .int .i64 1, .int .i64 12] ?_; (with_reducible refine (spec_l1In.calls (a0.size : Int) 1 12 t149 _ A8.out).mono ?_); rintro e w' ⟨rfl, ⟨nd, rfl⟩⟩; refine ⟨_, rfl, ?_⟩))
    go_ret
    exact ⟨by first | rfl | (simp; done) | (simp [*]; done), by repeat (first | exact Drawn0.refl _ | apply Drawn0.step)⟩

def spec_biKeys.l0 : Nat → List ByteArray → List ByteArray → Int → Int → Option (Bool)
 | 0, _, _, _, _ => none
 | k + 1, x0, x5, x6, x7 => if x7 < x6 then (if 0 ≤ x7 then (if x7 < (x5.length : Int) then ((spec_IsKey.f k (rdOf ByteArray.empty x5 x7)).bind fun t151 => (if t151 = true then (if x7 > 0 then (if 0 ≤ (wrap64 (x7 - 1)) then (if (wrap64 (x7 - 1)) < (x0.length : Int) then (if ((Op.bytesLess ((rdOf ByteArray.empty x0 (wrap64 (x7 - 1))).toList) ((rdOf ByteArray.empty x5 x7).toList)) = true) then (spec_biKeys.l0 k x0 x5 x6 (wrap64 (x7 + 1))) else (some false)) else (none)) else (none)) else (spec_biKeys.l0 k x0 x5 x6 (wrap64 (x7 + 1)))) else (some false))) else (none)) else (none)) else (some (decide ((x0.length : Int) ≤ 40)))
def spec_biKeys.f (k : Nat) (l0 : List ByteArray) : Option (Bool) := spec_biKeys.l0 k l0 l0 (l0.length : Int) 0
theorem spec_biKeys.calls (k : Nat) (A0 : Option Addr) (c0 : Nat) (l0 : List ByteArray) (r : Bool) (w : World) (hr0 : Kd.C Kd.string w A0 l0.length l0) (hc0 : l0.length ≤ c0) (h : spec_biKeys.f k l0 = some r) :
  Calls Try.prog 38 #[.slice A0 l0.length c0] w fun e w' => e = .returned (.bool r) ∧ Drawn0 w w' := by
 have HR0 := am hr0; have HC0 := am hc0; clear hr0 hc0; have H : (spec_biKeys.l0 k l0 l0 (l0.length : Int) 0) = some r := h; clear h; have H' := am H; clear H
 go_enter Try.func38, Try.ntmps38
 go_wp2
 go_loopg [7] k (fun kq v7 w' => ∃ (x7_1 : Int), v7 = .int .i64 x7_1 ∧ Aside0 (spec_biKeys.l0 kq l0 l0 (l0.length : Int) x7_1 = some r) ∧ Aside0 (kq ≤ k) ∧ Drawn0 w w')
 case atStart => exact ⟨(0), wZ, H', ⟨Nat.le_refl _⟩, by repeat (first | exact Drawn0.refl _ | apply Drawn0.step)⟩
 case round =>
  clear H'; obtain ⟨x7_1, rfl, HA, HK1, ⟨m1, rfl⟩⟩ := hrel; cases gk with
  | zero => exact absurd HA.out (by simp [spec_biKeys.l0])
  | succ k1 =>
   have H := HA.out; clear HA
   simp only [spec_biKeys.l0] at H
   by_cases c2 : x7_1 < (l0.length : Int)
   ·rw [if_pos c2] at H
    have c2b0 : decide (x7_1 < (l0.length : Int)) = true := decide_eq_true c2; clear c2
    by_cases c3 : 0 ≤ x7_1
    ·rw [if_pos c3] at H
     have c3b0 : decide (0 ≤ x7_1) = true := decide_eq_true c3; clear c3
     by_cases c4 : x7_1 < (l0.length : Int)
     ·rw [if_pos c4] at H
      have c4b0 : decide (x7_1 < (l0.length : Int)) = true := decide_eq_true c4; clear c4; obtain ⟨t151, A5, H⟩ := ob H; (try dsimp -simprocs only at H)
      by_cases c6 : t151 = true
      ·subst c6
       rw [if_pos rfl] at H
       by_cases c7 : x7_1 > 0
       ·rw [if_pos c7] at H
        have c7b0 : decide (0 < x7_1) = true := decide_eq_true c7; clear c7; obtain ⟨ji8, hji8⟩ : ∃ j_ : Int, (wrap64 (x7_1 - 1)) = j_ := ⟨_, rfl⟩
        replace H : (if 0 ≤ (ji8) then (if (ji8) < (l0.length : Int) then (if ((Op.bytesLess ((rdOf ByteArray.empty l0 (ji8)).toList) ((rdOf ByteArray.empty l0 x7_1).toList)) = true) then (spec_biKeys.l0 k1 l0 l0 (l0.length : Int) (wrap64 (x7_1 + 1))) else (some false)) else (none)) else (none)) = some r := by first | (rw [hji8] at H; exact H) | (simp only [hji8] at H ⊢; exact H)
        (try rw [hji8] at A5)
        have hji8w : (IntKind.i64.wrap (x7_1 - 1)) = ji8 := (i64_w _).trans hji8
        by_cases c9 : 0 ≤ (ji8)
        ·rw [if_pos c9] at H
         have c9b0 : decide (0 ≤ (ji8)) = true := decide_eq_true c9; clear c9
         by_cases c10 : (ji8) < (l0.length : Int)
         ·rw [if_pos c10] at H
          have c10b0 : decide ((ji8) < (l0.length : Int)) = true := decide_eq_true c10; clear c10
          by_cases c11 : ((Op.bytesLess ((rdOf ByteArray.empty l0 (ji8)).toList) ((rdOf ByteArray.empty l0 x7_1).toList)) = true)
          ·rw [if_pos c11] at H
           have c11b0 : (Op.bytesLess ((rdOf ByteArray.empty l0 (ji8)).toList) ((rdOf ByteArray.empty l0 x7_1).toList)) = true := c11; clear c11; have H' := am H; clear H; obtain ⟨ad150, e150, hx150_0⟩ := Kd.at_string HR0.out x7_1 dT dT; cases e150; have p150 := eT (0 ≤ (x7_1 : Int)); have q150 := eT (x7_1 < (l0.length : Int))
           go_wp2_with (first | ((with_reducible refine gate_callee (f := 64) rfl ?_); refine gL (some 13) Try.func64 #[.string (rdOf ByteArray.empty l0 x7_1)] ?_; (with_reducible refine (spec_IsKey.calls k1 (rdOf ByteArray.empty l0 x7_1) true _ A5.out).mono ?_); rintro e w' ⟨rfl, ⟨nd, rfl⟩⟩; refine ⟨_, rfl, ?_⟩; have p152 : 0 ≤ ((ji8) : Int) := dT; have q152 : (ji8) < (l0.length : Int) := dT; obtain ⟨ad152, e152, hx152_0⟩ := Kd.at_string HR0.out (ji8) p152 q152; obtain rfl : ad150 = ad152 := (by injection e152); replace p152 := eq_true p152; replace q152 := eq_true q152))
           go_roundg k1
           case measure => have := HK1.out; omega
           case rel => exact ⟨(wrap64 (x7_1 + 1)), wZ, H', ⟨by have := HK1.out; omega⟩, by repeat (first | exact Drawn0.refl _ | apply Drawn0.step)⟩
          ·rw [if_neg c11] at H
           have c11b0 : (Op.bytesLess ((rdOf ByteArray.empty l0 (ji8)).toList) ((rdOf ByteArray.empty l0 x7_1).toList)) = false := by simpa using c11
           clear c11; obtain rfl := Option.some.inj H; obtain ⟨ad150, e150, hx150_0⟩ := Kd.at_string HR0.out x7_1 dT dT; cases e150; have p150 := eT (0 ≤ (x7_1 : Int)); have q150 := eT (x7_1 < (l0.length : Int))
           go_wp2_with (first | ((with_reducible refine gate_callee (f := 64) rfl ?_); refine gL (some 13) Try.func64 #[.string (rdOf ByteArray.empty l0 x7_1)] ?_; (with_reducible refine (spec_IsKey.calls k1 (rdOf ByteArray.empty l0 x7_1) true _ A5.out).mono ?_); rintro e w' ⟨rfl, ⟨nd, rfl⟩⟩; refine ⟨_, rfl, ?_⟩; have p152 : 0 ≤ ((ji8) : Int) := dT; have q152 : (ji8) < (l0.length : Int) := dT; obtain ⟨ad152, e152, hx152_0⟩ := Kd.at_string HR0.out (ji8) p152 q152; obtain rfl : ad150 = ad152 := (by injection e152); replace p152 := eq_true p152; replace q152 := eq_true q152))
           go_ret
           exact ⟨by first | rfl | (simp; done) | (simp only [← hji8] <;> (first | rfl | simp)) | (simp [*]; done), by repeat (first | exact Drawn0.refl _ | apply Drawn0.step)⟩
         ·rw [if_neg c10] at H
          exact absurd H (by simp)
        ·rw [if_neg c9] at H
         exact absurd H (by simp)
       ·rw [if_neg c7] at H
        have c7b0 : decide (0 < x7_1) = false := decide_eq_false c7; clear c7; have H' := am H; clear H; obtain ⟨ad150, e150, hx150_0⟩ := Kd.at_string HR0.out x7_1 dT dT; cases e150; have p150 := eT (0 ≤ (x7_1 : Int)); have q150 := eT (x7_1 < (l0.length : Int))
        go_wp2_with (first | ((with_reducible refine gate_callee (f := 64) rfl ?_); refine gL (some 13) Try.func64 #[.string (rdOf ByteArray.empty l0 x7_1)] ?_; (with_reducible refine (spec_IsKey.calls k1 (rdOf ByteArray.empty l0 x7_1) true _ A5.out).mono ?_); rintro e w' ⟨rfl, ⟨nd, rfl⟩⟩; refine ⟨_, rfl, ?_⟩))
        go_roundg k1
        case measure => have := HK1.out; omega
        case rel => exact ⟨(wrap64 (x7_1 + 1)), wZ, H', ⟨by have := HK1.out; omega⟩, by repeat (first | exact Drawn0.refl _ | apply Drawn0.step)⟩
      ·replace c6 := Bool.eq_false_iff.mpr c6
       subst c6
       rw [if_neg (show ¬ (false = true) by decide)] at H; obtain rfl := Option.some.inj H; obtain ⟨ad150, e150, hx150_0⟩ := Kd.at_string HR0.out x7_1 dT dT; cases e150; have p150 := eT (0 ≤ (x7_1 : Int)); have q150 := eT (x7_1 < (l0.length : Int))
       go_wp2_with (first | ((with_reducible refine gate_callee (f := 64) rfl ?_); refine gL (some 13) Try.func64 #[.string (rdOf ByteArray.empty l0 x7_1)] ?_; (with_reducible refine (spec_IsKey.calls k1 (rdOf ByteArray.empty l0 x7_1) false _ A5.out).mono ?_); rintro e w' ⟨rfl, ⟨nd, rfl⟩⟩; refine ⟨_, rfl, ?_⟩))
       go_ret
       exact ⟨by first | rfl | (simp; done) | (simp [*]; done), by repeat (first | exact Drawn0.refl _ | apply Drawn0.step)⟩
     ·rw [if_neg c4] at H
      exact absurd H (by simp)
    ·rw [if_neg c3] at H
     exact absurd H (by simp)
   ·rw [if_neg c2] at H
    have c2b0 : decide (x7_1 < (l0.length : Int)) = false := decide_eq_false c2; clear c2; obtain rfl := Option.some.inj H
    go_wp2
    go_ret
    exact ⟨by first | rfl | (simp; done) | (simp [*]; done), by repeat (first | exact Drawn0.refl _ | apply Drawn0.step)⟩

def spec_trCommon.l0 : Nat → ByteArray → ByteArray → Int → Option (Int)
 | 0, _, _, _ => none
 | k + 1, x0, x1, x5 => if x5 < (x0.size : Int) then (if x5 < (x1.size : Int) then (if 0 ≤ x5 then (if (bt x0 x5) = (bt x1 x5) then (spec_trCommon.l0 k x0 x1 (wrap64 (x5 + 1))) else (some x5)) else (none)) else (some x5)) else (some x5)
def spec_trCommon.f (k : Nat) (a0 : ByteArray) (a1 : ByteArray) : Option (Int) := spec_trCommon.l0 k a0 a1 0
theorem spec_trCommon.calls (k : Nat) (a0 : ByteArray) (a1 : ByteArray) (r : Int) (w : World) (h : spec_trCommon.f k a0 a1 = some r) :
  Calls Try.prog 65 #[.string a0, .string a1] w fun e w' => e = .returned (.int .i64 r) ∧ Drawn0 w w' := by
 have H : (spec_trCommon.l0 k a0 a1 0) = some r := h; clear h; have H' := am H; clear H
 go_enter Try.func65, Try.ntmps65
 go_wp2
 repeat (go_quiet (fail); try go_wp2)
 go_loopg [5] k (fun kq v5 w' => ∃ (x5_1 : Int), v5 = .int .i64 x5_1 ∧ Aside0 (spec_trCommon.l0 kq a0 a1 x5_1 = some r) ∧ Aside0 (kq ≤ k) ∧ Drawn0 w w')
 case atStart => exact ⟨(0), wZ, H', ⟨Nat.le_refl _⟩, by repeat (first | exact Drawn0.refl _ | apply Drawn0.step)⟩
 case round =>
  clear H'
  try clear p2
  obtain ⟨x5_1, rfl, HA, HK1, ⟨m1, rfl⟩⟩ := hrel; cases gk with
  | zero => exact absurd HA.out (by simp [spec_trCommon.l0])
  | succ k1 =>
   have H := HA.out; clear HA
   simp only [spec_trCommon.l0] at H
   by_cases c3 : x5_1 < (a0.size : Int)
   ·rw [if_pos c3] at H
    have c3b0 : decide (x5_1 < (a0.size : Int)) = true := decide_eq_true c3; clear c3
    by_cases c4 : x5_1 < (a1.size : Int)
    ·rw [if_pos c4] at H
     have c4b0 : decide (x5_1 < (a1.size : Int)) = true := decide_eq_true c4; clear c4
     by_cases c5 : 0 ≤ x5_1
     ·rw [if_pos c5] at H
      have c5b0 : decide (0 ≤ x5_1) = true := decide_eq_true c5; clear c5
      by_cases c8 : (bt a0 x5_1) = (bt a1 x5_1)
      ·rw [if_pos c8] at H
       have c8b0 : ((bt a0 x5_1) == (bt a1 x5_1)) = true := beq_iff_eq.mpr c8; have c8b1 : ((bt a0 x5_1) != (bt a1 x5_1)) = false := bne_eq_false_iff_eq.mpr c8; clear c8; have H' := am H; clear H; have p6 : 0 ≤ (x5_1 : Int) := dT; have q6 : x5_1 < (a0.size : Int) := dT; have hx6 := bt_at a0 x5_1; replace p6 := eq_true p6; replace q6 := eq_true q6; have p7 : 0 ≤ (x5_1 : Int) := dT; have q7 : x5_1 < (a1.size : Int) := dT; have hx7 := bt_at a1 x5_1; replace p7 := eq_true p7; replace q7 := eq_true q7
       go_wp2
       repeat (go_quiet (fail); try go_wp2)
       go_roundg k1
       case measure => have := HK1.out; omega
       case rel => exact ⟨(wrap64 (x5_1 + 1)), wZ, H', ⟨by have := HK1.out; omega⟩, by repeat (first | exact Drawn0.refl _ | apply Drawn0.step)⟩
      ·rw [if_neg c8] at H
       have c8b0 : ((bt a0 x5_1) == (bt a1 x5_1)) = false := beq_eq_false_iff_ne.mpr c8; have c8b1 : ((bt a0 x5_1) != (bt a1 x5_1)) = true := bne_iff_ne.mpr c8; obtain rfl := Option.some.inj H; have p6 : 0 ≤ (x5_1 : Int) := dT; have q6 : x5_1 < (a0.size : Int) := dT; have hx6 := bt_at a0 x5_1; replace p6 := eq_true p6; replace q6 := eq_true q6; have p7 : 0 ≤ (x5_1 : Int) := dT; have q7 : x5_1 < (a1.size : Int) := dT; have hx7 := bt_at a1 x5_1; replace p7 := eq_true p7; replace q7 := eq_true q7
       go_wp2
       repeat (go_quiet (fail); try go_wp2)
       go_ret
       exact ⟨by first | rfl | (simp; done) | (simp [*]; done), by repeat (first | exact Drawn0.refl _ | apply Drawn0.step)⟩
     ·rw [if_neg c5] at H
      exact absurd H (by simp)
    ·rw [if_neg c4] at H
     have c4b0 : decide (x5_1 < (a1.size : Int)) = false := decide_eq_false c4; clear c4; obtain rfl := Option.some.inj H
     go_wp2
     repeat (go_quiet (fail); try go_wp2)
     go_ret
     exact ⟨by first | rfl | (simp; done) | (simp [*]; done), by repeat (first | exact Drawn0.refl _ | apply Drawn0.step)⟩
   ·rw [if_neg c3] at H
    have c3b0 : decide (x5_1 < (a0.size : Int)) = false := decide_eq_false c3; clear c3; obtain rfl := Option.some.inj H
    go_wp2
    repeat (go_quiet (fail); try go_wp2)
    go_ret
    exact ⟨by first | rfl | (simp; done) | (simp [*]; done), by repeat (first | exact Drawn0.refl _ | apply Drawn0.step)⟩

def spec_trFront.l0 : Nat → List ByteArray → Int → List ByteArray → Int → Int → Int → List Int → List ByteArray → Option (Int × List Int × List ByteArray)
 | 0, _, _, _, _, _, _, _, _ => none
 | k + 1, x0, x1, x11, x12, x13, x155000, x155001, x155002 => if x13 < x12 then (if 0 ≤ x13 then (if x13 < (x11.length : Int) then (if x1 = 0 then (none) else (if (Int.tmod x13 x1) > 0 then (if 0 ≤ (wrap64 (x13 - 1)) then (if (wrap64 (x13 - 1)) < (x0.length : Int) then ((spec_trCommon.f k (rdOf ByteArray.empty x0 (wrap64 (x13 - 1))) (rdOf ByteArray.empty x11 x13)).bind fun t157 => (if x155001.length < 17592186044416 then (if 0 ≤ t157 then (if t157 ≤ ((rdOf ByteArray.empty x11 x13).size : Int) then (if x155002.length < 8796093022208 then (spec_trFront.l0 k x0 x1 x11 x12 (wrap64 (x13 + 1)) x155000 (x155001 ++ [t157]) (x155002 ++ [(rdOf ByteArray.empty x11 x13).extract (t157 : Int).toNat (rdOf ByteArray.empty x11 x13).size])) else (none)) else (none)) else (none)) else (none))) else (none)) else (none)) else (if x155001.length < 17592186044416 then (if 0 ≤ ((rdOf ByteArray.empty x11 x13).size : Int) then (if x155002.length < 8796093022208 then (spec_trFront.l0 k x0 x1 x11 x12 (wrap64 (x13 + 1)) x155000 (x155001 ++ [0]) (x155002 ++ [rdOf ByteArray.empty x11 x13])) else (none)) else (none)) else (none)))) else (none)) else (none)) else (some (x155000, x155001, x155002))
def spec_trFront.f (k : Nat) (l0 : List ByteArray) (a1 : Int) : Option (Int × List Int × List ByteArray) := spec_trFront.l0 k l0 a1 l0 (l0.length : Int) 0 a1 ([] : List Int) ([] : List ByteArray)
def spec_trFront.T9 : Bool × List (List Nat × List Nat) := (true, [([], []), ([0], [0]), ([], []), ([], []), ([2, 3], [2, 3]), ([4], [4]), ([1, 5], [1, 5]), ([0, 1, 2, 3, 4, 5, 6], []), ([7, 6, 6, 0, 1, 2, 3, 4, 5, 6], [6, 7])])
def spec_trFront.B9 : List Nat := [0, 1, 0, 0, 12, 28, 63, 127, 255]
theorem spec_trFront.tab9 : rtab .any (opsOf Try.f40 9) = spec_trFront.T9 := by kernel_rfl
theorem spec_trFront.bits9 : waitsOk spec_trFront.T9.2 spec_trFront.B9 = true := by kernel_rfl
theorem spec_trFront.calls (k : Nat) (A0 : Option Addr) (c0 : Nat) (l0 : List ByteArray) (a1 : Int) (r1 : Int) (r2 : List Int) (r3 : List ByteArray) (w : World) (hr0 : Kd.C Kd.string w A0 l0.length l0) (hc0 : l0.length ≤ c0) (h : spec_trFront.f k l0 a1 = some (r1, r2, r3)) :
  Calls Try.prog 40 #[.slice A0 l0.length c0, .int .i64 a1] w fun e w' => ∃ v1_ v2_ : Value, e = .returned (.agg #[.int .i64 r1, v1_, v2_]) ∧ Kd.R (Kd.int .i64) 3 w' w.heap.size (fun _ => True) v1_ r2 ∧ Kd.R Kd.string 9 w' w.heap.size (fun _ => True) v2_ r3 ∧ Below w.heap.size w w' := by
 have hu26 := Try.underlying26; have HR0 := am hr0; have HC0 := am hc0; clear hr0 hc0; have HB := am (Below.refl w.heap.size w); have H : (spec_trFront.l0 k l0 a1 l0 (l0.length : Int) 0 a1 ([] : List Int) ([] : List ByteArray)) = some (r1, r2, r3) := h; clear h; have H' := am H; clear H
 go_enter Try.func40, Try.ntmps40
 go_wp2_with (first | ((with_reducible refine gate_dst (N := 4) rfl ?_); refine bE 4 #[.int .i64 0, .slice none 0 0, .slice none 0 0] 26 ?_; intro gb153 hg w3 hbox hb; have n0_ := Bb HB hb; have n1_ := am (hbox); have n2_ := Gl HB hg; have n3_ := Gl HB hg; clear HB; revert n0_ n1_ n2_ n3_; intro HB BK153 GW153 GE153; clear hb hbox hg) | ((with_reducible refine gate_dst (N := 5) rfl ?_); refine bE 5 #[.int .i64 0, .slice none 0 0, .slice none 0 0] 26 ?_; intro gb154 hg w4 hbox hb; have n0_ := Kb BK153 hb; have n1_ := Bc HB hb; have n2_ := am (hbox); have n3_ := Gm HB hg; have n4_ := Gm HB hg; have n5_ := Nl BK153 hg; have n6_ := Ng BK153 hg; clear BK153 HB; revert n0_ n1_ n2_ n3_ n4_ n5_ n6_; intro BK153 HB BK154 GW154 GE154 NB153_154 NB154_153; clear hb hbox hg; have hnb5 := NB154_153.out; have hnc5 := NB153_154.out; obtain ⟨hcz6_0, hcz6_1, hcz6_2, hfz6_0, hfz6_1, hfz6_2⟩ := cf3 (w := w4) BK154))
 (try simp only [aP])
 go_loopg [13] k (fun kq v13 w' => ∃ (x13_1 : Int) (x155001_1 : List Int) (x155002_1 : List ByteArray) (u155001 : Value) (u155002 : Value), v13 = .int .i64 x13_1 ∧ Aside0 (spec_trFront.l0 kq l0 a1 l0 (l0.length : Int) x13_1 a1 x155001_1 x155002_1 = some (r1, r2, r3)) ∧ Aside0 (kq ≤ k) ∧ Aside0 (Kd.R (Kd.int .i64) 3 w' w.heap.size (fun _ => True) u155001 x155001_1) ∧ Aside0 (Kd.R Kd.string 9 w' w.heap.size (fun _ => True) u155002 x155002_1) ∧ Aside0 (w'.heap[gb153]? = some (.cells #[.int .i64 0, (.slice none 0 0), (.slice none 0 0)] 26 (0, 0))) ∧ Aside0 (w'.heap[gb154]? = some (.cells #[.int .i64 a1, u155001, u155002] 26 (0, 0))) ∧ Aside0 (Below w.heap.size w w'))
 case atStart => exact ⟨(0), (([] : List Int)), (([] : List ByteArray)), (.slice none 0 0), (.slice none 0 0), wZ, H', ⟨Nat.le_refl _⟩, ⟨nZ⟩, ⟨nZ⟩, ⟨by refine bp ?_; refine blk_far ?_ NB153_154.out _; refine bp ?_; refine blk_far ?_ NB153_154.out _; refine bp ?_; refine blk_far ?_ NB153_154.out _; refine bp ?_; exact BK153.out⟩, ⟨by refine bp ?_; refine blk_put (cs := #[.int .i64 a1, .slice none 0 0, .slice none 0 0]) ?_ 2 _ rfl; refine bp ?_; refine blk_put (cs := #[.int .i64 a1, .slice none 0 0, .slice none 0 0]) ?_ 1 _ rfl; refine bp ?_; refine blk_put (cs := #[.int .i64 0, .slice none 0 0, .slice none 0 0]) ?_ 0 _ rfl; refine bp ?_; exact BK154.out⟩, ⟨Bq⟩⟩
 case round =>
  clear H'
  try clear p2
  try clear c4
  try clear c5
  obtain ⟨x13_1, x155001_1, x155002_1, u155001, u155002, rfl, HA, HK1, HO_155001, HO_155002, BK153, BK154, HB⟩ := hrel; cases gk with
  | zero => exact absurd HA.out (by simp [spec_trFront.l0])
  | succ k1 =>
   have H := HA.out; clear HA
   simp only [spec_trFront.l0] at H
   by_cases c7 : x13_1 < (l0.length : Int)
   ·rw [if_pos c7] at H
    have c7b0 : decide (x13_1 < (l0.length : Int)) = true := decide_eq_true c7; clear c7
    by_cases c8 : 0 ≤ x13_1
    ·rw [if_pos c8] at H
     have c8b0 : decide (0 ≤ x13_1) = true := decide_eq_true c8; clear c8
     by_cases c9 : x13_1 < (l0.length : Int)
     ·rw [if_pos c9] at H
      have c9b0 : decide (x13_1 < (l0.length : Int)) = true := decide_eq_true c9; clear c9
      by_cases c10 : a1 = 0
      ·rw [if_pos c10] at H
       exact absurd H (by simp)
      ·rw [if_neg c10] at H
       have c10b0 : (a1 == 0) = false := beq_eq_false_iff_ne.mpr c10; have c10b1 : (a1 != 0) = true := bne_iff_ne.mpr c10
       by_cases c11 : (Int.tmod x13_1 a1) > 0
       ·rw [if_pos c11] at H
        have c11b0 : decide (0 < (Int.tmod x13_1 a1)) = true := decide_eq_true c11; clear c11; obtain ⟨ji12, hji12⟩ : ∃ j_ : Int, (wrap64 (x13_1 - 1)) = j_ := ⟨_, rfl⟩
        replace H : (if 0 ≤ (ji12) then (if (ji12) < (l0.length : Int) then ((spec_trCommon.f k1 (rdOf ByteArray.empty l0 (ji12)) (rdOf ByteArray.empty l0 x13_1)).bind fun t157 => (if x155001_1.length < 17592186044416 then (if 0 ≤ t157 then (if t157 ≤ ((rdOf ByteArray.empty l0 x13_1).size : Int) then (if x155002_1.length < 8796093022208 then (spec_trFront.l0 k1 l0 a1 l0 (l0.length : Int) (wrap64 (x13_1 + 1)) a1 (x155001_1 ++ [t157]) (x155002_1 ++ [(rdOf ByteArray.empty l0 x13_1).extract (t157 : Int).toNat (rdOf ByteArray.empty l0 x13_1).size])) else (none)) else (none)) else (none)) else (none))) else (none)) else (none)) = some (r1, r2, r3) := by first | (rw [hji12] at H; exact H) | (simp only [hji12] at H ⊢; exact H)
        have hji12w : (IntKind.i64.wrap (x13_1 - 1)) = ji12 := (i64_w _).trans hji12
        by_cases c13 : 0 ≤ (ji12)
        ·rw [if_pos c13] at H
         have c13b0 : decide (0 ≤ (ji12)) = true := decide_eq_true c13; clear c13
         by_cases c14 : (ji12) < (l0.length : Int)
         ·rw [if_pos c14] at H
          have c14b0 : decide ((ji12) < (l0.length : Int)) = true := decide_eq_true c14; clear c14; obtain ⟨t157, A15, H⟩ := ob H; (try dsimp -simprocs only at H)
          by_cases c16 : x155001_1.length < 17592186044416
          ·rw [if_pos c16] at H
           have LMc16 := am c16; clear c16; obtain ⟨y158, hy158⟩ : ∃ y_ : List Int, y_ = (x155001_1 ++ [t157]) := ⟨_, rfl⟩
           replace H : (if 0 ≤ t157 then (if t157 ≤ ((rdOf ByteArray.empty l0 x13_1).size : Int) then (if x155002_1.length < 8796093022208 then (spec_trFront.l0 k1 l0 a1 l0 (l0.length : Int) (wrap64 (x13_1 + 1)) a1 y158 (x155002_1 ++ [(rdOf ByteArray.empty l0 x13_1).extract (t157 : Int).toNat (rdOf ByteArray.empty l0 x13_1).size])) else (none)) else (none)) else (none)) = some (r1, r2, r3) := by first | (rw [hy158]; with_reducible exact H) | (have H2_ := (Option.bind_some _ _).symm.trans H; rw [hy158]; with_reducible exact H2_) | (have H2_ := (Option.bind_some _ _).symm.trans H; with_reducible exact H2_) | with_reducible exact H | (rw [hy158]; exact H) | exact H
           have Ny158 := am hy158; clear hy158
           by_cases c17 : 0 ≤ t157
           ·rw [if_pos c17] at H
            have c17b0 := eq_true c17; have c17b1 : decide (0 ≤ t157) = true := decide_eq_true c17; clear c17
            by_cases c18 : t157 ≤ ((rdOf ByteArray.empty l0 x13_1).size : Int)
            ·rw [if_pos c18] at H
             have c18b0 := eq_true c18; have c18b1 : decide (t157 ≤ ((rdOf ByteArray.empty l0 x13_1).size : Int)) = true := decide_eq_true c18; clear c18
             by_cases c19 : x155002_1.length < 8796093022208
             ·rw [if_pos c19] at H
              have LMc19 := am c19; clear c19; obtain ⟨y161, hy161⟩ : ∃ y_ : List ByteArray, y_ = (x155002_1 ++ [(rdOf ByteArray.empty l0 x13_1).extract (t157 : Int).toNat (rdOf ByteArray.empty l0 x13_1).size]) := ⟨_, rfl⟩
              replace H : (spec_trFront.l0 k1 l0 a1 l0 (l0.length : Int) (wrap64 (x13_1 + 1)) a1 y158 y161) = some (r1, r2, r3) := by first | (rw [hy161]; with_reducible exact H) | (have H2_ := (Option.bind_some _ _).symm.trans H; rw [hy161]; with_reducible exact H2_) | (have H2_ := (Option.bind_some _ _).symm.trans H; with_reducible exact H2_) | with_reducible exact H | (rw [hy161]; exact H) | exact H
              have Ny161 := am hy161; clear hy161; have H' := am H; clear H; have p155 : 0 ≤ (x13_1 : Int) := dT; have q155 : x13_1 < (l0.length : Int) := dT; obtain ⟨ad155, e155, hx155_0⟩ := Kd.at_string HR0.out x13_1 p155 q155; cases e155; replace hx155_0 := (HB.out.cell (World.block_lt_of_cell? w _ hx155_0)).trans hx155_0; replace p155 := eq_true p155; replace q155 := eq_true q155; have p156 : 0 ≤ ((ji12) : Int) := dT; have q156 : (ji12) < (l0.length : Int) := dT; obtain ⟨ad156, e156, hx156_0⟩ := Kd.at_string HR0.out (ji12) p156 q156; obtain rfl : ad155 = ad156 := (by injection e156); replace hx156_0 := (HB.out.cell (World.block_lt_of_cell? w _ hx156_0)).trans hx156_0; replace p156 := eq_true p156; replace q156 := eq_true q156
              try go_wp2_with (first | ((with_reducible refine gate_callee (f := 65) rfl ?_); refine goesL_ (some 28) rfl rfl Try.func65 (by kernel_rfl) rfl #[.string (rdOf ByteArray.empty l0 (ji12)), .string (rdOf ByteArray.empty l0 x13_1)] rfl (by (try simp only [List.map_toArray, List.map_cons, List.map_nil]); first | done | (simp only [hji12]; rfl) | rfl | (simp only [List.length_drop, List.length_take]; rfl)) ?_; (with_reducible refine (spec_trCommon.calls k1 (rdOf ByteArray.empty l0 (ji12)) (rdOf ByteArray.empty l0 x13_1) t157 _ A15.out).mono ?_); rintro e w' ⟨rfl, ⟨nd, rfl⟩⟩; refine ⟨_, rfl, ?_⟩; (try (rw [drewN_self wr]; generalize hq_ : World.drewN wr _ = wr; have n0_ : Aside0 (Kd.R (Kd.int .i64) 3 wr w.heap.size (fun _ => True) u155001 x155001_1) := ⟨by rw [← hq_]; exact (Rz HO_155001.out)⟩; have n1_ : Aside0 (Kd.R Kd.string 9 wr w.heap.size (fun _ => True) u155002 x155002_1) := ⟨by rw [← hq_]; exact (Rz HO_155002.out)⟩; have n2_ : Aside0 (wr.heap[gb153]? = some (.cells #[.int .i64 0, .slice none 0 0, .slice none 0 0] 26 (0, 0))) := ⟨by rw [← hq_]; exact (Kz BK153.out)⟩; have n3_ : Aside0 (wr.heap[gb154]? = some (.cells #[.int .i64 a1, u155001, u155002] 26 (0, 0))) := ⟨by rw [← hq_]; exact (Kz BK154.out)⟩; have n4_ : Aside0 (Below w.heap.size w wr) := ⟨by rw [← hq_]; exact (Bq)⟩; clear HO_155001 HO_155002 BK153 BK154 HB hq_; revert n0_ n1_ n2_ n3_ n4_; intro HO_155001 HO_155002 BK153 BK154 HB)); have hnb20 := NB154_153.out; have hnc20 := NB153_154.out; obtain ⟨hcz21_0, hcz21_1, hcz21_2, hfz21_0, hfz21_1, hfz21_2⟩ := cf3 (w := wr) BK154) | ((with_reducible refine gate_builtin (b := .append) (xs := #[.tmp 30, .tmp 32]) rfl ?_); at_builtin; refine Kd.R_append (Kd.int .i64) (w0 := w) w.heap.size rfl (.tmp 30) (.tmp 32) 24 3 (.int .i64 0) 8 rfl Try.underlying24 info3 rfl (by decide) (by omega) u155001 x155001_1 t157 [.int .i64 t157] (fun _ => True) (fun _ => False) rfl rfl ?aP (fun _ hk => hk.elim) ?aF ?aO ?aB ?aS ?aL ?_; (case aP => exact rfl); (case aB => exact (Bq)); (case aF => exact (fun _ _ => trivial)); (case aO => exact (Rz HO_155001.out)); (case aS => exact (below_size (w := w) (Bq))); (case aL => have := LMc16.out; omega); intro v159 w22 ho hb hg hat; rw [← Ny158.out] at ho; have n0_ := am (Kd.R_over' (Rz HO_155002.out) (Kd.R_typed (Rz HO_155001.out)) (by decide) hg); have n1_ := am (blk_grown (g := gb153) (o := .cells #[.int .i64 0, .slice none 0 0, .slice none 0 0] 26 (0, 0)) (Kz BK153.out) hg (Kd.R_ne HO_155001.out BK153.out (by decide))); have n2_ := am (blk_grown (g := gb154) (o := .cells #[.int .i64 a1, u155001, u155002] 26 (0, 0)) (Kz BK154.out) hg (Kd.R_ne HO_155001.out BK154.out (by decide))); have n3_ := am (hb); have n4_ := am (ho); clear HO_155002 BK153 BK154 HB HO_155001; revert n0_ n1_ n2_ n3_ n4_; intro HO_155002 BK153 BK154 HB HO160; clear ho hb hg hat; obtain ⟨Ao23, co23, eo23⟩ := Kd.R_slice HO160.out; subst eo23; obtain ⟨hcz24_0, hcz24_1, hcz24_2, hfz24_0, hfz24_1, hfz24_2⟩ := cf3 (w := w22) BK154))
              have n0_ : Aside0 (Kd.R Kd.string 9 (w22.setCell ⟨gb154, 1, none⟩ (.slice Ao23 y158.length co23)) w.heap.size (fun _ => True) u155002 x155002_1) := ⟨Rz (Kd.R_mono (Kd.R_far (p := ⟨gb154, 1, none⟩) (Kd.R_types HO_155002.out BK154.out (by decide)) (fun _ hk => hk.2) (.slice Ao23 y158.length co23)) (fun _ hk => trivial))⟩; have n1_ : Aside0 (Kd.R (Kd.int .i64) 3 (w22.setCell ⟨gb154, 1, none⟩ (.slice Ao23 y158.length co23)) w.heap.size (fun _ => True) (.slice Ao23 y158.length co23) y158) := ⟨Rz (Kd.R_mono (Kd.R_far (p := ⟨gb154, 1, none⟩) (Kd.R_types HO160.out BK154.out (by decide)) (fun _ hk => hk.2) (.slice Ao23 y158.length co23)) (fun _ hk => trivial))⟩; have n2_ : Aside0 ((w22.setCell ⟨gb154, 1, none⟩ (.slice Ao23 y158.length co23)).heap[gb153]? = some (.cells #[.int .i64 0, .slice none 0 0, .slice none 0 0] 26 (0, 0))) := ⟨by refine bp ?_; refine blk_far ?_ NB153_154.out _; refine bp ?_; exact BK153.out⟩; have n3_ : Aside0 ((w22.setCell ⟨gb154, 1, none⟩ (.slice Ao23 y158.length co23)).heap[gb154]? = some (.cells #[.int .i64 a1, .slice Ao23 y158.length co23, u155002] 26 (0, 0))) := ⟨by refine bp ?_; refine blk_put (cs := #[.int .i64 a1, u155001, u155002]) ?_ 1 _ rfl; refine bp ?_; exact BK154.out⟩; have n4_ : Aside0 (Below w.heap.size w (w22.setCell ⟨gb154, 1, none⟩ (.slice Ao23 y158.length co23))) := ⟨Bq⟩
              (try clear HO_155002)
              (try clear HO160)
              (try clear BK153)
              (try clear BK154)
              (try clear HB)
              generalize (w22.setCell ⟨gb154, 1, none⟩ (.slice Ao23 y158.length co23)) = w25 at n0_ n1_ n2_ n3_ n4_ ⊢; revert n0_ n1_ n2_ n3_ n4_; intro HO_155002 HO160 BK153 BK154 HB; have n0_ := am (Kd.R_drew HO_155002.out); have n1_ := am (Kd.R_drew HO160.out); have n2_ := am (blk_drew BK153.out); have n3_ := am (blk_drew BK154.out); have n4_ := am (below_drew1 HB.out); clear HO_155002 HO160 BK153 BK154 HB; revert n0_ n1_ n2_ n3_ n4_; intro HO_155002 HO160 BK153 BK154 HB; refine start_ (n := 9) (S := fun w' => w'.cell? ⟨gb154, 0, none⟩ = some (.int .i64 a1) ∧ w'.cell? ⟨gb154, 1, none⟩ = some (.slice Ao23 y158.length co23) ∧ w'.cell? ⟨gb154, 2, none⟩ = some (u155002)) (ds := [8]) (bA 9 0) (by kernel_rfl) rfl rfl ⟨cz BK154 0, cz BK154 1, cz BK154 2⟩ (fun hHeld => ?_); refine with_tabW spec_trFront.tab9 spec_trFront.bits9 (fun HT_ HW_ => ?_); generalize w25.drew = w26 at HO_155002 HO160 BK153 BK154 HB hHeld ⊢; refine pZ 0 (some 35) (bA 9 1) HT_.out ?_; refine pZ 2 (some 37) (bA 9 5) HT_.out ?_; refine pZ 3 (some 38) (bA 9 13) HT_.out ?_; refine pZ 4 (some 39) (bA 9 29) HT_.out ?_; refine tZ3 1 (some 36) (bA 9 31) HT_.out HW_.out hHeld ?_; refine oZ 5 (some 40) (bA 9 63) HT_.out (fun K hK => ?_); refine value_ (w1 := ?_) (v := ?_) (by rfl) rfl ?_ ?_
              rotate_left 2
              ·go_simp
               constructor
               ·rfl
               ·rfl
              refine hK.out _ _ ⟨(blk_cell (blk_alloc BK154.out _) 0).trans rfl, (blk_cell (blk_alloc BK154.out _) 1).trans rfl, (blk_cell (blk_alloc BK154.out _) 2).trans rfl⟩ (fun hHeld => ?_); clear hK K; refine norm_ (a' := ?_) ?_ ?_; rotate_left; show Act.put _ (some 40) _ = _; simp only [aP, i64_w, i32_w]; rfl; refine oZ 6 (some 41) (bA 9 127) HT_.out (fun K hK => ?_); refine Kd.R_append_step Kd.string (w0 := w) w.heap.size (by rfl) (.tmp 36) (.tmp 40) 22 9 (.string ⟨#[]⟩) 16 rfl Try.underlying22 info9 rfl (by decide) (by omega) u155002 x155002_1 ((rdOf ByteArray.empty l0 x13_1).extract (t157 : Int).toNat (rdOf ByteArray.empty l0 x13_1).size) [.string ((rdOf ByteArray.empty l0 x13_1).extract (t157 : Int).toNat (rdOf ByteArray.empty l0 x13_1).size)] (fun _ => True) (fun _ => False) rfl rfl ?aP (fun _ hk => hk.elim) ?aF ?aO ?aB ?aS ?aL ?_
              (case aP => exact rfl)
              (case aB => exact (Bq))
              (case aF => exact (fun _ _ => trivial))
              (case aO => exact (Rz HO_155002.out))
              (case aS => exact (below_size (w := w) (Bq)))
              (case aL => have := LMc19.out; omega)
              intro v162 w27 ho hb hg hat; rw [← Ny161.out] at ho; have n0_ := am (blk_grown (g := gb153) (o := .cells #[.int .i64 0, .slice none 0 0, .slice none 0 0] 26 (0, 0)) (Kz BK153.out) hg (Kd.R_ne HO_155002.out BK153.out (by decide))); have n1_ := am (blk_grown (g := gb154) (o := .cells #[.int .i64 a1, .slice Ao23 y158.length co23, u155002] 26 (0, 0)) (Kz BK154.out) hg (Kd.R_ne HO_155002.out BK154.out (by decide))); have n2_ := am (Kd.R_over' (Rz HO160.out) (Kd.R_typed (Rz HO_155002.out)) (by decide) hg); have n3_ := am (hb); have n4_ := am (ho); clear BK153 BK154 HO160 HB HO_155002; revert n0_ n1_ n2_ n3_ n4_; intro BK153 BK154 HO160 HB HO163; clear ho hb hg hat; obtain ⟨Ao28, co28, eo28⟩ := Kd.R_slice HO163.out
              (first | subst eo28 | (injection eo28 with f1_ f2_ f3_; have f4_ := f1_.symm; have f5_ := f3_.symm; clear f1_ f2_ f3_; subst f4_; subst f5_))
              refine hK.out _ _ ⟨cz BK154 0, cz BK154 1, cz BK154 2⟩ (fun hHeld => ?_); clear hK K; refine norm_ (a' := ?_) ?_ ?_; rotate_left; show Act.put _ (some 41) _ = _; simp only [aP, i64_w, i32_w]; rfl; refine pZ 7 (some 42) (bA 9 255) HT_.out ?_; refine lZ 8 none (bA 9 511) HT_.out (fun K hK => ?_); have hs29 : w27.cell? ⟨gb154, 2, none⟩ = some (u155002) := cz BK154 2; have hfs29 := blk_frozen BK154.out 2; have hns29_0 := NB153_154.out; have hms29_0 := NB154_153.out; refine skip_ (w1 := ?_) (by rfl) rfl ?_ ?_
              rotate_left
              ·go_simp
               rfl
              refine hK.out _ _ ?_; clear hK K; refine done_ (done_of HT_.out (by kernel_rfl)) ?_
              try go_wp2
              go_roundg k1
              case measure => have := HK1.out; omega
              case rel => exact ⟨(wrap64 (x13_1 + 1)), (y158), (y161), (.slice Ao23 y158.length co23), (.slice Ao28 y161.length co28), wZ, H', ⟨by have := HK1.out; omega⟩, ⟨Rz (Kd.R_mono (Kd.R_far (p := ⟨gb154, 2, none⟩) (Kd.R_types HO160.out BK154.out (by decide)) (fun _ hk => hk.2) (.slice Ao28 y161.length co28)) (fun _ hk => trivial))⟩, ⟨Rz (Kd.R_mono (Kd.R_far (p := ⟨gb154, 2, none⟩) (Kd.R_types HO163.out BK154.out (by decide)) (fun _ hk => hk.2) (.slice Ao28 y161.length co28)) (fun _ hk => trivial))⟩, ⟨by refine bp ?_; refine blk_far ?_ NB153_154.out _; refine bp ?_; exact BK153.out⟩, ⟨by refine bp ?_; refine blk_put (cs := #[.int .i64 a1, .slice Ao23 y158.length co23, u155002]) ?_ 2 _ rfl; refine bp ?_; exact BK154.out⟩, ⟨Bq⟩⟩
             ·rw [if_neg c19] at H
              exact absurd H (by simp)
            ·rw [if_neg c18] at H
             exact absurd H (by simp)
           ·rw [if_neg c17] at H
            exact absurd H (by simp)
          ·rw [if_neg c16] at H
           exact absurd H (by simp)
         ·rw [if_neg c14] at H
          exact absurd H (by simp)
        ·rw [if_neg c13] at H
         exact absurd H (by simp)
       ·rw [if_neg c11] at H
        have c11b0 : decide (0 < (Int.tmod x13_1 a1)) = false := decide_eq_false c11; clear c11
        by_cases c30 : x155001_1.length < 17592186044416
        ·rw [if_pos c30] at H
         have LMc30 := am c30; clear c30; obtain ⟨y164, hy164⟩ : ∃ y_ : List Int, y_ = (x155001_1 ++ [0]) := ⟨_, rfl⟩
         replace H : (if 0 ≤ ((rdOf ByteArray.empty l0 x13_1).size : Int) then (if x155002_1.length < 8796093022208 then (spec_trFront.l0 k1 l0 a1 l0 (l0.length : Int) (wrap64 (x13_1 + 1)) a1 y164 (x155002_1 ++ [rdOf ByteArray.empty l0 x13_1])) else (none)) else (none)) = some (r1, r2, r3) := by first | (rw [hy164]; with_reducible exact H) | (have H2_ := (Option.bind_some _ _).symm.trans H; rw [hy164]; with_reducible exact H2_) | (have H2_ := (Option.bind_some _ _).symm.trans H; with_reducible exact H2_) | with_reducible exact H | (rw [hy164]; exact H) | exact H
         have Ny164 := am hy164; clear hy164
         by_cases c31 : 0 ≤ ((rdOf ByteArray.empty l0 x13_1).size : Int)
         ·rw [if_pos c31] at H
          have c31b0 := eq_true c31; have c31b1 : decide (0 ≤ ((rdOf ByteArray.empty l0 x13_1).size : Int)) = true := decide_eq_true c31; clear c31
          by_cases c32 : x155002_1.length < 8796093022208
          ·rw [if_pos c32] at H
           have LMc32 := am c32; clear c32; obtain ⟨y167, hy167⟩ : ∃ y_ : List ByteArray, y_ = (x155002_1 ++ [rdOf ByteArray.empty l0 x13_1]) := ⟨_, rfl⟩
           replace H : (spec_trFront.l0 k1 l0 a1 l0 (l0.length : Int) (wrap64 (x13_1 + 1)) a1 y164 y167) = some (r1, r2, r3) := by first | (rw [hy167]; with_reducible exact H) | (have H2_ := (Option.bind_some _ _).symm.trans H; rw [hy167]; with_reducible exact H2_) | (have H2_ := (Option.bind_some _ _).symm.trans H; with_reducible exact H2_) | with_reducible exact H | (rw [hy167]; exact H) | exact H
           have Ny167 := am hy167; clear hy167; have H' := am H; clear H; have p155 : 0 ≤ (x13_1 : Int) := dT; have q155 : x13_1 < (l0.length : Int) := dT; obtain ⟨ad155, e155, hx155_0⟩ := Kd.at_string HR0.out x13_1 p155 q155; cases e155; replace hx155_0 := (HB.out.cell (World.block_lt_of_cell? w _ hx155_0)).trans hx155_0; replace p155 := eq_true p155; replace q155 := eq_true q155; have hnb33 := NB154_153.out; have hnc33 := NB153_154.out; obtain ⟨hcz34_0, hcz34_1, hcz34_2, hfz34_0, hfz34_1, hfz34_2⟩ := cf3 (w := wr) BK154
           try go_wp2_with (first | ((with_reducible refine gate_builtin (b := .append) (xs := #[.tmp 30, .tmp 32]) rfl ?_); at_builtin; refine Kd.R_append (Kd.int .i64) (w0 := w) w.heap.size rfl (.tmp 30) (.tmp 32) 24 3 (.int .i64 0) 8 rfl Try.underlying24 info3 rfl (by decide) (by omega) u155001 x155001_1 0 [.int .i64 0] (fun _ => True) (fun _ => False) rfl rfl ?aP (fun _ hk => hk.elim) ?aF ?aO ?aB ?aS ?aL ?_; (case aP => exact rfl); (case aB => exact (Bq)); (case aF => exact (fun _ _ => trivial)); (case aO => exact (Rz HO_155001.out)); (case aS => exact (below_size (w := w) (Bq))); (case aL => have := LMc30.out; omega); intro v165 w35 ho hb hg hat; rw [← Ny164.out] at ho; have n0_ := am (Kd.R_over' (Rz HO_155002.out) (Kd.R_typed (Rz HO_155001.out)) (by decide) hg); have n1_ := am (blk_grown (g := gb153) (o := .cells #[.int .i64 0, .slice none 0 0, .slice none 0 0] 26 (0, 0)) (Kz BK153.out) hg (Kd.R_ne HO_155001.out BK153.out (by decide))); have n2_ := am (blk_grown (g := gb154) (o := .cells #[.int .i64 a1, u155001, u155002] 26 (0, 0)) (Kz BK154.out) hg (Kd.R_ne HO_155001.out BK154.out (by decide))); have n3_ := am (hb); have n4_ := am (ho); clear HO_155002 BK153 BK154 HB HO_155001; revert n0_ n1_ n2_ n3_ n4_; intro HO_155002 BK153 BK154 HB HO166; clear ho hb hg hat; obtain ⟨Ao36, co36, eo36⟩ := Kd.R_slice HO166.out; subst eo36; obtain ⟨hcz37_0, hcz37_1, hcz37_2, hfz37_0, hfz37_1, hfz37_2⟩ := cf3 (w := w35) BK154))
           have n0_ : Aside0 (Kd.R Kd.string 9 (w35.setCell ⟨gb154, 1, none⟩ (.slice Ao36 y164.length co36)) w.heap.size (fun _ => True) u155002 x155002_1) := ⟨Rz (Kd.R_mono (Kd.R_far (p := ⟨gb154, 1, none⟩) (Kd.R_types HO_155002.out BK154.out (by decide)) (fun _ hk => hk.2) (.slice Ao36 y164.length co36)) (fun _ hk => trivial))⟩; have n1_ : Aside0 (Kd.R (Kd.int .i64) 3 (w35.setCell ⟨gb154, 1, none⟩ (.slice Ao36 y164.length co36)) w.heap.size (fun _ => True) (.slice Ao36 y164.length co36) y164) := ⟨Rz (Kd.R_mono (Kd.R_far (p := ⟨gb154, 1, none⟩) (Kd.R_types HO166.out BK154.out (by decide)) (fun _ hk => hk.2) (.slice Ao36 y164.length co36)) (fun _ hk => trivial))⟩; have n2_ : Aside0 ((w35.setCell ⟨gb154, 1, none⟩ (.slice Ao36 y164.length co36)).heap[gb153]? = some (.cells #[.int .i64 0, .slice none 0 0, .slice none 0 0] 26 (0, 0))) := ⟨by refine bp ?_; refine blk_far ?_ NB153_154.out _; refine bp ?_; exact BK153.out⟩; have n3_ : Aside0 ((w35.setCell ⟨gb154, 1, none⟩ (.slice Ao36 y164.length co36)).heap[gb154]? = some (.cells #[.int .i64 a1, .slice Ao36 y164.length co36, u155002] 26 (0, 0))) := ⟨by refine bp ?_; refine blk_put (cs := #[.int .i64 a1, u155001, u155002]) ?_ 1 _ rfl; refine bp ?_; exact BK154.out⟩; have n4_ : Aside0 (Below w.heap.size w (w35.setCell ⟨gb154, 1, none⟩ (.slice Ao36 y164.length co36))) := ⟨Bq⟩
           (try clear HO_155002)
           (try clear HO166)
           (try clear BK153)
           (try clear BK154)
           (try clear HB)
           generalize (w35.setCell ⟨gb154, 1, none⟩ (.slice Ao36 y164.length co36)) = w38 at n0_ n1_ n2_ n3_ n4_ ⊢; revert n0_ n1_ n2_ n3_ n4_; intro HO_155002 HO166 BK153 BK154 HB; have n0_ := am (Kd.R_drew HO_155002.out); have n1_ := am (Kd.R_drew HO166.out); have n2_ := am (blk_drew BK153.out); have n3_ := am (blk_drew BK154.out); have n4_ := am (below_drew1 HB.out); clear HO_155002 HO166 BK153 BK154 HB; revert n0_ n1_ n2_ n3_ n4_; intro HO_155002 HO166 BK153 BK154 HB; refine start_ (n := 9) (S := fun w' => w'.cell? ⟨gb154, 0, none⟩ = some (.int .i64 a1) ∧ w'.cell? ⟨gb154, 1, none⟩ = some (.slice Ao36 y164.length co36) ∧ w'.cell? ⟨gb154, 2, none⟩ = some (u155002)) (ds := [8]) (bA 9 0) (by kernel_rfl) rfl rfl ⟨cz BK154 0, cz BK154 1, cz BK154 2⟩ (fun hHeld => ?_); refine with_tabW spec_trFront.tab9 spec_trFront.bits9 (fun HT_ HW_ => ?_); generalize w38.drew = w39 at HO_155002 HO166 BK153 BK154 HB hHeld ⊢; refine pZ 0 (some 35) (bA 9 1) HT_.out ?_; refine pZ 2 (some 37) (bA 9 5) HT_.out ?_; refine pZ 3 (some 38) (bA 9 13) HT_.out ?_; refine pZ 4 (some 39) (bA 9 29) HT_.out ?_; refine tZ3 1 (some 36) (bA 9 31) HT_.out HW_.out hHeld ?_; refine oZ 5 (some 40) (bA 9 63) HT_.out (fun K hK => ?_); refine value_ (w1 := ?_) (v := ?_) (by rfl) rfl ?_ ?_
           rotate_left 2
           ·go_simp
            constructor
            ·rfl
            ·rfl
           refine hK.out _ _ ⟨(blk_cell (blk_alloc BK154.out _) 0).trans rfl, (blk_cell (blk_alloc BK154.out _) 1).trans rfl, (blk_cell (blk_alloc BK154.out _) 2).trans rfl⟩ (fun hHeld => ?_); clear hK K; refine norm_ (a' := ?_) ?_ ?_; rotate_left; show Act.put _ (some 40) _ = _; simp only [aP, i64_w, i32_w]; rfl; refine oZ 6 (some 41) (bA 9 127) HT_.out (fun K hK => ?_); refine Kd.R_append_step Kd.string (w0 := w) w.heap.size (by rfl) (.tmp 36) (.tmp 40) 22 9 (.string ⟨#[]⟩) 16 rfl Try.underlying22 info9 rfl (by decide) (by omega) u155002 x155002_1 (rdOf ByteArray.empty l0 x13_1) [.string (rdOf ByteArray.empty l0 x13_1)] (fun _ => True) (fun _ => False) rfl rfl ?aP (fun _ hk => hk.elim) ?aF ?aO ?aB ?aS ?aL ?_
           (case aP => exact rfl)
           (case aB => exact (Bq))
           (case aF => exact (fun _ _ => trivial))
           (case aO => exact (Rz HO_155002.out))
           (case aS => exact (below_size (w := w) (Bq)))
           (case aL => have := LMc32.out; omega)
           intro v168 w40 ho hb hg hat; rw [← Ny167.out] at ho; have n0_ := am (blk_grown (g := gb153) (o := .cells #[.int .i64 0, .slice none 0 0, .slice none 0 0] 26 (0, 0)) (Kz BK153.out) hg (Kd.R_ne HO_155002.out BK153.out (by decide))); have n1_ := am (blk_grown (g := gb154) (o := .cells #[.int .i64 a1, .slice Ao36 y164.length co36, u155002] 26 (0, 0)) (Kz BK154.out) hg (Kd.R_ne HO_155002.out BK154.out (by decide))); have n2_ := am (Kd.R_over' (Rz HO166.out) (Kd.R_typed (Rz HO_155002.out)) (by decide) hg); have n3_ := am (hb); have n4_ := am (ho); clear BK153 BK154 HO166 HB HO_155002; revert n0_ n1_ n2_ n3_ n4_; intro BK153 BK154 HO166 HB HO169; clear ho hb hg hat; obtain ⟨Ao41, co41, eo41⟩ := Kd.R_slice HO169.out
           (first | subst eo41 | (injection eo41 with f1_ f2_ f3_; have f4_ := f1_.symm; have f5_ := f3_.symm; clear f1_ f2_ f3_; subst f4_; subst f5_))
           refine hK.out _ _ ⟨cz BK154 0, cz BK154 1, cz BK154 2⟩ (fun hHeld => ?_); clear hK K; refine norm_ (a' := ?_) ?_ ?_; rotate_left; show Act.put _ (some 41) _ = _; simp only [aP, i64_w, i32_w]; rfl; refine pZ 7 (some 42) (bA 9 255) HT_.out ?_; refine lZ 8 none (bA 9 511) HT_.out (fun K hK => ?_); have hs42 : w40.cell? ⟨gb154, 2, none⟩ = some (u155002) := cz BK154 2; have hfs42 := blk_frozen BK154.out 2; have hns42_0 := NB153_154.out; have hms42_0 := NB154_153.out; refine skip_ (w1 := ?_) (by rfl) rfl ?_ ?_
           rotate_left
           ·go_simp
            rfl
           refine hK.out _ _ ?_; clear hK K; refine done_ (done_of HT_.out (by kernel_rfl)) ?_
           try go_wp2
           go_roundg k1
           case measure => have := HK1.out; omega
           case rel => exact ⟨(wrap64 (x13_1 + 1)), (y164), (y167), (.slice Ao36 y164.length co36), (.slice Ao41 y167.length co41), wZ, H', ⟨by have := HK1.out; omega⟩, ⟨Rz (Kd.R_mono (Kd.R_far (p := ⟨gb154, 2, none⟩) (Kd.R_types HO166.out BK154.out (by decide)) (fun _ hk => hk.2) (.slice Ao41 y167.length co41)) (fun _ hk => trivial))⟩, ⟨Rz (Kd.R_mono (Kd.R_far (p := ⟨gb154, 2, none⟩) (Kd.R_types HO169.out BK154.out (by decide)) (fun _ hk => hk.2) (.slice Ao41 y167.length co41)) (fun _ hk => trivial))⟩, ⟨by refine bp ?_; refine blk_far ?_ NB153_154.out _; refine bp ?_; exact BK153.out⟩, ⟨by refine bp ?_; refine blk_put (cs := #[.int .i64 a1, .slice Ao36 y164.length co36, u155002]) ?_ 2 _ rfl; refine bp ?_; exact BK154.out⟩, ⟨Bq⟩⟩
          ·rw [if_neg c32] at H
           exact absurd H (by simp)
         ·rw [if_neg c31] at H
          exact absurd H (by simp)
        ·rw [if_neg c30] at H
         exact absurd H (by simp)
     ·rw [if_neg c9] at H
      exact absurd H (by simp)
    ·rw [if_neg c8] at H
     exact absurd H (by simp)
   ·rw [if_neg c7] at H
    have c7b0 : decide (x13_1 < (l0.length : Int)) = false := decide_eq_false c7; clear c7
    simp only [Option.some.injEq, Prod.mk.injEq] at H
    obtain ⟨rfl, rfl, rfl⟩ := H; have hnb43 := NB154_153.out; have hnc43 := NB153_154.out; obtain ⟨hcz44_0, hcz44_1, hcz44_2, hfz44_0, hfz44_1, hfz44_2⟩ := cf3 (w := wr) BK154; obtain ⟨hcz45_0, hcz45_1, hcz45_2, hfz45_0, hfz45_1, hfz45_2⟩ := cf3 (w := wr) BK153; obtain ⟨Ao46, co46, eo46⟩ := Kd.R_slice HO_155001.out; subst eo46; obtain ⟨Ao47, co47, eo47⟩ := Kd.R_slice HO_155002.out; subst eo47
    go_wp2
    refine bodyPost_ret (results_cell_row rfl _ _ gb153 26 #[.int .i64 a1, .slice Ao46 x155001_1.length co46, .slice Ao47 x155002_1.length co47] (0, 0) _ rfl (by refine bp ?_; refine blk_put (cs := #[.int .i64 a1, .slice Ao46 x155001_1.length co46, .slice none 0 0]) ?_ 2 _ rfl; refine bp ?_; refine blk_put (cs := #[.int .i64 a1, .slice none 0 0, .slice none 0 0]) ?_ 1 _ rfl; refine bp ?_; refine blk_put (cs := #[.int .i64 0, .slice none 0 0, .slice none 0 0]) ?_ 0 _ rfl; exact Kz BK153.out) Try.underlying26 rfl (by kernel_rfl)) rfl ?_; exact ⟨_, _, eZ, Rz (Kd.R_mono (Kd.R_far (p := ⟨gb153, 2, none⟩) (Kd.R_far (p := ⟨gb153, 1, none⟩) (Kd.R_far (p := ⟨gb153, 0, none⟩) (Kd.R_types HO_155001.out BK153.out (by decide)) (fun _ hk => hk.2) (.int .i64 a1)) (fun _ hk => hk.2) (.slice Ao46 x155001_1.length co46)) (fun _ hk => hk.2) (.slice Ao47 x155002_1.length co47)) (fun _ hk => trivial)), Rz (Kd.R_mono (Kd.R_far (p := ⟨gb153, 2, none⟩) (Kd.R_far (p := ⟨gb153, 1, none⟩) (Kd.R_far (p := ⟨gb153, 0, none⟩) (Kd.R_types HO_155002.out BK153.out (by decide)) (fun _ hk => hk.2) (.int .i64 a1)) (fun _ hk => hk.2) (.slice Ao46 x155001_1.length co46)) (fun _ hk => hk.2) (.slice Ao47 x155002_1.length co47)) (fun _ hk => trivial)), Bq⟩

def spec_l1Same.l0 : Nat → List Int → List Int → Int → Int → Option (Bool)
 | 0, _, _, _, _ => none
 | k + 1, x0, x1, x12, x13 => if x13 < x12 then (if 0 ≤ x13 then (if x13 < (x0.length : Int) then (if x13 < (x1.length : Int) then (if (rd x0 x13) = (rd x1 x13) then (spec_l1Same.l0 k x0 x1 x12 (wrap64 (x13 + 1))) else (some false)) else (none)) else (none)) else (none)) else (some true)
def spec_l1Same.f (k : Nat) (l0 : List Int) (l1 : List Int) : Option (Bool) := if (l0.length : Int) = (l1.length : Int) then (spec_l1Same.l0 k l0 l1 (l0.length : Int) 0) else (some false)
theorem spec_l1Same.calls (k : Nat) (A0 : Option Addr) (c0 : Nat) (l0 : List Int) (A1 : Option Addr) (c1 : Nat) (l1 : List Int) (r : Bool) (w : World) (hr0 : Kd.C (Kd.int .i64) w A0 l0.length l0) (hc0 : l0.length ≤ c0) (hr1 : Kd.C (Kd.int .i64) w A1 l1.length l1) (hc1 : l1.length ≤ c1) (h : spec_l1Same.f k l0 l1 = some r) :
  Calls Try.prog 67 #[.slice A0 l0.length c0, .slice A1 l1.length c1] w fun e w' => e = .returned (.bool r) ∧ Drawn0 w w' := by
 have HR0 := am hr0; have HC0 := am hc0; clear hr0 hc0; have HR1 := am hr1; have HC1 := am hc1; clear hr1 hc1; have H : (if (l0.length : Int) = (l1.length : Int) then (spec_l1Same.l0 k l0 l1 (l0.length : Int) 0) else (some false)) = some r := h; clear h
 by_cases c3 : (l0.length : Int) = (l1.length : Int)
 ·rw [if_pos c3] at H
  have c3b0 : ((l0.length : Int) == (l1.length : Int)) = true := beq_iff_eq.mpr c3; have c3b1 : ((l0.length : Int) != (l1.length : Int)) = false := bne_eq_false_iff_eq.mpr c3
  have c3b2 : (l0.length == l1.length) = true := by first | simpa using c3 | (simp at c3 ⊢; omega)
  clear c3; have H' := am H; clear H
  go_enter Try.func67, Try.ntmps67
  go_wp2
  repeat (go_quiet (fail); try go_wp2)
  go_loopg [13] k (fun kq v13 w' => ∃ (x13_1 : Int), v13 = .int .i64 x13_1 ∧ Aside0 (spec_l1Same.l0 kq l0 l1 (l0.length : Int) x13_1 = some r) ∧ Aside0 (kq ≤ k) ∧ Drawn0 w w')
  case atStart => exact ⟨(0), wZ, H', ⟨Nat.le_refl _⟩, by repeat (first | exact Drawn0.refl _ | apply Drawn0.step)⟩
  case round =>
   clear H'
   try clear c1
   try clear p2
   try clear c3
   try clear c3b0
   try clear c3b1
   try clear c3b2
   obtain ⟨x13_1, rfl, HA, HK1, ⟨m1, rfl⟩⟩ := hrel; cases gk with
   | zero => exact absurd HA.out (by simp [spec_l1Same.l0])
   | succ k1 =>
    have H := HA.out; clear HA
    simp only [spec_l1Same.l0] at H
    by_cases c4 : x13_1 < (l0.length : Int)
    ·rw [if_pos c4] at H
     have c4b0 : decide (x13_1 < (l0.length : Int)) = true := decide_eq_true c4; clear c4
     by_cases c5 : 0 ≤ x13_1
     ·rw [if_pos c5] at H
      have c5b0 : decide (0 ≤ x13_1) = true := decide_eq_true c5; clear c5
      by_cases c6 : x13_1 < (l0.length : Int)
      ·rw [if_pos c6] at H
       have c6b0 : decide (x13_1 < (l0.length : Int)) = true := decide_eq_true c6; clear c6
       by_cases c7 : x13_1 < (l1.length : Int)
       ·rw [if_pos c7] at H
        have c7b0 : decide (x13_1 < (l1.length : Int)) = true := decide_eq_true c7; clear c7
        by_cases c8 : (rd l0 x13_1) = (rd l1 x13_1)
        ·rw [if_pos c8] at H
         have c8b0 : ((rd l0 x13_1) == (rd l1 x13_1)) = true := beq_iff_eq.mpr c8; have c8b1 : ((rd l0 x13_1) != (rd l1 x13_1)) = false := bne_eq_false_iff_eq.mpr c8; clear c8; have H' := am H; clear H; obtain ⟨ad170, e170, hx170_0⟩ := Kd.at_int HR0.out x13_1 dT dT; cases e170; have p170 := eT (0 ≤ (x13_1 : Int)); have q170 := eT (x13_1 < (l0.length : Int)); obtain ⟨ad171, e171, hx171_0⟩ := Kd.at_int HR1.out x13_1 dT dT; cases e171; have p171 := eT (0 ≤ (x13_1 : Int)); have q171 := eT (x13_1 < (l1.length : Int))
         go_wp2
         repeat (go_quiet (fail); try go_wp2)
         go_roundg k1
         case measure => have := HK1.out; omega
         case rel => exact ⟨(wrap64 (x13_1 + 1)), wZ, H', ⟨by have := HK1.out; omega⟩, by repeat (first | exact Drawn0.refl _ | apply Drawn0.step)⟩
        ·rw [if_neg c8] at H
         have c8b0 : ((rd l0 x13_1) == (rd l1 x13_1)) = false := beq_eq_false_iff_ne.mpr c8; have c8b1 : ((rd l0 x13_1) != (rd l1 x13_1)) = true := bne_iff_ne.mpr c8; obtain rfl := Option.some.inj H; obtain ⟨ad170, e170, hx170_0⟩ := Kd.at_int HR0.out x13_1 dT dT; cases e170; have p170 := eT (0 ≤ (x13_1 : Int)); have q170 := eT (x13_1 < (l0.length : Int)); obtain ⟨ad171, e171, hx171_0⟩ := Kd.at_int HR1.out x13_1 dT dT; cases e171; have p171 := eT (0 ≤ (x13_1 : Int)); have q171 := eT (x13_1 < (l1.length : Int))
         go_wp2
         repeat (go_quiet (fail); try go_wp2)
         go_ret
         exact ⟨by first | rfl | (simp; done) | (simp [*]; done), by repeat (first | exact Drawn0.refl _ | apply Drawn0.step)⟩
       ·rw [if_neg c7] at H
        exact absurd H (by simp)
      ·rw [if_neg c6] at H
       exact absurd H (by simp)
     ·rw [if_neg c5] at H
      exact absurd H (by simp)
    ·rw [if_neg c4] at H
     have c4b0 : decide (x13_1 < (l0.length : Int)) = false := decide_eq_false c4; clear c4; obtain rfl := Option.some.inj H
     go_wp2
     repeat (go_quiet (fail); try go_wp2)
     go_ret
     exact ⟨by first | rfl | (simp; done) | (simp [*]; done), by repeat (first | exact Drawn0.refl _ | apply Drawn0.step)⟩
 ·rw [if_neg c3] at H
  have c3b0 : ((l0.length : Int) == (l1.length : Int)) = false := beq_eq_false_iff_ne.mpr c3; have c3b1 : ((l0.length : Int) != (l1.length : Int)) = true := bne_iff_ne.mpr c3
  have c3b2 : (l0.length == l1.length) = false := by first | simpa using c3 | (simp at c3 ⊢; omega)
  obtain rfl := Option.some.inj H
  go_enter Try.func67, Try.ntmps67
  go_wp2
  repeat (go_quiet (fail); try go_wp2)
  go_ret
  exact ⟨by first | rfl | (simp; done) | (simp [*]; done), by repeat (first | exact Drawn0.refl _ | apply Drawn0.step)⟩

def spec_l1SameS.l0 : Nat → List ByteArray → List ByteArray → Int → Int → Option (Bool)
 | 0, _, _, _, _ => none
 | k + 1, x0, x1, x12, x13 => if x13 < x12 then (if 0 ≤ x13 then (if x13 < (x0.length : Int) then (if x13 < (x1.length : Int) then (if (rdOf ByteArray.empty x0 x13).toList = (rdOf ByteArray.empty x1 x13).toList then (spec_l1SameS.l0 k x0 x1 x12 (wrap64 (x13 + 1))) else (some false)) else (none)) else (none)) else (none)) else (some true)
def spec_l1SameS.f (k : Nat) (l0 : List ByteArray) (l1 : List ByteArray) : Option (Bool) := if (l0.length : Int) = (l1.length : Int) then (spec_l1SameS.l0 k l0 l1 (l0.length : Int) 0) else (some false)
theorem spec_l1SameS.calls (k : Nat) (A0 : Option Addr) (c0 : Nat) (l0 : List ByteArray) (A1 : Option Addr) (c1 : Nat) (l1 : List ByteArray) (r : Bool) (w : World) (hr0 : Kd.C Kd.string w A0 l0.length l0) (hc0 : l0.length ≤ c0) (hr1 : Kd.C Kd.string w A1 l1.length l1) (hc1 : l1.length ≤ c1) (h : spec_l1SameS.f k l0 l1 = some r) :
  Calls Try.prog 68 #[.slice A0 l0.length c0, .slice A1 l1.length c1] w fun e w' => e = .returned (.bool r) ∧ Drawn0 w w' := by
 have HR0 := am hr0; have HC0 := am hc0; clear hr0 hc0; have HR1 := am hr1; have HC1 := am hc1; clear hr1 hc1; have H : (if (l0.length : Int) = (l1.length : Int) then (spec_l1SameS.l0 k l0 l1 (l0.length : Int) 0) else (some false)) = some r := h; clear h
 by_cases c3 : (l0.length : Int) = (l1.length : Int)
 ·rw [if_pos c3] at H
  have c3b0 : ((l0.length : Int) == (l1.length : Int)) = true := beq_iff_eq.mpr c3; have c3b1 : ((l0.length : Int) != (l1.length : Int)) = false := bne_eq_false_iff_eq.mpr c3
  have c3b2 : (l0.length == l1.length) = true := by first | simpa using c3 | (simp at c3 ⊢; omega)
  clear c3; have H' := am H; clear H
  go_enter Try.func68, Try.ntmps68
  go_wp2
  repeat (go_quiet (fail); try go_wp2)
  go_loopg [13] k (fun kq v13 w' => ∃ (x13_1 : Int), v13 = .int .i64 x13_1 ∧ Aside0 (spec_l1SameS.l0 kq l0 l1 (l0.length : Int) x13_1 = some r) ∧ Aside0 (kq ≤ k) ∧ Drawn0 w w')
  case atStart => exact ⟨(0), wZ, H', ⟨Nat.le_refl _⟩, by repeat (first | exact Drawn0.refl _ | apply Drawn0.step)⟩
  case round =>
   clear H'
   try clear c1
   try clear p2
   try clear c3
   try clear c3b0
   try clear c3b1
   try clear c3b2
   obtain ⟨x13_1, rfl, HA, HK1, ⟨m1, rfl⟩⟩ := hrel; cases gk with
   | zero => exact absurd HA.out (by simp [spec_l1SameS.l0])
   | succ k1 =>
    have H := HA.out; clear HA
    simp only [spec_l1SameS.l0] at H
    by_cases c4 : x13_1 < (l0.length : Int)
    ·rw [if_pos c4] at H
     have c4b0 : decide (x13_1 < (l0.length : Int)) = true := decide_eq_true c4; clear c4
     by_cases c5 : 0 ≤ x13_1
     ·rw [if_pos c5] at H
      have c5b0 : decide (0 ≤ x13_1) = true := decide_eq_true c5; clear c5
      by_cases c6 : x13_1 < (l0.length : Int)
      ·rw [if_pos c6] at H
       have c6b0 : decide (x13_1 < (l0.length : Int)) = true := decide_eq_true c6; clear c6
       by_cases c7 : x13_1 < (l1.length : Int)
       ·rw [if_pos c7] at H
        have c7b0 : decide (x13_1 < (l1.length : Int)) = true := decide_eq_true c7; clear c7
        by_cases c8 : (rdOf ByteArray.empty l0 x13_1).toList = (rdOf ByteArray.empty l1 x13_1).toList
        ·rw [if_pos c8] at H
         have c8b0 : ((rdOf ByteArray.empty l0 x13_1).toList == (rdOf ByteArray.empty l1 x13_1).toList) = true := beq_iff_eq.mpr c8; have c8b1 : ((rdOf ByteArray.empty l0 x13_1).toList != (rdOf ByteArray.empty l1 x13_1).toList) = false := bne_eq_false_iff_eq.mpr c8; clear c8; have H' := am H; clear H; obtain ⟨ad172, e172, hx172_0⟩ := Kd.at_string HR0.out x13_1 dT dT; cases e172; have p172 := eT (0 ≤ (x13_1 : Int)); have q172 := eT (x13_1 < (l0.length : Int)); obtain ⟨ad173, e173, hx173_0⟩ := Kd.at_string HR1.out x13_1 dT dT; cases e173; have p173 := eT (0 ≤ (x13_1 : Int)); have q173 := eT (x13_1 < (l1.length : Int))
         go_wp2
         repeat (go_quiet (fail); try go_wp2)
         go_roundg k1
         case measure => have := HK1.out; omega
         case rel => exact ⟨(wrap64 (x13_1 + 1)), wZ, H', ⟨by have := HK1.out; omega⟩, by repeat (first | exact Drawn0.refl _ | apply Drawn0.step)⟩
        ·rw [if_neg c8] at H
         have c8b0 : ((rdOf ByteArray.empty l0 x13_1).toList == (rdOf ByteArray.empty l1 x13_1).toList) = false := beq_eq_false_iff_ne.mpr c8; have c8b1 : ((rdOf ByteArray.empty l0 x13_1).toList != (rdOf ByteArray.empty l1 x13_1).toList) = true := bne_iff_ne.mpr c8; obtain rfl := Option.some.inj H; obtain ⟨ad172, e172, hx172_0⟩ := Kd.at_string HR0.out x13_1 dT dT; cases e172; have p172 := eT (0 ≤ (x13_1 : Int)); have q172 := eT (x13_1 < (l0.length : Int)); obtain ⟨ad173, e173, hx173_0⟩ := Kd.at_string HR1.out x13_1 dT dT; cases e173; have p173 := eT (0 ≤ (x13_1 : Int)); have q173 := eT (x13_1 < (l1.length : Int))
         go_wp2
         repeat (go_quiet (fail); try go_wp2)
         go_ret
         exact ⟨by first | rfl | (simp; done) | (simp [*]; done), by repeat (first | exact Drawn0.refl _ | apply Drawn0.step)⟩
       ·rw [if_neg c7] at H
        exact absurd H (by simp)
      ·rw [if_neg c6] at H
       exact absurd H (by simp)
     ·rw [if_neg c5] at H
      exact absurd H (by simp)
    ·rw [if_neg c4] at H
     have c4b0 : decide (x13_1 < (l0.length : Int)) = false := decide_eq_false c4; clear c4; obtain rfl := Option.some.inj H
     go_wp2
     repeat (go_quiet (fail); try go_wp2)
     go_ret
     exact ⟨by first | rfl | (simp; done) | (simp [*]; done), by repeat (first | exact Drawn0.refl _ | apply Drawn0.step)⟩
 ·rw [if_neg c3] at H
  have c3b0 : ((l0.length : Int) == (l1.length : Int)) = false := beq_eq_false_iff_ne.mpr c3; have c3b1 : ((l0.length : Int) != (l1.length : Int)) = true := bne_iff_ne.mpr c3
  have c3b2 : (l0.length == l1.length) = false := by first | simpa using c3 | (simp at c3 ⊢; omega)
  obtain rfl := Option.some.inj H
  go_enter Try.func68, Try.ntmps68
  go_wp2
  repeat (go_quiet (fail); try go_wp2)
  go_ret
  exact ⟨by first | rfl | (simp; done) | (simp [*]; done), by repeat (first | exact Drawn0.refl _ | apply Drawn0.step)⟩

mutual
def spec_trFronted.j0 : Nat → Bool → Int → List Int → List ByteArray → Option (List ByteArray × Bool)
 | 0, _, _, _, _ => none
 | k + 1, x27, x175000, x175001, x175002 => if x27 = true then (some (([] : List ByteArray), false)) else (spec_trFronted.l0 k ([] : List ByteArray) (⟨#[]⟩ : ByteArray) x175001 (x175001.length : Int) 0 x175000 x175001 x175002)
def spec_trFronted.l0 : Nat → List ByteArray → ByteArray → List Int → Int → Int → Int → List Int → List ByteArray → Option (List ByteArray × Bool)
 | 0, _, _, _, _, _, _, _, _ => none
 | k + 1, x4, x5, x29, x30, x31, x175000, x175001, x175002 => if x31 < x30 then (if 0 ≤ x31 then (if x31 < (x29.length : Int) then ((spec_l1In.f (rd x29 x31) 0 (x5.size : Int)).bind fun t177 => (if t177 = true then (if x31 < (x175002.length : Int) then (if ((rdOf ByteArray.empty x175002 x31).size : Int) > 12 then (some (([] : List ByteArray), false)) else (if 0 ≤ (rd x29 x31) then (if (rd x29 x31) ≤ (x5.size : Int) then (if (x5.extract 0 ((rd x29 x31) : Int).toNat).size + (rdOf ByteArray.empty x175002 x31).size ≤ 9223372036854775807 then (if x4.length < 8796093022208 then (spec_trFronted.l0 k (x4 ++ [(x5.extract 0 ((rd x29 x31) : Int).toNat) ++ (rdOf ByteArray.empty x175002 x31)]) ((x5.extract 0 ((rd x29 x31) : Int).toNat) ++ (rdOf ByteArray.empty x175002 x31)) x29 x30 (wrap64 (x31 + 1)) x175000 x175001 x175002) else (none)) else (none)) else (none)) else (none))) else (none)) else (some (([] : List ByteArray), false)))) else (none)) else (none)) else ((spec_biKeys.f k x4).bind fun t183 => (if t183 = true then ((spec_trFront.f k x4 x175000).bind fun bt184 => ((spec_l1Same.f k x175001 bt184.2.1).bind fun t192 => (if t192 = true then ((spec_l1SameS.f k x175002 bt184.2.2).bind fun t193 => (some (x4, t193))) else (some (x4, false))))) else (some (([] : List ByteArray), false))))
end
def spec_trFronted.f (k : Nat) (a0_0 : Int) (l0_1 : List Int) (l0_2 : List ByteArray) : Option (List ByteArray × Bool) := (spec_l1In.f a0_0 1 16).bind fun t175 => (if t175 = true then (if (l0_1.length : Int) = (l0_2.length : Int) then (spec_trFronted.j0 k (decide ((l0_1.length : Int) > 40)) a0_0 l0_1 l0_2) else (spec_trFronted.j0 k true a0_0 l0_1 l0_2)) else (spec_trFronted.j0 k true a0_0 l0_1 l0_2))
theorem spec_trFronted.calls (k : Nat) (a0_0 : Int) (A0_1 : Option Addr) (c0_1 : Nat) (l0_1 : List Int) (A0_2 : Option Addr) (c0_2 : Nat) (l0_2 : List ByteArray) (r1 : List ByteArray) (r2 : Bool) (w : World) (hr0_1 : Kd.C (Kd.int .i64) w A0_1 l0_1.length l0_1) (hc0_1 : l0_1.length ≤ c0_1) (hr0_2 : Kd.C Kd.string w A0_2 l0_2.length l0_2) (hc0_2 : l0_2.length ≤ c0_2) (h : spec_trFronted.f k a0_0 l0_1 l0_2 = some (r1, r2)) :
  Calls Try.prog 50 #[.agg #[.int .i64 a0_0, .slice A0_1 l0_1.length c0_1, .slice A0_2 l0_2.length c0_2]] w fun e w' => ∃ v0_ : Value, e = .returned (.tuple #[v0_, .bool r2]) ∧ Kd.R Kd.string 9 w' w.heap.size (fun _ => True) v0_ r1 ∧ Below w.heap.size w w' := by
 have hu26 := Try.underlying26; have HR0_1 := am hr0_1; have HC0_1 := am hc0_1; clear hr0_1 hc0_1; have HR0_2 := am hr0_2; have HC0_2 := am hc0_2; clear hr0_2 hc0_2; have HB := am (Below.refl w.heap.size w); have H : ((spec_l1In.f a0_0 1 16).bind fun t175 => (if t175 = true then (if (l0_1.length : Int) = (l0_2.length : Int) then (spec_trFronted.j0 k (decide ((l0_1.length : Int) > 40)) a0_0 l0_1 l0_2) else (spec_trFronted.j0 k true a0_0 l0_1 l0_2)) else (spec_trFronted.j0 k true a0_0 l0_1 l0_2))) = some (r1, r2) := h; clear h; have HC2 := am H; clear H
 go_enter Try.func50, Try.ntmps50
 go_upto_region 1 with (first | ((with_reducible refine gate_dst (N := 1) rfl ?_); (try (refine gate_guard (by rfl) ?_; dsimp only)); refine bE 1 #[.int .i64 a0_0, .slice A0_1 l0_1.length c0_1, .slice A0_2 l0_2.length c0_2] 26 ?_; intro gb174 hg w3 hbox hb; have n0_ := Bb HB hb; have n1_ := am (hbox); have n2_ := Gl HB hg; have n3_ := Gl HB hg; clear HB; revert n0_ n1_ n2_ n3_; intro HB BK174 GW174 GE174; clear hb hbox hg))
 repeat (go_quiet (first | ((with_reducible refine gate_dst (N := 1) rfl ?_); (try (refine gate_guard (by rfl) ?_; dsimp only)); refine bE 1 #[.int .i64 a0_0, .slice A0_1 l0_1.length c0_1, .slice A0_2 l0_2.length c0_2] 26 ?_; intro gb174 hg w3 hbox hb; have n0_ := Bb HB hb; have n1_ := am (hbox); have n2_ := Gl HB hg; have n3_ := Gl HB hg; clear HB; revert n0_ n1_ n2_ n3_; intro HB BK174 GW174 GE174; clear hb hbox hg)); go_upto_region 1 with (first | ((with_reducible refine gate_dst (N := 1) rfl ?_); (try (refine gate_guard (by rfl) ?_; dsimp only)); refine bE 1 #[.int .i64 a0_0, .slice A0_1 l0_1.length c0_1, .slice A0_2 l0_2.length c0_2] 26 ?_; intro gb174 hg w3 hbox hb; have n0_ := Bb HB hb; have n1_ := am (hbox); have n2_ := Gl HB hg; have n3_ := Gl HB hg; clear HB; revert n0_ n1_ n2_ n3_; intro HB BK174 GW174 GE174; clear hb hbox hg)))
 (try simp only [aP])
 go_cut [27] (fun v27 wc => ∃ (kq : Nat) (x27_1 : Bool), v27 = .bool x27_1 ∧ Aside0 (spec_trFronted.j0 kq x27_1 a0_0 l0_1 l0_2 = some (r1, r2)) ∧ Aside0 (kq ≤ k) ∧ Aside0 (wc.heap[gb174]? = some (.cells #[.int .i64 a0_0, (.slice A0_1 l0_1.length c0_1), (.slice A0_2 l0_2.length c0_2)] 26 (0, 0))) ∧ Aside0 (Below w.heap.size w wc))
 case first =>
  have H := HC2.out; clear HC2; obtain ⟨t175, A4, H⟩ := ob H; (try dsimp -simprocs only at H)
  by_cases c5 : t175 = true
  ·subst c5
   rw [if_pos rfl] at H
   by_cases c6 : (l0_1.length : Int) = (l0_2.length : Int)
   ·rw [if_pos c6] at H
    have c6b0 : ((l0_1.length : Int) == (l0_2.length : Int)) = true := beq_iff_eq.mpr c6; have c6b1 : ((l0_1.length : Int) != (l0_2.length : Int)) = false := bne_eq_false_iff_eq.mpr c6
    have c6b2 : (l0_1.length == l0_2.length) = true := by first | simpa using c6 | (simp at c6 ⊢; omega)
    clear c6
    (first | rw [c6b0] | (simp only [i64_w, i32_w]; rw [c6b0]) | skip)
    have H' := am H; clear H; obtain ⟨hcz7_0, hcz7_1, hcz7_2, hfz7_0, hfz7_1, hfz7_2⟩ := cf3 (w := w3) BK174
    go_wp2_with (first | (go_at_call 39; (with_reducible refine (spec_l1In.calls a0_0 1 16 true _ A4.out).mono ?_); rintro e w' ⟨rfl, ⟨nd, rfl⟩⟩; (try exact yZ)))
    repeat (go_quiet (first | (go_at_call 39; (with_reducible refine (spec_l1In.calls a0_0 1 16 true _ A4.out).mono ?_); rintro e w' ⟨rfl, ⟨nd, rfl⟩⟩; (try exact yZ))); try go_wp2_with (first | (go_at_call 39; (with_reducible refine (spec_l1In.calls a0_0 1 16 true _ A4.out).mono ?_); rintro e w' ⟨rfl, ⟨nd, rfl⟩⟩; (try exact yZ))))
    go_meet
    case rel => exact ⟨_, (decide ((l0_1.length : Int) > 40)), wZ, H', ⟨by first | omega | exact Nat.le_refl _⟩, ⟨Kz BK174.out⟩, ⟨Bq⟩⟩
   ·rw [if_neg c6] at H
    have c6b0 : ((l0_1.length : Int) == (l0_2.length : Int)) = false := beq_eq_false_iff_ne.mpr c6; have c6b1 : ((l0_1.length : Int) != (l0_2.length : Int)) = true := bne_iff_ne.mpr c6
    have c6b2 : (l0_1.length == l0_2.length) = false := by first | simpa using c6 | (simp at c6 ⊢; omega)
    (first | rw [c6b0] | (simp only [i64_w, i32_w]; rw [c6b0]) | skip)
    have H' := am H; clear H; obtain ⟨hcz8_0, hcz8_1, hcz8_2, hfz8_0, hfz8_1, hfz8_2⟩ := cf3 (w := w3) BK174
    go_wp2_with (first | (go_at_call 39; (with_reducible refine (spec_l1In.calls a0_0 1 16 true _ A4.out).mono ?_); rintro e w' ⟨rfl, ⟨nd, rfl⟩⟩; (try exact yZ)))
    repeat (go_quiet (first | (go_at_call 39; (with_reducible refine (spec_l1In.calls a0_0 1 16 true _ A4.out).mono ?_); rintro e w' ⟨rfl, ⟨nd, rfl⟩⟩; (try exact yZ))); try go_wp2_with (first | (go_at_call 39; (with_reducible refine (spec_l1In.calls a0_0 1 16 true _ A4.out).mono ?_); rintro e w' ⟨rfl, ⟨nd, rfl⟩⟩; (try exact yZ))))
    go_meet
    case rel => exact ⟨_, (true), wZ, H', ⟨by first | omega | exact Nat.le_refl _⟩, ⟨Kz BK174.out⟩, ⟨Bq⟩⟩
  ·replace c5 := Bool.eq_false_iff.mpr c5
   subst c5
   rw [if_neg (show ¬ (false = true) by decide)] at H; have H' := am H; clear H; obtain ⟨hcz9_0, hcz9_1, hcz9_2, hfz9_0, hfz9_1, hfz9_2⟩ := cf3 (w := w3) BK174
   go_wp2_with (first | (go_at_call 39; (with_reducible refine (spec_l1In.calls a0_0 1 16 false _ A4.out).mono ?_); rintro e w' ⟨rfl, ⟨nd, rfl⟩⟩; (try exact yZ)))
   repeat (go_quiet (first | (go_at_call 39; (with_reducible refine (spec_l1In.calls a0_0 1 16 false _ A4.out).mono ?_); rintro e w' ⟨rfl, ⟨nd, rfl⟩⟩; (try exact yZ))); try go_wp2_with (first | (go_at_call 39; (with_reducible refine (spec_l1In.calls a0_0 1 16 false _ A4.out).mono ?_); rintro e w' ⟨rfl, ⟨nd, rfl⟩⟩; (try exact yZ))))
   go_meet
   case rel => exact ⟨_, (true), wZ, H', ⟨by first | omega | exact Nat.le_refl _⟩, ⟨Kz BK174.out⟩, ⟨Bq⟩⟩
 case rest =>
  clear HC2
  try clear p2
  try clear c5
  try clear c6
  try clear c6b0
  try clear c6b1
  try clear c6b2
  obtain ⟨kq, x27_1, rfl, HA, HJ1, BK174, HB⟩ := hcut; cases kq with
  | zero => exact absurd HA.out (by simp [spec_trFronted.j0])
  | succ kj1 =>
   have H := HA.out; clear HA
   simp only [spec_trFronted.j0] at H
   by_cases c10 : x27_1 = true
   ·subst c10
    rw [if_pos rfl] at H
    simp only [Option.some.injEq, Prod.mk.injEq] at H
    obtain ⟨rfl, rfl⟩ := H
    go_wp2
    repeat (go_quiet (fail); try go_wp2)
    go_ret2
    exact ⟨_, eZ, nZ, Bq⟩
   ·replace c10 := Bool.eq_false_iff.mpr c10
    subst c10
    rw [if_neg (show ¬ (false = true) by decide)] at H; have H' := am H; clear H; obtain ⟨hcz11_0, hcz11_1, hcz11_2, hfz11_0, hfz11_1, hfz11_2⟩ := cf3 (w := wc) BK174
    go_wp2
    repeat (go_quiet (fail); try go_wp2)
    go_loopg [4, 5, 31] kj1 (fun kq v4 v5 v31 w' => ∃ (x4_2 : List ByteArray) (x5_2 : ByteArray) (x31_2 : Int), v5 = .string x5_2 ∧ v31 = .int .i64 x31_2 ∧ Aside0 (spec_trFronted.l0 kq x4_2 x5_2 l0_1 (l0_1.length : Int) x31_2 a0_0 l0_1 l0_2 = some (r1, r2)) ∧ Aside0 (kq ≤ kj1) ∧ Aside0 (Kd.R Kd.string 9 w' w.heap.size (fun _ => True) v4 x4_2) ∧ Aside0 (w'.heap[gb174]? = some (.cells #[.int .i64 a0_0, (.slice A0_1 l0_1.length c0_1), (.slice A0_2 l0_2.length c0_2)] 26 (0, 0))) ∧ Aside0 (Below w.heap.size w w'))
    case atStart => exact ⟨(([] : List ByteArray)), ((⟨#[]⟩ : ByteArray)), (0), wZ, wZ, H', ⟨Nat.le_refl _⟩, ⟨nZ⟩, ⟨Kz BK174.out⟩, ⟨Bq⟩⟩
    case round =>
     clear H'
     try clear c1
     try clear p2
     try clear c5
     try clear c6
     try clear c6b0
     try clear c6b1
     try clear c6b2
     try clear c10
     try clear p2
     obtain ⟨x4_2, x5_2, x31_2, rfl, rfl, HA, HK2, HO_4, BK174, HB⟩ := hrel; cases gk with
     | zero => exact absurd HA.out (by simp [spec_trFronted.l0])
     | succ k2 =>
      have H := HA.out; clear HA
      simp only [spec_trFronted.l0] at H
      by_cases c12 : x31_2 < (l0_1.length : Int)
      ·rw [if_pos c12] at H
       have c12b0 : decide (x31_2 < (l0_1.length : Int)) = true := decide_eq_true c12; clear c12
       by_cases c13 : 0 ≤ x31_2
       ·rw [if_pos c13] at H
        have c13b0 : decide (0 ≤ x31_2) = true := decide_eq_true c13; clear c13
        by_cases c14 : x31_2 < (l0_1.length : Int)
        ·rw [if_pos c14] at H
         have c14b0 : decide (x31_2 < (l0_1.length : Int)) = true := decide_eq_true c14; clear c14; obtain ⟨t177, A15, H⟩ := ob H; (try dsimp -simprocs only at H)
         by_cases c16 : t177 = true
         ·subst c16
          rw [if_pos rfl] at H
          by_cases c17 : x31_2 < (l0_2.length : Int)
          ·rw [if_pos c17] at H
           have c17b0 : decide (x31_2 < (l0_2.length : Int)) = true := decide_eq_true c17; clear c17
           by_cases c18 : ((rdOf ByteArray.empty l0_2 x31_2).size : Int) > 12
           ·rw [if_pos c18] at H
            have c18b0 : decide (12 < ((rdOf ByteArray.empty l0_2 x31_2).size : Int)) = true := decide_eq_true c18; have c18b1 : decide (12 < (rdOf ByteArray.empty l0_2 x31_2).size) = true := decide_eq_true (by omega); clear c18
            simp only [Option.some.injEq, Prod.mk.injEq] at H
            obtain ⟨rfl, rfl⟩ := H; have p176 : 0 ≤ (x31_2 : Int) := dT; have q176 : x31_2 < (l0_1.length : Int) := dT; obtain ⟨ad176, e176, hx176_0⟩ := Kd.at_int HR0_1.out x31_2 p176 q176; cases e176; replace hx176_0 := (HB.out.cell (World.block_lt_of_cell? w _ hx176_0)).trans hx176_0; replace p176 := eq_true p176; replace q176 := eq_true q176
            go_wp2_with (first | (go_at_call 39; (with_reducible refine (spec_l1In.calls (rd l0_1 x31_2) 0 (x5_2.size : Int) true _ A15.out).mono ?_); rintro e w' ⟨rfl, ⟨nd, rfl⟩⟩; (try exact yZ); obtain ⟨hcz19_0, hcz19_1, hcz19_2, hfz19_0, hfz19_1, hfz19_2⟩ := cf3 (w := wr) BK174; have p178 : 0 ≤ (x31_2 : Int) := dT; have q178 : x31_2 < (l0_2.length : Int) := dT; obtain ⟨ad178, e178, hx178_0⟩ := Kd.at_string HR0_2.out x31_2 p178 q178; cases e178; replace hx178_0 := (HB.out.cell (World.block_lt_of_cell? w _ hx178_0)).trans hx178_0; replace p178 := eq_true p178; replace q178 := eq_true q178))
            repeat (go_quiet (first | (go_at_call 39; (with_reducible refine (spec_l1In.calls (rd l0_1 x31_2) 0 (x5_2.size : Int) true _ A15.out).mono ?_); rintro e w' ⟨rfl, ⟨nd, rfl⟩⟩; (try exact yZ); obtain ⟨hcz19_0, hcz19_1, hcz19_2, hfz19_0, hfz19_1, hfz19_2⟩ := cf3 (w := wr) BK174; have p178 : 0 ≤ (x31_2 : Int) := dT; have q178 : x31_2 < (l0_2.length : Int) := dT; obtain ⟨ad178, e178, hx178_0⟩ := Kd.at_string HR0_2.out x31_2 p178 q178; cases e178; replace hx178_0 := (HB.out.cell (World.block_lt_of_cell? w _ hx178_0)).trans hx178_0; replace p178 := eq_true p178; replace q178 := eq_true q178)); try go_wp2_with (first | (go_at_call 39; (with_reducible refine (spec_l1In.calls (rd l0_1 x31_2) 0 (x5_2.size : Int) true _ A15.out).mono ?_); rintro e w' ⟨rfl, ⟨nd, rfl⟩⟩; (try exact yZ); obtain ⟨hcz19_0, hcz19_1, hcz19_2, hfz19_0, hfz19_1, hfz19_2⟩ := cf3 (w := wr) BK174; have p178 : 0 ≤ (x31_2 : Int) := dT; have q178 : x31_2 < (l0_2.length : Int) := dT; obtain ⟨ad178, e178, hx178_0⟩ := Kd.at_string HR0_2.out x31_2 p178 q178; cases e178; replace hx178_0 := (HB.out.cell (World.block_lt_of_cell? w _ hx178_0)).trans hx178_0; replace p178 := eq_true p178; replace q178 := eq_true q178)))
            go_ret2
            exact ⟨_, eZ, nZ, Bq⟩
           ·rw [if_neg c18] at H
            have c18b0 : decide (12 < ((rdOf ByteArray.empty l0_2 x31_2).size : Int)) = false := decide_eq_false c18; have c18b1 : decide (12 < (rdOf ByteArray.empty l0_2 x31_2).size) = false := decide_eq_false (by omega); clear c18
            by_cases c20 : 0 ≤ (rd l0_1 x31_2)
            ·rw [if_pos c20] at H
             have c20b0 := eq_true c20; have c20b1 : decide (0 ≤ (rd l0_1 x31_2)) = true := decide_eq_true c20; clear c20
             by_cases c21 : (rd l0_1 x31_2) ≤ (x5_2.size : Int)
             ·rw [if_pos c21] at H
              have c21b0 := eq_true c21; have c21b1 : decide ((rd l0_1 x31_2) ≤ (x5_2.size : Int)) = true := decide_eq_true c21; clear c21
              by_cases c22 : (x5_2.extract 0 ((rd l0_1 x31_2) : Int).toNat).size + (rdOf ByteArray.empty l0_2 x31_2).size ≤ 9223372036854775807
              ·rw [if_pos c22] at H
               have c22b0 := eq_true c22; have c22b1 : decide ((x5_2.extract 0 ((rd l0_1 x31_2) : Int).toNat).size + (rdOf ByteArray.empty l0_2 x31_2).size ≤ 9223372036854775807) = true := decide_eq_true c22
               try have c22b2 : (9223372036854775807 < (x5_2.extract 0 ((rd l0_1 x31_2) : Int).toNat).size + (rdOf ByteArray.empty l0_2 x31_2).size) = False := eq_false (Nat.not_lt.2 c22)
               (try (have c22b3 := c22b2; simp only [ByteArray.size_extract, Int.toNat_natCast] at c22b3))
               (try (have c22b4 := c22b2; rw [ByteArray.size_extract, Nat.min_eq_left (Int.toNat_le.2 dT), Nat.sub_zero] at c22b4))
               by_cases c23 : x4_2.length < 8796093022208
               ·rw [if_pos c23] at H
                have LMc23 := am c23; clear c23; obtain ⟨y180, hy180⟩ : ∃ y_ : List ByteArray, y_ = (x4_2 ++ [(x5_2.extract 0 ((rd l0_1 x31_2) : Int).toNat) ++ (rdOf ByteArray.empty l0_2 x31_2)]) := ⟨_, rfl⟩
                replace H : (spec_trFronted.l0 k2 y180 ((x5_2.extract 0 ((rd l0_1 x31_2) : Int).toNat) ++ (rdOf ByteArray.empty l0_2 x31_2)) l0_1 (l0_1.length : Int) (wrap64 (x31_2 + 1)) a0_0 l0_1 l0_2) = some (r1, r2) := by first | (rw [hy180]; with_reducible exact H) | (have H2_ := (Option.bind_some _ _).symm.trans H; rw [hy180]; with_reducible exact H2_) | (have H2_ := (Option.bind_some _ _).symm.trans H; with_reducible exact H2_) | with_reducible exact H | (rw [hy180]; exact H) | exact H
                have Ny180 := am hy180; clear hy180; have H' := am H; clear H; have p176 : 0 ≤ (x31_2 : Int) := dT; have q176 : x31_2 < (l0_1.length : Int) := dT; obtain ⟨ad176, e176, hx176_0⟩ := Kd.at_int HR0_1.out x31_2 p176 q176; cases e176; replace hx176_0 := (HB.out.cell (World.block_lt_of_cell? w _ hx176_0)).trans hx176_0; replace p176 := eq_true p176; replace q176 := eq_true q176
                go_wp2_with (first | (go_at_call 39; (with_reducible refine (spec_l1In.calls (rd l0_1 x31_2) 0 (x5_2.size : Int) true _ A15.out).mono ?_); rintro e w' ⟨rfl, ⟨nd, rfl⟩⟩; (try exact yZ); obtain ⟨hcz24_0, hcz24_1, hcz24_2, hfz24_0, hfz24_1, hfz24_2⟩ := cf3 (w := wr) BK174; have p178 : 0 ≤ (x31_2 : Int) := dT; have q178 : x31_2 < (l0_2.length : Int) := dT; obtain ⟨ad178, e178, hx178_0⟩ := Kd.at_string HR0_2.out x31_2 p178 q178; cases e178; replace hx178_0 := (HB.out.cell (World.block_lt_of_cell? w _ hx178_0)).trans hx178_0; replace p178 := eq_true p178; replace q178 := eq_true q178; have p179 : 0 ≤ (x31_2 : Int) := dT; have q179 : x31_2 < (l0_2.length : Int) := dT; obtain ⟨ad179, e179, hx179_0⟩ := Kd.at_string HR0_2.out x31_2 p179 q179; obtain rfl : ad178 = ad179 := (by injection e179); replace hx179_0 := (HB.out.cell (World.block_lt_of_cell? w _ hx179_0)).trans hx179_0; replace p179 := eq_true p179; replace q179 := eq_true q179) | ((with_reducible refine gate_builtin (b := .append) (xs := #[.tmp 59, .tmp 61]) rfl ?_); (try (refine gate_guard (by rfl) ?_; dsimp only)); at_builtin; refine Kd.R_append Kd.string (w0 := w) w.heap.size rfl (.tmp 59) (.tmp 61) 22 9 (.string ⟨#[]⟩) 16 rfl Try.underlying22 info9 rfl (by decide) (by omega) u4 x4_2 ((x5_2.extract 0 ((rd l0_1 x31_2) : Int).toNat) ++ (rdOf ByteArray.empty l0_2 x31_2)) [.string ((x5_2.extract 0 ((rd l0_1 x31_2) : Int).toNat) ++ (rdOf ByteArray.empty l0_2 x31_2))] (fun _ => True) (fun _ => False) rfl rfl ?aP (fun _ hk => hk.elim) ?aF ?aO ?aB ?aS ?aL ?_; (case aP => exact rfl); (case aB => exact (Bq)); (case aF => exact (fun _ _ => trivial)); (case aO => exact (Rz HO_4.out)); (case aS => exact (below_size (w := w) (Bq))); (case aL => have := LMc23.out; omega); intro v181 w25 ho hb hg hat; rw [← Ny180.out] at ho; have n0_ := am (blk_grown (g := gb174) (o := .cells #[.int .i64 a0_0, .slice (some ad176) l0_1.length c0_1, .slice (some ad178) l0_2.length c0_2] 26 (0, 0)) (Kz BK174.out) hg (Kd.R_ne HO_4.out BK174.out (by decide))); have n1_ := am (hb); have n2_ := am (ho); clear BK174 HB HO_4; revert n0_ n1_ n2_; intro BK174 HB HO182; clear ho hb hg hat))
                repeat (go_quiet (first | (go_at_call 39; (with_reducible refine (spec_l1In.calls (rd l0_1 x31_2) 0 (x5_2.size : Int) true _ A15.out).mono ?_); rintro e w' ⟨rfl, ⟨nd, rfl⟩⟩; (try exact yZ); obtain ⟨hcz24_0, hcz24_1, hcz24_2, hfz24_0, hfz24_1, hfz24_2⟩ := cf3 (w := wr) BK174; have p178 : 0 ≤ (x31_2 : Int) := dT; have q178 : x31_2 < (l0_2.length : Int) := dT; obtain ⟨ad178, e178, hx178_0⟩ := Kd.at_string HR0_2.out x31_2 p178 q178; cases e178; replace hx178_0 := (HB.out.cell (World.block_lt_of_cell? w _ hx178_0)).trans hx178_0; replace p178 := eq_true p178; replace q178 := eq_true q178; have p179 : 0 ≤ (x31_2 : Int) := dT; have q179 : x31_2 < (l0_2.length : Int) := dT; obtain ⟨ad179, e179, hx179_0⟩ := Kd.at_string HR0_2.out x31_2 p179 q179; obtain rfl : ad178 = ad179 := (by injection e179); replace hx179_0 := (HB.out.cell (World.block_lt_of_cell? w _ hx179_0)).trans hx179_0; replace p179 := eq_true p179; replace q179 := eq_true q179) | ((with_reducible refine gate_builtin (b := .append) (xs := #[.tmp 59, .tmp 61]) rfl ?_); (try (refine gate_guard (by rfl) ?_; dsimp only)); at_builtin; refine Kd.R_append Kd.string (w0 := w) w.heap.size rfl (.tmp 59) (.tmp 61) 22 9 (.string ⟨#[]⟩) 16 rfl Try.underlying22 info9 rfl (by decide) (by omega) u4 x4_2 ((x5_2.extract 0 ((rd l0_1 x31_2) : Int).toNat) ++ (rdOf ByteArray.empty l0_2 x31_2)) [.string ((x5_2.extract 0 ((rd l0_1 x31_2) : Int).toNat) ++ (rdOf ByteArray.empty l0_2 x31_2))] (fun _ => True) (fun _ => False) rfl rfl ?aP (fun _ hk => hk.elim) ?aF ?aO ?aB ?aS ?aL ?_; (case aP => exact rfl); (case aB => exact (Bq)); (case aF => exact (fun _ _ => trivial)); (case aO => exact (Rz HO_4.out)); (case aS => exact (below_size (w := w) (Bq))); (case aL => have := LMc23.out; omega); intro v181 w25 ho hb hg hat; rw [← Ny180.out] at ho; have n0_ := am (blk_grown (g := gb174) (o := .cells #[.int .i64 a0_0, .slice (some ad176) l0_1.length c0_1, .slice (some ad178) l0_2.length c0_2] 26 (0, 0)) (Kz BK174.out) hg (Kd.R_ne HO_4.out BK174.out (by decide))); have n1_ := am (hb); have n2_ := am (ho); clear BK174 HB HO_4; revert n0_ n1_ n2_; intro BK174 HB HO182; clear ho hb hg hat)); try go_wp2_with (first | (go_at_call 39; (with_reducible refine (spec_l1In.calls (rd l0_1 x31_2) 0 (x5_2.size : Int) true _ A15.out).mono ?_); rintro e w' ⟨rfl, ⟨nd, rfl⟩⟩; (try exact yZ); obtain ⟨hcz24_0, hcz24_1, hcz24_2, hfz24_0, hfz24_1, hfz24_2⟩ := cf3 (w := wr) BK174; have p178 : 0 ≤ (x31_2 : Int) := dT; have q178 : x31_2 < (l0_2.length : Int) := dT; obtain ⟨ad178, e178, hx178_0⟩ := Kd.at_string HR0_2.out x31_2 p178 q178; cases e178; replace hx178_0 := (HB.out.cell (World.block_lt_of_cell? w _ hx178_0)).trans hx178_0; replace p178 := eq_true p178; replace q178 := eq_true q178; have p179 : 0 ≤ (x31_2 : Int) := dT; have q179 : x31_2 < (l0_2.length : Int) := dT; obtain ⟨ad179, e179, hx179_0⟩ := Kd.at_string HR0_2.out x31_2 p179 q179; obtain rfl : ad178 = ad179 := (by injection e179); replace hx179_0 := (HB.out.cell (World.block_lt_of_cell? w _ hx179_0)).trans hx179_0; replace p179 := eq_true p179; replace q179 := eq_true q179) | ((with_reducible refine gate_builtin (b := .append) (xs := #[.tmp 59, .tmp 61]) rfl ?_); (try (refine gate_guard (by rfl) ?_; dsimp only)); at_builtin; refine Kd.R_append Kd.string (w0 := w) w.heap.size rfl (.tmp 59) (.tmp 61) 22 9 (.string ⟨#[]⟩) 16 rfl Try.underlying22 info9 rfl (by decide) (by omega) u4 x4_2 ((x5_2.extract 0 ((rd l0_1 x31_2) : Int).toNat) ++ (rdOf ByteArray.empty l0_2 x31_2)) [.string ((x5_2.extract 0 ((rd l0_1 x31_2) : Int).toNat) ++ (rdOf ByteArray.empty l0_2 x31_2))] (fun _ => True) (fun _ => False) rfl rfl ?aP (fun _ hk => hk.elim) ?aF ?aO ?aB ?aS ?aL ?_; (case aP => exact rfl); (case aB => exact (Bq)); (case aF => exact (fun _ _ => trivial)); (case aO => exact (Rz HO_4.out)); (case aS => exact (below_size (w := w) (Bq))); (case aL => have := LMc23.out; omega); intro v181 w25 ho hb hg hat; rw [← Ny180.out] at ho; have n0_ := am (blk_grown (g := gb174) (o := .cells #[.int .i64 a0_0, .slice (some ad176) l0_1.length c0_1, .slice (some ad178) l0_2.length c0_2] 26 (0, 0)) (Kz BK174.out) hg (Kd.R_ne HO_4.out BK174.out (by decide))); have n1_ := am (hb); have n2_ := am (ho); clear BK174 HB HO_4; revert n0_ n1_ n2_; intro BK174 HB HO182; clear ho hb hg hat)))
                go_roundg k2
                case measure => have := HJ1.out; have := HK2.out; omega
                case rel => exact ⟨(y180), ((x5_2.extract 0 ((rd l0_1 x31_2) : Int).toNat) ++ (rdOf ByteArray.empty l0_2 x31_2)), (wrap64 (x31_2 + 1)), wZ, wZ, H', ⟨by have := HJ1.out; have := HK2.out; omega⟩, ⟨Rz HO182.out⟩, ⟨Kz BK174.out⟩, ⟨Bq⟩⟩
               ·rw [if_neg c23] at H
                exact absurd H (by simp)
              ·rw [if_neg c22] at H
               exact absurd H (by simp)
             ·rw [if_neg c21] at H
              exact absurd H (by simp)
            ·rw [if_neg c20] at H
             exact absurd H (by simp)
          ·rw [if_neg c17] at H
           exact absurd H (by simp)
         ·replace c16 := Bool.eq_false_iff.mpr c16
          subst c16
          rw [if_neg (show ¬ (false = true) by decide)] at H
          simp only [Option.some.injEq, Prod.mk.injEq] at H
          obtain ⟨rfl, rfl⟩ := H; have p176 : 0 ≤ (x31_2 : Int) := dT; have q176 : x31_2 < (l0_1.length : Int) := dT; obtain ⟨ad176, e176, hx176_0⟩ := Kd.at_int HR0_1.out x31_2 p176 q176; cases e176; replace hx176_0 := (HB.out.cell (World.block_lt_of_cell? w _ hx176_0)).trans hx176_0; replace p176 := eq_true p176; replace q176 := eq_true q176
          go_wp2_with (first | (go_at_call 39; (with_reducible refine (spec_l1In.calls (rd l0_1 x31_2) 0 (x5_2.size : Int) false _ A15.out).mono ?_); rintro e w' ⟨rfl, ⟨nd, rfl⟩⟩; (try exact yZ)))
          repeat (go_quiet (first | (go_at_call 39; (with_reducible refine (spec_l1In.calls (rd l0_1 x31_2) 0 (x5_2.size : Int) false _ A15.out).mono ?_); rintro e w' ⟨rfl, ⟨nd, rfl⟩⟩; (try exact yZ))); try go_wp2_with (first | (go_at_call 39; (with_reducible refine (spec_l1In.calls (rd l0_1 x31_2) 0 (x5_2.size : Int) false _ A15.out).mono ?_); rintro e w' ⟨rfl, ⟨nd, rfl⟩⟩; (try exact yZ))))
          go_ret2
          exact ⟨_, eZ, nZ, Bq⟩
        ·rw [if_neg c14] at H
         exact absurd H (by simp)
       ·rw [if_neg c13] at H
        exact absurd H (by simp)
      ·rw [if_neg c12] at H
       have c12b0 : decide (x31_2 < (l0_1.length : Int)) = false := decide_eq_false c12; clear c12; obtain ⟨t183, A26, H⟩ := ob H; (try dsimp -simprocs only at H)
       by_cases c27 : t183 = true
       ·subst c27
        rw [if_pos rfl] at H; obtain ⟨⟨t184, t185, t188⟩, A28, H⟩ := ob H; (try dsimp -simprocs only at H); obtain ⟨t192, A29, H⟩ := ob H; (try dsimp -simprocs only at H)
        by_cases c30 : t192 = true
        ·subst c30
         rw [if_pos rfl] at H; obtain ⟨t193, A31, H⟩ := ob H; (try dsimp -simprocs only at H)
         simp only [Option.some.injEq, Prod.mk.injEq] at H
         obtain ⟨rfl, rfl⟩ := H; obtain ⟨Ao32, co32, eo32⟩ := Kd.R_slice HO_4.out; subst eo32
         go_wp2_with (first | (go_at_call 38; (with_reducible refine (spec_biKeys.calls k2 _ _ x4_2 true _ ?side1 ?side2 A26.out).mono ?_); (case side1 => exact Cz ((Kd.R_reads' HO_4.out).2.2)); (case side2 => exact (Kd.R_reads' HO_4.out).2.1); rintro e w' ⟨rfl, ⟨nd, rfl⟩⟩; (try exact yZ); obtain ⟨hcz33_0, hcz33_1, hcz33_2, hfz33_0, hfz33_1, hfz33_2⟩ := cf3 (w := wr) BK174) | (go_at_call 40; (with_reducible refine (spec_trFront.calls k2 _ _ x4_2 a0_0 t184 t185 t188 _ ?side1 ?side2 A28.out).mono ?_); (case side1 => exact Cz ((Kd.R_reads' HO_4.out).2.2)); (case side2 => exact (Kd.R_reads' HO_4.out).2.1); rintro e w34 ⟨v186, v189, rfl, ho0, ho1, hb⟩; have n0_ := Re HO_4 (Kd.R_base ho1) hb; have n1_ := Rm ho0 HB; have n2_ := Rm (Kd.R_new' ho1 (Kd.R_lt (Rz HO_4.out))) HB; have n3_ := Kb BK174 hb; have n4_ := Bc HB hb; clear HO_4 BK174 HB; revert n0_ n1_ n2_ n3_ n4_; intro HO_4 HO187 HO190 BK174 HB; (try clear hb); (try clear hb2); (try clear hk); (try clear hi); (try clear ho0); (try clear ho1)) | ((with_reducible refine gate_dst (N := 8) rfl ?_); (try (refine gate_guard (by rfl) ?_; dsimp only)); refine bE 8 #[.int .i64 0, .slice none 0 0, .slice none 0 0] 26 ?_; intro gb191 hg w35 hbox hb; have n0_ := Rb HO_4 hb; have n1_ := Rb HO187 hb; have n2_ := Rb HO190 hb; have n3_ := Kb BK174 hb; have n4_ := Bc HB hb; have n5_ := am (hbox); have n6_ := Gm HB hg; have n7_ := Gm HB hg; have n8_ := Nl BK174 hg; have n9_ := Ng BK174 hg; clear HO_4 HO187 HO190 BK174 HB; revert n0_ n1_ n2_ n3_ n4_ n5_ n6_ n7_ n8_ n9_; intro HO_4 HO187 HO190 BK174 HB BK191 GW191 GE191 NB174_191 NB191_174; clear hb hbox hg; have hnb36 := NB191_174.out; have hnc36 := NB174_191.out; obtain ⟨hcz37_0, hcz37_1, hcz37_2, hfz37_0, hfz37_1, hfz37_2⟩ := cf3 (w := w35) BK191; obtain ⟨Ao38, co38, eo38⟩ := Kd.R_slice HO187.out; subst eo38; obtain ⟨Ao39, co39, eo39⟩ := Kd.R_slice HO190.out; subst eo39; obtain ⟨hcz40_0, hcz40_1, hcz40_2, hfz40_0, hfz40_1, hfz40_2⟩ := cf3 (w := w35) BK174) | (go_at_call 67; (with_reducible refine (spec_l1Same.calls k2 _ _ l0_1 _ _ t185 true _ ?side1 ?side2 ?side3 ?side4 A29.out).mono ?_); (case side1 => exact Kd.C_below HR0_1.out (Bq)); (case side2 => exact HC0_1.out); (case side3 => refine (Kd.R_reads' (e := 3) (base := w.heap.size) (ok := fun k_ => True) (n := t185.length) (c := co38) ?_).2.2; exact (Rz (Kd.R_mono (Kd.R_far (p := ⟨gb191, 2, none⟩) (Kd.R_far (p := ⟨gb191, 1, none⟩) (Kd.R_far (p := ⟨gb191, 0, none⟩) (Kd.R_types HO187.out BK191.out (by decide)) (fun _ hk => hk.2) (.int .i64 t184)) (fun _ hk => hk.2) (.slice Ao38 t185.length co38)) (fun _ hk => hk.2) (.slice Ao39 t188.length co39)) (fun _ h_ => h_.1)))); (case side4 => exact (Kd.R_reads' HO187.out).2.1); rintro e w' ⟨rfl, ⟨nd, rfl⟩⟩; (try exact yZ)) | (go_at_call 68; (with_reducible refine (spec_l1SameS.calls k2 _ _ l0_2 _ _ t188 t193 _ ?side1 ?side2 ?side3 ?side4 A31.out).mono ?_); (case side1 => exact Kd.C_below HR0_2.out (Bq)); (case side2 => exact HC0_2.out); (case side3 => refine (Kd.R_reads' (e := 9) (base := w.heap.size) (ok := fun k_ => (True ∧ some k_ ≠ (.slice Ao32 x4_2.length co32 : Value).ownBlock)) (n := t188.length) (c := co39) ?_).2.2; exact (Rz (Kd.R_mono (Kd.R_far (p := ⟨gb191, 2, none⟩) (Kd.R_far (p := ⟨gb191, 1, none⟩) (Kd.R_far (p := ⟨gb191, 0, none⟩) (Kd.R_types HO190.out BK191.out (by decide)) (fun _ hk => hk.2) (.int .i64 t184)) (fun _ hk => hk.2) (.slice Ao38 t185.length co38)) (fun _ hk => hk.2) (.slice Ao39 t188.length co39)) (fun _ h_ => h_.1)))); (case side4 => exact (Kd.R_reads' HO190.out).2.1); rintro e w' ⟨rfl, ⟨nd, rfl⟩⟩; (try exact yZ)))
         repeat (go_quiet (first | (go_at_call 38; (with_reducible refine (spec_biKeys.calls k2 _ _ x4_2 true _ ?side1 ?side2 A26.out).mono ?_); (case side1 => exact Cz ((Kd.R_reads' HO_4.out).2.2)); (case side2 => exact (Kd.R_reads' HO_4.out).2.1); rintro e w' ⟨rfl, ⟨nd, rfl⟩⟩; (try exact yZ); obtain ⟨hcz33_0, hcz33_1, hcz33_2, hfz33_0, hfz33_1, hfz33_2⟩ := cf3 (w := wr) BK174) | (go_at_call 40; (with_reducible refine (spec_trFront.calls k2 _ _ x4_2 a0_0 t184 t185 t188 _ ?side1 ?side2 A28.out).mono ?_); (case side1 => exact Cz ((Kd.R_reads' HO_4.out).2.2)); (case side2 => exact (Kd.R_reads' HO_4.out).2.1); rintro e w34 ⟨v186, v189, rfl, ho0, ho1, hb⟩; have n0_ := Re HO_4 (Kd.R_base ho1) hb; have n1_ := Rm ho0 HB; have n2_ := Rm (Kd.R_new' ho1 (Kd.R_lt (Rz HO_4.out))) HB; have n3_ := Kb BK174 hb; have n4_ := Bc HB hb; clear HO_4 BK174 HB; revert n0_ n1_ n2_ n3_ n4_; intro HO_4 HO187 HO190 BK174 HB; (try clear hb); (try clear hb2); (try clear hk); (try clear hi); (try clear ho0); (try clear ho1)) | ((with_reducible refine gate_dst (N := 8) rfl ?_); (try (refine gate_guard (by rfl) ?_; dsimp only)); refine bE 8 #[.int .i64 0, .slice none 0 0, .slice none 0 0] 26 ?_; intro gb191 hg w35 hbox hb; have n0_ := Rb HO_4 hb; have n1_ := Rb HO187 hb; have n2_ := Rb HO190 hb; have n3_ := Kb BK174 hb; have n4_ := Bc HB hb; have n5_ := am (hbox); have n6_ := Gm HB hg; have n7_ := Gm HB hg; have n8_ := Nl BK174 hg; have n9_ := Ng BK174 hg; clear HO_4 HO187 HO190 BK174 HB; revert n0_ n1_ n2_ n3_ n4_ n5_ n6_ n7_ n8_ n9_; intro HO_4 HO187 HO190 BK174 HB BK191 GW191 GE191 NB174_191 NB191_174; clear hb hbox hg; have hnb36 := NB191_174.out; have hnc36 := NB174_191.out; obtain ⟨hcz37_0, hcz37_1, hcz37_2, hfz37_0, hfz37_1, hfz37_2⟩ := cf3 (w := w35) BK191; obtain ⟨Ao38, co38, eo38⟩ := Kd.R_slice HO187.out; subst eo38; obtain ⟨Ao39, co39, eo39⟩ := Kd.R_slice HO190.out; subst eo39; obtain ⟨hcz40_0, hcz40_1, hcz40_2, hfz40_0, hfz40_1, hfz40_2⟩ := cf3 (w := w35) BK174) | (go_at_call 67; (with_reducible refine (spec_l1Same.calls k2 _ _ l0_1 _ _ t185 true _ ?side1 ?side2 ?side3 ?side4 A29.out).mono ?_); (case side1 => exact Kd.C_below HR0_1.out (Bq)); (case side2 => exact HC0_1.out); (case side3 => refine (Kd.R_reads' (e := 3) (base := w.heap.size) (ok := fun k_ => True) (n := t185.length) (c := co38) ?_).2.2; exact (Rz (Kd.R_mono (Kd.R_far (p := ⟨gb191, 2, none⟩) (Kd.R_far (p := ⟨gb191, 1, none⟩) (Kd.R_far (p := ⟨gb191, 0, none⟩) (Kd.R_types HO187.out BK191.out (by decide)) (fun _ hk => hk.2) (.int .i64 t184)) (fun _ hk => hk.2) (.slice Ao38 t185.length co38)) (fun _ hk => hk.2) (.slice Ao39 t188.length co39)) (fun _ h_ => h_.1)))); (case side4 => exact (Kd.R_reads' HO187.out).2.1); rintro e w' ⟨rfl, ⟨nd, rfl⟩⟩; (try exact yZ)) | (go_at_call 68; (with_reducible refine (spec_l1SameS.calls k2 _ _ l0_2 _ _ t188 t193 _ ?side1 ?side2 ?side3 ?side4 A31.out).mono ?_); (case side1 => exact Kd.C_below HR0_2.out (Bq)); (case side2 => exact HC0_2.out); (case side3 => refine (Kd.R_reads' (e := 9) (base := w.heap.size) (ok := fun k_ => (True ∧ some k_ ≠ (.slice Ao32 x4_2.length co32 : Value).ownBlock)) (n := t188.length) (c := co39) ?_).2.2; exact (Rz (Kd.R_mono (Kd.R_far (p := ⟨gb191, 2, none⟩) (Kd.R_far (p := ⟨gb191, 1, none⟩) (Kd.R_far (p := ⟨gb191, 0, none⟩) (Kd.R_types HO190.out BK191.out (by decide)) (fun _ hk => hk.2) (.int .i64 t184)) (fun _ hk => hk.2) (.slice Ao38 t185.length co38)) (fun _ hk => hk.2) (.slice Ao39 t188.length co39)) (fun _ h_ => h_.1)))); (case side4 => exact (Kd.R_reads' HO190.out).2.1); rintro e w' ⟨rfl, ⟨nd, rfl⟩⟩; (try exact yZ))); try go_wp2_with (first | (go_at_call 38; (with_reducible refine (spec_biKeys.calls k2 _ _ x4_2 true _ ?side1 ?side2 A26.out).mono ?_); (case side1 => exact Cz ((Kd.R_reads' HO_4.out).2.2)); (case side2 => exact (Kd.R_reads' HO_4.out).2.1); rintro e w' ⟨rfl, ⟨nd, rfl⟩⟩; (try exact yZ); obtain ⟨hcz33_0, hcz33_1, hcz33_2, hfz33_0, hfz33_1, hfz33_2⟩ := cf3 (w := wr) BK174) | (go_at_call 40; (with_reducible refine (spec_trFront.calls k2 _ _ x4_2 a0_0 t184 t185 t188 _ ?side1 ?side2 A28.out).mono ?_); (case side1 => exact Cz ((Kd.R_reads' HO_4.out).2.2)); (case side2 => exact (Kd.R_reads' HO_4.out).2.1); rintro e w34 ⟨v186, v189, rfl, ho0, ho1, hb⟩; have n0_ := Re HO_4 (Kd.R_base ho1) hb; have n1_ := Rm ho0 HB; have n2_ := Rm (Kd.R_new' ho1 (Kd.R_lt (Rz HO_4.out))) HB; have n3_ := Kb BK174 hb; have n4_ := Bc HB hb; clear HO_4 BK174 HB; revert n0_ n1_ n2_ n3_ n4_; intro HO_4 HO187 HO190 BK174 HB; (try clear hb); (try clear hb2); (try clear hk); (try clear hi); (try clear ho0); (try clear ho1)) | ((with_reducible refine gate_dst (N := 8) rfl ?_); (try (refine gate_guard (by rfl) ?_; dsimp only)); refine bE 8 #[.int .i64 0, .slice none 0 0, .slice none 0 0] 26 ?_; intro gb191 hg w35 hbox hb; have n0_ := Rb HO_4 hb; have n1_ := Rb HO187 hb; have n2_ := Rb HO190 hb; have n3_ := Kb BK174 hb; have n4_ := Bc HB hb; have n5_ := am (hbox); have n6_ := Gm HB hg; have n7_ := Gm HB hg; have n8_ := Nl BK174 hg; have n9_ := Ng BK174 hg; clear HO_4 HO187 HO190 BK174 HB; revert n0_ n1_ n2_ n3_ n4_ n5_ n6_ n7_ n8_ n9_; intro HO_4 HO187 HO190 BK174 HB BK191 GW191 GE191 NB174_191 NB191_174; clear hb hbox hg; have hnb36 := NB191_174.out; have hnc36 := NB174_191.out; obtain ⟨hcz37_0, hcz37_1, hcz37_2, hfz37_0, hfz37_1, hfz37_2⟩ := cf3 (w := w35) BK191; obtain ⟨Ao38, co38, eo38⟩ := Kd.R_slice HO187.out; subst eo38; obtain ⟨Ao39, co39, eo39⟩ := Kd.R_slice HO190.out; subst eo39; obtain ⟨hcz40_0, hcz40_1, hcz40_2, hfz40_0, hfz40_1, hfz40_2⟩ := cf3 (w := w35) BK174) | (go_at_call 67; (with_reducible refine (spec_l1Same.calls k2 _ _ l0_1 _ _ t185 true _ ?side1 ?side2 ?side3 ?side4 A29.out).mono ?_); (case side1 => exact Kd.C_below HR0_1.out (Bq)); (case side2 => exact HC0_1.out); (case side3 => refine (Kd.R_reads' (e := 3) (base := w.heap.size) (ok := fun k_ => True) (n := t185.length) (c := co38) ?_).2.2; exact (Rz (Kd.R_mono (Kd.R_far (p := ⟨gb191, 2, none⟩) (Kd.R_far (p := ⟨gb191, 1, none⟩) (Kd.R_far (p := ⟨gb191, 0, none⟩) (Kd.R_types HO187.out BK191.out (by decide)) (fun _ hk => hk.2) (.int .i64 t184)) (fun _ hk => hk.2) (.slice Ao38 t185.length co38)) (fun _ hk => hk.2) (.slice Ao39 t188.length co39)) (fun _ h_ => h_.1)))); (case side4 => exact (Kd.R_reads' HO187.out).2.1); rintro e w' ⟨rfl, ⟨nd, rfl⟩⟩; (try exact yZ)) | (go_at_call 68; (with_reducible refine (spec_l1SameS.calls k2 _ _ l0_2 _ _ t188 t193 _ ?side1 ?side2 ?side3 ?side4 A31.out).mono ?_); (case side1 => exact Kd.C_below HR0_2.out (Bq)); (case side2 => exact HC0_2.out); (case side3 => refine (Kd.R_reads' (e := 9) (base := w.heap.size) (ok := fun k_ => (True ∧ some k_ ≠ (.slice Ao32 x4_2.length co32 : Value).ownBlock)) (n := t188.length) (c := co39) ?_).2.2; exact (Rz (Kd.R_mono (Kd.R_far (p := ⟨gb191, 2, none⟩) (Kd.R_far (p := ⟨gb191, 1, none⟩) (Kd.R_far (p := ⟨gb191, 0, none⟩) (Kd.R_types HO190.out BK191.out (by decide)) (fun _ hk => hk.2) (.int .i64 t184)) (fun _ hk => hk.2) (.slice Ao38 t185.length co38)) (fun _ hk => hk.2) (.slice Ao39 t188.length co39)) (fun _ h_ => h_.1)))); (case side4 => exact (Kd.R_reads' HO190.out).2.1); rintro e w' ⟨rfl, ⟨nd, rfl⟩⟩; (try exact yZ))))
         go_ret2
         exact ⟨_, eZ, Rz (Kd.R_mono (Kd.R_far (p := ⟨gb191, 2, none⟩) (Kd.R_far (p := ⟨gb191, 1, none⟩) (Kd.R_far (p := ⟨gb191, 0, none⟩) (Kd.R_types HO_4.out BK191.out (by decide)) (fun _ hk => hk.2) (.int .i64 t184)) (fun _ hk => hk.2) (.slice Ao38 t185.length co38)) (fun _ hk => hk.2) (.slice Ao39 t188.length co39)) (fun _ hk => trivial)), Bq⟩
        ·replace c30 := Bool.eq_false_iff.mpr c30
         subst c30
         rw [if_neg (show ¬ (false = true) by decide)] at H
         simp only [Option.some.injEq, Prod.mk.injEq] at H
         obtain ⟨rfl, rfl⟩ := H; obtain ⟨Ao41, co41, eo41⟩ := Kd.R_slice HO_4.out; subst eo41
         go_wp2_with (first | (go_at_call 38; (with_reducible refine (spec_biKeys.calls k2 _ _ x4_2 true _ ?side1 ?side2 A26.out).mono ?_); (case side1 => exact Cz ((Kd.R_reads' HO_4.out).2.2)); (case side2 => exact (Kd.R_reads' HO_4.out).2.1); rintro e w' ⟨rfl, ⟨nd, rfl⟩⟩; (try exact yZ); obtain ⟨hcz42_0, hcz42_1, hcz42_2, hfz42_0, hfz42_1, hfz42_2⟩ := cf3 (w := wr) BK174) | (go_at_call 40; (with_reducible refine (spec_trFront.calls k2 _ _ x4_2 a0_0 t184 t185 t188 _ ?side1 ?side2 A28.out).mono ?_); (case side1 => exact Cz ((Kd.R_reads' HO_4.out).2.2)); (case side2 => exact (Kd.R_reads' HO_4.out).2.1); rintro e w43 ⟨v186, v189, rfl, ho0, ho1, hb⟩; have n0_ := Re HO_4 (Kd.R_base ho1) hb; have n1_ := Rm ho0 HB; have n2_ := Rm (Kd.R_new' ho1 (Kd.R_lt (Rz HO_4.out))) HB; have n3_ := Kb BK174 hb; have n4_ := Bc HB hb; clear HO_4 BK174 HB; revert n0_ n1_ n2_ n3_ n4_; intro HO_4 HO187 HO190 BK174 HB; (try clear hb); (try clear hb2); (try clear hk); (try clear hi); (try clear ho0); (try clear ho1)) | ((with_reducible refine gate_dst (N := 8) rfl ?_); (try (refine gate_guard (by rfl) ?_; dsimp only)); refine bE 8 #[.int .i64 0, .slice none 0 0, .slice none 0 0] 26 ?_; intro gb191 hg w44 hbox hb; have n0_ := Rb HO_4 hb; have n1_ := Rb HO187 hb; have n2_ := Rb HO190 hb; have n3_ := Kb BK174 hb; have n4_ := Bc HB hb; have n5_ := am (hbox); have n6_ := Gm HB hg; have n7_ := Gm HB hg; have n8_ := Nl BK174 hg; have n9_ := Ng BK174 hg; clear HO_4 HO187 HO190 BK174 HB; revert n0_ n1_ n2_ n3_ n4_ n5_ n6_ n7_ n8_ n9_; intro HO_4 HO187 HO190 BK174 HB BK191 GW191 GE191 NB174_191 NB191_174; clear hb hbox hg; have hnb45 := NB191_174.out; have hnc45 := NB174_191.out; obtain ⟨hcz46_0, hcz46_1, hcz46_2, hfz46_0, hfz46_1, hfz46_2⟩ := cf3 (w := w44) BK191; obtain ⟨Ao47, co47, eo47⟩ := Kd.R_slice HO187.out; subst eo47; obtain ⟨Ao48, co48, eo48⟩ := Kd.R_slice HO190.out; subst eo48; obtain ⟨hcz49_0, hcz49_1, hcz49_2, hfz49_0, hfz49_1, hfz49_2⟩ := cf3 (w := w44) BK174) | (go_at_call 67; (with_reducible refine (spec_l1Same.calls k2 _ _ l0_1 _ _ t185 false _ ?side1 ?side2 ?side3 ?side4 A29.out).mono ?_); (case side1 => exact Kd.C_below HR0_1.out (Bq)); (case side2 => exact HC0_1.out); (case side3 => refine (Kd.R_reads' (e := 3) (base := w.heap.size) (ok := fun k_ => True) (n := t185.length) (c := co47) ?_).2.2; exact (Rz (Kd.R_mono (Kd.R_far (p := ⟨gb191, 2, none⟩) (Kd.R_far (p := ⟨gb191, 1, none⟩) (Kd.R_far (p := ⟨gb191, 0, none⟩) (Kd.R_types HO187.out BK191.out (by decide)) (fun _ hk => hk.2) (.int .i64 t184)) (fun _ hk => hk.2) (.slice Ao47 t185.length co47)) (fun _ hk => hk.2) (.slice Ao48 t188.length co48)) (fun _ h_ => h_.1)))); (case side4 => exact (Kd.R_reads' HO187.out).2.1); rintro e w' ⟨rfl, ⟨nd, rfl⟩⟩; (try exact yZ)))
         repeat (go_quiet (first | (go_at_call 38; (with_reducible refine (spec_biKeys.calls k2 _ _ x4_2 true _ ?side1 ?side2 A26.out).mono ?_); (case side1 => exact Cz ((Kd.R_reads' HO_4.out).2.2)); (case side2 => exact (Kd.R_reads' HO_4.out).2.1); rintro e w' ⟨rfl, ⟨nd, rfl⟩⟩; (try exact yZ); obtain ⟨hcz42_0, hcz42_1, hcz42_2, hfz42_0, hfz42_1, hfz42_2⟩ := cf3 (w := wr) BK174) | (go_at_call 40; (with_reducible refine (spec_trFront.calls k2 _ _ x4_2 a0_0 t184 t185 t188 _ ?side1 ?side2 A28.out).mono ?_); (case side1 => exact Cz ((Kd.R_reads' HO_4.out).2.2)); (case side2 => exact (Kd.R_reads' HO_4.out).2.1); rintro e w43 ⟨v186, v189, rfl, ho0, ho1, hb⟩; have n0_ := Re HO_4 (Kd.R_base ho1) hb; have n1_ := Rm ho0 HB; have n2_ := Rm (Kd.R_new' ho1 (Kd.R_lt (Rz HO_4.out))) HB; have n3_ := Kb BK174 hb; have n4_ := Bc HB hb; clear HO_4 BK174 HB; revert n0_ n1_ n2_ n3_ n4_; intro HO_4 HO187 HO190 BK174 HB; (try clear hb); (try clear hb2); (try clear hk); (try clear hi); (try clear ho0); (try clear ho1)) | ((with_reducible refine gate_dst (N := 8) rfl ?_); (try (refine gate_guard (by rfl) ?_; dsimp only)); refine bE 8 #[.int .i64 0, .slice none 0 0, .slice none 0 0] 26 ?_; intro gb191 hg w44 hbox hb; have n0_ := Rb HO_4 hb; have n1_ := Rb HO187 hb; have n2_ := Rb HO190 hb; have n3_ := Kb BK174 hb; have n4_ := Bc HB hb; have n5_ := am (hbox); have n6_ := Gm HB hg; have n7_ := Gm HB hg; have n8_ := Nl BK174 hg; have n9_ := Ng BK174 hg; clear HO_4 HO187 HO190 BK174 HB; revert n0_ n1_ n2_ n3_ n4_ n5_ n6_ n7_ n8_ n9_; intro HO_4 HO187 HO190 BK174 HB BK191 GW191 GE191 NB174_191 NB191_174; clear hb hbox hg; have hnb45 := NB191_174.out; have hnc45 := NB174_191.out; obtain ⟨hcz46_0, hcz46_1, hcz46_2, hfz46_0, hfz46_1, hfz46_2⟩ := cf3 (w := w44) BK191; obtain ⟨Ao47, co47, eo47⟩ := Kd.R_slice HO187.out; subst eo47; obtain ⟨Ao48, co48, eo48⟩ := Kd.R_slice HO190.out; subst eo48; obtain ⟨hcz49_0, hcz49_1, hcz49_2, hfz49_0, hfz49_1, hfz49_2⟩ := cf3 (w := w44) BK174) | (go_at_call 67; (with_reducible refine (spec_l1Same.calls k2 _ _ l0_1 _ _ t185 false _ ?side1 ?side2 ?side3 ?side4 A29.out).mono ?_); (case side1 => exact Kd.C_below HR0_1.out (Bq)); (case side2 => exact HC0_1.out); (case side3 => refine (Kd.R_reads' (e := 3) (base := w.heap.size) (ok := fun k_ => True) (n := t185.length) (c := co47) ?_).2.2; exact (Rz (Kd.R_mono (Kd.R_far (p := ⟨gb191, 2, none⟩) (Kd.R_far (p := ⟨gb191, 1, none⟩) (Kd.R_far (p := ⟨gb191, 0, none⟩) (Kd.R_types HO187.out BK191.out (by decide)) (fun _ hk => hk.2) (.int .i64 t184)) (fun _ hk => hk.2) (.slice Ao47 t185.length co47)) (fun _ hk => hk.2) (.slice Ao48 t188.length co48)) (fun _ h_ => h_.1)))); (case side4 => exact (Kd.R_reads' HO187.out).2.1); rintro e w' ⟨rfl, ⟨nd, rfl⟩⟩; (try exact yZ))); try go_wp2_with (first | (go_at_call 38; (with_reducible refine (spec_biKeys.calls k2 _ _ x4_2 true _ ?side1 ?side2 A26.out).mono ?_); (case side1 => exact Cz ((Kd.R_reads' HO_4.out).2.2)); (case side2 => exact (Kd.R_reads' HO_4.out).2.1); rintro e w' ⟨rfl, ⟨nd, rfl⟩⟩; (try exact yZ); obtain ⟨hcz42_0, hcz42_1, hcz42_2, hfz42_0, hfz42_1, hfz42_2⟩ := cf3 (w := wr) BK174) | (go_at_call 40; (with_reducible refine (spec_trFront.calls k2 _ _ x4_2 a0_0 t184 t185 t188 _ ?side1 ?side2 A28.out).mono ?_); (case side1 => exact Cz ((Kd.R_reads' HO_4.out).2.2)); (case side2 => exact (Kd.R_reads' HO_4.out).2.1); rintro e w43 ⟨v186, v189, rfl, ho0, ho1, hb⟩; have n0_ := Re HO_4 (Kd.R_base ho1) hb; have n1_ := Rm ho0 HB; have n2_ := Rm (Kd.R_new' ho1 (Kd.R_lt (Rz HO_4.out))) HB; have n3_ := Kb BK174 hb; have n4_ := Bc HB hb; clear HO_4 BK174 HB; revert n0_ n1_ n2_ n3_ n4_; intro HO_4 HO187 HO190 BK174 HB; (try clear hb); (try clear hb2); (try clear hk); (try clear hi); (try clear ho0); (try clear ho1)) | ((with_reducible refine gate_dst (N := 8) rfl ?_); (try (refine gate_guard (by rfl) ?_; dsimp only)); refine bE 8 #[.int .i64 0, .slice none 0 0, .slice none 0 0] 26 ?_; intro gb191 hg w44 hbox hb; have n0_ := Rb HO_4 hb; have n1_ := Rb HO187 hb; have n2_ := Rb HO190 hb; have n3_ := Kb BK174 hb; have n4_ := Bc HB hb; have n5_ := am (hbox); have n6_ := Gm HB hg; have n7_ := Gm HB hg; have n8_ := Nl BK174 hg; have n9_ := Ng BK174 hg; clear HO_4 HO187 HO190 BK174 HB; revert n0_ n1_ n2_ n3_ n4_ n5_ n6_ n7_ n8_ n9_; intro HO_4 HO187 HO190 BK174 HB BK191 GW191 GE191 NB174_191 NB191_174; clear hb hbox hg; have hnb45 := NB191_174.out; have hnc45 := NB174_191.out; obtain ⟨hcz46_0, hcz46_1, hcz46_2, hfz46_0, hfz46_1, hfz46_2⟩ := cf3 (w := w44) BK191; obtain ⟨Ao47, co47, eo47⟩ := Kd.R_slice HO187.out; subst eo47; obtain ⟨Ao48, co48, eo48⟩ := Kd.R_slice HO190.out; subst eo48; obtain ⟨hcz49_0, hcz49_1, hcz49_2, hfz49_0, hfz49_1, hfz49_2⟩ := cf3 (w := w44) BK174) | (go_at_call 67; (with_reducible refine (spec_l1Same.calls k2 _ _ l0_1 _ _ t185 false _ ?side1 ?side2 ?side3 ?side4 A29.out).mono ?_); (case side1 => exact Kd.C_below HR0_1.out (Bq)); (case side2 => exact HC0_1.out); (case side3 => refine (Kd.R_reads' (e := 3) (base := w.heap.size) (ok := fun k_ => True) (n := t185.length) (c := co47) ?_).2.2; exact (Rz (Kd.R_mono (Kd.R_far (p := ⟨gb191, 2, none⟩) (Kd.R_far (p := ⟨gb191, 1, none⟩) (Kd.R_far (p := ⟨gb191, 0, none⟩) (Kd.R_types HO187.out BK191.out (by decide)) (fun _ hk => hk.2) (.int .i64 t184)) (fun _ hk => hk.2) (.slice Ao47 t185.length co47)) (fun _ hk => hk.2) (.slice Ao48 t188.length co48)) (fun _ h_ => h_.1)))); (case side4 => exact (Kd.R_reads' HO187.out).2.1); rintro e w' ⟨rfl, ⟨nd, rfl⟩⟩; (try exact yZ))))
         go_ret2
         exact ⟨_, eZ, Rz (Kd.R_mono (Kd.R_far (p := ⟨gb191, 2, none⟩) (Kd.R_far (p := ⟨gb191, 1, none⟩) (Kd.R_far (p := ⟨gb191, 0, none⟩) (Kd.R_types HO_4.out BK191.out (by decide)) (fun _ hk => hk.2) (.int .i64 t184)) (fun _ hk => hk.2) (.slice Ao47 t185.length co47)) (fun _ hk => hk.2) (.slice Ao48 t188.length co48)) (fun _ hk => trivial)), Bq⟩
       ·replace c27 := Bool.eq_false_iff.mpr c27
        subst c27
        rw [if_neg (show ¬ (false = true) by decide)] at H
        simp only [Option.some.injEq, Prod.mk.injEq] at H
        obtain ⟨rfl, rfl⟩ := H; obtain ⟨Ao50, co50, eo50⟩ := Kd.R_slice HO_4.out; subst eo50
        go_wp2_with (first | (go_at_call 38; (with_reducible refine (spec_biKeys.calls k2 _ _ x4_2 false _ ?side1 ?side2 A26.out).mono ?_); (case side1 => exact Cz ((Kd.R_reads' HO_4.out).2.2)); (case side2 => exact (Kd.R_reads' HO_4.out).2.1); rintro e w' ⟨rfl, ⟨nd, rfl⟩⟩; (try exact yZ)))
        repeat (go_quiet (first | (go_at_call 38; (with_reducible refine (spec_biKeys.calls k2 _ _ x4_2 false _ ?side1 ?side2 A26.out).mono ?_); (case side1 => exact Cz ((Kd.R_reads' HO_4.out).2.2)); (case side2 => exact (Kd.R_reads' HO_4.out).2.1); rintro e w' ⟨rfl, ⟨nd, rfl⟩⟩; (try exact yZ))); try go_wp2_with (first | (go_at_call 38; (with_reducible refine (spec_biKeys.calls k2 _ _ x4_2 false _ ?side1 ?side2 A26.out).mono ?_); (case side1 => exact Cz ((Kd.R_reads' HO_4.out).2.2)); (case side2 => exact (Kd.R_reads' HO_4.out).2.1); rintro e w' ⟨rfl, ⟨nd, rfl⟩⟩; (try exact yZ))))
        go_ret2
        exact ⟨_, eZ, nZ, Bq⟩

def spec_l1PutS.l0 : Nat → List ByteArray → ByteArray → Int → Option (List ByteArray)
 | 0, _, _, _ => none
 | k + 1, x0, x1, x5 => if x5 < (x0.length : Int) then (if 0 ≤ x5 then (if (Op.bytesLess ((rdOf ByteArray.empty x0 x5).toList) x1.toList) = true then (spec_l1PutS.l0 k x0 x1 (wrap64 (x5 + 1))) else (if (rdOf ByteArray.empty x0 x5).toList = x1.toList then (some x0) else ((some (([] : List ByteArray) : List ByteArray)).bind fun y196 => (if x5 ≤ (x0.length : Int) then ((some (x0.take (x5 : Int).toNat : List ByteArray)).bind fun y199 => (if y196.length + y199.length < 8796093022208 then ((some (y196 ++ y199 : List ByteArray)).bind fun y203 => (if y203.length < 8796093022208 then ((some (y203 ++ [x1] : List ByteArray)).bind fun y206 => ((some (x0.drop (x5 : Int).toNat : List ByteArray)).bind fun y209 => (if y206.length + y209.length < 8796093022208 then (some (y206 ++ y209)) else (none)))) else (none))) else (none))) else (none))))) else (none)) else ((some (([] : List ByteArray) : List ByteArray)).bind fun y216 => (if 0 ≤ x5 then (if x5 ≤ (x0.length : Int) then ((some (x0.take (x5 : Int).toNat : List ByteArray)).bind fun y219 => (if y216.length + y219.length < 8796093022208 then ((some (y216 ++ y219 : List ByteArray)).bind fun y223 => (if y223.length < 8796093022208 then ((some (y223 ++ [x1] : List ByteArray)).bind fun y226 => ((some (x0.drop (x5 : Int).toNat : List ByteArray)).bind fun y229 => (if y226.length + y229.length < 8796093022208 then (some (y226 ++ y229)) else (none)))) else (none))) else (none))) else (none)) else (none)))
def spec_l1PutS.f (k : Nat) (l0 : List ByteArray) (a1 : ByteArray) : Option (List ByteArray) := spec_l1PutS.l0 k l0 a1 0
theorem spec_l1PutS.calls (k : Nat) (P0_ : Nat → Prop) (u9000_ : Value) (l0 : List ByteArray) (a1 : ByteArray) (r : List ByteArray) (w0 w : World) (hB : Below w0.heap.size w0 w) (ho0 : Kd.R Kd.string 9 w w0.heap.size P0_ u9000_ l0) (h : spec_l1PutS.f k l0 a1 = some r) :
  Calls Try.prog 57 #[u9000_, .string a1] w fun e w' => ∃ v0_ : Value, e = .returned (v0_) ∧ Kd.R Kd.string 9 w' w0.heap.size (fun k_ => (P0_ k_ ∨ w.heap.size ≤ k_)) v0_ r ∧ Below w0.heap.size w0 w' ∧ Kept w w' (fun k_ => P0_ k_) := by
 have HO0 := am (show Kd.R Kd.string 9 w w0.heap.size (fun k_ => (P0_ k_ ∨ w.heap.size ≤ k_)) u9000_ l0 from Kd.R_mono ho0 (fun k_ hk => (.inl hk))); have HK := am (Kept.refl w (fun k_ => P0_ k_)); have HW0 := am hB.size; have HB := am hB; clear hB; have H : (spec_l1PutS.l0 k l0 a1 0) = some r := h; clear h; have H' := am H; clear H
 go_enter Try.func57, Try.ntmps57
 go_wp2
 go_loopg [5] k (fun kq v5 w' => ∃ (x5_1 : Int), v5 = .int .i64 x5_1 ∧ Aside0 (spec_l1PutS.l0 kq l0 a1 x5_1 = some r) ∧ Aside0 (kq ≤ k) ∧ Aside0 (Kd.R Kd.string 9 w' w0.heap.size (fun k_ => (P0_ k_ ∨ w.heap.size ≤ k_)) u9000_ l0) ∧ Aside0 (Kept w w' (fun k_ => P0_ k_)) ∧ Aside0 (Below w0.heap.size w0 w'))
 case atStart => exact ⟨(0), wZ, H', ⟨Nat.le_refl _⟩, ⟨Rz HO0.out⟩, ⟨by repeat (first | (with_reducible first | exact HK.out | apply Kept.alloc | apply Kept.drewN | apply Kept.drew) | exact HK.out)⟩, ⟨Bz HB.out⟩⟩
 case round =>
  clear H'
  try clear p2
  obtain ⟨x5_1, rfl, HA, HK1, HO_0, HK, HB⟩ := hrel; cases gk with
  | zero => exact absurd HA.out (by simp [spec_l1PutS.l0])
  | succ k1 =>
   have H := HA.out; clear HA
   simp only [spec_l1PutS.l0] at H
   by_cases c3 : x5_1 < (l0.length : Int)
   ·rw [if_pos c3] at H
    have c3b0 : decide (x5_1 < (l0.length : Int)) = true := decide_eq_true c3; clear c3
    by_cases c4 : 0 ≤ x5_1
    ·rw [if_pos c4] at H
     have c4b0 : decide (0 ≤ x5_1) = true := decide_eq_true c4; clear c4
     by_cases c5 : (Op.bytesLess ((rdOf ByteArray.empty l0 x5_1).toList) a1.toList) = true
     ·rw [if_pos c5] at H
      have c5b0 : (Op.bytesLess ((rdOf ByteArray.empty l0 x5_1).toList) a1.toList) = true := c5; clear c5; have H' := am H; clear H; obtain ⟨Ao6, co6, eo6⟩ := Kd.R_slice HO_0.out; subst eo6; obtain ⟨ad194, e194, hx194_0⟩ := Kd.at_string (Kd.R_reads' HO_0.out).2.2 x5_1 dT dT; cases e194; have p194 := eT (0 ≤ (x5_1 : Int)); have q194 := eT (x5_1 < (l0.length : Int))
      go_wp2
      go_roundg k1
      case measure => have := HK1.out; omega
      case rel => exact ⟨(wrap64 (x5_1 + 1)), wZ, H', ⟨by have := HK1.out; omega⟩, ⟨Rz HO_0.out⟩, ⟨by repeat (first | (with_reducible first | exact HK.out | apply Kept.alloc | apply Kept.drewN | apply Kept.drew) | exact HK.out)⟩, ⟨Bz HB.out⟩⟩
     ·rw [if_neg c5] at H
      have c5b0 : (Op.bytesLess ((rdOf ByteArray.empty l0 x5_1).toList) a1.toList) = false := by simpa using c5
      clear c5
      by_cases c7 : (rdOf ByteArray.empty l0 x5_1).toList = a1.toList
      ·rw [if_pos c7] at H
       have c7b0 : ((rdOf ByteArray.empty l0 x5_1).toList == a1.toList) = true := beq_iff_eq.mpr c7; have c7b1 : ((rdOf ByteArray.empty l0 x5_1).toList != a1.toList) = false := bne_eq_false_iff_eq.mpr c7; clear c7; obtain rfl := Option.some.inj H; obtain ⟨Ao8, co8, eo8⟩ := Kd.R_slice HO_0.out; subst eo8; obtain ⟨ad194, e194, hx194_0⟩ := Kd.at_string (Kd.R_reads' HO_0.out).2.2 x5_1 dT dT; cases e194; have p194 := eT (0 ≤ (x5_1 : Int)); have q194 := eT (x5_1 < (l0.length : Int)); have p195 : 0 ≤ (x5_1 : Int) := dT; have q195 : x5_1 < (l0.length : Int) := dT; obtain ⟨ad195, e195, hx195_0⟩ := Kd.at_string (Kd.R_reads' HO_0.out).2.2 x5_1 p195 q195; obtain rfl : ad194 = ad195 := (by injection e195); replace p195 := eq_true p195; replace q195 := eq_true q195
       go_wp2
       go_ret
       exact ⟨_, eZ, Rz HO_0.out, Bz HB.out, by repeat (first | (with_reducible first | exact HK.out | apply Kept.alloc | apply Kept.drewN | apply Kept.drew) | exact HK.out)⟩
      ·rw [if_neg c7] at H
       have c7b0 : ((rdOf ByteArray.empty l0 x5_1).toList == a1.toList) = false := beq_eq_false_iff_ne.mpr c7; have c7b1 : ((rdOf ByteArray.empty l0 x5_1).toList != a1.toList) = true := bne_iff_ne.mpr c7; obtain ⟨y196, hy196⟩ : ∃ y_ : List ByteArray, y_ = (([] : List ByteArray)) := ⟨_, rfl⟩
       replace H : (if x5_1 ≤ (l0.length : Int) then ((some (l0.take (x5_1 : Int).toNat : List ByteArray)).bind fun y199 => (if y196.length + y199.length < 8796093022208 then ((some (y196 ++ y199 : List ByteArray)).bind fun y203 => (if y203.length < 8796093022208 then ((some (y203 ++ [a1] : List ByteArray)).bind fun y206 => ((some (l0.drop (x5_1 : Int).toNat : List ByteArray)).bind fun y209 => (if y206.length + y209.length < 8796093022208 then (some (y206 ++ y209)) else (none)))) else (none))) else (none))) else (none)) = some r := by first | (rw [hy196]; with_reducible exact H) | (have H2_ := (Option.bind_some _ _).symm.trans H; rw [hy196]; with_reducible exact H2_) | (have H2_ := (Option.bind_some _ _).symm.trans H; with_reducible exact H2_) | with_reducible exact H | (rw [hy196]; exact H) | exact H
       have Ny196 := am hy196; clear hy196; have c9b0 := eq_true (dT : 0 ≤ x5_1)
       by_cases c10 : x5_1 ≤ (l0.length : Int)
       ·rw [if_pos c10] at H
        have c10b0 := eq_true c10; have c10b1 : decide (x5_1 ≤ (l0.length : Int)) = true := decide_eq_true c10; clear c10; obtain ⟨y199, hy199⟩ : ∃ y_ : List ByteArray, y_ = (l0.take (x5_1 : Int).toNat) := ⟨_, rfl⟩
        replace H : (if y196.length + y199.length < 8796093022208 then ((some (y196 ++ y199 : List ByteArray)).bind fun y203 => (if y203.length < 8796093022208 then ((some (y203 ++ [a1] : List ByteArray)).bind fun y206 => ((some (l0.drop (x5_1 : Int).toNat : List ByteArray)).bind fun y209 => (if y206.length + y209.length < 8796093022208 then (some (y206 ++ y209)) else (none)))) else (none))) else (none)) = some r := by first | (rw [hy199]; with_reducible exact H) | (have H2_ := (Option.bind_some _ _).symm.trans H; rw [hy199]; with_reducible exact H2_) | (have H2_ := (Option.bind_some _ _).symm.trans H; with_reducible exact H2_) | with_reducible exact H | (rw [hy199]; exact H) | exact H
        have Ny199 := am hy199; clear hy199
        by_cases c11 : y196.length + y199.length < 8796093022208
        ·rw [if_pos c11] at H
         have LMc11 := am c11; clear c11; obtain ⟨y203, hy203⟩ : ∃ y_ : List ByteArray, y_ = (y196 ++ y199) := ⟨_, rfl⟩
         replace H : (if y203.length < 8796093022208 then ((some (y203 ++ [a1] : List ByteArray)).bind fun y206 => ((some (l0.drop (x5_1 : Int).toNat : List ByteArray)).bind fun y209 => (if y206.length + y209.length < 8796093022208 then (some (y206 ++ y209)) else (none)))) else (none)) = some r := by first | (rw [hy203]; with_reducible exact H) | (have H2_ := (Option.bind_some _ _).symm.trans H; rw [hy203]; with_reducible exact H2_) | (have H2_ := (Option.bind_some _ _).symm.trans H; with_reducible exact H2_) | with_reducible exact H | (rw [hy203]; exact H) | exact H
         have Ny203 := am hy203; clear hy203
         by_cases c12 : y203.length < 8796093022208
         ·rw [if_pos c12] at H
          have LMc12 := am c12; clear c12; obtain ⟨y206, hy206⟩ : ∃ y_ : List ByteArray, y_ = (y203 ++ [a1]) := ⟨_, rfl⟩
          replace H : ((some (l0.drop (x5_1 : Int).toNat : List ByteArray)).bind fun y209 => (if y206.length + y209.length < 8796093022208 then (some (y206 ++ y209)) else (none))) = some r := by first | (rw [hy206]; with_reducible exact H) | (have H2_ := (Option.bind_some _ _).symm.trans H; rw [hy206]; with_reducible exact H2_) | (have H2_ := (Option.bind_some _ _).symm.trans H; with_reducible exact H2_) | with_reducible exact H | (rw [hy206]; exact H) | exact H
          have Ny206 := am hy206; clear hy206; have c13b0 := eq_true (dT : 0 ≤ x5_1); have c14b0 := eq_true (dT : x5_1 ≤ (l0.length : Int)); obtain ⟨y209, hy209⟩ : ∃ y_ : List ByteArray, y_ = (l0.drop (x5_1 : Int).toNat) := ⟨_, rfl⟩
          replace H : (if y206.length + y209.length < 8796093022208 then (some (y206 ++ y209)) else (none)) = some r := by first | (rw [hy209]; with_reducible exact H) | (have H2_ := (Option.bind_some _ _).symm.trans H; rw [hy209]; with_reducible exact H2_) | (have H2_ := (Option.bind_some _ _).symm.trans H; with_reducible exact H2_) | with_reducible exact H | (rw [hy209]; exact H) | exact H
          have Ny209 := am hy209; clear hy209
          by_cases c15 : y206.length + y209.length < 8796093022208
          ·rw [if_pos c15] at H
           have LMc15 := am c15; clear c15; obtain ⟨y213, hy213⟩ : ∃ y_ : List ByteArray, y_ = (y206 ++ y209) := ⟨_, rfl⟩
           replace H : (some y213) = some r := by first | (rw [hy213]; with_reducible exact H) | (have H2_ := (Option.bind_some _ _).symm.trans H; rw [hy213]; with_reducible exact H2_) | (have H2_ := (Option.bind_some _ _).symm.trans H; with_reducible exact H2_) | with_reducible exact H | (rw [hy213]; exact H) | exact H
           have Ny213 := am hy213; clear hy213; obtain rfl := Option.some.inj H; obtain ⟨Ao16, co16, eo16⟩ := Kd.R_slice HO_0.out; subst eo16; obtain ⟨ad194, e194, hx194_0⟩ := Kd.at_string (Kd.R_reads' HO_0.out).2.2 x5_1 dT dT; cases e194; have p194 := eT (0 ≤ (x5_1 : Int)); have q194 := eT (x5_1 < (l0.length : Int)); have p195 : 0 ≤ (x5_1 : Int) := dT; have q195 : x5_1 < (l0.length : Int) := dT; obtain ⟨ad195, e195, hx195_0⟩ := Kd.at_string (Kd.R_reads' HO_0.out).2.2 x5_1 p195 q195; obtain rfl : ad194 = ad195 := (by injection e195); replace p195 := eq_true p195; replace q195 := eq_true q195
           go_wp2_with (first | ((with_reducible refine gate_dst (N := 34) rfl ?_); refine Kd.R_lit Kd.string _ 9 ?hg (N := 34) ?hd (xs := ([] : List ByteArray)) (inner := []) (ok := fun _ => True) (okp := fun _ => True) ?hr ?hp (fun _ hk => hk) trivial (Below.refl _ _) (Nat.le_refl _) (by simp) ?_; (case hd => rfl); (case hg => rfl); (case hr => first | (go_simp; done) | (go_simp; rfl)); (case hp => exact (Reps.none _ _)); intro v197 w17 ho18 hb hg_ hnew_; clear hg_ hnew_; (first | rw [← Ny196.out] at ho18 | (simp only [Int.reduceToNat] at ho18; rw [← Ny196.out] at ho18)); have n0_ := Re HO_0 (Kd.R_base ho18) hb; have n1_ := am (Kd.R_lower (Kd.R_new' (Kd.R_newM (M := fun k_ => (P0_ k_ ∨ w.heap.size ≤ k_)) ho18 (by first | exact HK.out.1 | exact (show Kept w _ (fun k_ => P0_ k_) from by repeat (first | (with_reducible first | exact HK.out | apply Kept.alloc | apply Kept.drewN | apply Kept.drew) | exact HK.out)).1) (fun k_ h_ => .inr h_)) (Kd.R_lt (Rz HO_0.out))) (below_size (Bz HB.out))); have n2_ := am (Kept.below (S := (fun k_ => P0_ k_)) (by repeat (first | (with_reducible first | exact HK.out | apply Kept.alloc | apply Kept.drewN | apply Kept.drew) | exact HK.out)) hb); have n3_ := Bb HB hb; clear HO_0 HK HB; revert n0_ n1_ n2_ n3_; intro HO_0 HO198 HK HB; clear hb ho18; have q19 : (x5_1 : Int) ≤ ((l0.length : Int) : Int) := dT; obtain ⟨i019, hi019, _, hsz19, _⟩ := info_parts info9; have hroom19 : l0.length ≤ co16 := (Kd.R_reads' HO_0.out).2.1; have hC19 : Kd.C Kd.string _ (some ad194) l0.length l0 := (Kd.R_reads' HO_0.out).2.2; have hcut19 := cut_to (P := Try.prog) 22 9 .i64 Try.underlying22 hi019 (some ad194) l0.length co16 x5_1 (dT) q19 hroom19; have hr19 := Kd.C_take (m := (x5_1 : Int).toNat) hC19 (by omega); have hy19 : y199.length = (x5_1 : Int).toNat := (by rw [Ny199.out, List.length_take]; omega); rw [← Ny199.out] at hr19; rw [← hy19] at hcut19; have HR202 := am hr19; have HC202 := am (show y199.length ≤ co16 from by omega); clear hr19 hC19 hroom19 hi019 hsz19; have KY19 := am hy19; clear hy19; have KL19 := am (show (x5_1 : Int).toNat ≤ l0.length from by omega); replace q19 := eq_true q19) | ((with_reducible refine gate_builtin (b := .append) (xs := #[.tmp 34, .tmp 37]) rfl ?_); at_builtin; refine Kd.R_append_rows Kd.string (w0 := w0) w0.heap.size rfl (.tmp 34) (.tmp 37) 22 9 (.string ⟨#[]⟩) 16 rfl Try.underlying22 info9 rfl (by decide) (by omega) v197 y196 y199 _ _ _ (fun k_ => (P0_ k_ ∨ w.heap.size ≤ k_) ∧ some k_ ≠ (.slice (some ad194) l0.length co16 : Value).ownBlock) (fun _ => False) rfl rfl ?aO ?aR (fun _ _ h => h) (fun _ h => h.elim) ?aF ?aB ?aS ?aL ?_; (case aR => repeat (first | exact (by repeat (first | (with_reducible exact HR202.out) | (with_reducible refine Kd.C_alloc ?_ _) | (with_reducible refine Kd.C_drewN ?_ _) | (with_reducible refine Kd.C_drew ?_) | exact HR202.out)) | (with_reducible refine Kd.C_alloc ?_ _) | (with_reducible refine Kd.C_drewN ?_ _) | (with_reducible refine Kd.C_drew ?_))); (case aB => exact (Bz HB.out)); (case aF => exact (fun k_ hk => ⟨(.inr (Nat.le_trans (by first | exact HK.out.1 | exact (show Kept w _ (fun k_ => P0_ k_) from by repeat (first | (with_reducible first | exact HK.out | apply Kept.alloc | apply Kept.drewN | apply Kept.drew) | exact HK.out)).1) hk)), Kd.fresh' (Kd.R_lt (Rz HO_0.out)) k_ hk⟩)); (case aO => exact (Rz (Kd.R_mono HO198.out (fun _ hk => ⟨hk.1.1, hk.2⟩)))); (case aS => exact (below_size (Bz HB.out))); (case aL => have := LMc11.out; omega); intro v204 w20 ho hb hg hat; rw [← Ny203.out] at ho; have n0_ := am (Kd.R_after (ok := (fun k_ => (P0_ k_ ∨ w.heap.size ≤ k_))) (Rz HO_0.out) hg hat); have n1_ := am (hb); have n2_ := am (Kept.of_grown (S := (fun k_ => P0_ k_)) hg (by repeat (first | (with_reducible first | exact HK.out | apply Kept.alloc | apply Kept.drewN | apply Kept.drew) | exact HK.out)) (fun k_ e_ => (HO198.out.1 k_ e_).1.1)); have n3_ := am ((show Kd.C Kd.string w20 (some ad194) y199.length y199 from by rw [Ny199.out]; exact Kd.C_take (m := (x5_1 : Int).toNat) ((Kd.R_reads' (Kd.R_after (ok := (fun k_ => (P0_ k_ ∨ w.heap.size ≤ k_))) (Rz HO_0.out) hg hat)).2.2) KL19.out)); have n4_ := am (ho); clear HO_0 HB HK HR202 HO198; revert n0_ n1_ n2_ n3_ n4_; intro HO_0 HB HK HR202 HO205; clear ho hb hg hat) | ((with_reducible refine gate_builtin (b := .append) (xs := #[.tmp 39, .tmp 41]) rfl ?_); at_builtin; refine Kd.R_append Kd.string (w0 := w0) w0.heap.size rfl (.tmp 39) (.tmp 41) 22 9 (.string ⟨#[]⟩) 16 rfl Try.underlying22 info9 rfl (by decide) (by omega) v204 y203 a1 [.string a1] (fun k_ => (P0_ k_ ∨ w.heap.size ≤ k_) ∧ some k_ ≠ (.slice (some ad194) l0.length co16 : Value).ownBlock) (fun _ => False) rfl rfl ?aP (fun _ hk => hk.elim) ?aF ?aO ?aB ?aS ?aL ?_; (case aP => exact rfl); (case aB => exact (Bz HB.out)); (case aF => exact (fun k_ hk => ⟨(.inr (Nat.le_trans (by first | exact HK.out.1 | exact (show Kept w _ (fun k_ => P0_ k_) from by repeat (first | (with_reducible first | exact HK.out | apply Kept.alloc | apply Kept.drewN | apply Kept.drew) | exact HK.out)).1) hk)), Kd.fresh' (Kd.R_lt (Rz HO_0.out)) k_ hk⟩)); (case aO => exact (Rz HO205.out)); (case aS => exact (below_size (Bz HB.out))); (case aL => have := LMc12.out; omega); intro v207 w21 ho hb hg hat; rw [← Ny206.out] at ho; have n0_ := am (Kd.R_after (ok := (fun k_ => (P0_ k_ ∨ w.heap.size ≤ k_))) (Rz HO_0.out) hg hat); have n1_ := am (hb); have n2_ := am (Kept.of_grown (S := (fun k_ => P0_ k_)) hg (by repeat (first | (with_reducible first | exact HK.out | apply Kept.alloc | apply Kept.drewN | apply Kept.drew) | exact HK.out)) (fun k_ e_ => (HO205.out.1 k_ e_).1)); have n3_ := am ((show Kd.C Kd.string w21 (some ad194) y199.length y199 from by rw [Ny199.out]; exact Kd.C_take (m := (x5_1 : Int).toNat) ((Kd.R_reads' (Kd.R_after (ok := (fun k_ => (P0_ k_ ∨ w.heap.size ≤ k_))) (Rz HO_0.out) hg hat)).2.2) KL19.out)); have n4_ := am (ho); clear HO_0 HB HK HR202 HO205; revert n0_ n1_ n2_ n3_ n4_; intro HO_0 HB HK HR202 HO208; clear ho hb hg hat; have q22 : (x5_1 : Int) ≤ ((l0.length : Int) : Int) := dT; obtain ⟨i022, hi022, _, hsz22, _⟩ := info_parts info9; have hroom22 : l0.length ≤ co16 := (Kd.R_reads' HO_0.out).2.1; have hC22 : Kd.C Kd.string _ (some ad194) l0.length l0 := (Kd.R_reads' HO_0.out).2.2; have q022 : (0 : Int) ≤ (x5_1 : Int) := dT; have hcut22 := cut_from (P := Try.prog) 22 9 .i64 Try.underlying22 hi022 1 hsz22 (some ad194) l0.length co16 x5_1 q022 q22; have hr22 := Kd.C_drop (m := (x5_1 : Int).toNat) (c := co16) hC22 (by omega) hroom22; obtain ⟨A22, hA22⟩ : ∃ A1, A1 = (if co16 = (x5_1 : Int).toNat then (some ad194) else ((some ad194) : Option Addr).map (·.add ((x5_1 : Int).toNat * 1))) := ⟨_, rfl⟩; obtain ⟨c22, hc22⟩ : ∃ c1, c1 = co16 - (x5_1 : Int).toNat := ⟨_, rfl⟩; have hy22 : y209.length = l0.length - (x5_1 : Int).toNat := (by rw [Ny209.out, List.length_drop] <;> omega); rw [show (l0).drop (x5_1 : Int).toNat = y209 from Ny209.out.symm] at hr22; replace hr22 : Kd.C Kd.string _ A22 y209.length y209 := (by rw [hA22]; exact hr22); rw [← hy22, ← hA22, ← hc22] at hcut22; have HR212 := am hr22; have HC212 := am (show y209.length ≤ c22 from by rw [hy22, hc22]; exact Nat.sub_le_sub_right hroom22 _); clear hr22 hC22 hroom22 hi022 hsz22 hc22; have KY22 := am hy22; have KA22 := am hA22; clear hy22 hA22; have KL22 := am (show (x5_1 : Int).toNat ≤ l0.length from by omega); replace q22 := eq_true q22) | ((with_reducible refine gate_builtin (b := .append) (xs := #[.tmp 43, .tmp 46]) rfl ?_); at_builtin; refine Kd.R_append_rows Kd.string (w0 := w0) w0.heap.size rfl (.tmp 43) (.tmp 46) 22 9 (.string ⟨#[]⟩) 16 rfl Try.underlying22 info9 rfl (by decide) (by omega) v207 y206 y209 _ _ _ (fun k_ => (P0_ k_ ∨ w.heap.size ≤ k_) ∧ some k_ ≠ (.slice (some ad194) l0.length co16 : Value).ownBlock) (fun _ => False) rfl rfl ?aO ?aR (fun _ _ h => h) (fun _ h => h.elim) ?aF ?aB ?aS ?aL ?_; (case aR => repeat (first | exact (by repeat (first | (with_reducible exact HR212.out) | (with_reducible refine Kd.C_alloc ?_ _) | (with_reducible refine Kd.C_drewN ?_ _) | (with_reducible refine Kd.C_drew ?_) | exact HR212.out)) | (with_reducible refine Kd.C_alloc ?_ _) | (with_reducible refine Kd.C_drewN ?_ _) | (with_reducible refine Kd.C_drew ?_))); (case aB => exact (Bz HB.out)); (case aF => exact (fun k_ hk => ⟨(.inr (Nat.le_trans (by first | exact HK.out.1 | exact (show Kept w _ (fun k_ => P0_ k_) from by repeat (first | (with_reducible first | exact HK.out | apply Kept.alloc | apply Kept.drewN | apply Kept.drew) | exact HK.out)).1) hk)), Kd.fresh' (Kd.R_lt (Rz HO_0.out)) k_ hk⟩)); (case aO => exact (Rz HO208.out)); (case aS => exact (below_size (Bz HB.out))); (case aL => have := LMc15.out; omega); intro v214 w23 ho hb hg hat; rw [← Ny213.out] at ho; have n0_ := am (Kd.R_after (ok := (fun k_ => (P0_ k_ ∨ w.heap.size ≤ k_))) (Rz HO_0.out) hg hat); have n1_ := am (hb); have n2_ := am (Kept.of_grown (S := (fun k_ => P0_ k_)) hg (by repeat (first | (with_reducible first | exact HK.out | apply Kept.alloc | apply Kept.drewN | apply Kept.drew) | exact HK.out)) (fun k_ e_ => (HO208.out.1 k_ e_).1)); have n3_ := am ((show Kd.C Kd.string w23 (some ad194) y199.length y199 from by rw [Ny199.out]; exact Kd.C_take (m := (x5_1 : Int).toNat) ((Kd.R_reads' (Kd.R_after (ok := (fun k_ => (P0_ k_ ∨ w.heap.size ≤ k_))) (Rz HO_0.out) hg hat)).2.2) KL19.out)); have n4_ := am ((show Kd.C Kd.string w23 A22 y209.length y209 from by rw [Ny209.out, KA22.out]; exact Kd.C_drop (m := (x5_1 : Int).toNat) (c := co16) ((Kd.R_reads' (Kd.R_after (ok := (fun k_ => (P0_ k_ ∨ w.heap.size ≤ k_))) (Rz HO_0.out) hg hat)).2.2) KL22.out ((Kd.R_reads' (Kd.R_after (ok := (fun k_ => (P0_ k_ ∨ w.heap.size ≤ k_))) (Rz HO_0.out) hg hat)).2.1))); have n5_ := am (ho); clear HO_0 HB HK HR202 HR212 HO208; revert n0_ n1_ n2_ n3_ n4_ n5_; intro HO_0 HB HK HR202 HR212 HO215; clear ho hb hg hat))
           go_ret
           exact ⟨_, eZ, Rz (Kd.R_mono HO215.out (fun _ hk => hk.1)), Bz HB.out, by repeat (first | (with_reducible first | exact HK.out | apply Kept.alloc | apply Kept.drewN | apply Kept.drew) | exact HK.out)⟩
          ·rw [if_neg c15] at H
           exact absurd H (by simp)
         ·rw [if_neg c12] at H
          exact absurd H (by simp)
        ·rw [if_neg c11] at H
         exact absurd H (by simp)
       ·rw [if_neg c10] at H
        exact absurd H (by simp)
    ·rw [if_neg c4] at H
     exact absurd H (by simp)
   ·rw [if_neg c3] at H
    have c3b0 : decide (x5_1 < (l0.length : Int)) = false := decide_eq_false c3; clear c3; obtain ⟨y216, hy216⟩ : ∃ y_ : List ByteArray, y_ = (([] : List ByteArray)) := ⟨_, rfl⟩
    replace H : (if 0 ≤ x5_1 then (if x5_1 ≤ (l0.length : Int) then ((some (l0.take (x5_1 : Int).toNat : List ByteArray)).bind fun y219 => (if y216.length + y219.length < 8796093022208 then ((some (y216 ++ y219 : List ByteArray)).bind fun y223 => (if y223.length < 8796093022208 then ((some (y223 ++ [a1] : List ByteArray)).bind fun y226 => ((some (l0.drop (x5_1 : Int).toNat : List ByteArray)).bind fun y229 => (if y226.length + y229.length < 8796093022208 then (some (y226 ++ y229)) else (none)))) else (none))) else (none))) else (none)) else (none)) = some r := by first | (rw [hy216]; with_reducible exact H) | (have H2_ := (Option.bind_some _ _).symm.trans H; rw [hy216]; with_reducible exact H2_) | (have H2_ := (Option.bind_some _ _).symm.trans H; with_reducible exact H2_) | with_reducible exact H | (rw [hy216]; exact H) | exact H
    have Ny216 := am hy216; clear hy216
    by_cases c24 : 0 ≤ x5_1
    ·rw [if_pos c24] at H
     have c24b0 := eq_true c24; have c24b1 : decide (0 ≤ x5_1) = true := decide_eq_true c24; clear c24
     by_cases c25 : x5_1 ≤ (l0.length : Int)
     ·rw [if_pos c25] at H
      have c25b0 := eq_true c25; have c25b1 : decide (x5_1 ≤ (l0.length : Int)) = true := decide_eq_true c25; clear c25; obtain ⟨y219, hy219⟩ : ∃ y_ : List ByteArray, y_ = (l0.take (x5_1 : Int).toNat) := ⟨_, rfl⟩
      replace H : (if y216.length + y219.length < 8796093022208 then ((some (y216 ++ y219 : List ByteArray)).bind fun y223 => (if y223.length < 8796093022208 then ((some (y223 ++ [a1] : List ByteArray)).bind fun y226 => ((some (l0.drop (x5_1 : Int).toNat : List ByteArray)).bind fun y229 => (if y226.length + y229.length < 8796093022208 then (some (y226 ++ y229)) else (none)))) else (none))) else (none)) = some r := by first | (rw [hy219]; with_reducible exact H) | (have H2_ := (Option.bind_some _ _).symm.trans H; rw [hy219]; with_reducible exact H2_) | (have H2_ := (Option.bind_some _ _).symm.trans H; with_reducible exact H2_) | with_reducible exact H | (rw [hy219]; exact H) | exact H
      have Ny219 := am hy219; clear hy219
      by_cases c26 : y216.length + y219.length < 8796093022208
      ·rw [if_pos c26] at H
       have LMc26 := am c26; clear c26; obtain ⟨y223, hy223⟩ : ∃ y_ : List ByteArray, y_ = (y216 ++ y219) := ⟨_, rfl⟩
       replace H : (if y223.length < 8796093022208 then ((some (y223 ++ [a1] : List ByteArray)).bind fun y226 => ((some (l0.drop (x5_1 : Int).toNat : List ByteArray)).bind fun y229 => (if y226.length + y229.length < 8796093022208 then (some (y226 ++ y229)) else (none)))) else (none)) = some r := by first | (rw [hy223]; with_reducible exact H) | (have H2_ := (Option.bind_some _ _).symm.trans H; rw [hy223]; with_reducible exact H2_) | (have H2_ := (Option.bind_some _ _).symm.trans H; with_reducible exact H2_) | with_reducible exact H | (rw [hy223]; exact H) | exact H
       have Ny223 := am hy223; clear hy223
       by_cases c27 : y223.length < 8796093022208
       ·rw [if_pos c27] at H
        have LMc27 := am c27; clear c27; obtain ⟨y226, hy226⟩ : ∃ y_ : List ByteArray, y_ = (y223 ++ [a1]) := ⟨_, rfl⟩
        replace H : ((some (l0.drop (x5_1 : Int).toNat : List ByteArray)).bind fun y229 => (if y226.length + y229.length < 8796093022208 then (some (y226 ++ y229)) else (none))) = some r := by first | (rw [hy226]; with_reducible exact H) | (have H2_ := (Option.bind_some _ _).symm.trans H; rw [hy226]; with_reducible exact H2_) | (have H2_ := (Option.bind_some _ _).symm.trans H; with_reducible exact H2_) | with_reducible exact H | (rw [hy226]; exact H) | exact H
        have Ny226 := am hy226; clear hy226; have c28b0 := eq_true (dT : 0 ≤ x5_1); have c29b0 := eq_true (dT : x5_1 ≤ (l0.length : Int)); obtain ⟨y229, hy229⟩ : ∃ y_ : List ByteArray, y_ = (l0.drop (x5_1 : Int).toNat) := ⟨_, rfl⟩
        replace H : (if y226.length + y229.length < 8796093022208 then (some (y226 ++ y229)) else (none)) = some r := by first | (rw [hy229]; with_reducible exact H) | (have H2_ := (Option.bind_some _ _).symm.trans H; rw [hy229]; with_reducible exact H2_) | (have H2_ := (Option.bind_some _ _).symm.trans H; with_reducible exact H2_) | with_reducible exact H | (rw [hy229]; exact H) | exact H
        have Ny229 := am hy229; clear hy229
        by_cases c30 : y226.length + y229.length < 8796093022208
        ·rw [if_pos c30] at H
         have LMc30 := am c30; clear c30; obtain ⟨y233, hy233⟩ : ∃ y_ : List ByteArray, y_ = (y226 ++ y229) := ⟨_, rfl⟩
         replace H : (some y233) = some r := by first | (rw [hy233]; with_reducible exact H) | (have H2_ := (Option.bind_some _ _).symm.trans H; rw [hy233]; with_reducible exact H2_) | (have H2_ := (Option.bind_some _ _).symm.trans H; with_reducible exact H2_) | with_reducible exact H | (rw [hy233]; exact H) | exact H
         have Ny233 := am hy233; clear hy233; obtain rfl := Option.some.inj H; obtain ⟨Ao31, co31, eo31⟩ := Kd.R_slice HO_0.out; subst eo31
         go_wp2_with (first | ((with_reducible refine gate_dst (N := 34) rfl ?_); refine Kd.R_lit Kd.string _ 9 ?hg (N := 34) ?hd (xs := ([] : List ByteArray)) (inner := []) (ok := fun _ => True) (okp := fun _ => True) ?hr ?hp (fun _ hk => hk) trivial (Below.refl _ _) (Nat.le_refl _) (by simp) ?_; (case hd => rfl); (case hg => rfl); (case hr => first | (go_simp; done) | (go_simp; rfl)); (case hp => exact (Reps.none _ _)); intro v217 w32 ho33 hb hg_ hnew_; clear hg_ hnew_; (first | rw [← Ny216.out] at ho33 | (simp only [Int.reduceToNat] at ho33; rw [← Ny216.out] at ho33)); have n0_ := Re HO_0 (Kd.R_base ho33) hb; have n1_ := am (Kd.R_lower (Kd.R_new' (Kd.R_newM (M := fun k_ => (P0_ k_ ∨ w.heap.size ≤ k_)) ho33 (by first | exact HK.out.1 | exact (show Kept w _ (fun k_ => P0_ k_) from by repeat (first | (with_reducible first | exact HK.out | apply Kept.alloc | apply Kept.drewN | apply Kept.drew) | exact HK.out)).1) (fun k_ h_ => .inr h_)) (Kd.R_lt (Rz HO_0.out))) (below_size (Bz HB.out))); have n2_ := am (Kept.below (S := (fun k_ => P0_ k_)) (by repeat (first | (with_reducible first | exact HK.out | apply Kept.alloc | apply Kept.drewN | apply Kept.drew) | exact HK.out)) hb); have n3_ := Bb HB hb; clear HO_0 HK HB; revert n0_ n1_ n2_ n3_; intro HO_0 HO218 HK HB; clear hb ho33; have q34 : (x5_1 : Int) ≤ ((l0.length : Int) : Int) := dT; obtain ⟨i034, hi034, _, hsz34, _⟩ := info_parts info9; have hroom34 : l0.length ≤ co31 := (Kd.R_reads' HO_0.out).2.1; have hC34 : Kd.C Kd.string _ Ao31 l0.length l0 := (Kd.R_reads' HO_0.out).2.2; have hcut34 := cut_to (P := Try.prog) 22 9 .i64 Try.underlying22 hi034 Ao31 l0.length co31 x5_1 (dT) q34 hroom34; have hr34 := Kd.C_take (m := (x5_1 : Int).toNat) hC34 (by omega); have hy34 : y219.length = (x5_1 : Int).toNat := (by rw [Ny219.out, List.length_take]; omega); rw [← Ny219.out] at hr34; rw [← hy34] at hcut34; have HR222 := am hr34; have HC222 := am (show y219.length ≤ co31 from by omega); clear hr34 hC34 hroom34 hi034 hsz34; have KY34 := am hy34; clear hy34; have KL34 := am (show (x5_1 : Int).toNat ≤ l0.length from by omega); replace q34 := eq_true q34) | ((with_reducible refine gate_builtin (b := .append) (xs := #[.tmp 34, .tmp 37]) rfl ?_); at_builtin; refine Kd.R_append_rows Kd.string (w0 := w0) w0.heap.size rfl (.tmp 34) (.tmp 37) 22 9 (.string ⟨#[]⟩) 16 rfl Try.underlying22 info9 rfl (by decide) (by omega) v217 y216 y219 _ _ _ (fun k_ => (P0_ k_ ∨ w.heap.size ≤ k_) ∧ some k_ ≠ (.slice Ao31 l0.length co31 : Value).ownBlock) (fun _ => False) rfl rfl ?aO ?aR (fun _ _ h => h) (fun _ h => h.elim) ?aF ?aB ?aS ?aL ?_; (case aR => repeat (first | exact (by repeat (first | (with_reducible exact HR222.out) | (with_reducible refine Kd.C_alloc ?_ _) | (with_reducible refine Kd.C_drewN ?_ _) | (with_reducible refine Kd.C_drew ?_) | exact HR222.out)) | (with_reducible refine Kd.C_alloc ?_ _) | (with_reducible refine Kd.C_drewN ?_ _) | (with_reducible refine Kd.C_drew ?_))); (case aB => exact (Bz HB.out)); (case aF => exact (fun k_ hk => ⟨(.inr (Nat.le_trans (by first | exact HK.out.1 | exact (show Kept w _ (fun k_ => P0_ k_) from by repeat (first | (with_reducible first | exact HK.out | apply Kept.alloc | apply Kept.drewN | apply Kept.drew) | exact HK.out)).1) hk)), Kd.fresh' (Kd.R_lt (Rz HO_0.out)) k_ hk⟩)); (case aO => exact (Rz (Kd.R_mono HO218.out (fun _ hk => ⟨hk.1.1, hk.2⟩)))); (case aS => exact (below_size (Bz HB.out))); (case aL => have := LMc26.out; omega); intro v224 w35 ho hb hg hat; rw [← Ny223.out] at ho; have n0_ := am (Kd.R_after (ok := (fun k_ => (P0_ k_ ∨ w.heap.size ≤ k_))) (Rz HO_0.out) hg hat); have n1_ := am (hb); have n2_ := am (Kept.of_grown (S := (fun k_ => P0_ k_)) hg (by repeat (first | (with_reducible first | exact HK.out | apply Kept.alloc | apply Kept.drewN | apply Kept.drew) | exact HK.out)) (fun k_ e_ => (HO218.out.1 k_ e_).1.1)); have n3_ := am ((show Kd.C Kd.string w35 Ao31 y219.length y219 from by rw [Ny219.out]; exact Kd.C_take (m := (x5_1 : Int).toNat) ((Kd.R_reads' (Kd.R_after (ok := (fun k_ => (P0_ k_ ∨ w.heap.size ≤ k_))) (Rz HO_0.out) hg hat)).2.2) KL34.out)); have n4_ := am (ho); clear HO_0 HB HK HR222 HO218; revert n0_ n1_ n2_ n3_ n4_; intro HO_0 HB HK HR222 HO225; clear ho hb hg hat) | ((with_reducible refine gate_builtin (b := .append) (xs := #[.tmp 39, .tmp 41]) rfl ?_); at_builtin; refine Kd.R_append Kd.string (w0 := w0) w0.heap.size rfl (.tmp 39) (.tmp 41) 22 9 (.string ⟨#[]⟩) 16 rfl Try.underlying22 info9 rfl (by decide) (by omega) v224 y223 a1 [.string a1] (fun k_ => (P0_ k_ ∨ w.heap.size ≤ k_) ∧ some k_ ≠ (.slice Ao31 l0.length co31 : Value).ownBlock) (fun _ => False) rfl rfl ?aP (fun _ hk => hk.elim) ?aF ?aO ?aB ?aS ?aL ?_; (case aP => exact rfl); (case aB => exact (Bz HB.out)); (case aF => exact (fun k_ hk => ⟨(.inr (Nat.le_trans (by first | exact HK.out.1 | exact (show Kept w _ (fun k_ => P0_ k_) from by repeat (first | (with_reducible first | exact HK.out | apply Kept.alloc | apply Kept.drewN | apply Kept.drew) | exact HK.out)).1) hk)), Kd.fresh' (Kd.R_lt (Rz HO_0.out)) k_ hk⟩)); (case aO => exact (Rz HO225.out)); (case aS => exact (below_size (Bz HB.out))); (case aL => have := LMc27.out; omega); intro v227 w36 ho hb hg hat; rw [← Ny226.out] at ho; have n0_ := am (Kd.R_after (ok := (fun k_ => (P0_ k_ ∨ w.heap.size ≤ k_))) (Rz HO_0.out) hg hat); have n1_ := am (hb); have n2_ := am (Kept.of_grown (S := (fun k_ => P0_ k_)) hg (by repeat (first | (with_reducible first | exact HK.out | apply Kept.alloc | apply Kept.drewN | apply Kept.drew) | exact HK.out)) (fun k_ e_ => (HO225.out.1 k_ e_).1)); have n3_ := am ((show Kd.C Kd.string w36 Ao31 y219.length y219 from by rw [Ny219.out]; exact Kd.C_take (m := (x5_1 : Int).toNat) ((Kd.R_reads' (Kd.R_after (ok := (fun k_ => (P0_ k_ ∨ w.heap.size ≤ k_))) (Rz HO_0.out) hg hat)).2.2) KL34.out)); have n4_ := am (ho); clear HO_0 HB HK HR222 HO225; revert n0_ n1_ n2_ n3_ n4_; intro HO_0 HB HK HR222 HO228; clear ho hb hg hat; have q37 : (x5_1 : Int) ≤ ((l0.length : Int) : Int) := dT; obtain ⟨i037, hi037, _, hsz37, _⟩ := info_parts info9; have hroom37 : l0.length ≤ co31 := (Kd.R_reads' HO_0.out).2.1; have hC37 : Kd.C Kd.string _ Ao31 l0.length l0 := (Kd.R_reads' HO_0.out).2.2; have q037 : (0 : Int) ≤ (x5_1 : Int) := dT; have hcut37 := cut_from (P := Try.prog) 22 9 .i64 Try.underlying22 hi037 1 hsz37 Ao31 l0.length co31 x5_1 q037 q37; have hr37 := Kd.C_drop (m := (x5_1 : Int).toNat) (c := co31) hC37 (by omega) hroom37; obtain ⟨A37, hA37⟩ : ∃ A1, A1 = (if co31 = (x5_1 : Int).toNat then Ao31 else (Ao31 : Option Addr).map (·.add ((x5_1 : Int).toNat * 1))) := ⟨_, rfl⟩; obtain ⟨c37, hc37⟩ : ∃ c1, c1 = co31 - (x5_1 : Int).toNat := ⟨_, rfl⟩; have hy37 : y229.length = l0.length - (x5_1 : Int).toNat := (by rw [Ny229.out, List.length_drop] <;> omega); rw [show (l0).drop (x5_1 : Int).toNat = y229 from Ny229.out.symm] at hr37; replace hr37 : Kd.C Kd.string _ A37 y229.length y229 := (by rw [hA37]; exact hr37); rw [← hy37, ← hA37, ← hc37] at hcut37; have HR232 := am hr37; have HC232 := am (show y229.length ≤ c37 from by rw [hy37, hc37]; exact Nat.sub_le_sub_right hroom37 _); clear hr37 hC37 hroom37 hi037 hsz37 hc37; have KY37 := am hy37; have KA37 := am hA37; clear hy37 hA37; have KL37 := am (show (x5_1 : Int).toNat ≤ l0.length from by omega); replace q37 := eq_true q37) | ((with_reducible refine gate_builtin (b := .append) (xs := #[.tmp 43, .tmp 46]) rfl ?_); at_builtin; refine Kd.R_append_rows Kd.string (w0 := w0) w0.heap.size rfl (.tmp 43) (.tmp 46) 22 9 (.string ⟨#[]⟩) 16 rfl Try.underlying22 info9 rfl (by decide) (by omega) v227 y226 y229 _ _ _ (fun k_ => (P0_ k_ ∨ w.heap.size ≤ k_) ∧ some k_ ≠ (.slice Ao31 l0.length co31 : Value).ownBlock) (fun _ => False) rfl rfl ?aO ?aR (fun _ _ h => h) (fun _ h => h.elim) ?aF ?aB ?aS ?aL ?_; (case aR => repeat (first | exact (by repeat (first | (with_reducible exact HR232.out) | (with_reducible refine Kd.C_alloc ?_ _) | (with_reducible refine Kd.C_drewN ?_ _) | (with_reducible refine Kd.C_drew ?_) | exact HR232.out)) | (with_reducible refine Kd.C_alloc ?_ _) | (with_reducible refine Kd.C_drewN ?_ _) | (with_reducible refine Kd.C_drew ?_))); (case aB => exact (Bz HB.out)); (case aF => exact (fun k_ hk => ⟨(.inr (Nat.le_trans (by first | exact HK.out.1 | exact (show Kept w _ (fun k_ => P0_ k_) from by repeat (first | (with_reducible first | exact HK.out | apply Kept.alloc | apply Kept.drewN | apply Kept.drew) | exact HK.out)).1) hk)), Kd.fresh' (Kd.R_lt (Rz HO_0.out)) k_ hk⟩)); (case aO => exact (Rz HO228.out)); (case aS => exact (below_size (Bz HB.out))); (case aL => have := LMc30.out; omega); intro v234 w38 ho hb hg hat; rw [← Ny233.out] at ho; have n0_ := am (Kd.R_after (ok := (fun k_ => (P0_ k_ ∨ w.heap.size ≤ k_))) (Rz HO_0.out) hg hat); have n1_ := am (hb); have n2_ := am (Kept.of_grown (S := (fun k_ => P0_ k_)) hg (by repeat (first | (with_reducible first | exact HK.out | apply Kept.alloc | apply Kept.drewN | apply Kept.drew) | exact HK.out)) (fun k_ e_ => (HO228.out.1 k_ e_).1)); have n3_ := am ((show Kd.C Kd.string w38 Ao31 y219.length y219 from by rw [Ny219.out]; exact Kd.C_take (m := (x5_1 : Int).toNat) ((Kd.R_reads' (Kd.R_after (ok := (fun k_ => (P0_ k_ ∨ w.heap.size ≤ k_))) (Rz HO_0.out) hg hat)).2.2) KL34.out)); have n4_ := am ((show Kd.C Kd.string w38 A37 y229.length y229 from by rw [Ny229.out, KA37.out]; exact Kd.C_drop (m := (x5_1 : Int).toNat) (c := co31) ((Kd.R_reads' (Kd.R_after (ok := (fun k_ => (P0_ k_ ∨ w.heap.size ≤ k_))) (Rz HO_0.out) hg hat)).2.2) KL37.out ((Kd.R_reads' (Kd.R_after (ok := (fun k_ => (P0_ k_ ∨ w.heap.size ≤ k_))) (Rz HO_0.out) hg hat)).2.1))); have n5_ := am (ho); clear HO_0 HB HK HR222 HR232 HO228; revert n0_ n1_ n2_ n3_ n4_ n5_; intro HO_0 HB HK HR222 HR232 HO235; clear ho hb hg hat))
         go_ret
         exact ⟨_, eZ, Rz (Kd.R_mono HO235.out (fun _ hk => hk.1)), Bz HB.out, by repeat (first | (with_reducible first | exact HK.out | apply Kept.alloc | apply Kept.drewN | apply Kept.drew) | exact HK.out)⟩
        ·rw [if_neg c30] at H
         exact absurd H (by simp)
       ·rw [if_neg c27] at H
        exact absurd H (by simp)
      ·rw [if_neg c26] at H
       exact absurd H (by simp)
     ·rw [if_neg c25] at H
      exact absurd H (by simp)
    ·rw [if_neg c24] at H
     exact absurd H (by simp)

mutual
def spec_MergeFronts.j0 : Nat → List ByteArray → List ByteArray → Bool → Int → List Int → List ByteArray → Option (Int × List Int × List ByteArray × Bool)
 | 0, _, _, _, _, _, _ => none
 | k + 1, x6, x8, x27, x237000, x237001, x237002 => if x27 = true then (some (0, ([] : List Int), ([] : List ByteArray), false)) else (spec_MergeFronts.l0 k x6 x8 (x8.length : Int) 0 x237000 x237001 x237002)
def spec_MergeFronts.l0 : Nat → List ByteArray → List ByteArray → Int → Int → Int → List Int → List ByteArray → Option (Int × List Int × List ByteArray × Bool)
 | 0, _, _, _, _, _, _, _ => none
 | k + 1, x6, x29, x30, x31, x237000, x237001, x237002 => if x31 < x30 then (if 0 ≤ x31 then (if x31 < (x29.length : Int) then ((spec_l1PutS.f k x6 (rdOf ByteArray.empty x29 x31)).bind fun t248 => (spec_MergeFronts.l0 k t248 x29 x30 (wrap64 (x31 + 1)) x237000 x237001 x237002)) else (none)) else (none)) else ((spec_biKeys.f k x6).bind fun t251 => (if t251 = true then ((spec_trFront.f k x6 x237000).bind fun bt252 => (some (bt252.1, bt252.2.1, bt252.2.2, true))) else (some (0, ([] : List Int), ([] : List ByteArray), false))))
end
def spec_MergeFronts.f (k : Nat) (a0_0 : Int) (l0_1 : List Int) (l0_2 : List ByteArray) (a1_0 : Int) (l1_1 : List Int) (l1_2 : List ByteArray) : Option (Int × List Int × List ByteArray × Bool) := (spec_trFronted.f k a0_0 l0_1 l0_2).bind fun bt239 => ((spec_trFronted.f k a1_0 l1_1 l1_2).bind fun bt243 => (if bt239.2 = true then (spec_MergeFronts.j0 k bt239.1 bt243.1 (!bt243.2) a0_0 l0_1 l0_2) else (spec_MergeFronts.j0 k bt239.1 bt243.1 true a0_0 l0_1 l0_2)))
theorem spec_MergeFronts.calls (k : Nat) (a0_0 : Int) (A0_1 : Option Addr) (c0_1 : Nat) (l0_1 : List Int) (A0_2 : Option Addr) (c0_2 : Nat) (l0_2 : List ByteArray) (a1_0 : Int) (A1_1 : Option Addr) (c1_1 : Nat) (l1_1 : List Int) (A1_2 : Option Addr) (c1_2 : Nat) (l1_2 : List ByteArray) (r1 : Int) (r2 : List Int) (r3 : List ByteArray) (r4 : Bool) (w : World) (hr0_1 : Kd.C (Kd.int .i64) w A0_1 l0_1.length l0_1) (hc0_1 : l0_1.length ≤ c0_1) (hr0_2 : Kd.C Kd.string w A0_2 l0_2.length l0_2) (hc0_2 : l0_2.length ≤ c0_2) (hr1_1 : Kd.C (Kd.int .i64) w A1_1 l1_1.length l1_1) (hc1_1 : l1_1.length ≤ c1_1) (hr1_2 : Kd.C Kd.string w A1_2 l1_2.length l1_2) (hc1_2 : l1_2.length ≤ c1_2) (h : spec_MergeFronts.f k a0_0 l0_1 l0_2 a1_0 l1_1 l1_2 = some (r1, r2, r3, r4)) :
  Calls Try.prog 32 #[.agg #[.int .i64 a0_0, .slice A0_1 l0_1.length c0_1, .slice A0_2 l0_2.length c0_2], .agg #[.int .i64 a1_0, .slice A1_1 l1_1.length c1_1, .slice A1_2 l1_2.length c1_2]] w fun e w' => ∃ v1_ v2_ : Value, e = .returned (.tuple #[.agg #[.int .i64 r1, v1_, v2_], .bool r4]) ∧ Kd.R (Kd.int .i64) 3 w' w.heap.size (fun _ => True) v1_ r2 ∧ Kd.R Kd.string 9 w' w.heap.size (fun _ => True) v2_ r3 ∧ Below w.heap.size w w' := by
 have hu26 := Try.underlying26; have HR0_1 := am hr0_1; have HC0_1 := am hc0_1; clear hr0_1 hc0_1; have HR0_2 := am hr0_2; have HC0_2 := am hc0_2; clear hr0_2 hc0_2; have HR1_1 := am hr1_1; have HC1_1 := am hc1_1; clear hr1_1 hc1_1; have HR1_2 := am hr1_2; have HC1_2 := am hc1_2; clear hr1_2 hc1_2; have HB := am (Below.refl w.heap.size w); have H : ((spec_trFronted.f k a0_0 l0_1 l0_2).bind fun bt239 => ((spec_trFronted.f k a1_0 l1_1 l1_2).bind fun bt243 => (if bt239.2 = true then (spec_MergeFronts.j0 k bt239.1 bt243.1 (!bt243.2) a0_0 l0_1 l0_2) else (spec_MergeFronts.j0 k bt239.1 bt243.1 true a0_0 l0_1 l0_2)))) = some (r1, r2, r3, r4) := h; clear h; obtain ⟨⟨t239, t242⟩, A3, H⟩ := ob H; (try dsimp -simprocs only at H); obtain ⟨⟨t243, t246⟩, A4, H⟩ := ob H; (try dsimp -simprocs only at H); have HC5 := am H; clear H
 go_enter Try.func32, Try.ntmps32
 go_upto_region 3 with (first | ((with_reducible refine gate_dst (N := 2) rfl ?_); refine bE 2 #[.int .i64 a0_0, .slice A0_1 l0_1.length c0_1, .slice A0_2 l0_2.length c0_2] 26 ?_; intro gb236 hg w6 hbox hb; have n0_ := Bb HB hb; have n1_ := am (hbox); have n2_ := Gl HB hg; have n3_ := Gl HB hg; clear HB; revert n0_ n1_ n2_ n3_; intro HB BK236 GW236 GE236; clear hb hbox hg) | ((with_reducible refine gate_dst (N := 3) rfl ?_); refine bE 3 #[.int .i64 a1_0, .slice A1_1 l1_1.length c1_1, .slice A1_2 l1_2.length c1_2] 26 ?_; intro gb237 hg w7 hbox hb; have n0_ := Kb BK236 hb; have n1_ := Bc HB hb; have n2_ := am (hbox); have n3_ := Gm HB hg; have n4_ := Gm HB hg; have n5_ := Nl BK236 hg; have n6_ := Ng BK236 hg; clear BK236 HB; revert n0_ n1_ n2_ n3_ n4_ n5_ n6_; intro BK236 HB BK237 GW237 GE237 NB236_237 NB237_236; clear hb hbox hg) | ((with_reducible refine gate_dst (N := 4) rfl ?_); refine bE 4 #[.int .i64 0, .slice none 0 0, .slice none 0 0] 26 ?_; intro gb238 hg w8 hbox hb; have n0_ := Kb BK236 hb; have n1_ := Kb BK237 hb; have n2_ := Bc HB hb; have n3_ := am (hbox); have n4_ := Gm HB hg; have n5_ := Gm HB hg; have n6_ := Nl BK236 hg; have n7_ := Ng BK236 hg; have n8_ := Nl BK237 hg; have n9_ := Ng BK237 hg; clear BK236 BK237 HB; revert n0_ n1_ n2_ n3_ n4_ n5_ n6_ n7_ n8_ n9_; intro BK236 BK237 HB BK238 GW238 GE238 NB236_238 NB238_236 NB237_238 NB238_237; clear hb hbox hg; have hnb9 := NB236_237.out; have hnc9 := NB237_236.out; have hnb10 := NB236_238.out; have hnc10 := NB238_236.out; obtain ⟨hcz11_0, hcz11_1, hcz11_2, hfz11_0, hfz11_1, hfz11_2⟩ := cf3 (w := w8) BK236) | ((with_reducible refine gate_callee (f := 50) rfl ?_); refine gL (some 14) Try.func50 #[.agg #[.int .i64 a0_0, .slice A0_1 l0_1.length c0_1, .slice A0_2 l0_2.length c0_2]] ?_; (with_reducible refine (spec_trFronted.calls k a0_0 _ _ l0_1 _ _ l0_2 t239 t242 _ ?side1 ?side2 ?side3 ?side4 A3.out).mono ?_); (case side1 => exact Cz (Kd.C_below HR0_1.out HB.out)); (case side2 => exact HC0_1.out); (case side3 => exact Cz (Kd.C_below HR0_2.out HB.out)); (case side4 => exact HC0_2.out); rintro e w12 ⟨v240, rfl, ho0, hb⟩; refine ⟨_, rfl, ?_⟩; have n0_ := Rm ho0 HB; have n1_ := Kb BK236 hb; have n2_ := Kb BK237 hb; have n3_ := Kb BK238 hb; have n4_ := Bc HB hb; clear BK236 BK237 BK238 HB; revert n0_ n1_ n2_ n3_ n4_; intro HO241 BK236 BK237 BK238 HB; (try clear hb); (try clear hb2); (try clear hk); (try clear hi); (try clear ho0); have hnb13 := NB237_238.out; have hnc13 := NB238_237.out; obtain ⟨hcz14_0, hcz14_1, hcz14_2, hfz14_0, hfz14_1, hfz14_2⟩ := cf3 (w := w12) BK237) | ((with_reducible refine gate_callee (f := 50) rfl ?_); refine gL (some 19) Try.func50 #[.agg #[.int .i64 a1_0, .slice A1_1 l1_1.length c1_1, .slice A1_2 l1_2.length c1_2]] ?_; (with_reducible refine (spec_trFronted.calls k a1_0 _ _ l1_1 _ _ l1_2 t243 t246 _ ?side1 ?side2 ?side3 ?side4 A4.out).mono ?_); (case side1 => exact Cz (Kd.C_below HR1_1.out HB.out)); (case side2 => exact HC1_1.out); (case side3 => exact Cz (Kd.C_below HR1_2.out HB.out)); (case side4 => exact HC1_2.out); rintro e w15 ⟨v244, rfl, ho0, hb⟩; refine ⟨_, rfl, ?_⟩; have n0_ := Re HO241 (Kd.R_base ho0) hb; have n1_ := Rm (Kd.R_new' ho0 (Kd.R_lt (Rz HO241.out))) HB; have n2_ := Kb BK236 hb; have n3_ := Kb BK237 hb; have n4_ := Kb BK238 hb; have n5_ := Bc HB hb; clear HO241 BK236 BK237 BK238 HB; revert n0_ n1_ n2_ n3_ n4_ n5_; intro HO241 HO245 BK236 BK237 BK238 HB; (try clear hb); (try clear hb2); (try clear hk); (try clear hi); (try clear ho0)))
 (try simp only [aP])
 go_cut [27] (fun v27 wc => ∃ (kq : Nat) (x27_4 : Bool), v27 = .bool x27_4 ∧ Aside0 (spec_MergeFronts.j0 kq t239 t243 x27_4 a0_0 l0_1 l0_2 = some (r1, r2, r3, r4)) ∧ Aside0 (kq ≤ k) ∧ Aside0 (Kd.R Kd.string 9 wc w.heap.size (fun k_ => some k_ ≠ (v244 : Value).ownBlock) v240 t239) ∧ Aside0 (Kd.R Kd.string 9 wc w.heap.size (fun k_ => some k_ ≠ (v240 : Value).ownBlock) v244 t243) ∧ Aside0 (wc.heap[gb236]? = some (.cells #[.int .i64 a0_0, (.slice A0_1 l0_1.length c0_1), (.slice A0_2 l0_2.length c0_2)] 26 (0, 0))) ∧ Aside0 (wc.heap[gb237]? = some (.cells #[.int .i64 a1_0, (.slice A1_1 l1_1.length c1_1), (.slice A1_2 l1_2.length c1_2)] 26 (0, 0))) ∧ Aside0 (wc.heap[gb238]? = some (.cells #[.int .i64 0, (.slice none 0 0), (.slice none 0 0)] 26 (0, 0))) ∧ Aside0 (Below w.heap.size w wc))
 case first =>
  have H := HC5.out; clear HC5
  by_cases c16 : t242 = true
  ·subst c16
   rw [if_pos rfl] at H; have H' := am H; clear H
   go_wp2
   go_meet
   case rel => exact ⟨_, (!t246), wZ, H', ⟨by first | omega | exact Nat.le_refl _⟩, ⟨Rz (Kd.R_mono HO241.out (fun _ hk => hk.2))⟩, ⟨Rz (Kd.R_mono HO245.out (fun _ hk => hk.2))⟩, ⟨Kz BK236.out⟩, ⟨Kz BK237.out⟩, ⟨Kz BK238.out⟩, ⟨Bq⟩⟩
  ·replace c16 := Bool.eq_false_iff.mpr c16
   subst c16
   rw [if_neg (show ¬ (false = true) by decide)] at H; have H' := am H; clear H
   go_wp2
   go_meet
   case rel => exact ⟨_, (true), wZ, H', ⟨by first | omega | exact Nat.le_refl _⟩, ⟨Rz (Kd.R_mono HO241.out (fun _ hk => hk.2))⟩, ⟨Rz (Kd.R_mono HO245.out (fun _ hk => hk.2))⟩, ⟨Kz BK236.out⟩, ⟨Kz BK237.out⟩, ⟨Kz BK238.out⟩, ⟨Bq⟩⟩
 case rest =>
  clear HC5
  try clear c1
  try clear p2
  try clear c3
  try clear c5
  try clear c9
  try clear c10
  try clear c13
  try clear c16
  obtain ⟨kq, x27_4, rfl, HA, HJ4, HO_6, HO_8, BK236, BK237, BK238, HB⟩ := hcut; cases kq with
  | zero => exact absurd HA.out (by simp [spec_MergeFronts.j0])
  | succ kj4 =>
   have H := HA.out; clear HA
   simp only [spec_MergeFronts.j0] at H
   by_cases c17 : x27_4 = true
   ·subst c17
    rw [if_pos rfl] at H
    simp only [Option.some.injEq, Prod.mk.injEq] at H
    obtain ⟨rfl, rfl, rfl, rfl⟩ := H; have hnb18 := NB238_236.out; have hnc18 := NB236_238.out; have hnb19 := NB238_237.out; have hnc19 := NB237_238.out; obtain ⟨hcz20_0, hcz20_1, hcz20_2, hfz20_0, hfz20_1, hfz20_2⟩ := cf3 (w := wc) BK238
    go_wp2
    refine bodyPost_ret (results_ct rfl _ _ gb238 26 #[.int .i64 0, .slice none 0 0, .slice none 0 0] (0, 0) _ rfl (by refine bp ?_; refine blk_put (cs := #[.int .i64 0, .slice none 0 0, .slice none 0 0]) ?_ 2 _ rfl; refine bp ?_; refine blk_put (cs := #[.int .i64 0, .slice none 0 0, .slice none 0 0]) ?_ 1 _ rfl; refine bp ?_; refine blk_put (cs := #[.int .i64 0, .slice none 0 0, .slice none 0 0]) ?_ 0 _ rfl; exact Kz BK238.out) Try.underlying26 rfl (by kernel_rfl)) rfl ?_; exact ⟨_, _, eZ, nZ, nZ, Bq⟩
   ·replace c17 := Bool.eq_false_iff.mpr c17
    subst c17
    rw [if_neg (show ¬ (false = true) by decide)] at H; have H' := am H; clear H; obtain ⟨Ao21, co21, eo21⟩ := Kd.R_slice HO_8.out; subst eo21
    go_wp2
    go_loopg [6, 31] kj4 (fun kq v6 v31 w' => ∃ (x6_2 : List ByteArray) (x31_2 : Int), v31 = .int .i64 x31_2 ∧ Aside0 (spec_MergeFronts.l0 kq x6_2 t243 (t243.length : Int) x31_2 a0_0 l0_1 l0_2 = some (r1, r2, r3, r4)) ∧ Aside0 (kq ≤ kj4) ∧ Aside0 (Kd.R Kd.string 9 w' w.heap.size (fun k_ => some k_ ≠ ((.slice Ao21 t243.length co21) : Value).ownBlock) v6 x6_2) ∧ Aside0 (Kd.R Kd.string 9 w' w.heap.size (fun k_ => some k_ ≠ (v6 : Value).ownBlock) (.slice Ao21 t243.length co21) t243) ∧ Aside0 (w'.heap[gb236]? = some (.cells #[.int .i64 a0_0, (.slice A0_1 l0_1.length c0_1), (.slice A0_2 l0_2.length c0_2)] 26 (0, 0))) ∧ Aside0 (w'.heap[gb237]? = some (.cells #[.int .i64 a1_0, (.slice A1_1 l1_1.length c1_1), (.slice A1_2 l1_2.length c1_2)] 26 (0, 0))) ∧ Aside0 (w'.heap[gb238]? = some (.cells #[.int .i64 0, (.slice none 0 0), (.slice none 0 0)] 26 (0, 0))) ∧ Aside0 (Below w.heap.size w w'))
    case atStart => exact ⟨(t239), (0), wZ, H', ⟨Nat.le_refl _⟩, ⟨Rz HO_6.out⟩, ⟨Rz HO_8.out⟩, ⟨Kz BK236.out⟩, ⟨Kz BK237.out⟩, ⟨Kz BK238.out⟩, ⟨Bq⟩⟩
    case round =>
     clear H'
     try clear c1
     try clear p2
     try clear c3
     try clear c5
     try clear c9
     try clear c10
     try clear c13
     try clear c16
     try clear c17
     try clear c18
     try clear c19
     try clear p2
     obtain ⟨x6_2, x31_2, rfl, HA, HK2, HO_6, HO_29, BK236, BK237, BK238, HB⟩ := hrel; cases gk with
     | zero => exact absurd HA.out (by simp [spec_MergeFronts.l0])
     | succ k2 =>
      have H := HA.out; clear HA
      simp only [spec_MergeFronts.l0] at H
      by_cases c22 : x31_2 < (t243.length : Int)
      ·rw [if_pos c22] at H
       have c22b0 : decide (x31_2 < (t243.length : Int)) = true := decide_eq_true c22; clear c22
       by_cases c23 : 0 ≤ x31_2
       ·rw [if_pos c23] at H
        have c23b0 : decide (0 ≤ x31_2) = true := decide_eq_true c23; clear c23
        by_cases c24 : x31_2 < (t243.length : Int)
        ·rw [if_pos c24] at H
         have c24b0 : decide (x31_2 < (t243.length : Int)) = true := decide_eq_true c24; clear c24; obtain ⟨t248, A25, H⟩ := ob H; (try dsimp -simprocs only at H); have H' := am H; clear H; obtain ⟨ad247, e247, hx247_0⟩ := Kd.at_string (Kd.R_reads' HO_29.out).2.2 x31_2 dT dT; cases e247; have p247 := eT (0 ≤ (x31_2 : Int)); have q247 := eT (x31_2 < (t243.length : Int)); obtain ⟨Ao26, co26, eo26⟩ := Kd.R_slice HO_6.out; subst eo26
         go_wp2_with (first | ((with_reducible refine gate_callee (f := 57) rfl ?_); refine gL (some 37) Try.func57 #[.slice Ao26 x6_2.length co26, .string (rdOf ByteArray.empty t243 x31_2)] ?_; (with_reducible refine (spec_l1PutS.calls k2 (fun k_ => some k_ = (.slice Ao26 x6_2.length co26 : Value).ownBlock) (.slice Ao26 x6_2.length co26) x6_2 (rdOf ByteArray.empty t243 x31_2) t248 w _ ?side1 ?side2 A25.out).mono ?_); (case side1 => repeat (first | (with_reducible first | exact HB.out | apply below_alloc | apply pw_below_drewN | apply below_drew1 | refine below_set ?_ GE236.out | refine below_set ?_ GE237.out | refine below_set ?_ GE238.out) | exact HB.out)); (case side2 => exact Kd.R_tight rfl HO_6.out); rintro e w27 ⟨v249, rfl, ho0, hb, hkp⟩; refine ⟨_, rfl, ?_⟩; have n0_ := am (Kd.R_mono (ok' := fun k_ => some k_ ≠ (v249 : Value).ownBlock) (Kd.R_keptB (HO_29.out) hkp (fun k_ hk_ hs_ => (hk_) hs_)) (fun k_ hk_ => fun e_ => Or.elim (ho0.1 k_ e_.symm) (fun hs_ => hk_.2.1 hs_) (fun hn_ => Nat.not_le.2 hk_.2.2 hn_))); have n1_ := am (blk_kept (Kz BK236.out) hkp (fun hs_ => (fun e_ => (Kd.R_ne HO_6.out BK236.out (by decide)) e_) hs_)); have n2_ := am (blk_kept (Kz BK237.out) hkp (fun hs_ => (fun e_ => (Kd.R_ne HO_6.out BK237.out (by decide)) e_) hs_)); have n3_ := am (blk_kept (Kz BK238.out) hkp (fun hs_ => (fun e_ => (Kd.R_ne HO_6.out BK238.out (by decide)) e_) hs_)); have n4_ := am (Kd.R_mono (ok' := fun k_ => some k_ ≠ (.slice (some ad247) t243.length co21 : Value).ownBlock) ho0 (fun k_ hk_ => Or.elim hk_ (fun hs_ => fun e_ => (((HO_29.out).1 k_ e_.symm)) hs_) (fun hn_ => (Kd.fresh' (Kd.R_lt (Rz HO_29.out)) k_ hn_)))); have n5_ := am (hb); clear HO_29 BK236 BK237 BK238 HB HO_6; revert n0_ n1_ n2_ n3_ n4_ n5_; intro HO_29 BK236 BK237 BK238 HO250 HB; (try clear hb); (try clear hkp); (try clear ho0)))
         go_roundg k2
         case measure => have := HJ4.out; have := HK2.out; omega
         case rel => exact ⟨(t248), (wrap64 (x31_2 + 1)), wZ, H', ⟨by have := HJ4.out; have := HK2.out; omega⟩, ⟨Rz HO250.out⟩, ⟨Rz HO_29.out⟩, ⟨Kz BK236.out⟩, ⟨Kz BK237.out⟩, ⟨Kz BK238.out⟩, ⟨Bq⟩⟩
        ·rw [if_neg c24] at H
         exact absurd H (by simp)
       ·rw [if_neg c23] at H
        exact absurd H (by simp)
      ·rw [if_neg c22] at H
       have c22b0 : decide (x31_2 < (t243.length : Int)) = false := decide_eq_false c22; clear c22; obtain ⟨t251, A28, H⟩ := ob H; (try dsimp -simprocs only at H)
       by_cases c29 : t251 = true
       ·subst c29
        rw [if_pos rfl] at H; obtain ⟨⟨t252, t253, t256⟩, A30, H⟩ := ob H; (try dsimp -simprocs only at H)
        simp only [Option.some.injEq, Prod.mk.injEq] at H
        obtain ⟨rfl, rfl, rfl, rfl⟩ := H; obtain ⟨Ao31, co31, eo31⟩ := Kd.R_slice HO_6.out; subst eo31
        go_wp2_with (first | ((with_reducible refine gate_callee (f := 38) rfl ?_); refine gL (some 40) Try.func38 #[.slice Ao31 x6_2.length co31] ?_; (with_reducible refine (spec_biKeys.calls k2 _ _ x6_2 true _ ?side1 ?side2 A28.out).mono ?_); (case side1 => exact Cz ((Kd.R_reads' HO_6.out).2.2)); (case side2 => exact (Kd.R_reads' HO_6.out).2.1); rintro e w' ⟨rfl, ⟨nd, rfl⟩⟩; refine ⟨_, rfl, ?_⟩; (try (rw [drewN_self wr]; generalize hq_ : World.drewN wr _ = wr; have n0_ : Aside0 (Kd.R Kd.string 9 wr w.heap.size (fun k_ => some k_ ≠ (.slice Ao31 x6_2.length co31 : Value).ownBlock) (.slice Ao21 t243.length co21) t243) := ⟨by rw [← hq_]; exact (Rz HO_29.out)⟩; have n1_ : Aside0 (Kd.R Kd.string 9 wr w.heap.size (fun k_ => some k_ ≠ (.slice Ao21 t243.length co21 : Value).ownBlock) (.slice Ao31 x6_2.length co31) x6_2) := ⟨by rw [← hq_]; exact (Rz HO_6.out)⟩; have n2_ : Aside0 (wr.heap[gb236]? = some (.cells #[.int .i64 a0_0, .slice A0_1 l0_1.length c0_1, .slice A0_2 l0_2.length c0_2] 26 (0, 0))) := ⟨by rw [← hq_]; exact (Kz BK236.out)⟩; have n3_ : Aside0 (wr.heap[gb237]? = some (.cells #[.int .i64 a1_0, .slice A1_1 l1_1.length c1_1, .slice A1_2 l1_2.length c1_2] 26 (0, 0))) := ⟨by rw [← hq_]; exact (Kz BK237.out)⟩; have n4_ : Aside0 (wr.heap[gb238]? = some (.cells #[.int .i64 0, .slice none 0 0, .slice none 0 0] 26 (0, 0))) := ⟨by rw [← hq_]; exact (Kz BK238.out)⟩; have n5_ : Aside0 (Below w.heap.size w wr) := ⟨by rw [← hq_]; exact (Bq)⟩; clear HO_29 HO_6 BK236 BK237 BK238 HB hq_; revert n0_ n1_ n2_ n3_ n4_ n5_; intro HO_29 HO_6 BK236 BK237 BK238 HB)); have hnb32 := NB236_237.out; have hnc32 := NB237_236.out; have hnb33 := NB236_238.out; have hnc33 := NB238_236.out; obtain ⟨hcz34_0, hcz34_1, hcz34_2, hfz34_0, hfz34_1, hfz34_2⟩ := cf3 (w := wr) BK236) | ((with_reducible refine gate_callee (f := 40) rfl ?_); refine gL (some 46) Try.func40 #[.slice Ao31 x6_2.length co31, .int .i64 a0_0] ?_; (with_reducible refine (spec_trFront.calls k2 _ _ x6_2 a0_0 t252 t253 t256 _ ?side1 ?side2 A30.out).mono ?_); (case side1 => exact Cz ((Kd.R_reads' HO_6.out).2.2)); (case side2 => exact (Kd.R_reads' HO_6.out).2.1); rintro e w35 ⟨v254, v257, rfl, ho0, ho1, hb⟩; refine ⟨_, rfl, ?_⟩; have n0_ := Re HO_6 (Kd.R_base ho1) hb; have n1_ := Re HO_29 (Kd.R_base ho1) hb; have n2_ := Rm ho0 HB; have n3_ := Rm (Kd.R_new' (Kd.R_new' ho1 (Kd.R_lt (Rz HO_6.out))) (Kd.R_lt (Rz HO_29.out))) HB; have n4_ := Kb BK236 hb; have n5_ := Kb BK237 hb; have n6_ := Kb BK238 hb; have n7_ := Bc HB hb; clear HO_6 HO_29 BK236 BK237 BK238 HB; revert n0_ n1_ n2_ n3_ n4_ n5_ n6_ n7_; intro HO_6 HO_29 HO255 HO258 BK236 BK237 BK238 HB; (try clear hb); (try clear hb2); (try clear hk); (try clear hi); (try clear ho0); (try clear ho1); have hnb36 := NB238_237.out; have hnc36 := NB237_238.out; obtain ⟨hcz37_0, hcz37_1, hcz37_2, hfz37_0, hfz37_1, hfz37_2⟩ := cf3 (w := w35) BK238; obtain ⟨Ao38, co38, eo38⟩ := Kd.R_slice HO255.out; subst eo38; obtain ⟨Ao39, co39, eo39⟩ := Kd.R_slice HO258.out; subst eo39))
        refine bodyPost_ret (results_ct rfl _ _ gb238 26 #[.int .i64 t252, .slice Ao38 t253.length co38, .slice Ao39 t256.length co39] (0, 0) _ rfl (by refine bp ?_; refine blk_put (cs := #[.int .i64 t252, .slice Ao38 t253.length co38, .slice none 0 0]) ?_ 2 _ rfl; refine bp ?_; refine blk_put (cs := #[.int .i64 t252, .slice none 0 0, .slice none 0 0]) ?_ 1 _ rfl; refine bp ?_; refine blk_put (cs := #[.int .i64 0, .slice none 0 0, .slice none 0 0]) ?_ 0 _ rfl; exact Kz BK238.out) Try.underlying26 rfl (by kernel_rfl)) rfl ?_; exact ⟨_, _, eZ, Rz (Kd.R_mono (Kd.R_far (p := ⟨gb238, 2, none⟩) (Kd.R_far (p := ⟨gb238, 1, none⟩) (Kd.R_far (p := ⟨gb238, 0, none⟩) (Kd.R_types HO255.out BK238.out (by decide)) (fun _ hk => hk.2) (.int .i64 t252)) (fun _ hk => hk.2) (.slice Ao38 t253.length co38)) (fun _ hk => hk.2) (.slice Ao39 t256.length co39)) (fun _ hk => trivial)), Rz (Kd.R_mono (Kd.R_far (p := ⟨gb238, 2, none⟩) (Kd.R_far (p := ⟨gb238, 1, none⟩) (Kd.R_far (p := ⟨gb238, 0, none⟩) (Kd.R_types HO258.out BK238.out (by decide)) (fun _ hk => hk.2) (.int .i64 t252)) (fun _ hk => hk.2) (.slice Ao38 t253.length co38)) (fun _ hk => hk.2) (.slice Ao39 t256.length co39)) (fun _ hk => trivial)), Bq⟩
       ·replace c29 := Bool.eq_false_iff.mpr c29
        subst c29
        rw [if_neg (show ¬ (false = true) by decide)] at H
        simp only [Option.some.injEq, Prod.mk.injEq] at H
        obtain ⟨rfl, rfl, rfl, rfl⟩ := H; obtain ⟨Ao40, co40, eo40⟩ := Kd.R_slice HO_6.out; subst eo40
        go_wp2_with (first | ((with_reducible refine gate_callee (f := 38) rfl ?_); refine gL (some 40) Try.func38 #[.slice Ao40 x6_2.length co40] ?_; (with_reducible refine (spec_biKeys.calls k2 _ _ x6_2 false _ ?side1 ?side2 A28.out).mono ?_); (case side1 => exact Cz ((Kd.R_reads' HO_6.out).2.2)); (case side2 => exact (Kd.R_reads' HO_6.out).2.1); rintro e w' ⟨rfl, ⟨nd, rfl⟩⟩; refine ⟨_, rfl, ?_⟩; (try (rw [drewN_self wr]; generalize hq_ : World.drewN wr _ = wr; have n0_ : Aside0 (Kd.R Kd.string 9 wr w.heap.size (fun k_ => some k_ ≠ (.slice Ao40 x6_2.length co40 : Value).ownBlock) (.slice Ao21 t243.length co21) t243) := ⟨by rw [← hq_]; exact (Rz HO_29.out)⟩; have n1_ : Aside0 (Kd.R Kd.string 9 wr w.heap.size (fun k_ => some k_ ≠ (.slice Ao21 t243.length co21 : Value).ownBlock) (.slice Ao40 x6_2.length co40) x6_2) := ⟨by rw [← hq_]; exact (Rz HO_6.out)⟩; have n2_ : Aside0 (wr.heap[gb236]? = some (.cells #[.int .i64 a0_0, .slice A0_1 l0_1.length c0_1, .slice A0_2 l0_2.length c0_2] 26 (0, 0))) := ⟨by rw [← hq_]; exact (Kz BK236.out)⟩; have n3_ : Aside0 (wr.heap[gb237]? = some (.cells #[.int .i64 a1_0, .slice A1_1 l1_1.length c1_1, .slice A1_2 l1_2.length c1_2] 26 (0, 0))) := ⟨by rw [← hq_]; exact (Kz BK237.out)⟩; have n4_ : Aside0 (wr.heap[gb238]? = some (.cells #[.int .i64 0, .slice none 0 0, .slice none 0 0] 26 (0, 0))) := ⟨by rw [← hq_]; exact (Kz BK238.out)⟩; have n5_ : Aside0 (Below w.heap.size w wr) := ⟨by rw [← hq_]; exact (Bq)⟩; clear HO_29 HO_6 BK236 BK237 BK238 HB hq_; revert n0_ n1_ n2_ n3_ n4_ n5_; intro HO_29 HO_6 BK236 BK237 BK238 HB)); have hnb41 := NB238_236.out; have hnc41 := NB236_238.out; have hnb42 := NB238_237.out; have hnc42 := NB237_238.out; obtain ⟨hcz43_0, hcz43_1, hcz43_2, hfz43_0, hfz43_1, hfz43_2⟩ := cf3 (w := wr) BK238))
        refine bodyPost_ret (results_ct rfl _ _ gb238 26 #[.int .i64 0, .slice none 0 0, .slice none 0 0] (0, 0) _ rfl (by refine bp ?_; refine blk_put (cs := #[.int .i64 0, .slice none 0 0, .slice none 0 0]) ?_ 2 _ rfl; refine bp ?_; refine blk_put (cs := #[.int .i64 0, .slice none 0 0, .slice none 0 0]) ?_ 1 _ rfl; refine bp ?_; refine blk_put (cs := #[.int .i64 0, .slice none 0 0, .slice none 0 0]) ?_ 0 _ rfl; exact Kz BK238.out) Try.underlying26 rfl (by kernel_rfl)) rfl ?_; exact ⟨_, _, eZ, nZ, nZ, Bq⟩

def impl_in.f (a0 : Int) (a1 : Int) (a2 : Int) : Option (Bool) := if a0 ≥ a1 then (some (decide (a0 ≤ a2))) else (some false)
theorem impl_in.calls (a0 : Int) (a1 : Int) (a2 : Int) (r : Bool) (w : World) (h : impl_in.f a0 a1 a2 = some r) :
  Calls Try.prog 42 #[.int .i64 a0, .int .i64 a1, .int .i64 a2] w fun e w' => e = .returned (.bool r) ∧ Drawn0 w w' := by
 have H : (if a0 ≥ a1 then (some (decide (a0 ≤ a2))) else (some false)) = some r := h; clear h
 by_cases c4 : a0 ≥ a1
 ·rw [if_pos c4] at H
  have c4b0 : decide (a1 ≤ a0) = true := decide_eq_true c4; clear c4; obtain rfl := Option.some.inj H
  go_enter Try.func42, Try.ntmps42
  go_wp2
  go_ret
  exact ⟨by first | rfl | (simp; done) | (simp [*]; done), by repeat (first | exact Drawn0.refl _ | apply Drawn0.step)⟩
 ·rw [if_neg c4] at H
  have c4b0 : decide (a1 ≤ a0) = false := decide_eq_false c4; clear c4; obtain rfl := Option.some.inj H
  go_enter Try.func42, Try.ntmps42
  go_wp2
  go_ret
  exact ⟨by first | rfl | (simp; done) | (simp [*]; done), by repeat (first | exact Drawn0.refl _ | apply Drawn0.step)⟩

end Go.Proofs.Ytfedgkmklcialaa.PM
-- printed by a program of this session (wip/gp) out of the translation; Lean checks it
namespace Go.Proofs.Ytfedgkmklcialaa.PM
open Go.RowKit Go.Proofs.YtfedgkmklcialaaW.PrintWords Go.Proofs.YtfedgkmklcialaaW.PrintLast Go.Proofs.YtfedgkmklcialaaW.PrintMore Go.Proofs.YtfedgkmklcialaaSq
attribute [local go_sem] max2_int min2_int max_two min_two max_three min_three max_four min_four   -- for this text's walks alone
attribute [local go_sem] Go.Proofs.YtfedgkmklcialaaGp.str_geq Go.Proofs.YtfedgkmklcialaaGp.str_gtr Go.Proofs.YtfedgkmklcialaaGp.str_leq
set_option linter.unusedVariables false
set_option linter.unusedSimpArgs false

set_option maxHeartbeats 8000000
set_option maxRecDepth 100000
def impl_IsKey.l0 : Nat → ByteArray → Int → Int → Option (Bool)
 | 0, _, _, _ => none
 | k + 1, x0, x5, x6 => if x6 < x5 then (if 0 ≤ x6 then (if x6 < (x0.size : Int) then (if (bt x0 x6) < 33 then (some false) else (if (bt x0 x6) > 125 then (some false) else (impl_IsKey.l0 k x0 x5 (wrap64 (x6 + 1))))) else (none)) else (none)) else ((impl_in.f (x0.size : Int) 1 12).bind fun t259 => (some t259))
def impl_IsKey.f (k : Nat) (a0 : ByteArray) : Option (Bool) := impl_IsKey.l0 k a0 (a0.size : Int) 0
theorem impl_IsKey.calls (k : Nat) (a0 : ByteArray) (r : Bool) (w : World) (h : impl_IsKey.f k a0 = some r) :
  Calls Try.prog 66 #[.string a0] w fun e w' => e = .returned (.bool r) ∧ Drawn0 w w' := by
 have H : (impl_IsKey.l0 k a0 (a0.size : Int) 0) = some r := h; clear h; have H' := am H; clear H
 go_enter Try.func66, Try.ntmps66
 go_wp2
 go_loopg [6] k (fun kq v6 w' => ∃ (x6_1 : Int), v6 = .int .i64 x6_1 ∧ Aside0 (impl_IsKey.l0 kq a0 (a0.size : Int) x6_1 = some r) ∧ Aside0 (kq ≤ k) ∧ Drawn0 w w')
 case atStart => exact ⟨(0), wZ, H', ⟨Nat.le_refl _⟩, by repeat (first | exact Drawn0.refl _ | apply Drawn0.step)⟩
 case round =>
  clear H'; obtain ⟨x6_1, rfl, HA, HK1, ⟨m1, rfl⟩⟩ := hrel; cases gk with
  | zero => exact absurd HA.out (by simp [impl_IsKey.l0])
  | succ k1 =>
   have H := HA.out; clear HA
   simp only [impl_IsKey.l0] at H
   by_cases c2 : x6_1 < (a0.size : Int)
   ·rw [if_pos c2] at H
    have c2b0 : decide (x6_1 < (a0.size : Int)) = true := decide_eq_true c2; clear c2
    by_cases c3 : 0 ≤ x6_1
    ·rw [if_pos c3] at H
     have c3b0 : decide (0 ≤ x6_1) = true := decide_eq_true c3; clear c3
     by_cases c4 : x6_1 < (a0.size : Int)
     ·rw [if_pos c4] at H
      have c4b0 : decide (x6_1 < (a0.size : Int)) = true := decide_eq_true c4; clear c4
      by_cases c6 : (bt a0 x6_1) < 33
      ·rw [if_pos c6] at H
       have c6b0 : decide ((bt a0 x6_1) < 33) = true := decide_eq_true c6; clear c6; obtain rfl := Option.some.inj H; have p5 : 0 ≤ (x6_1 : Int) := dT; have q5 : x6_1 < (a0.size : Int) := dT; have hx5 := bt_at a0 x6_1; replace p5 := eq_true p5; replace q5 := eq_true q5
       go_wp2
       go_ret
       exact ⟨by first | rfl | (simp; done) | (simp [*]; done), by repeat (first | exact Drawn0.refl _ | apply Drawn0.step)⟩
      ·rw [if_neg c6] at H
       have c6b0 : decide ((bt a0 x6_1) < 33) = false := decide_eq_false c6; clear c6
       by_cases c8 : (bt a0 x6_1) > 125
       ·rw [if_pos c8] at H
        have c8b0 : decide (125 < (bt a0 x6_1)) = true := decide_eq_true c8; clear c8; obtain rfl := Option.some.inj H; have p5 : 0 ≤ (x6_1 : Int) := dT; have q5 : x6_1 < (a0.size : Int) := dT; have hx5 := bt_at a0 x6_1; replace p5 := eq_true p5; replace q5 := eq_true q5; have p7 : 0 ≤ (x6_1 : Int) := dT; have q7 : x6_1 < (a0.size : Int) := dT; have hx7 := bt_at a0 x6_1; replace p7 := eq_true p7; replace q7 := eq_true q7
        go_wp2
        go_ret
        exact ⟨by first | rfl | (simp; done) | (simp [*]; done), by repeat (first | exact Drawn0.refl _ | apply Drawn0.step)⟩
       ·rw [if_neg c8] at H
        have c8b0 : decide (125 < (bt a0 x6_1)) = false := decide_eq_false c8; clear c8; have H' := am H; clear H; have p5 : 0 ≤ (x6_1 : Int) := dT; have q5 : x6_1 < (a0.size : Int) := dT; have hx5 := bt_at a0 x6_1; replace p5 := eq_true p5; replace q5 := eq_true q5; have p7 : 0 ≤ (x6_1 : Int) := dT; have q7 : x6_1 < (a0.size : Int) := dT; have hx7 := bt_at a0 x6_1; replace p7 := eq_true p7; replace q7 := eq_true q7
        go_wp2
        go_roundg k1
        case measure => have := HK1.out; omega
        case rel => exact ⟨(wrap64 (x6_1 + 1)), wZ, H', ⟨by have := HK1.out; omega⟩, by repeat (first | exact Drawn0.refl _ | apply Drawn0.step)⟩
     ·rw [if_neg c4] at H
      exact absurd H (by simp)
    ·rw [if_neg c3] at H
     exact absurd H (by simp)
   ·rw [if_neg c2] at H
    have c2b0 : decide (x6_1 < (a0.size : Int)) = false := decide_eq_false c2; clear c2; obtain ⟨t259, A9, H⟩ := ob H; (try dsimp -simprocs only at H); obtain rfl := Option.some.inj H
    go_wp2_with (first | ((with_reducible refine gate_callee (f := 42) rfl ?_); refine gL (some 22) Try.func42 #[.int .i64 (a0.size : Int), .int .i64 1, .int .i64 12] ?_; (with_reducible refine (impl_in.calls (a0.size : Int) 1 12 t259 _ A9.out).mono ?_); rintro e w' ⟨rfl, ⟨nd, rfl⟩⟩; refine ⟨_, rfl, ?_⟩))
    go_ret
    exact ⟨by first | rfl | (simp; done) | (simp [*]; done), by repeat (first | exact Drawn0.refl _ | apply Drawn0.step)⟩

def impl_AreKeys.l0 : Nat → List ByteArray → List ByteArray → Int → Int → Option (Bool)
 | 0, _, _, _, _ => none
 | k + 1, x0, x5, x6, x7 => if x7 < x6 then (if 0 ≤ x7 then (if x7 < (x5.length : Int) then ((impl_IsKey.f k (rdOf ByteArray.empty x5 x7)).bind fun t261 => (if t261 = true then (if x7 > 0 then (if 0 ≤ (wrap64 (x7 - 1)) then (if (wrap64 (x7 - 1)) < (x0.length : Int) then (if ((Op.bytesLess ((rdOf ByteArray.empty x0 (wrap64 (x7 - 1))).toList) ((rdOf ByteArray.empty x5 x7).toList)) = true) then (impl_AreKeys.l0 k x0 x5 x6 (wrap64 (x7 + 1))) else (some false)) else (none)) else (none)) else (impl_AreKeys.l0 k x0 x5 x6 (wrap64 (x7 + 1)))) else (some false))) else (none)) else (none)) else (some (decide ((x0.length : Int) ≤ 40)))
def impl_AreKeys.f (k : Nat) (l0 : List ByteArray) : Option (Bool) := impl_AreKeys.l0 k l0 l0 (l0.length : Int) 0
theorem impl_AreKeys.calls (k : Nat) (A0 : Option Addr) (c0 : Nat) (l0 : List ByteArray) (r : Bool) (w : World) (hr0 : Kd.C Kd.string w A0 l0.length l0) (hc0 : l0.length ≤ c0) (h : impl_AreKeys.f k l0 = some r) :
  Calls Try.prog 41 #[.slice A0 l0.length c0] w fun e w' => e = .returned (.bool r) ∧ Drawn0 w w' := by
 have HR0 := am hr0; have HC0 := am hc0; clear hr0 hc0; have H : (impl_AreKeys.l0 k l0 l0 (l0.length : Int) 0) = some r := h; clear h; have H' := am H; clear H
 go_enter Try.func41, Try.ntmps41
 go_wp2
 go_loopg [7] k (fun kq v7 w' => ∃ (x7_1 : Int), v7 = .int .i64 x7_1 ∧ Aside0 (impl_AreKeys.l0 kq l0 l0 (l0.length : Int) x7_1 = some r) ∧ Aside0 (kq ≤ k) ∧ Drawn0 w w')
 case atStart => exact ⟨(0), wZ, H', ⟨Nat.le_refl _⟩, by repeat (first | exact Drawn0.refl _ | apply Drawn0.step)⟩
 case round =>
  clear H'; obtain ⟨x7_1, rfl, HA, HK1, ⟨m1, rfl⟩⟩ := hrel; cases gk with
  | zero => exact absurd HA.out (by simp [impl_AreKeys.l0])
  | succ k1 =>
   have H := HA.out; clear HA
   simp only [impl_AreKeys.l0] at H
   by_cases c2 : x7_1 < (l0.length : Int)
   ·rw [if_pos c2] at H
    have c2b0 : decide (x7_1 < (l0.length : Int)) = true := decide_eq_true c2; clear c2
    by_cases c3 : 0 ≤ x7_1
    ·rw [if_pos c3] at H
     have c3b0 : decide (0 ≤ x7_1) = true := decide_eq_true c3; clear c3
     by_cases c4 : x7_1 < (l0.length : Int)
     ·rw [if_pos c4] at H
      have c4b0 : decide (x7_1 < (l0.length : Int)) = true := decide_eq_true c4; clear c4; obtain ⟨t261, A5, H⟩ := ob H; (try dsimp -simprocs only at H)
      by_cases c6 : t261 = true
      ·subst c6
       rw [if_pos rfl] at H
       by_cases c7 : x7_1 > 0
       ·rw [if_pos c7] at H
        have c7b0 : decide (0 < x7_1) = true := decide_eq_true c7; clear c7; obtain ⟨ji8, hji8⟩ : ∃ j_ : Int, (wrap64 (x7_1 - 1)) = j_ := ⟨_, rfl⟩
        replace H : (if 0 ≤ (ji8) then (if (ji8) < (l0.length : Int) then (if ((Op.bytesLess ((rdOf ByteArray.empty l0 (ji8)).toList) ((rdOf ByteArray.empty l0 x7_1).toList)) = true) then (impl_AreKeys.l0 k1 l0 l0 (l0.length : Int) (wrap64 (x7_1 + 1))) else (some false)) else (none)) else (none)) = some r := by first | (rw [hji8] at H; exact H) | (simp only [hji8] at H ⊢; exact H)
        (try rw [hji8] at A5)
        have hji8w : (IntKind.i64.wrap (x7_1 - 1)) = ji8 := (i64_w _).trans hji8
        by_cases c9 : 0 ≤ (ji8)
        ·rw [if_pos c9] at H
         have c9b0 : decide (0 ≤ (ji8)) = true := decide_eq_true c9; clear c9
         by_cases c10 : (ji8) < (l0.length : Int)
         ·rw [if_pos c10] at H
          have c10b0 : decide ((ji8) < (l0.length : Int)) = true := decide_eq_true c10; clear c10
          by_cases c11 : ((Op.bytesLess ((rdOf ByteArray.empty l0 (ji8)).toList) ((rdOf ByteArray.empty l0 x7_1).toList)) = true)
          ·rw [if_pos c11] at H
           have c11b0 : (Op.bytesLess ((rdOf ByteArray.empty l0 (ji8)).toList) ((rdOf ByteArray.empty l0 x7_1).toList)) = true := c11; clear c11; have H' := am H; clear H; obtain ⟨ad260, e260, hx260_0⟩ := Kd.at_string HR0.out x7_1 dT dT; cases e260; have p260 := eT (0 ≤ (x7_1 : Int)); have q260 := eT (x7_1 < (l0.length : Int))
           go_wp2_with (first | ((with_reducible refine gate_callee (f := 66) rfl ?_); refine gL (some 13) Try.func66 #[.string (rdOf ByteArray.empty l0 x7_1)] ?_; (with_reducible refine (impl_IsKey.calls k1 (rdOf ByteArray.empty l0 x7_1) true _ A5.out).mono ?_); rintro e w' ⟨rfl, ⟨nd, rfl⟩⟩; refine ⟨_, rfl, ?_⟩; have p262 : 0 ≤ ((ji8) : Int) := dT; have q262 : (ji8) < (l0.length : Int) := dT; obtain ⟨ad262, e262, hx262_0⟩ := Kd.at_string HR0.out (ji8) p262 q262; obtain rfl : ad260 = ad262 := (by injection e262); replace p262 := eq_true p262; replace q262 := eq_true q262))
           go_roundg k1
           case measure => have := HK1.out; omega
           case rel => exact ⟨(wrap64 (x7_1 + 1)), wZ, H', ⟨by have := HK1.out; omega⟩, by repeat (first | exact Drawn0.refl _ | apply Drawn0.step)⟩
          ·rw [if_neg c11] at H
           have c11b0 : (Op.bytesLess ((rdOf ByteArray.empty l0 (ji8)).toList) ((rdOf ByteArray.empty l0 x7_1).toList)) = false := by simpa using c11
           clear c11; obtain rfl := Option.some.inj H; obtain ⟨ad260, e260, hx260_0⟩ := Kd.at_string HR0.out x7_1 dT dT; cases e260; have p260 := eT (0 ≤ (x7_1 : Int)); have q260 := eT (x7_1 < (l0.length : Int))
           go_wp2_with (first | ((with_reducible refine gate_callee (f := 66) rfl ?_); refine gL (some 13) Try.func66 #[.string (rdOf ByteArray.empty l0 x7_1)] ?_; (with_reducible refine (impl_IsKey.calls k1 (rdOf ByteArray.empty l0 x7_1) true _ A5.out).mono ?_); rintro e w' ⟨rfl, ⟨nd, rfl⟩⟩; refine ⟨_, rfl, ?_⟩; have p262 : 0 ≤ ((ji8) : Int) := dT; have q262 : (ji8) < (l0.length : Int) := dT; obtain ⟨ad262, e262, hx262_0⟩ := Kd.at_string HR0.out (ji8) p262 q262; obtain rfl : ad260 = ad262 := (by injection e262); replace p262 := eq_true p262; replace q262 := eq_true q262))
           go_ret
           exact ⟨by first | rfl | (simp; done) | (simp only [← hji8] <;> (first | rfl | simp)) | (simp [*]; done), by repeat (first | exact Drawn0.refl _ | apply Drawn0.step)⟩
         ·rw [if_neg c10] at H
          exact absurd H (by simp)
        ·rw [if_neg c9] at H
         exact absurd H (by simp)
       ·rw [if_neg c7] at H
        have c7b0 : decide (0 < x7_1) = false := decide_eq_false c7; clear c7; have H' := am H; clear H; obtain ⟨ad260, e260, hx260_0⟩ := Kd.at_string HR0.out x7_1 dT dT; cases e260; have p260 := eT (0 ≤ (x7_1 : Int)); have q260 := eT (x7_1 < (l0.length : Int))
        go_wp2_with (first | ((with_reducible refine gate_callee (f := 66) rfl ?_); refine gL (some 13) Try.func66 #[.string (rdOf ByteArray.empty l0 x7_1)] ?_; (with_reducible refine (impl_IsKey.calls k1 (rdOf ByteArray.empty l0 x7_1) true _ A5.out).mono ?_); rintro e w' ⟨rfl, ⟨nd, rfl⟩⟩; refine ⟨_, rfl, ?_⟩))
        go_roundg k1
        case measure => have := HK1.out; omega
        case rel => exact ⟨(wrap64 (x7_1 + 1)), wZ, H', ⟨by have := HK1.out; omega⟩, by repeat (first | exact Drawn0.refl _ | apply Drawn0.step)⟩
      ·replace c6 := Bool.eq_false_iff.mpr c6
       subst c6
       rw [if_neg (show ¬ (false = true) by decide)] at H; obtain rfl := Option.some.inj H; obtain ⟨ad260, e260, hx260_0⟩ := Kd.at_string HR0.out x7_1 dT dT; cases e260; have p260 := eT (0 ≤ (x7_1 : Int)); have q260 := eT (x7_1 < (l0.length : Int))
       go_wp2_with (first | ((with_reducible refine gate_callee (f := 66) rfl ?_); refine gL (some 13) Try.func66 #[.string (rdOf ByteArray.empty l0 x7_1)] ?_; (with_reducible refine (impl_IsKey.calls k1 (rdOf ByteArray.empty l0 x7_1) false _ A5.out).mono ?_); rintro e w' ⟨rfl, ⟨nd, rfl⟩⟩; refine ⟨_, rfl, ?_⟩))
       go_ret
       exact ⟨by first | rfl | (simp; done) | (simp [*]; done), by repeat (first | exact Drawn0.refl _ | apply Drawn0.step)⟩
     ·rw [if_neg c4] at H
      exact absurd H (by simp)
    ·rw [if_neg c3] at H
     exact absurd H (by simp)
   ·rw [if_neg c2] at H
    have c2b0 : decide (x7_1 < (l0.length : Int)) = false := decide_eq_false c2; clear c2; obtain rfl := Option.some.inj H
    go_wp2
    go_ret
    exact ⟨by first | rfl | (simp; done) | (simp [*]; done), by repeat (first | exact Drawn0.refl _ | apply Drawn0.step)⟩

mutual
def impl_front.l0 : Nat → List ByteArray → Int → List ByteArray → Int → Int → Int → List Int → List ByteArray → Option (Int × List Int × List ByteArray)
 | 0, _, _, _, _, _, _, _, _ => none
 | k + 1, x0, x1, x11, x12, x13, x265000, x265001, x265002 => if x13 < x12 then (if 0 ≤ x13 then (if x13 < (x11.length : Int) then (impl_front.l1 k x0 x1 x13 (rdOf ByteArray.empty x11 x13) 0 x11 x12 x13 x265000 x265001 x265002) else (none)) else (none)) else (some (x265000, x265001, x265002))
def impl_front.l1 : Nat → List ByteArray → Int → Int → ByteArray → Int → List ByteArray → Int → Int → Int → List Int → List ByteArray → Option (Int × List Int × List ByteArray)
 | 0, _, _, _, _, _, _, _, _, _, _, _ => none
 | k + 1, x0, x1, x6, x7, x8, x11, x12, x13, x265000, x265001, x265002 => if x1 = 0 then (none) else (if (Int.tmod x6 x1) > 0 then (if x8 < (x7.size : Int) then (if 0 ≤ (wrap64 (x6 - 1)) then (if (wrap64 (x6 - 1)) < (x0.length : Int) then (if x8 < ((rdOf ByteArray.empty x0 (wrap64 (x6 - 1))).size : Int) then (if 0 ≤ x8 then (impl_front.j2 k x0 x1 x6 x7 x8 x11 x12 x13 ((bt x7 x8) == (bt (rdOf ByteArray.empty x0 (wrap64 (x6 - 1))) x8)) x265000 x265001 x265002) else (none)) else (impl_front.j2 k x0 x1 x6 x7 x8 x11 x12 x13 false x265000 x265001 x265002)) else (none)) else (none)) else (impl_front.j2 k x0 x1 x6 x7 x8 x11 x12 x13 false x265000 x265001 x265002)) else (impl_front.j2 k x0 x1 x6 x7 x8 x11 x12 x13 false x265000 x265001 x265002))
def impl_front.j2 : Nat → List ByteArray → Int → Int → ByteArray → Int → List ByteArray → Int → Int → Bool → Int → List Int → List ByteArray → Option (Int × List Int × List ByteArray)
 | 0, _, _, _, _, _, _, _, _, _, _, _, _ => none
 | k + 1, x0, x1, x6, x7, x8, x11, x12, x13, x50, x265000, x265001, x265002 => if x50 = true then (impl_front.l1 k x0 x1 x6 x7 (wrap64 (x8 + 1)) x11 x12 x13 x265000 x265001 x265002) else ((some (([x8] : List Int) : List Int)).bind fun y268 => (if x265001.length + y268.length < 17592186044416 then (if 0 ≤ x8 then (if x8 ≤ (x7.size : Int) then ((some (([x7.extract (x8 : Int).toNat x7.size] : List ByteArray) : List ByteArray)).bind fun y274 => (if x265002.length + y274.length < 8796093022208 then (impl_front.l0 k x0 x1 x11 x12 (wrap64 (x13 + 1)) x265000 (x265001 ++ y268) (x265002 ++ y274)) else (none))) else (none)) else (none)) else (none)))
end
def impl_front.f (k : Nat) (l0 : List ByteArray) (a1 : Int) : Option (Int × List Int × List ByteArray) := impl_front.l0 k l0 a1 l0 (l0.length : Int) 0 a1 ([] : List Int) ([] : List ByteArray)
def impl_front.T6 : Bool × List (List Nat × List Nat) := (true, [([], []), ([], []), ([0, 1], [0, 1]), ([2], [2]), ([3], [3]), ([4], [4]), ([4], [4]), ([6, 4], [4, 6]), ([5, 7, 4], [4, 5, 7]), ([4, 8], [4, 8]), ([9, 4], [9]), ([10], [10]), ([10], [10]), ([10], [10]), ([13, 10], [10, 13]), ([12, 14, 10], [10, 12, 14]), ([15, 10], [10, 15]), ([16, 10], [10, 16]), ([11, 17, 10], [10, 11, 17]), ([10, 18], [10, 18]), ([19, 10], [19]), ([20], [20]), ([20], [20]), ([21, 22, 20], [20, 21, 22]), ([20], [20]), ([20], [20]), ([25, 20], [20, 25]), ([24, 26, 20], [20, 24, 26]), ([27, 20], [20, 27]), ([20], [20]), ([28, 29, 20], [20, 28, 29]), ([23, 30, 20], [20, 23, 30]), ([20, 31], [20, 31])])
def impl_front.B6 : List Nat := [0, 0, 3, 7, 15, 31, 31, 95, 255, 511, 1023, 2047, 2047, 2047, 10239, 30719, 63487, 129023, 262143, 524287, 1048575, 2097151, 2097151, 8388607, 2097151, 2097151, 35651583, 119537663, 253755391, 2097151, 1059061759, 2147483647, 4294967295]
theorem impl_front.tab6 : rtab .any (opsOf Try.f43 6) = impl_front.T6 := by kernel_rfl
theorem impl_front.bits6 : waitsOk impl_front.T6.2 impl_front.B6 = true := by kernel_rfl
def impl_front.T8 : Bool × List (List Nat × List Nat) := (true, [([], []), ([0], [0]), ([], []), ([2], [2]), ([1, 3], [1, 3]), ([], []), ([5], [5]), ([], []), ([], []), ([7, 8], [7, 8]), ([9], [9]), ([6, 10, 4], [6, 10]), ([0, 1, 2, 3, 4, 5, 6], []), ([12, 4, 11, 0, 1, 2, 3, 4, 5, 6], [4, 12]), ([0, 1, 2, 3, 4, 5, 6, 7, 8, 9, 10, 11, 12, 13], []), ([14, 11, 13, 0, 1, 2, 3, 4, 5, 6, 7, 8, 9, 10, 11, 12, 13], [11, 14])])
def impl_front.B8 : List Nat := [0, 1, 0, 4, 15, 0, 32, 0, 0, 384, 896, 2047, 127, 8191, 16383, 32767]
theorem impl_front.tab8 : rtab .any (opsOf Try.f43 8) = impl_front.T8 := by kernel_rfl
theorem impl_front.bits8 : waitsOk impl_front.T8.2 impl_front.B8 = true := by kernel_rfl
theorem impl_front.calls (k : Nat) (A0 : Option Addr) (c0 : Nat) (l0 : List ByteArray) (a1 : Int) (r1 : Int) (r2 : List Int) (r3 : List ByteArray) (w : World) (hr0 : Kd.C Kd.string w A0 l0.length l0) (hc0 : l0.length ≤ c0) (h : impl_front.f k l0 a1 = some (r1, r2, r3)) :
  Calls Try.prog 43 #[.slice A0 l0.length c0, .int .i64 a1] w fun e w' => ∃ v1_ v2_ : Value, e = .returned (.agg #[.int .i64 r1, v1_, v2_]) ∧ Kd.R (Kd.int .i64) 3 w' w.heap.size (fun _ => True) v1_ r2 ∧ Kd.R Kd.string 9 w' w.heap.size (fun _ => True) v2_ r3 ∧ Below w.heap.size w w' := by
 have hu26 := Try.underlying26; have HR0 := am hr0; have HC0 := am hc0; clear hr0 hc0; have HB := am (Below.refl w.heap.size w); have H : (impl_front.l0 k l0 a1 l0 (l0.length : Int) 0 a1 ([] : List Int) ([] : List ByteArray)) = some (r1, r2, r3) := h; clear h; have H' := am H; clear H
 go_enter Try.func43, Try.ntmps43
 go_wp2_with (first | ((with_reducible refine gate_dst (N := 4) rfl ?_); (try (refine gate_guard (by rfl) ?_; dsimp only)); refine bE 4 #[.int .i64 0, .slice none 0 0, .slice none 0 0] 26 ?_; intro gb263 hg w3 hbox hb; have n0_ := Bb HB hb; have n1_ := am (hbox); have n2_ := Gl HB hg; have n3_ := Gl HB hg; clear HB; revert n0_ n1_ n2_ n3_; intro HB BK263 GW263 GE263; clear hb hbox hg) | ((with_reducible refine gate_dst (N := 5) rfl ?_); (try (refine gate_guard (by rfl) ?_; dsimp only)); refine bE 5 #[.int .i64 0, .slice none 0 0, .slice none 0 0] 26 ?_; intro gb264 hg w4 hbox hb; have n0_ := Kb BK263 hb; have n1_ := Bc HB hb; have n2_ := am (hbox); have n3_ := Gm HB hg; have n4_ := Gm HB hg; have n5_ := Nl BK263 hg; have n6_ := Ng BK263 hg; clear BK263 HB; revert n0_ n1_ n2_ n3_ n4_ n5_ n6_; intro BK263 HB BK264 GW264 GE264 NB263_264 NB264_263; clear hb hbox hg; have hnb5 := NB264_263.out; have hnc5 := NB263_264.out; obtain ⟨hcz6_0, hcz6_1, hcz6_2, hfz6_0, hfz6_1, hfz6_2⟩ := cf3 (w := w4) BK264))
 (try simp only [aP])
 go_loopg [13] k (fun kq v13 w' => ∃ (x13_1 : Int) (x265001_1 : List Int) (x265002_1 : List ByteArray) (u265001 : Value) (u265002 : Value), v13 = .int .i64 x13_1 ∧ Aside0 (impl_front.l0 kq l0 a1 l0 (l0.length : Int) x13_1 a1 x265001_1 x265002_1 = some (r1, r2, r3)) ∧ Aside0 (kq ≤ k) ∧ Aside0 (Kd.R (Kd.int .i64) 3 w' w.heap.size (fun _ => True) u265001 x265001_1) ∧ Aside0 (Kd.R Kd.string 9 w' w.heap.size (fun _ => True) u265002 x265002_1) ∧ Aside0 (w'.heap[gb263]? = some (.cells #[.int .i64 0, (.slice none 0 0), (.slice none 0 0)] 26 (0, 0))) ∧ Aside0 (w'.heap[gb264]? = some (.cells #[.int .i64 a1, u265001, u265002] 26 (0, 0))) ∧ Aside0 (Below w.heap.size w w'))
 case atStart => exact ⟨(0), (([] : List Int)), (([] : List ByteArray)), (.slice none 0 0), (.slice none 0 0), wZ, H', ⟨Nat.le_refl _⟩, ⟨nZ⟩, ⟨nZ⟩, ⟨by refine bp ?_; refine blk_far ?_ NB263_264.out _; refine bp ?_; refine blk_far ?_ NB263_264.out _; refine bp ?_; refine blk_far ?_ NB263_264.out _; refine bp ?_; exact BK263.out⟩, ⟨by refine bp ?_; refine blk_put (cs := #[.int .i64 a1, .slice none 0 0, .slice none 0 0]) ?_ 2 _ rfl; refine bp ?_; refine blk_put (cs := #[.int .i64 a1, .slice none 0 0, .slice none 0 0]) ?_ 1 _ rfl; refine bp ?_; refine blk_put (cs := #[.int .i64 0, .slice none 0 0, .slice none 0 0]) ?_ 0 _ rfl; refine bp ?_; exact BK264.out⟩, ⟨Bq⟩⟩
 case round =>
  clear H'
  try clear p2
  try clear c4
  try clear c5
  obtain ⟨x13_1, x265001_1, x265002_1, u265001, u265002, rfl, HA, HK1, HO_265001, HO_265002, BK263, BK264, HB⟩ := hrel; cases gk with
  | zero => exact absurd HA.out (by simp [impl_front.l0])
  | succ k1 =>
   have H := HA.out; clear HA
   simp only [impl_front.l0] at H
   by_cases c7 : x13_1 < (l0.length : Int)
   ·rw [if_pos c7] at H
    have c7b0 : decide (x13_1 < (l0.length : Int)) = true := decide_eq_true c7; clear c7
    by_cases c8 : 0 ≤ x13_1
    ·rw [if_pos c8] at H
     have c8b0 : decide (0 ≤ x13_1) = true := decide_eq_true c8; clear c8
     by_cases c9 : x13_1 < (l0.length : Int)
     ·rw [if_pos c9] at H
      have c9b0 : decide (x13_1 < (l0.length : Int)) = true := decide_eq_true c9; clear c9; have H' := am H; clear H; have p265 : 0 ≤ (x13_1 : Int) := dT; have q265 : x13_1 < (l0.length : Int) := dT; obtain ⟨ad265, e265, hx265_0⟩ := Kd.at_string HR0.out x13_1 p265 q265; cases e265; replace hx265_0 := (HB.out.cell (World.block_lt_of_cell? w _ hx265_0)).trans hx265_0; replace p265 := eq_true p265; replace q265 := eq_true q265
      go_wp2
      go_loopg [8] k1 (fun kq v8 w' => ∃ (x8_2 : Int), v8 = .int .i64 x8_2 ∧ Aside0 (impl_front.l1 kq l0 a1 x13_1 (rdOf ByteArray.empty l0 x13_1) x8_2 l0 (l0.length : Int) x13_1 a1 x265001_1 x265002_1 = some (r1, r2, r3)) ∧ Aside0 (kq ≤ k1) ∧ Aside0 (Kd.R (Kd.int .i64) 3 w' w.heap.size (fun _ => True) u265001 x265001_1) ∧ Aside0 (Kd.R Kd.string 9 w' w.heap.size (fun _ => True) u265002 x265002_1) ∧ Aside0 (w'.heap[gb263]? = some (.cells #[.int .i64 0, (.slice none 0 0), (.slice none 0 0)] 26 (0, 0))) ∧ Aside0 (w'.heap[gb264]? = some (.cells #[.int .i64 a1, u265001, u265002] 26 (0, 0))) ∧ Aside0 (Below w.heap.size w w'))
      case atStart => exact ⟨(0), wZ, H', ⟨Nat.le_refl _⟩, ⟨Rz HO_265001.out⟩, ⟨Rz HO_265002.out⟩, ⟨Kz BK263.out⟩, ⟨Kz BK264.out⟩, ⟨Bq⟩⟩
      case round =>
       clear H'
       try clear p2
       try clear q2
       try clear hx2
       try clear c4
       try clear c5
       try clear c7
       try clear c7b0
       try clear c8
       try clear c8b0
       try clear c9
       try clear c9b0
       try clear hx265_0
       try clear p2
       try clear p265
       try clear q265
       obtain ⟨x8_2, rfl, HA, HK2, HO_265001, HO_265002, BK263, BK264, HB⟩ := hrel; cases gk with
       | zero => exact absurd HA.out (by simp [impl_front.l1])
       | succ k2 =>
        have H := HA.out; clear HA
        simp only [impl_front.l1] at H
        have HC10 := am H; clear H
        go_upto_region 6 with (fail)
        go_cut [50] (fun v50 wc => ∃ (kq : Nat) (x50_9 : Bool), v50 = .bool x50_9 ∧ Aside0 (impl_front.j2 kq l0 a1 x13_1 (rdOf ByteArray.empty l0 x13_1) x8_2 l0 (l0.length : Int) x13_1 x50_9 a1 x265001_1 x265002_1 = some (r1, r2, r3)) ∧ Aside0 (kq ≤ k2) ∧ Aside0 (Kd.R (Kd.int .i64) 3 wc w.heap.size (fun _ => True) u265001 x265001_1) ∧ Aside0 (Kd.R Kd.string 9 wc w.heap.size (fun _ => True) u265002 x265002_1) ∧ Aside0 (wc.heap[gb263]? = some (.cells #[.int .i64 0, (.slice none 0 0), (.slice none 0 0)] 26 (0, 0))) ∧ Aside0 (wc.heap[gb264]? = some (.cells #[.int .i64 a1, u265001, u265002] 26 (0, 0))) ∧ Aside0 (Below w.heap.size w wc))
        case first =>
         have H := HC10.out; clear HC10
         by_cases c11 : a1 = 0
         ·rw [if_pos c11] at H
          exact absurd H (by simp)
         ·rw [if_neg c11] at H
          have c11b0 : (a1 == 0) = false := beq_eq_false_iff_ne.mpr c11; have c11b1 : (a1 != 0) = true := bne_iff_ne.mpr c11
          (first | rw [c11b0] | (simp only [i64_w, i32_w]; rw [c11b0]) | skip)
          by_cases c12 : (Int.tmod x13_1 a1) > 0
          ·rw [if_pos c12] at H
           have c12b0 : decide (0 < (Int.tmod x13_1 a1)) = true := decide_eq_true c12; clear c12
           by_cases c13 : x8_2 < ((rdOf ByteArray.empty l0 x13_1).size : Int)
           ·rw [if_pos c13] at H
            have c13b0 : decide (x8_2 < ((rdOf ByteArray.empty l0 x13_1).size : Int)) = true := decide_eq_true c13; clear c13; obtain ⟨ji14, hji14⟩ : ∃ j_ : Int, (wrap64 (x13_1 - 1)) = j_ := ⟨_, rfl⟩
            replace H : (if 0 ≤ (ji14) then (if (ji14) < (l0.length : Int) then (if x8_2 < ((rdOf ByteArray.empty l0 (ji14)).size : Int) then (if 0 ≤ x8_2 then (impl_front.j2 k2 l0 a1 x13_1 (rdOf ByteArray.empty l0 x13_1) x8_2 l0 (l0.length : Int) x13_1 ((bt (rdOf ByteArray.empty l0 x13_1) x8_2) == (bt (rdOf ByteArray.empty l0 (ji14)) x8_2)) a1 x265001_1 x265002_1) else (none)) else (impl_front.j2 k2 l0 a1 x13_1 (rdOf ByteArray.empty l0 x13_1) x8_2 l0 (l0.length : Int) x13_1 false a1 x265001_1 x265002_1)) else (none)) else (none)) = some (r1, r2, r3) := by first | (rw [hji14] at H; exact H) | (simp only [hji14] at H ⊢; exact H)
            have hji14w : (IntKind.i64.wrap (x13_1 - 1)) = ji14 := (i64_w _).trans hji14
            by_cases c15 : 0 ≤ (ji14)
            ·rw [if_pos c15] at H
             have c15b0 : decide (0 ≤ (ji14)) = true := decide_eq_true c15; clear c15
             by_cases c16 : (ji14) < (l0.length : Int)
             ·rw [if_pos c16] at H
              have c16b0 : decide ((ji14) < (l0.length : Int)) = true := decide_eq_true c16; clear c16
              by_cases c17 : x8_2 < ((rdOf ByteArray.empty l0 (ji14)).size : Int)
              ·rw [if_pos c17] at H
               have c17b0 : decide (x8_2 < ((rdOf ByteArray.empty l0 (ji14)).size : Int)) = true := decide_eq_true c17; clear c17
               by_cases c18 : 0 ≤ x8_2
               ·rw [if_pos c18] at H
                have c18b0 : decide (0 ≤ x8_2) = true := decide_eq_true c18; clear c18; have H' := am H; clear H
                try go_wp2
                have n0_ := am (Kd.R_drew HO_265001.out); have n1_ := am (Kd.R_drew HO_265002.out); have n2_ := am (blk_drew BK263.out); have n3_ := am (blk_drew BK264.out); have n4_ := am (below_drew1 HB.out); clear HO_265001 HO_265002 BK263 BK264 HB; revert n0_ n1_ n2_ n3_ n4_; intro HO_265001 HO_265002 BK263 BK264 HB; have p266 : 0 ≤ ((ji14) : Int) := dT; have q266 : (ji14) < (l0.length : Int) := dT; obtain ⟨ad266, e266, hx266_0⟩ := Kd.at_string HR0.out (ji14) p266 q266; have hw266_0 := hx266_0; obtain rfl : ad265 = ad266 := (by injection e266); replace hx266_0 := (HB.out.cell (World.block_lt_of_cell? w _ hx266_0)).trans hx266_0; replace p266 := eq_true p266; replace q266 := eq_true q266; have p19 : 0 ≤ (x8_2 : Int) := dT; have q19 : x8_2 < ((rdOf ByteArray.empty l0 x13_1).size : Int) := dT; have hx19 := bt_at (rdOf ByteArray.empty l0 x13_1) x8_2; replace p19 := eq_true p19; replace q19 := eq_true q19; have p267 : 0 ≤ ((ji14) : Int) := dT; have q267 : (ji14) < (l0.length : Int) := dT; obtain ⟨ad267, e267, hx267_0⟩ := Kd.at_string HR0.out (ji14) p267 q267; have hw267_0 := hx267_0; obtain rfl : ad265 = ad267 := (by injection e267); replace hx267_0 := (HB.out.cell (World.block_lt_of_cell? w _ hx267_0)).trans hx267_0; replace p267 := eq_true p267; replace q267 := eq_true q267; have p20 : 0 ≤ (x8_2 : Int) := dT; have q20 : x8_2 < ((rdOf ByteArray.empty l0 (ji14)).size : Int) := dT; have hx20 := bt_at (rdOf ByteArray.empty l0 (ji14)) x8_2; replace p20 := eq_true p20; replace q20 := eq_true q20; refine start_ (n := 33) (S := fun w' => w'.cell? (ad265.add ((ji14)).toNat) = some (.string (rdOf ByteArray.empty l0 (ji14))) ∧ w'.cell? (ad265.add ((ji14)).toNat) = some (.string (rdOf ByteArray.empty l0 (ji14)))) (ds := []) (bA 33 0) (by kernel_rfl) rfl rfl ⟨((HB.out.cell (World.block_lt_of_cell? w _ hw266_0)).trans hw266_0), ((HB.out.cell (World.block_lt_of_cell? w _ hw267_0)).trans hw267_0)⟩ (fun hHeld => ?_); refine with_tabW impl_front.tab6 impl_front.bits6 (fun HT_ HW_ => ?_); generalize wr.drew = w21 at HO_265001 HO_265002 BK263 BK264 HB hx266_0 hx267_0 hHeld ⊢; refine pZ 0 (some 18) (bA 33 1) HT_.out ?_; refine pZ 1 (some 19) (bA 33 3) HT_.out ?_; refine pZ 2 (some 20) (bA 33 7) HT_.out ?_; refine pZ 3 (some 21) (bA 33 15) HT_.out ?_; refine pZ 4 (some 22) (bA 33 31) HT_.out ?_; refine pZ 5 (some 23) (bA 33 63) HT_.out ?_; refine pZ 6 (some 24) (bA 33 127) HT_.out ?_; refine pZ 7 (some 25) (bA 33 255) HT_.out ?_; refine pZ 8 (some 26) (bA 33 511) HT_.out ?_; refine pZ 9 (some 27) (bA 33 1023) HT_.out ?_; refine pZ 10 (some 28) (bA 33 2047) HT_.out ?_; refine pZ 11 (some 29) (bA 33 4095) HT_.out ?_; refine pZ 12 (some 30) (bA 33 8191) HT_.out ?_; refine pZ 13 (some 31) (bA 33 16383) HT_.out ?_; refine pZ 14 (some 32) (bA 33 32767) HT_.out ?_; refine pZ 15 (some 33) (bA 33 65535) HT_.out ?_; refine tZ2 16 (some 34) (bA 33 131071) HT_.out HW_.out hHeld ?_; refine pZ 17 (some 35) (bA 33 262143) HT_.out ?_; refine pZ 18 (some 36) (bA 33 524287) HT_.out ?_
                refine pZ 19 (some 37) (bA 33 1048575) HT_.out ?_; refine pZ 20 (some 38) (bA 33 2097151) HT_.out ?_; refine pZ 21 (some 39) (bA 33 4194303) HT_.out ?_; refine pZ 22 (some 40) (bA 33 8388607) HT_.out ?_; refine pZ 24 (some 42) (bA 33 25165823) HT_.out ?_; refine pZ 25 (some 43) (bA 33 58720255) HT_.out ?_; refine pZ 26 (some 44) (bA 33 125829119) HT_.out ?_; refine pZ 27 (some 45) (bA 33 260046847) HT_.out ?_; refine pZ 29 (some 47) (bA 33 796917759) HT_.out ?_; refine tZ2 23 (some 41) (bA 33 805306367) HT_.out HW_.out hHeld ?_; refine tZ2 28 (some 46) (bA 33 1073741823) HT_.out HW_.out hHeld ?_; refine tZ2 30 (some 48) (bA 33 2147483647) HT_.out HW_.out hHeld ?_; refine pZ 31 (some 49) (bA 33 4294967295) HT_.out ?_; refine pZ 32 (some 50) (bA 33 8589934591) HT_.out ?_; refine done_ (done_of HT_.out (by kernel_rfl)) ?_
                try go_wp2
                go_meet
                case rel => exact ⟨_, (((bt (rdOf ByteArray.empty l0 x13_1) x8_2) == (bt (rdOf ByteArray.empty l0 (ji14)) x8_2))), (by first | rfl | (simp; done) | (simp only [← hji14] <;> (first | rfl | simp)) | (simp [*]; done)), H', ⟨by have := HK1.out; have := HK2.out; first | omega | exact Nat.le_refl _⟩, ⟨Rz HO_265001.out⟩, ⟨Rz HO_265002.out⟩, ⟨Kz BK263.out⟩, ⟨Kz BK264.out⟩, ⟨Bq⟩⟩
               ·rw [if_neg c18] at H
                exact absurd H (by simp)
              ·rw [if_neg c17] at H
               have c17b0 : decide (x8_2 < ((rdOf ByteArray.empty l0 (ji14)).size : Int)) = false := decide_eq_false c17; clear c17; have H' := am H; clear H
               try go_wp2
               have n0_ := am (Kd.R_drew HO_265001.out); have n1_ := am (Kd.R_drew HO_265002.out); have n2_ := am (blk_drew BK263.out); have n3_ := am (blk_drew BK264.out); have n4_ := am (below_drew1 HB.out); clear HO_265001 HO_265002 BK263 BK264 HB; revert n0_ n1_ n2_ n3_ n4_; intro HO_265001 HO_265002 BK263 BK264 HB; have p266 : 0 ≤ ((ji14) : Int) := dT; have q266 : (ji14) < (l0.length : Int) := dT; obtain ⟨ad266, e266, hx266_0⟩ := Kd.at_string HR0.out (ji14) p266 q266; have hw266_0 := hx266_0; obtain rfl : ad265 = ad266 := (by injection e266); replace hx266_0 := (HB.out.cell (World.block_lt_of_cell? w _ hx266_0)).trans hx266_0; replace p266 := eq_true p266; replace q266 := eq_true q266; refine start_ (n := 33) (S := fun w' => w'.cell? (ad265.add ((ji14)).toNat) = some (.string (rdOf ByteArray.empty l0 (ji14)))) (ds := []) (bA 33 0) (by kernel_rfl) rfl rfl (((HB.out.cell (World.block_lt_of_cell? w _ hw266_0)).trans hw266_0)) (fun hHeld => ?_); refine with_tabW impl_front.tab6 impl_front.bits6 (fun HT_ HW_ => ?_); generalize wr.drew = w22 at HO_265001 HO_265002 BK263 BK264 HB hx266_0 hHeld ⊢; refine pZ 0 (some 18) (bA 33 1) HT_.out ?_; refine pZ 1 (some 19) (bA 33 3) HT_.out ?_; refine pZ 2 (some 20) (bA 33 7) HT_.out ?_; refine pZ 3 (some 21) (bA 33 15) HT_.out ?_; refine pZ 4 (some 22) (bA 33 31) HT_.out ?_; refine pZ 5 (some 23) (bA 33 63) HT_.out ?_; refine pZ 6 (some 24) (bA 33 127) HT_.out ?_; refine pZ 7 (some 25) (bA 33 255) HT_.out ?_; refine pZ 8 (some 26) (bA 33 511) HT_.out ?_; refine pZ 9 (some 27) (bA 33 1023) HT_.out ?_; refine pZ 10 (some 28) (bA 33 2047) HT_.out ?_; refine pZ 11 (some 29) (bA 33 4095) HT_.out ?_; refine pZ 12 (some 30) (bA 33 8191) HT_.out ?_; refine pZ 13 (some 31) (bA 33 16383) HT_.out ?_; refine pZ 14 (some 32) (bA 33 32767) HT_.out ?_; refine pZ 15 (some 33) (bA 33 65535) HT_.out ?_; refine take_ (i := 16) (N := some 34) (v := ?_) (a' := ?_) (bA 33 131071) rfl rfl (take_ofW HT_.out HW_.out (by kernel_rfl)) (fun _ _ _ h => h) (Or.inl ⟨by rfl, ?_⟩) hHeld ?_ ?_
               rotate_left
               ·intro w' s0
                go_simp
                with_reducible rfl
               rotate_left
               ·simp only [aP, i64_w, i32_w]
                rfl
               refine pZ 17 (some 35) (bA 33 262143) HT_.out ?_; refine pZ 18 (some 36) (bA 33 524287) HT_.out ?_; refine pZ 19 (some 37) (bA 33 1048575) HT_.out ?_; refine pZ 20 (some 38) (bA 33 2097151) HT_.out ?_; refine sZ 21 (some 39) (bA 33 4194303) HT_.out ?_; refine sZ 22 (some 40) (bA 33 8388607) HT_.out ?_; refine sZ 23 (some 41) (bA 33 16777215) HT_.out ?_; refine sZ 24 (some 42) (bA 33 33554431) HT_.out ?_; refine sZ 25 (some 43) (bA 33 67108863) HT_.out ?_; refine sZ 26 (some 44) (bA 33 134217727) HT_.out ?_; refine sZ 27 (some 45) (bA 33 268435455) HT_.out ?_; refine sZ 28 (some 46) (bA 33 536870911) HT_.out ?_; refine sZ 29 (some 47) (bA 33 1073741823) HT_.out ?_; refine sZ 30 (some 48) (bA 33 2147483647) HT_.out ?_; refine sZ 31 (some 49) (bA 33 4294967295) HT_.out ?_; refine pZ 32 (some 50) (bA 33 8589934591) HT_.out ?_; refine done_ (done_of HT_.out (by kernel_rfl)) ?_
               try go_wp2
               go_meet
               case rel => exact ⟨_, (false), wZ, H', ⟨by have := HK1.out; have := HK2.out; first | omega | exact Nat.le_refl _⟩, ⟨Rz HO_265001.out⟩, ⟨Rz HO_265002.out⟩, ⟨Kz BK263.out⟩, ⟨Kz BK264.out⟩, ⟨Bq⟩⟩
             ·rw [if_neg c16] at H
              exact absurd H (by simp)
            ·rw [if_neg c15] at H
             exact absurd H (by simp)
           ·rw [if_neg c13] at H
            have c13b0 : decide (x8_2 < ((rdOf ByteArray.empty l0 x13_1).size : Int)) = false := decide_eq_false c13; clear c13; have H' := am H; clear H
            try go_wp2
            have n0_ := am (Kd.R_drew HO_265001.out); have n1_ := am (Kd.R_drew HO_265002.out); have n2_ := am (blk_drew BK263.out); have n3_ := am (blk_drew BK264.out); have n4_ := am (below_drew1 HB.out); clear HO_265001 HO_265002 BK263 BK264 HB; revert n0_ n1_ n2_ n3_ n4_; intro HO_265001 HO_265002 BK263 BK264 HB; refine start_ (n := 33) (S := fun w' => True) (ds := []) (bA 33 0) (by kernel_rfl) rfl rfl trivial (fun hHeld => ?_); refine with_tabW impl_front.tab6 impl_front.bits6 (fun HT_ HW_ => ?_); generalize wr.drew = w23 at HO_265001 HO_265002 BK263 BK264 HB hHeld ⊢; refine pZ 0 (some 18) (bA 33 1) HT_.out ?_; refine pZ 1 (some 19) (bA 33 3) HT_.out ?_; refine pZ 2 (some 20) (bA 33 7) HT_.out ?_; refine pZ 3 (some 21) (bA 33 15) HT_.out ?_; refine pZ 4 (some 22) (bA 33 31) HT_.out ?_; refine pZ 5 (some 23) (bA 33 63) HT_.out ?_; refine pZ 6 (some 24) (bA 33 127) HT_.out ?_; refine pZ 7 (some 25) (bA 33 255) HT_.out ?_; refine pZ 8 (some 26) (bA 33 511) HT_.out ?_; refine pZ 9 (some 27) (bA 33 1023) HT_.out ?_; refine pZ 10 (some 28) (bA 33 2047) HT_.out ?_; refine sZ 11 (some 29) (bA 33 4095) HT_.out ?_; refine sZ 12 (some 30) (bA 33 8191) HT_.out ?_; refine sZ 13 (some 31) (bA 33 16383) HT_.out ?_; refine sZ 14 (some 32) (bA 33 32767) HT_.out ?_; refine sZ 15 (some 33) (bA 33 65535) HT_.out ?_; refine sZ 16 (some 34) (bA 33 131071) HT_.out ?_; refine sZ 17 (some 35) (bA 33 262143) HT_.out ?_; refine sZ 18 (some 36) (bA 33 524287) HT_.out ?_; refine pZ 19 (some 37) (bA 33 1048575) HT_.out ?_; refine pZ 20 (some 38) (bA 33 2097151) HT_.out ?_; refine sZ 21 (some 39) (bA 33 4194303) HT_.out ?_; refine sZ 22 (some 40) (bA 33 8388607) HT_.out ?_; refine sZ 23 (some 41) (bA 33 16777215) HT_.out ?_; refine sZ 24 (some 42) (bA 33 33554431) HT_.out ?_; refine sZ 25 (some 43) (bA 33 67108863) HT_.out ?_; refine sZ 26 (some 44) (bA 33 134217727) HT_.out ?_; refine sZ 27 (some 45) (bA 33 268435455) HT_.out ?_; refine sZ 28 (some 46) (bA 33 536870911) HT_.out ?_; refine sZ 29 (some 47) (bA 33 1073741823) HT_.out ?_; refine sZ 30 (some 48) (bA 33 2147483647) HT_.out ?_; refine sZ 31 (some 49) (bA 33 4294967295) HT_.out ?_; refine pZ 32 (some 50) (bA 33 8589934591) HT_.out ?_; refine done_ (done_of HT_.out (by kernel_rfl)) ?_
            try go_wp2
            go_meet
            case rel => exact ⟨_, (false), wZ, H', ⟨by have := HK1.out; have := HK2.out; first | omega | exact Nat.le_refl _⟩, ⟨Rz HO_265001.out⟩, ⟨Rz HO_265002.out⟩, ⟨Kz BK263.out⟩, ⟨Kz BK264.out⟩, ⟨Bq⟩⟩
          ·rw [if_neg c12] at H
           have c12b0 : decide (0 < (Int.tmod x13_1 a1)) = false := decide_eq_false c12; clear c12; have H' := am H; clear H
           try go_wp2
           have n0_ := am (Kd.R_drew HO_265001.out); have n1_ := am (Kd.R_drew HO_265002.out); have n2_ := am (blk_drew BK263.out); have n3_ := am (blk_drew BK264.out); have n4_ := am (below_drew1 HB.out); clear HO_265001 HO_265002 BK263 BK264 HB; revert n0_ n1_ n2_ n3_ n4_; intro HO_265001 HO_265002 BK263 BK264 HB; refine start_ (n := 33) (S := fun w' => True) (ds := []) (bA 33 0) (by kernel_rfl) rfl rfl trivial (fun hHeld => ?_); refine with_tabW impl_front.tab6 impl_front.bits6 (fun HT_ HW_ => ?_); generalize wr.drew = w24 at HO_265001 HO_265002 BK263 BK264 HB hHeld ⊢; refine pZ 0 (some 18) (bA 33 1) HT_.out ?_; refine pZ 1 (some 19) (bA 33 3) HT_.out ?_; refine pZ 2 (some 20) (bA 33 7) HT_.out ?_; refine pZ 3 (some 21) (bA 33 15) HT_.out ?_; refine pZ 4 (some 22) (bA 33 31) HT_.out ?_; refine sZ 5 (some 23) (bA 33 63) HT_.out ?_; refine sZ 6 (some 24) (bA 33 127) HT_.out ?_; refine sZ 7 (some 25) (bA 33 255) HT_.out ?_; refine sZ 8 (some 26) (bA 33 511) HT_.out ?_; refine pZ 9 (some 27) (bA 33 1023) HT_.out ?_; refine pZ 10 (some 28) (bA 33 2047) HT_.out ?_; refine sZ 11 (some 29) (bA 33 4095) HT_.out ?_; refine sZ 12 (some 30) (bA 33 8191) HT_.out ?_; refine sZ 13 (some 31) (bA 33 16383) HT_.out ?_; refine sZ 14 (some 32) (bA 33 32767) HT_.out ?_; refine sZ 15 (some 33) (bA 33 65535) HT_.out ?_; refine sZ 16 (some 34) (bA 33 131071) HT_.out ?_; refine sZ 17 (some 35) (bA 33 262143) HT_.out ?_; refine sZ 18 (some 36) (bA 33 524287) HT_.out ?_; refine pZ 19 (some 37) (bA 33 1048575) HT_.out ?_; refine pZ 20 (some 38) (bA 33 2097151) HT_.out ?_; refine sZ 21 (some 39) (bA 33 4194303) HT_.out ?_; refine sZ 22 (some 40) (bA 33 8388607) HT_.out ?_; refine sZ 23 (some 41) (bA 33 16777215) HT_.out ?_; refine sZ 24 (some 42) (bA 33 33554431) HT_.out ?_; refine sZ 25 (some 43) (bA 33 67108863) HT_.out ?_; refine sZ 26 (some 44) (bA 33 134217727) HT_.out ?_; refine sZ 27 (some 45) (bA 33 268435455) HT_.out ?_; refine sZ 28 (some 46) (bA 33 536870911) HT_.out ?_; refine sZ 29 (some 47) (bA 33 1073741823) HT_.out ?_; refine sZ 30 (some 48) (bA 33 2147483647) HT_.out ?_; refine sZ 31 (some 49) (bA 33 4294967295) HT_.out ?_; refine pZ 32 (some 50) (bA 33 8589934591) HT_.out ?_; refine done_ (done_of HT_.out (by kernel_rfl)) ?_
           try go_wp2
           go_meet
           case rel => exact ⟨_, (false), wZ, H', ⟨by have := HK1.out; have := HK2.out; first | omega | exact Nat.le_refl _⟩, ⟨Rz HO_265001.out⟩, ⟨Rz HO_265002.out⟩, ⟨Kz BK263.out⟩, ⟨Kz BK264.out⟩, ⟨Bq⟩⟩
        case rest =>
         clear HC10
         try clear c1
         try clear p2
         try clear c12
         try clear c12b0
         try clear c13
         try clear c13b0
         try clear c15
         try clear c16
         obtain ⟨kq, x50_9, rfl, HA, HJ9, HO_265001, HO_265002, BK263, BK264, HB⟩ := hcut; cases kq with
         | zero => exact absurd HA.out (by simp [impl_front.j2])
         | succ kj9 =>
          have H := HA.out; clear HA
          simp only [impl_front.j2] at H
          by_cases c25 : x50_9 = true
          ·subst c25
           rw [if_pos rfl] at H; have H' := am H; clear H
           go_wp2
           go_roundg kj9
           case measure => have := HK1.out; have := HK2.out; have := HJ9.out; omega
           case rel => exact ⟨(wrap64 (x8_2 + 1)), wZ, H', ⟨by have := HK1.out; have := HK2.out; have := HJ9.out; omega⟩, ⟨Rz HO_265001.out⟩, ⟨Rz HO_265002.out⟩, ⟨Kz BK263.out⟩, ⟨Kz BK264.out⟩, ⟨Bq⟩⟩
          ·replace c25 := Bool.eq_false_iff.mpr c25
           subst c25
           rw [if_neg (show ¬ (false = true) by decide)] at H; obtain ⟨y268, hy268⟩ : ∃ y_ : List Int, y_ = (([x8_2] : List Int)) := ⟨_, rfl⟩
           replace H : (if x265001_1.length + y268.length < 17592186044416 then (if 0 ≤ x8_2 then (if x8_2 ≤ ((rdOf ByteArray.empty l0 x13_1).size : Int) then ((some (([(rdOf ByteArray.empty l0 x13_1).extract (x8_2 : Int).toNat (rdOf ByteArray.empty l0 x13_1).size] : List ByteArray) : List ByteArray)).bind fun y274 => (if x265002_1.length + y274.length < 8796093022208 then (impl_front.l0 kj9 l0 a1 l0 (l0.length : Int) (wrap64 (x13_1 + 1)) a1 (x265001_1 ++ y268) (x265002_1 ++ y274)) else (none))) else (none)) else (none)) else (none)) = some (r1, r2, r3) := by first | (rw [hy268]; with_reducible exact H) | (have H2_ := (Option.bind_some _ _).symm.trans H; rw [hy268]; with_reducible exact H2_) | (have H2_ := (Option.bind_some _ _).symm.trans H; with_reducible exact H2_) | with_reducible exact H | (rw [hy268]; exact H) | exact H
           have Ny268 := am hy268; clear hy268
           by_cases c26 : x265001_1.length + y268.length < 17592186044416
           ·rw [if_pos c26] at H
            have LMc26 := am c26; clear c26; obtain ⟨y271, hy271⟩ : ∃ y_ : List Int, y_ = (x265001_1 ++ y268) := ⟨_, rfl⟩
            replace H : (if 0 ≤ x8_2 then (if x8_2 ≤ ((rdOf ByteArray.empty l0 x13_1).size : Int) then ((some (([(rdOf ByteArray.empty l0 x13_1).extract (x8_2 : Int).toNat (rdOf ByteArray.empty l0 x13_1).size] : List ByteArray) : List ByteArray)).bind fun y274 => (if x265002_1.length + y274.length < 8796093022208 then (impl_front.l0 kj9 l0 a1 l0 (l0.length : Int) (wrap64 (x13_1 + 1)) a1 y271 (x265002_1 ++ y274)) else (none))) else (none)) else (none)) = some (r1, r2, r3) := by first | (rw [hy271]; with_reducible exact H) | (have H2_ := (Option.bind_some _ _).symm.trans H; rw [hy271]; with_reducible exact H2_) | (have H2_ := (Option.bind_some _ _).symm.trans H; with_reducible exact H2_) | with_reducible exact H | (rw [hy271]; exact H) | exact H
            have Ny271 := am hy271; clear hy271
            by_cases c27 : 0 ≤ x8_2
            ·rw [if_pos c27] at H
             have c27b0 := eq_true c27; have c27b1 : decide (0 ≤ x8_2) = true := decide_eq_true c27; clear c27
             by_cases c28 : x8_2 ≤ ((rdOf ByteArray.empty l0 x13_1).size : Int)
             ·rw [if_pos c28] at H
              have c28b0 := eq_true c28; have c28b1 : decide (x8_2 ≤ ((rdOf ByteArray.empty l0 x13_1).size : Int)) = true := decide_eq_true c28; clear c28; obtain ⟨y274, hy274⟩ : ∃ y_ : List ByteArray, y_ = (([(rdOf ByteArray.empty l0 x13_1).extract (x8_2 : Int).toNat (rdOf ByteArray.empty l0 x13_1).size] : List ByteArray)) := ⟨_, rfl⟩
              replace H : (if x265002_1.length + y274.length < 8796093022208 then (impl_front.l0 kj9 l0 a1 l0 (l0.length : Int) (wrap64 (x13_1 + 1)) a1 y271 (x265002_1 ++ y274)) else (none)) = some (r1, r2, r3) := by first | (rw [hy274]; with_reducible exact H) | (have H2_ := (Option.bind_some _ _).symm.trans H; rw [hy274]; with_reducible exact H2_) | (have H2_ := (Option.bind_some _ _).symm.trans H; with_reducible exact H2_) | with_reducible exact H | (rw [hy274]; exact H) | exact H
              have Ny274 := am hy274; clear hy274
              by_cases c29 : x265002_1.length + y274.length < 8796093022208
              ·rw [if_pos c29] at H
               have LMc29 := am c29; clear c29; obtain ⟨y277, hy277⟩ : ∃ y_ : List ByteArray, y_ = (x265002_1 ++ y274) := ⟨_, rfl⟩
               replace H : (impl_front.l0 kj9 l0 a1 l0 (l0.length : Int) (wrap64 (x13_1 + 1)) a1 y271 y277) = some (r1, r2, r3) := by first | (rw [hy277]; with_reducible exact H) | (have H2_ := (Option.bind_some _ _).symm.trans H; rw [hy277]; with_reducible exact H2_) | (have H2_ := (Option.bind_some _ _).symm.trans H; with_reducible exact H2_) | with_reducible exact H | (rw [hy277]; exact H) | exact H
               have Ny277 := am hy277; clear hy277; have H' := am H; clear H; obtain ⟨Ao30, co30, eo30⟩ := Kd.R_slice HO_265001.out; subst eo30; obtain ⟨Ao31, co31, eo31⟩ := Kd.R_slice HO_265002.out; subst eo31
               try go_wp2
               have n0_ := am (Kd.R_drew HO_265001.out); have n1_ := am (Kd.R_drew HO_265002.out); have n2_ := am (blk_drew BK263.out); have n3_ := am (blk_drew BK264.out); have n4_ := am (below_drew1 HB.out); clear HO_265001 HO_265002 BK263 BK264 HB; revert n0_ n1_ n2_ n3_ n4_; intro HO_265001 HO_265002 BK263 BK264 HB; refine start_ (n := 16) (S := fun w' => w'.cell? ⟨gb264, 0, none⟩ = some (.int .i64 a1) ∧ w'.cell? ⟨gb264, 1, none⟩ = some (.slice Ao30 x265001_1.length co30) ∧ w'.cell? ⟨gb264, 2, none⟩ = some (.slice Ao31 x265002_1.length co31)) (ds := [13, 15]) (bA 16 0) (by kernel_rfl) rfl rfl ⟨cz BK264 0, cz BK264 1, cz BK264 2⟩ (fun hHeld => ?_); refine with_tabW impl_front.tab8 impl_front.bits8 (fun HT_ HW_ => ?_); generalize wc.drew = w32 at HO_265001 HO_265002 BK263 BK264 HB hHeld ⊢; refine pZ 0 (some 53) (bA 16 1) HT_.out ?_; refine pZ 2 (some 55) (bA 16 5) HT_.out ?_; refine pZ 5 (some 58) (bA 16 37) HT_.out ?_; refine pZ 7 (some 60) (bA 16 165) HT_.out ?_; refine pZ 8 (some 61) (bA 16 421) HT_.out ?_; refine pZ 9 (some 62) (bA 16 933) HT_.out ?_; refine tZ3 1 (some 54) (bA 16 935) HT_.out HW_.out hHeld ?_; refine tZ3 6 (some 59) (bA 16 999) HT_.out HW_.out hHeld ?_; refine join_ (σ := Value × Value × Value) 4 (bA 16 6143) (fun s_ => [(56, s_.1), (57, s_.2.1), (63, s_.2.2), (65, .pointer (some ⟨gb264, 1, none⟩))]) (fun s_ w' => (w'.cell? ⟨gb264, 0, none⟩ = some (.int .i64 a1) ∧ w'.cell? ⟨gb264, 1, none⟩ = some (.slice Ao30 x265001_1.length co30) ∧ w'.cell? ⟨gb264, 2, none⟩ = some (.slice Ao31 x265002_1.length co31)) ∧ (Kd.R (Kd.int .i64) 3 w' w.heap.size (fun k_ => some k_ ≠ (s_.2.1 : Value).ownBlock) s_.1 y268) ∧ (Kd.R (Kd.int .i64) 3 w' w.heap.size (fun k_ => some k_ ≠ (s_.1 : Value).ownBlock) s_.2.1 y271) ∧ (Kd.R Kd.string 9 w' w.heap.size (fun k_ => some k_ ≠ (.slice Ao31 x265002_1.length co31 : Value).ownBlock) s_.2.2 y274) ∧ (Kd.R Kd.string 9 w' w.heap.size (fun k_ => some k_ ≠ (s_.2.2 : Value).ownBlock) (.slice Ao31 x265002_1.length co31) x265002_1) ∧ (w'.heap[gb263]? = some (.cells #[.int .i64 0, .slice none 0 0, .slice none 0 0] 26 (0, 0))) ∧ (w'.heap[gb264]? = some (.cells #[.int .i64 a1, .slice Ao30 x265001_1.length co30, .slice Ao31 x265002_1.length co31] 26 (0, 0))) ∧ (Below w.heap.size w w')) ?_ ?_
               rotate_left
               ·intro hCont
                refine two_ (i := 3) (j := 10) (Ni := some 56) (Nj := some 63) (bA 16 1007) (bA 16 2023) rfl rfl rfl rfl (two_of HT_.out (by kernel_rfl)) (by decide) (by decide) (fun K hK => ?_) (fun K hK => ?_)
                ·skip
                 refine Kd.R_lit_step (Kd.int .i64) _ 3 ?hg (N := 56) ?hd (xs := ([x8_2] : List Int)) (inner := [.int .i64 x8_2]) (ok := fun _ => True) (okp := fun _ => True) ?hr ?hp (fun _ hk => hk) trivial (Below.refl _ _) (Nat.le_refl _) (by simp) ?_; (case hd => rfl); (case hg => rfl); (case hr => first | (go_simp; done) | (go_simp; rfl)); (case hp => exact (Reps.one (show Kd.M (Kd.int .i64) _ _ _ x8_2 [.int .i64 x8_2] from rfl) (Reps.none _ _))); intro v269 w33 ho34 hb hg_ hnew_; clear hg_ hnew_
                 (first | rw [← Ny268.out] at ho34 | (simp only [Int.reduceToNat] at ho34; rw [← Ny268.out] at ho34))
                 have n0_ := Re HO_265001 (Kd.R_base ho34) hb; have n1_ := Rb HO_265002 hb; have n2_ := Rm (Kd.R_new' ho34 (Kd.R_lt (Rz HO_265001.out))) HB; have n3_ := Kb BK263 hb; have n4_ := Kb BK264 hb; have n5_ := Bc HB hb; clear HO_265001 HO_265002 BK263 BK264 HB; revert n0_ n1_ n2_ n3_ n4_ n5_; intro HO_265001 HO_265002 HO270 BK263 BK264 HB; clear hb ho34; obtain ⟨Ao36, co36, eo36⟩ := Kd.R_slice HO270.out
                 (first | subst eo36 | (injection eo36 with f1_ f2_ f3_; have f4_ := f1_.symm; have f5_ := f3_.symm; clear f1_ f2_ f3_; subst f4_; subst f5_))
                 refine hK.out _ _ ⟨cz BK264 0, cz BK264 1, cz BK264 2⟩ (fun hHeld => ?_); clear hK K; refine norm_ (a' := ?_) ?_ ?_; rotate_left; show Act.put _ (some 56) _ = _; simp only [aP, i64_w, i32_w]; rfl; refine two_ (i := 4) (j := 10) (Ni := some 57) (Nj := some 63) (bA 16 1023) (bA 16 2031) rfl rfl rfl rfl (two_of HT_.out (by kernel_rfl)) (by decide) (by decide) (fun K hK => ?_) (fun K hK => ?_)
                 ·skip
                  refine Kd.R_append_rows_step (Kd.int .i64) (w0 := w) w.heap.size (by rfl) (.tmp 54) (.tmp 56) 24 3 (.int .i64 0) 8 rfl Try.underlying24 info3 rfl (by decide) (by omega) (.slice Ao30 x265001_1.length co30) x265001_1 y268 _ _ _ (fun k_ => some k_ ≠ (.slice Ao36 y268.length co36 : Value).ownBlock) (fun _ => False) rfl rfl ?aO ?aR (fun _ _ h => h) (fun _ h => h.elim) ?aF ?aB ?aS ?aL ?_
                  (case aR => repeat (first | exact (Kd.R_reads' HO270.out).2.2 | (with_reducible refine Kd.C_alloc ?_ _) | (with_reducible refine Kd.C_drewN ?_ _) | (with_reducible refine Kd.C_drew ?_)))
                  (case aB => exact (Bq))
                  (case aF => exact (fun k_ hk => Kd.fresh' (Kd.R_lt (Rz HO270.out)) k_ hk))
                  (case aO => exact (Rz (Kd.R_mono HO_265001.out (fun _ hk => hk.2))))
                  (case aS => exact (below_size (w := w) (Bq)))
                  (case aL => have := LMc26.out; omega)
                  intro v272 w35 ho hb hg hat; rw [← Ny271.out] at ho; have n0_ := am (Kd.R_over' (Rz HO_265002.out) (Kd.R_typed (Rz HO_265001.out)) (by decide) hg); have n1_ := am (blk_grown (g := gb263) (o := .cells #[.int .i64 0, .slice none 0 0, .slice none 0 0] 26 (0, 0)) (Kz BK263.out) hg (Kd.R_ne HO_265001.out BK263.out (by decide))); have n2_ := am (blk_grown (g := gb264) (o := .cells #[.int .i64 a1, .slice Ao30 x265001_1.length co30, .slice Ao31 x265002_1.length co31] 26 (0, 0)) (Kz BK264.out) hg (Kd.R_ne HO_265001.out BK264.out (by decide))); have n3_ := am (Kd.R_after (ok := (fun _ => True)) (Rz HO270.out) hg hat); have n4_ := am (hb); have n5_ := am (ho); clear HO_265002 BK263 BK264 HO270 HB HO_265001; revert n0_ n1_ n2_ n3_ n4_ n5_; intro HO_265002 BK263 BK264 HO270 HB HO273; clear ho hb hg hat; refine hK.out _ _ ⟨cz BK264 0, cz BK264 1, cz BK264 2⟩ (fun hHeld => ?_); clear hK K; refine norm_ (a' := ?_) ?_ ?_; rotate_left; show Act.put _ (some 57) _ = _; simp only [aP, i64_w, i32_w]; rfl; refine pZ 12 (some 65) (bA 16 5119) HT_.out ?_; refine oZ 10 (some 63) (bA 16 6143) HT_.out (fun K hK => ?_); refine Kd.R_lit_step Kd.string _ 9 ?hg (N := 63) ?hd (xs := ([(rdOf ByteArray.empty l0 x13_1).extract (x8_2 : Int).toNat (rdOf ByteArray.empty l0 x13_1).size] : List ByteArray)) (inner := [.string ((rdOf ByteArray.empty l0 x13_1).extract (x8_2 : Int).toNat (rdOf ByteArray.empty l0 x13_1).size)]) (ok := fun _ => True) (okp := fun _ => True) ?hr ?hp (fun _ hk => hk) trivial (Below.refl _ _) (Nat.le_refl _) (by simp) ?_; (case hd => rfl); (case hg => rfl); (case hr => first | (go_simp; done) | (go_simp; rfl)); (case hp => exact (Reps.one (show Kd.M Kd.string _ _ _ ((rdOf ByteArray.empty l0 x13_1).extract (x8_2 : Int).toNat (rdOf ByteArray.empty l0 x13_1).size) [.string ((rdOf ByteArray.empty l0 x13_1).extract (x8_2 : Int).toNat (rdOf ByteArray.empty l0 x13_1).size)] from rfl) (Reps.none _ _))); intro v275 w37 ho38 hb hg_ hnew_; clear hg_ hnew_
                  (first | rw [← Ny274.out] at ho38 | (simp only [Int.reduceToNat] at ho38; rw [← Ny274.out] at ho38))
                  have n0_ := Re HO_265002 (Kd.R_base ho38) hb; have n1_ := Rb HO270 hb; have n2_ := Rb HO273 hb; have n3_ := Rm (Kd.R_new' ho38 (Kd.R_lt (Rz HO_265002.out))) HB; have n4_ := Kb BK263 hb; have n5_ := Kb BK264 hb; have n6_ := Bc HB hb; clear HO_265002 HO270 HO273 BK263 BK264 HB; revert n0_ n1_ n2_ n3_ n4_ n5_ n6_; intro HO_265002 HO270 HO273 HO276 BK263 BK264 HB; clear hb ho38; refine hK.out _ _ ⟨cz BK264 0, cz BK264 1, cz BK264 2⟩ (fun hHeld => ?_); clear hK K; refine norm_ (a' := ?_) ?_ ?_; rotate_left; show Act.put _ (some 63) _ = _; simp only [aP, i64_w, i32_w]; rfl; exact norm_ (by simp only [putAll, aP]) (hCont (.slice Ao36 y268.length co36, v272, v275) _ ⟨hHeld, (Rz (Kd.R_mono HO270.out (fun _ hk => hk.2))), (Rz HO273.out), (Rz (Kd.R_mono HO276.out (fun _ hk => hk.2))), (Rz (Kd.R_mono HO_265002.out (fun _ hk => hk.2))), (Kz BK263.out), (Kz BK264.out), (Bq)⟩)
                 ·skip
                  refine Kd.R_lit_step Kd.string _ 9 ?hg (N := 63) ?hd (xs := ([(rdOf ByteArray.empty l0 x13_1).extract (x8_2 : Int).toNat (rdOf ByteArray.empty l0 x13_1).size] : List ByteArray)) (inner := [.string ((rdOf ByteArray.empty l0 x13_1).extract (x8_2 : Int).toNat (rdOf ByteArray.empty l0 x13_1).size)]) (ok := fun _ => True) (okp := fun _ => True) ?hr ?hp (fun _ hk => hk) trivial (Below.refl _ _) (Nat.le_refl _) (by simp) ?_; (case hd => rfl); (case hg => rfl); (case hr => first | (go_simp; done) | (go_simp; rfl)); (case hp => exact (Reps.one (show Kd.M Kd.string _ _ _ ((rdOf ByteArray.empty l0 x13_1).extract (x8_2 : Int).toNat (rdOf ByteArray.empty l0 x13_1).size) [.string ((rdOf ByteArray.empty l0 x13_1).extract (x8_2 : Int).toNat (rdOf ByteArray.empty l0 x13_1).size)] from rfl) (Reps.none _ _))); intro v275 w35 ho36 hb hg_ hnew_; clear hg_ hnew_
                  (first | rw [← Ny274.out] at ho36 | (simp only [Int.reduceToNat] at ho36; rw [← Ny274.out] at ho36))
                  have n0_ := Rb HO_265001 hb; have n1_ := Re HO_265002 (Kd.R_base ho36) hb; have n2_ := Rb HO270 hb; have n3_ := Rm (Kd.R_new' ho36 (Kd.R_lt (Rz HO_265002.out))) HB; have n4_ := Kb BK263 hb; have n5_ := Kb BK264 hb; have n6_ := Bc HB hb; clear HO_265001 HO_265002 HO270 BK263 BK264 HB; revert n0_ n1_ n2_ n3_ n4_ n5_ n6_; intro HO_265001 HO_265002 HO270 HO276 BK263 BK264 HB; clear hb ho36; obtain ⟨Ao38, co38, eo38⟩ := Kd.R_slice HO270.out
                  (first | subst eo38 | (injection eo38 with f1_ f2_ f3_; have f4_ := f1_.symm; have f5_ := f3_.symm; clear f1_ f2_ f3_; subst f4_; subst f5_))
                  refine hK.out _ _ ⟨cz BK264 0, cz BK264 1, cz BK264 2⟩ (fun hHeld => ?_); clear hK K; refine norm_ (a' := ?_) ?_ ?_; rotate_left; show Act.put _ (some 63) _ = _; simp only [aP, i64_w, i32_w]; rfl; refine oZ 4 (some 57) (bA 16 2047) HT_.out (fun K hK => ?_); refine Kd.R_append_rows_step (Kd.int .i64) (w0 := w) w.heap.size (by rfl) (.tmp 54) (.tmp 56) 24 3 (.int .i64 0) 8 rfl Try.underlying24 info3 rfl (by decide) (by omega) (.slice Ao30 x265001_1.length co30) x265001_1 y268 _ _ _ (fun k_ => some k_ ≠ (.slice Ao38 y268.length co38 : Value).ownBlock) (fun _ => False) rfl rfl ?aO ?aR (fun _ _ h => h) (fun _ h => h.elim) ?aF ?aB ?aS ?aL ?_
                  (case aR => repeat (first | exact (Kd.R_reads' HO270.out).2.2 | (with_reducible refine Kd.C_alloc ?_ _) | (with_reducible refine Kd.C_drewN ?_ _) | (with_reducible refine Kd.C_drew ?_)))
                  (case aB => exact (Bq))
                  (case aF => exact (fun k_ hk => Kd.fresh' (Kd.R_lt (Rz HO270.out)) k_ hk))
                  (case aO => exact (Rz (Kd.R_mono HO_265001.out (fun _ hk => hk.2))))
                  (case aS => exact (below_size (w := w) (Bq)))
                  (case aL => have := LMc26.out; omega)
                  intro v272 w37 ho hb hg hat; rw [← Ny271.out] at ho; have n0_ := am (Kd.R_over' (Rz HO_265002.out) (Kd.R_typed (Rz HO_265001.out)) (by decide) hg); have n1_ := am (blk_grown (g := gb263) (o := .cells #[.int .i64 0, .slice none 0 0, .slice none 0 0] 26 (0, 0)) (Kz BK263.out) hg (Kd.R_ne HO_265001.out BK263.out (by decide))); have n2_ := am (blk_grown (g := gb264) (o := .cells #[.int .i64 a1, .slice Ao30 x265001_1.length co30, .slice Ao31 x265002_1.length co31] 26 (0, 0)) (Kz BK264.out) hg (Kd.R_ne HO_265001.out BK264.out (by decide))); have n3_ := am (Kd.R_after (ok := (fun _ => True)) (Rz HO270.out) hg hat); have n4_ := am (Kd.R_over' (Rz HO276.out) (Kd.R_typed (Rz HO_265001.out)) (by decide) hg); have n5_ := am (hb); have n6_ := am (ho); clear HO_265002 BK263 BK264 HO270 HO276 HB HO_265001; revert n0_ n1_ n2_ n3_ n4_ n5_ n6_; intro HO_265002 BK263 BK264 HO270 HO276 HB HO273; clear ho hb hg hat; refine hK.out _ _ ⟨cz BK264 0, cz BK264 1, cz BK264 2⟩ (fun hHeld => ?_); clear hK K; refine norm_ (a' := ?_) ?_ ?_; rotate_left; show Act.put _ (some 57) _ = _; simp only [aP, i64_w, i32_w]; rfl; refine pZ 12 (some 65) (bA 16 6143) HT_.out ?_; exact norm_ (by simp only [putAll, aP]) (hCont (.slice Ao38 y268.length co38, v272, v275) _ ⟨hHeld, (Rz (Kd.R_mono HO270.out (fun _ hk => hk.2))), (Rz HO273.out), (Rz (Kd.R_mono HO276.out (fun _ hk => hk.2))), (Rz (Kd.R_mono HO_265002.out (fun _ hk => hk.2))), (Kz BK263.out), (Kz BK264.out), (Bq)⟩)
                ·skip
                 refine Kd.R_lit_step Kd.string _ 9 ?hg (N := 63) ?hd (xs := ([(rdOf ByteArray.empty l0 x13_1).extract (x8_2 : Int).toNat (rdOf ByteArray.empty l0 x13_1).size] : List ByteArray)) (inner := [.string ((rdOf ByteArray.empty l0 x13_1).extract (x8_2 : Int).toNat (rdOf ByteArray.empty l0 x13_1).size)]) (ok := fun _ => True) (okp := fun _ => True) ?hr ?hp (fun _ hk => hk) trivial (Below.refl _ _) (Nat.le_refl _) (by simp) ?_; (case hd => rfl); (case hg => rfl); (case hr => first | (go_simp; done) | (go_simp; rfl)); (case hp => exact (Reps.one (show Kd.M Kd.string _ _ _ ((rdOf ByteArray.empty l0 x13_1).extract (x8_2 : Int).toNat (rdOf ByteArray.empty l0 x13_1).size) [.string ((rdOf ByteArray.empty l0 x13_1).extract (x8_2 : Int).toNat (rdOf ByteArray.empty l0 x13_1).size)] from rfl) (Reps.none _ _))); intro v275 w33 ho34 hb hg_ hnew_; clear hg_ hnew_
                 (first | rw [← Ny274.out] at ho34 | (simp only [Int.reduceToNat] at ho34; rw [← Ny274.out] at ho34))
                 have n0_ := Rb HO_265001 hb; have n1_ := Re HO_265002 (Kd.R_base ho34) hb; have n2_ := Rm (Kd.R_new' ho34 (Kd.R_lt (Rz HO_265002.out))) HB; have n3_ := Kb BK263 hb; have n4_ := Kb BK264 hb; have n5_ := Bc HB hb; clear HO_265001 HO_265002 BK263 BK264 HB; revert n0_ n1_ n2_ n3_ n4_ n5_; intro HO_265001 HO_265002 HO276 BK263 BK264 HB; clear hb ho34; refine hK.out _ _ ⟨cz BK264 0, cz BK264 1, cz BK264 2⟩ (fun hHeld => ?_); clear hK K; refine norm_ (a' := ?_) ?_ ?_; rotate_left; show Act.put _ (some 63) _ = _; simp only [aP, i64_w, i32_w]; rfl; refine oZ 3 (some 56) (bA 16 2031) HT_.out (fun K hK => ?_); refine Kd.R_lit_step (Kd.int .i64) _ 3 ?hg (N := 56) ?hd (xs := ([x8_2] : List Int)) (inner := [.int .i64 x8_2]) (ok := fun _ => True) (okp := fun _ => True) ?hr ?hp (fun _ hk => hk) trivial (Below.refl _ _) (Nat.le_refl _) (by simp) ?_; (case hd => rfl); (case hg => rfl); (case hr => first | (go_simp; done) | (go_simp; rfl)); (case hp => exact (Reps.one (show Kd.M (Kd.int .i64) _ _ _ x8_2 [.int .i64 x8_2] from rfl) (Reps.none _ _))); intro v269 w35 ho36 hb hg_ hnew_; clear hg_ hnew_
                 (first | rw [← Ny268.out] at ho36 | (simp only [Int.reduceToNat] at ho36; rw [← Ny268.out] at ho36))
                 have n0_ := Re HO_265001 (Kd.R_base ho36) hb; have n1_ := Rb HO_265002 hb; have n2_ := Rb HO276 hb; have n3_ := Rm (Kd.R_new' ho36 (Kd.R_lt (Rz HO_265001.out))) HB; have n4_ := Kb BK263 hb; have n5_ := Kb BK264 hb; have n6_ := Bc HB hb; clear HO_265001 HO_265002 HO276 BK263 BK264 HB; revert n0_ n1_ n2_ n3_ n4_ n5_ n6_; intro HO_265001 HO_265002 HO276 HO270 BK263 BK264 HB; clear hb ho36; obtain ⟨Ao38, co38, eo38⟩ := Kd.R_slice HO270.out
                 (first | subst eo38 | (injection eo38 with f1_ f2_ f3_; have f4_ := f1_.symm; have f5_ := f3_.symm; clear f1_ f2_ f3_; subst f4_; subst f5_))
                 refine hK.out _ _ ⟨cz BK264 0, cz BK264 1, cz BK264 2⟩ (fun hHeld => ?_); clear hK K; refine norm_ (a' := ?_) ?_ ?_; rotate_left; show Act.put _ (some 56) _ = _; simp only [aP, i64_w, i32_w]; rfl; refine oZ 4 (some 57) (bA 16 2047) HT_.out (fun K hK => ?_); refine Kd.R_append_rows_step (Kd.int .i64) (w0 := w) w.heap.size (by rfl) (.tmp 54) (.tmp 56) 24 3 (.int .i64 0) 8 rfl Try.underlying24 info3 rfl (by decide) (by omega) (.slice Ao30 x265001_1.length co30) x265001_1 y268 _ _ _ (fun k_ => some k_ ≠ (.slice Ao38 y268.length co38 : Value).ownBlock) (fun _ => False) rfl rfl ?aO ?aR (fun _ _ h => h) (fun _ h => h.elim) ?aF ?aB ?aS ?aL ?_
                 (case aR => repeat (first | exact (Kd.R_reads' HO270.out).2.2 | (with_reducible refine Kd.C_alloc ?_ _) | (with_reducible refine Kd.C_drewN ?_ _) | (with_reducible refine Kd.C_drew ?_)))
                 (case aB => exact (Bq))
                 (case aF => exact (fun k_ hk => Kd.fresh' (Kd.R_lt (Rz HO270.out)) k_ hk))
                 (case aO => exact (Rz (Kd.R_mono HO_265001.out (fun _ hk => hk.2))))
                 (case aS => exact (below_size (w := w) (Bq)))
                 (case aL => have := LMc26.out; omega)
                 intro v272 w37 ho hb hg hat; rw [← Ny271.out] at ho; have n0_ := am (Kd.R_over' (Rz HO_265002.out) (Kd.R_typed (Rz HO_265001.out)) (by decide) hg); have n1_ := am (blk_grown (g := gb263) (o := .cells #[.int .i64 0, .slice none 0 0, .slice none 0 0] 26 (0, 0)) (Kz BK263.out) hg (Kd.R_ne HO_265001.out BK263.out (by decide))); have n2_ := am (blk_grown (g := gb264) (o := .cells #[.int .i64 a1, .slice Ao30 x265001_1.length co30, .slice Ao31 x265002_1.length co31] 26 (0, 0)) (Kz BK264.out) hg (Kd.R_ne HO_265001.out BK264.out (by decide))); have n3_ := am (Kd.R_over' (Rz HO276.out) (Kd.R_typed (Rz HO_265001.out)) (by decide) hg); have n4_ := am (Kd.R_after (ok := (fun _ => True)) (Rz HO270.out) hg hat); have n5_ := am (hb); have n6_ := am (ho); clear HO_265002 BK263 BK264 HO276 HO270 HB HO_265001; revert n0_ n1_ n2_ n3_ n4_ n5_ n6_; intro HO_265002 BK263 BK264 HO276 HO270 HB HO273; clear ho hb hg hat; refine hK.out _ _ ⟨cz BK264 0, cz BK264 1, cz BK264 2⟩ (fun hHeld => ?_); clear hK K; refine norm_ (a' := ?_) ?_ ?_; rotate_left; show Act.put _ (some 57) _ = _; simp only [aP, i64_w, i32_w]; rfl; refine pZ 12 (some 65) (bA 16 6143) HT_.out ?_; exact norm_ (by simp only [putAll, aP]) (hCont (.slice Ao38 y268.length co38, v272, v275) _ ⟨hHeld, (Rz (Kd.R_mono HO270.out (fun _ hk => hk.2))), (Rz HO273.out), (Rz (Kd.R_mono HO276.out (fun _ hk => hk.2))), (Rz (Kd.R_mono HO_265002.out (fun _ hk => hk.2))), (Kz BK263.out), (Kz BK264.out), (Bq)⟩)
               rintro ⟨v269, v272, v275⟩ w39 ⟨hS_, h0_, h1_, h2_, h3_, h4_, h5_, h6_⟩; (try dsimp -simprocs only at h0_ h1_ h2_ h3_ h4_ h5_ h6_); have n0_ := am h0_; have n1_ := am h1_; have n2_ := am h2_; have n3_ := am h3_; have n4_ := am h4_; have n5_ := am h5_; have n6_ : Aside0 (Below w.heap.size w w39) := ⟨h6_⟩; clear HO_265001 HO_265002 BK263 BK264 HB; clear h0_ h1_ h2_ h3_ h4_ h5_ h6_; revert n0_ n1_ n2_ n3_ n4_ n5_ n6_; intro HO270 HO273 HO276 HO_265002 BK263 BK264 HB; have hHeld : w39.cell? ⟨gb264, 0, none⟩ = some (.int .i64 a1) ∧ w39.cell? ⟨gb264, 1, none⟩ = some (.slice Ao30 x265001_1.length co30) ∧ w39.cell? ⟨gb264, 2, none⟩ = some (.slice Ao31 x265002_1.length co31) := hS_; obtain ⟨Ao41, co41, eo41⟩ := Kd.R_slice HO276.out
               (first | subst eo41 | (injection eo41 with f1_ f2_ f3_; have f4_ := f1_.symm; have f5_ := f3_.symm; clear f1_ f2_ f3_; subst f4_; subst f5_))
               refine norm_ (a' := ?_) ?_ ?_
               rotate_left
               ·simp only [putAll, aP]
                rfl
               refine oZ 11 (some 64) (bA 16 8191) HT_.out (fun K hK => ?_); refine Kd.R_append_rows_step Kd.string (w0 := w) w.heap.size (by rfl) (.tmp 59) (.tmp 63) 22 9 (.string ⟨#[]⟩) 16 rfl Try.underlying22 info9 rfl (by decide) (by omega) (.slice Ao31 x265002_1.length co31) x265002_1 y274 _ _ _ (fun k_ => some k_ ≠ (.slice Ao41 y274.length co41 : Value).ownBlock) (fun _ => False) rfl rfl ?aO ?aR (fun _ _ h => h) (fun _ h => h.elim) ?aF ?aB ?aS ?aL ?_
               (case aR => repeat (first | exact (Kd.R_reads' HO276.out).2.2 | (with_reducible refine Kd.C_alloc ?_ _) | (with_reducible refine Kd.C_drewN ?_ _) | (with_reducible refine Kd.C_drew ?_)))
               (case aB => exact (Bq))
               (case aF => exact (fun k_ hk => Kd.fresh' (Kd.R_lt (Rz HO276.out)) k_ hk))
               (case aO => exact (Rz HO_265002.out))
               (case aS => exact (below_size (w := w) (Bq)))
               (case aL => have := LMc29.out; omega)
               intro v278 w40 ho hb hg hat; rw [← Ny277.out] at ho; have n0_ := am (blk_grown (g := gb263) (o := .cells #[.int .i64 0, .slice none 0 0, .slice none 0 0] 26 (0, 0)) (Kz BK263.out) hg (Kd.R_ne HO_265002.out BK263.out (by decide))); have n1_ := am (blk_grown (g := gb264) (o := .cells #[.int .i64 a1, .slice Ao30 x265001_1.length co30, .slice Ao31 x265002_1.length co31] 26 (0, 0)) (Kz BK264.out) hg (Kd.R_ne HO_265002.out BK264.out (by decide))); have n2_ := am (Kd.R_over' (Rz HO270.out) (Kd.R_typed (Rz HO_265002.out)) (by decide) hg); have n3_ := am (Kd.R_over' (Rz HO273.out) (Kd.R_typed (Rz HO_265002.out)) (by decide) hg); have n4_ := am (Kd.R_after (ok := (fun _ => True)) (Rz (Kd.R_mono HO276.out (fun _ hk => ⟨trivial, hk⟩))) hg hat); have n5_ := am (hb); have n6_ := am (ho); clear BK263 BK264 HO270 HO273 HO276 HB HO_265002; revert n0_ n1_ n2_ n3_ n4_ n5_ n6_; intro BK263 BK264 HO270 HO273 HO276 HB HO279; clear ho hb hg hat; obtain ⟨Ao42, co42, eo42⟩ := Kd.R_slice HO273.out
               (first | subst eo42 | (injection eo42 with f1_ f2_ f3_; have f4_ := f1_.symm; have f5_ := f3_.symm; clear f1_ f2_ f3_; subst f4_; subst f5_))
               obtain ⟨Ao44, co44, eo44⟩ := Kd.R_slice HO279.out
               (first | subst eo44 | (injection eo44 with f1_ f2_ f3_; have f4_ := f1_.symm; have f5_ := f3_.symm; clear f1_ f2_ f3_; subst f4_; subst f5_))
               refine hK.out _ _ ⟨cz BK264 0, cz BK264 1, cz BK264 2⟩ (fun hHeld => ?_); clear hK K; refine norm_ (a' := ?_) ?_ ?_; rotate_left; show Act.put _ (some 64) _ = _; simp only [aP, i64_w, i32_w]; rfl; refine lZ 13 none (bA 16 16383) HT_.out (fun K hK => ?_); have hs43 : w40.cell? ⟨gb264, 1, none⟩ = some (.slice Ao30 x265001_1.length co30) := cz BK264 1; have hfs43 := blk_frozen BK264.out 1; have hns43_0 := NB263_264.out; have hms43_0 := NB264_263.out; refine skip_ (w1 := ?_) (by rfl) rfl ?_ ?_
               rotate_left
               ·go_simp
                rfl
               refine hK.out _ _ ?_; clear hK K; refine pZ 14 (some 66) (bA 16 32767) HT_.out ?_; refine lZ 15 none (bA 16 65535) HT_.out (fun K hK => ?_); have hs45 : w40.cell? ⟨gb264, 2, none⟩ = some (.slice Ao31 x265002_1.length co31) := cz BK264 2; have hfs45 := blk_frozen BK264.out 2; have hns45_0 := NB263_264.out; have hms45_0 := NB264_263.out; refine skip_ (w1 := ?_) (by rfl) rfl ?_ ?_
               rotate_left
               ·go_simp
                rfl
               refine hK.out _ _ ?_; clear hK K; refine done_ (done_of HT_.out (by kernel_rfl)) ?_
               try go_wp2
               go_roundg kj9
               case measure => have := HK1.out; have := HK2.out; have := HJ9.out; omega
               case rel => exact ⟨(wrap64 (x13_1 + 1)), (y271), (y277), (.slice Ao42 y271.length co42), (.slice Ao44 y277.length co44), wZ, H', ⟨by have := HK1.out; have := HK2.out; have := HJ9.out; omega⟩, ⟨Rz (Kd.R_mono (Kd.R_far (p := ⟨gb264, 2, none⟩) (Kd.R_far (p := ⟨gb264, 1, none⟩) (Kd.R_types HO273.out BK264.out (by decide)) (fun _ hk => hk.2) (.slice Ao42 y271.length co42)) (fun _ hk => hk.2) (.slice Ao44 y277.length co44)) (fun _ hk => trivial))⟩, ⟨Rz (Kd.R_mono (Kd.R_far (p := ⟨gb264, 2, none⟩) (Kd.R_far (p := ⟨gb264, 1, none⟩) (Kd.R_types HO279.out BK264.out (by decide)) (fun _ hk => hk.2) (.slice Ao42 y271.length co42)) (fun _ hk => hk.2) (.slice Ao44 y277.length co44)) (fun _ hk => trivial))⟩, ⟨by refine bp ?_; refine blk_far ?_ NB263_264.out _; refine bp ?_; refine blk_far ?_ NB263_264.out _; refine bp ?_; exact BK263.out⟩, ⟨by refine bp ?_; refine blk_put (cs := #[.int .i64 a1, .slice Ao42 y271.length co42, .slice Ao31 x265002_1.length co31]) ?_ 2 _ rfl; refine bp ?_; refine blk_put (cs := #[.int .i64 a1, .slice Ao30 x265001_1.length co30, .slice Ao31 x265002_1.length co31]) ?_ 1 _ rfl; refine bp ?_; exact BK264.out⟩, ⟨Bq⟩⟩
              ·rw [if_neg c29] at H
               exact absurd H (by simp)
             ·rw [if_neg c28] at H
              exact absurd H (by simp)
            ·rw [if_neg c27] at H
             exact absurd H (by simp)
           ·rw [if_neg c26] at H
            exact absurd H (by simp)
     ·rw [if_neg c9] at H
      exact absurd H (by simp)
    ·rw [if_neg c8] at H
     exact absurd H (by simp)
   ·rw [if_neg c7] at H
    have c7b0 : decide (x13_1 < (l0.length : Int)) = false := decide_eq_false c7; clear c7
    simp only [Option.some.injEq, Prod.mk.injEq] at H
    obtain ⟨rfl, rfl, rfl⟩ := H; have hnb46 := NB264_263.out; have hnc46 := NB263_264.out; obtain ⟨hcz47_0, hcz47_1, hcz47_2, hfz47_0, hfz47_1, hfz47_2⟩ := cf3 (w := wr) BK264; obtain ⟨hcz48_0, hcz48_1, hcz48_2, hfz48_0, hfz48_1, hfz48_2⟩ := cf3 (w := wr) BK263; obtain ⟨Ao49, co49, eo49⟩ := Kd.R_slice HO_265001.out; subst eo49; obtain ⟨Ao50, co50, eo50⟩ := Kd.R_slice HO_265002.out; subst eo50
    go_wp2
    refine bodyPost_ret (results_cell_row rfl _ _ gb263 26 #[.int .i64 a1, .slice Ao49 x265001_1.length co49, .slice Ao50 x265002_1.length co50] (0, 0) _ rfl (by refine bp ?_; refine blk_put (cs := #[.int .i64 a1, .slice Ao49 x265001_1.length co49, .slice none 0 0]) ?_ 2 _ rfl; refine bp ?_; refine blk_put (cs := #[.int .i64 a1, .slice none 0 0, .slice none 0 0]) ?_ 1 _ rfl; refine bp ?_; refine blk_put (cs := #[.int .i64 0, .slice none 0 0, .slice none 0 0]) ?_ 0 _ rfl; exact Kz BK263.out) Try.underlying26 rfl (by kernel_rfl)) rfl ?_; exact ⟨_, _, eZ, Rz (Kd.R_mono (Kd.R_far (p := ⟨gb263, 2, none⟩) (Kd.R_far (p := ⟨gb263, 1, none⟩) (Kd.R_far (p := ⟨gb263, 0, none⟩) (Kd.R_types HO_265001.out BK263.out (by decide)) (fun _ hk => hk.2) (.int .i64 a1)) (fun _ hk => hk.2) (.slice Ao49 x265001_1.length co49)) (fun _ hk => hk.2) (.slice Ao50 x265002_1.length co50)) (fun _ hk => trivial)), Rz (Kd.R_mono (Kd.R_far (p := ⟨gb263, 2, none⟩) (Kd.R_far (p := ⟨gb263, 1, none⟩) (Kd.R_far (p := ⟨gb263, 0, none⟩) (Kd.R_types HO_265002.out BK263.out (by decide)) (fun _ hk => hk.2) (.int .i64 a1)) (fun _ hk => hk.2) (.slice Ao49 x265001_1.length co49)) (fun _ hk => hk.2) (.slice Ao50 x265002_1.length co50)) (fun _ hk => trivial)), Bq⟩

def impl_BuildFront.f (k : Nat) (l0 : List ByteArray) (a1 : Int) : Option (Int × List Int × List ByteArray × Bool) := (impl_AreKeys.f k l0).bind fun t281 => (if t281 = true then ((impl_in.f a1 1 16).bind fun t282 => (if t282 = true then ((impl_front.f k l0 a1).bind fun bt283 => (some (bt283.1, bt283.2.1, bt283.2.2, true))) else (some (0, ([] : List Int), ([] : List ByteArray), false)))) else (some (0, ([] : List Int), ([] : List ByteArray), false)))
theorem impl_BuildFront.calls (k : Nat) (A0 : Option Addr) (c0 : Nat) (l0 : List ByteArray) (a1 : Int) (r1 : Int) (r2 : List Int) (r3 : List ByteArray) (r4 : Bool) (w : World) (hr0 : Kd.C Kd.string w A0 l0.length l0) (hc0 : l0.length ≤ c0) (h : impl_BuildFront.f k l0 a1 = some (r1, r2, r3, r4)) :
  Calls Try.prog 14 #[.slice A0 l0.length c0, .int .i64 a1] w fun e w' => ∃ v1_ v2_ : Value, e = .returned (.tuple #[.agg #[.int .i64 r1, v1_, v2_], .bool r4]) ∧ Kd.R (Kd.int .i64) 3 w' w.heap.size (fun _ => True) v1_ r2 ∧ Kd.R Kd.string 9 w' w.heap.size (fun _ => True) v2_ r3 ∧ Below w.heap.size w w' := by
 have hu26 := Try.underlying26; have HR0 := am hr0; have HC0 := am hc0; clear hr0 hc0; have HB := am (Below.refl w.heap.size w); have H : ((impl_AreKeys.f k l0).bind fun t281 => (if t281 = true then ((impl_in.f a1 1 16).bind fun t282 => (if t282 = true then ((impl_front.f k l0 a1).bind fun bt283 => (some (bt283.1, bt283.2.1, bt283.2.2, true))) else (some (0, ([] : List Int), ([] : List ByteArray), false)))) else (some (0, ([] : List Int), ([] : List ByteArray), false)))) = some (r1, r2, r3, r4) := h; clear h; obtain ⟨t281, A3, H⟩ := ob H; (try dsimp -simprocs only at H)
 by_cases c4 : t281 = true
 ·subst c4
  rw [if_pos rfl] at H; obtain ⟨t282, A5, H⟩ := ob H; (try dsimp -simprocs only at H)
  by_cases c6 : t282 = true
  ·subst c6
   rw [if_pos rfl] at H; obtain ⟨⟨t283, t284, t287⟩, A7, H⟩ := ob H; (try dsimp -simprocs only at H)
   simp only [Option.some.injEq, Prod.mk.injEq] at H
   obtain ⟨rfl, rfl, rfl, rfl⟩ := H
   go_enter Try.func14, Try.ntmps14
   go_wp2_with (first | ((with_reducible refine gate_dst (N := 4) rfl ?_); refine bE 4 #[.int .i64 0, .slice none 0 0, .slice none 0 0] 26 ?_; intro gb280 hg w8 hbox hb; have n0_ := Bb HB hb; have n1_ := am (hbox); have n2_ := Gl HB hg; have n3_ := Gl HB hg; clear HB; revert n0_ n1_ n2_ n3_; intro HB BK280 GW280 GE280; clear hb hbox hg) | ((with_reducible refine gate_callee (f := 41) rfl ?_); refine gL (some 7) Try.func41 #[.slice A0 l0.length c0] ?_; (with_reducible refine (impl_AreKeys.calls k _ _ l0 true _ ?side1 ?side2 A3.out).mono ?_); (case side1 => exact Cz (Kd.C_below HR0.out HB.out)); (case side2 => exact HC0.out); rintro e w' ⟨rfl, ⟨nd, rfl⟩⟩; refine ⟨_, rfl, ?_⟩; (try (rw [drewN_self w8]; generalize hq_ : World.drewN w8 _ = w8; have n0_ : Aside0 (w8.heap[gb280]? = some (.cells #[.int .i64 0, .slice none 0 0, .slice none 0 0] 26 (0, 0))) := ⟨by rw [← hq_]; exact (Kz BK280.out)⟩; have n1_ : Aside0 (Below w.heap.size w w8) := ⟨by rw [← hq_]; exact (Bq)⟩; clear BK280 HB hq_; revert n0_ n1_; intro BK280 HB))) | (go_at_call 42; (with_reducible refine (impl_in.calls a1 1 16 true _ A5.out).mono ?_); rintro e w' ⟨rfl, ⟨nd, rfl⟩⟩; (try (rw [drewN_self w8]; generalize hq_ : World.drewN w8 _ = w8; have n0_ : Aside0 (w8.heap[gb280]? = some (.cells #[.int .i64 0, .slice none 0 0, .slice none 0 0] 26 (0, 0))) := ⟨by rw [← hq_]; exact (Kz BK280.out)⟩; have n1_ : Aside0 (Below w.heap.size w w8) := ⟨by rw [← hq_]; exact (Bq)⟩; clear BK280 HB hq_; revert n0_ n1_; intro BK280 HB))) | ((with_reducible refine gate_callee (f := 43) rfl ?_); refine gL (some 17) Try.func43 #[.slice A0 l0.length c0, .int .i64 a1] ?_; (with_reducible refine (impl_front.calls k _ _ l0 a1 t283 t284 t287 _ ?side1 ?side2 A7.out).mono ?_); (case side1 => exact Cz (Kd.C_below HR0.out HB.out)); (case side2 => exact HC0.out); rintro e w9 ⟨v285, v288, rfl, ho0, ho1, hb⟩; refine ⟨_, rfl, ?_⟩; have n0_ := Rm ho0 HB; have n1_ := Rm ho1 HB; have n2_ := Kb BK280 hb; have n3_ := Bc HB hb; clear BK280 HB; revert n0_ n1_ n2_ n3_; intro HO286 HO289 BK280 HB; (try clear hb); (try clear hb2); (try clear hk); (try clear hi); (try clear ho0); (try clear ho1); obtain ⟨hcz10_0, hcz10_1, hcz10_2, hfz10_0, hfz10_1, hfz10_2⟩ := cf3 (w := w9) BK280; obtain ⟨Ao11, co11, eo11⟩ := Kd.R_slice HO286.out; subst eo11; obtain ⟨Ao12, co12, eo12⟩ := Kd.R_slice HO289.out; subst eo12))
   refine bodyPost_ret (results_ct rfl _ _ gb280 26 #[.int .i64 t283, .slice Ao11 t284.length co11, .slice Ao12 t287.length co12] (0, 0) _ rfl (by refine bp ?_; refine blk_put (cs := #[.int .i64 t283, .slice Ao11 t284.length co11, .slice none 0 0]) ?_ 2 _ rfl; refine bp ?_; refine blk_put (cs := #[.int .i64 t283, .slice none 0 0, .slice none 0 0]) ?_ 1 _ rfl; refine bp ?_; refine blk_put (cs := #[.int .i64 0, .slice none 0 0, .slice none 0 0]) ?_ 0 _ rfl; exact Kz BK280.out) Try.underlying26 rfl (by kernel_rfl)) rfl ?_; exact ⟨_, _, eZ, Rz (Kd.R_mono (Kd.R_far (p := ⟨gb280, 2, none⟩) (Kd.R_far (p := ⟨gb280, 1, none⟩) (Kd.R_far (p := ⟨gb280, 0, none⟩) (Kd.R_types HO286.out BK280.out (by decide)) (fun _ hk => hk.2) (.int .i64 t283)) (fun _ hk => hk.2) (.slice Ao11 t284.length co11)) (fun _ hk => hk.2) (.slice Ao12 t287.length co12)) (fun _ hk => trivial)), Rz (Kd.R_mono (Kd.R_far (p := ⟨gb280, 2, none⟩) (Kd.R_far (p := ⟨gb280, 1, none⟩) (Kd.R_far (p := ⟨gb280, 0, none⟩) (Kd.R_types HO289.out BK280.out (by decide)) (fun _ hk => hk.2) (.int .i64 t283)) (fun _ hk => hk.2) (.slice Ao11 t284.length co11)) (fun _ hk => hk.2) (.slice Ao12 t287.length co12)) (fun _ hk => trivial)), Bq⟩
  ·replace c6 := Bool.eq_false_iff.mpr c6
   subst c6
   rw [if_neg (show ¬ (false = true) by decide)] at H
   simp only [Option.some.injEq, Prod.mk.injEq] at H
   obtain ⟨rfl, rfl, rfl, rfl⟩ := H
   go_enter Try.func14, Try.ntmps14
   go_wp2_with (first | ((with_reducible refine gate_dst (N := 4) rfl ?_); refine bE 4 #[.int .i64 0, .slice none 0 0, .slice none 0 0] 26 ?_; intro gb280 hg w13 hbox hb; have n0_ := Bb HB hb; have n1_ := am (hbox); have n2_ := Gl HB hg; have n3_ := Gl HB hg; clear HB; revert n0_ n1_ n2_ n3_; intro HB BK280 GW280 GE280; clear hb hbox hg) | ((with_reducible refine gate_callee (f := 41) rfl ?_); refine gL (some 7) Try.func41 #[.slice A0 l0.length c0] ?_; (with_reducible refine (impl_AreKeys.calls k _ _ l0 true _ ?side1 ?side2 A3.out).mono ?_); (case side1 => exact Cz (Kd.C_below HR0.out HB.out)); (case side2 => exact HC0.out); rintro e w' ⟨rfl, ⟨nd, rfl⟩⟩; refine ⟨_, rfl, ?_⟩; (try (rw [drewN_self w13]; generalize hq_ : World.drewN w13 _ = w13; have n0_ : Aside0 (w13.heap[gb280]? = some (.cells #[.int .i64 0, .slice none 0 0, .slice none 0 0] 26 (0, 0))) := ⟨by rw [← hq_]; exact (Kz BK280.out)⟩; have n1_ : Aside0 (Below w.heap.size w w13) := ⟨by rw [← hq_]; exact (Bq)⟩; clear BK280 HB hq_; revert n0_ n1_; intro BK280 HB))) | (go_at_call 42; (with_reducible refine (impl_in.calls a1 1 16 false _ A5.out).mono ?_); rintro e w' ⟨rfl, ⟨nd, rfl⟩⟩; (try (rw [drewN_self w13]; generalize hq_ : World.drewN w13 _ = w13; have n0_ : Aside0 (w13.heap[gb280]? = some (.cells #[.int .i64 0, .slice none 0 0, .slice none 0 0] 26 (0, 0))) := ⟨by rw [← hq_]; exact (Kz BK280.out)⟩; have n1_ : Aside0 (Below w.heap.size w w13) := ⟨by rw [← hq_]; exact (Bq)⟩; clear BK280 HB hq_; revert n0_ n1_; intro BK280 HB)); obtain ⟨hcz14_0, hcz14_1, hcz14_2, hfz14_0, hfz14_1, hfz14_2⟩ := cf3 (w := w13) BK280))
   refine bodyPost_ret (results_ct rfl _ _ gb280 26 #[.int .i64 0, .slice none 0 0, .slice none 0 0] (0, 0) _ rfl (by refine bp ?_; refine blk_put (cs := #[.int .i64 0, .slice none 0 0, .slice none 0 0]) ?_ 2 _ rfl; refine bp ?_; refine blk_put (cs := #[.int .i64 0, .slice none 0 0, .slice none 0 0]) ?_ 1 _ rfl; refine bp ?_; refine blk_put (cs := #[.int .i64 0, .slice none 0 0, .slice none 0 0]) ?_ 0 _ rfl; exact Kz BK280.out) Try.underlying26 rfl (by kernel_rfl)) rfl ?_; exact ⟨_, _, eZ, nZ, nZ, Bq⟩
 ·replace c4 := Bool.eq_false_iff.mpr c4
  subst c4
  rw [if_neg (show ¬ (false = true) by decide)] at H
  simp only [Option.some.injEq, Prod.mk.injEq] at H
  obtain ⟨rfl, rfl, rfl, rfl⟩ := H
  go_enter Try.func14, Try.ntmps14
  go_wp2_with (first | ((with_reducible refine gate_dst (N := 4) rfl ?_); refine bE 4 #[.int .i64 0, .slice none 0 0, .slice none 0 0] 26 ?_; intro gb280 hg w15 hbox hb; have n0_ := Bb HB hb; have n1_ := am (hbox); have n2_ := Gl HB hg; have n3_ := Gl HB hg; clear HB; revert n0_ n1_ n2_ n3_; intro HB BK280 GW280 GE280; clear hb hbox hg) | ((with_reducible refine gate_callee (f := 41) rfl ?_); refine gL (some 7) Try.func41 #[.slice A0 l0.length c0] ?_; (with_reducible refine (impl_AreKeys.calls k _ _ l0 false _ ?side1 ?side2 A3.out).mono ?_); (case side1 => exact Cz (Kd.C_below HR0.out HB.out)); (case side2 => exact HC0.out); rintro e w' ⟨rfl, ⟨nd, rfl⟩⟩; refine ⟨_, rfl, ?_⟩; (try (rw [drewN_self w15]; generalize hq_ : World.drewN w15 _ = w15; have n0_ : Aside0 (w15.heap[gb280]? = some (.cells #[.int .i64 0, .slice none 0 0, .slice none 0 0] 26 (0, 0))) := ⟨by rw [← hq_]; exact (Kz BK280.out)⟩; have n1_ : Aside0 (Below w.heap.size w w15) := ⟨by rw [← hq_]; exact (Bq)⟩; clear BK280 HB hq_; revert n0_ n1_; intro BK280 HB)); obtain ⟨hcz16_0, hcz16_1, hcz16_2, hfz16_0, hfz16_1, hfz16_2⟩ := cf3 (w := w15) BK280))
  refine bodyPost_ret (results_ct rfl _ _ gb280 26 #[.int .i64 0, .slice none 0 0, .slice none 0 0] (0, 0) _ rfl (by refine bp ?_; refine blk_put (cs := #[.int .i64 0, .slice none 0 0, .slice none 0 0]) ?_ 2 _ rfl; refine bp ?_; refine blk_put (cs := #[.int .i64 0, .slice none 0 0, .slice none 0 0]) ?_ 1 _ rfl; refine bp ?_; refine blk_put (cs := #[.int .i64 0, .slice none 0 0, .slice none 0 0]) ?_ 0 _ rfl; exact Kz BK280.out) Try.underlying26 rfl (by kernel_rfl)) rfl ?_; exact ⟨_, _, eZ, nZ, nZ, Bq⟩

def slices_Equal_int_int.l0 : Nat → List Int → List Int → Int → Int → Option (Bool)
 | 0, _, _, _, _ => none
 | k + 1, x0, x1, x12, x13 => if x13 < x12 then (if 0 ≤ x13 then (if x13 < (x0.length : Int) then (if x13 < (x1.length : Int) then (if (rd x0 x13) = (rd x1 x13) then (slices_Equal_int_int.l0 k x0 x1 x12 (wrap64 (x13 + 1))) else (some false)) else (none)) else (none)) else (none)) else (some true)
def slices_Equal_int_int.f (k : Nat) (l0 : List Int) (l1 : List Int) : Option (Bool) := if (l0.length : Int) = (l1.length : Int) then (slices_Equal_int_int.l0 k l0 l1 (l0.length : Int) 0) else (some false)
theorem slices_Equal_int_int.calls (k : Nat) (A0 : Option Addr) (c0 : Nat) (l0 : List Int) (A1 : Option Addr) (c1 : Nat) (l1 : List Int) (r : Bool) (w : World) (hr0 : Kd.C (Kd.int .i64) w A0 l0.length l0) (hc0 : l0.length ≤ c0) (hr1 : Kd.C (Kd.int .i64) w A1 l1.length l1) (hc1 : l1.length ≤ c1) (h : slices_Equal_int_int.f k l0 l1 = some r) :
  Calls Try.prog 69 #[.slice A0 l0.length c0, .slice A1 l1.length c1] w fun e w' => e = .returned (.bool r) ∧ Drawn0 w w' := by
 have HR0 := am hr0; have HC0 := am hc0; clear hr0 hc0; have HR1 := am hr1; have HC1 := am hc1; clear hr1 hc1; have H : (if (l0.length : Int) = (l1.length : Int) then (slices_Equal_int_int.l0 k l0 l1 (l0.length : Int) 0) else (some false)) = some r := h; clear h
 by_cases c3 : (l0.length : Int) = (l1.length : Int)
 ·rw [if_pos c3] at H
  have c3b0 : ((l0.length : Int) == (l1.length : Int)) = true := beq_iff_eq.mpr c3; have c3b1 : ((l0.length : Int) != (l1.length : Int)) = false := bne_eq_false_iff_eq.mpr c3
  have c3b2 : (l0.length == l1.length) = true := by first | simpa using c3 | (simp at c3 ⊢; omega)
  clear c3; have H' := am H; clear H
  go_enter Try.func69, Try.ntmps69
  go_wp2
  repeat (go_quiet (fail); try go_wp2)
  go_loopg [13] k (fun kq v13 w' => ∃ (x13_1 : Int), v13 = .int .i64 x13_1 ∧ Aside0 (slices_Equal_int_int.l0 kq l0 l1 (l0.length : Int) x13_1 = some r) ∧ Aside0 (kq ≤ k) ∧ Drawn0 w w')
  case atStart => exact ⟨(0), wZ, H', ⟨Nat.le_refl _⟩, by repeat (first | exact Drawn0.refl _ | apply Drawn0.step)⟩
  case round =>
   clear H'
   try clear c1
   try clear p2
   try clear c3
   try clear c3b0
   try clear c3b1
   try clear c3b2
   obtain ⟨x13_1, rfl, HA, HK1, ⟨m1, rfl⟩⟩ := hrel; cases gk with
   | zero => exact absurd HA.out (by simp [slices_Equal_int_int.l0])
   | succ k1 =>
    have H := HA.out; clear HA
    simp only [slices_Equal_int_int.l0] at H
    by_cases c4 : x13_1 < (l0.length : Int)
    ·rw [if_pos c4] at H
     have c4b0 : decide (x13_1 < (l0.length : Int)) = true := decide_eq_true c4; clear c4
     by_cases c5 : 0 ≤ x13_1
     ·rw [if_pos c5] at H
      have c5b0 : decide (0 ≤ x13_1) = true := decide_eq_true c5; clear c5
      by_cases c6 : x13_1 < (l0.length : Int)
      ·rw [if_pos c6] at H
       have c6b0 : decide (x13_1 < (l0.length : Int)) = true := decide_eq_true c6; clear c6
       by_cases c7 : x13_1 < (l1.length : Int)
       ·rw [if_pos c7] at H
        have c7b0 : decide (x13_1 < (l1.length : Int)) = true := decide_eq_true c7; clear c7
        by_cases c8 : (rd l0 x13_1) = (rd l1 x13_1)
        ·rw [if_pos c8] at H
         have c8b0 : ((rd l0 x13_1) == (rd l1 x13_1)) = true := beq_iff_eq.mpr c8; have c8b1 : ((rd l0 x13_1) != (rd l1 x13_1)) = false := bne_eq_false_iff_eq.mpr c8; clear c8; have H' := am H; clear H; obtain ⟨ad290, e290, hx290_0⟩ := Kd.at_int HR0.out x13_1 dT dT; cases e290; have p290 := eT (0 ≤ (x13_1 : Int)); have q290 := eT (x13_1 < (l0.length : Int)); obtain ⟨ad291, e291, hx291_0⟩ := Kd.at_int HR1.out x13_1 dT dT; cases e291; have p291 := eT (0 ≤ (x13_1 : Int)); have q291 := eT (x13_1 < (l1.length : Int))
         go_wp2
         repeat (go_quiet (fail); try go_wp2)
         go_roundg k1
         case measure => have := HK1.out; omega
         case rel => exact ⟨(wrap64 (x13_1 + 1)), wZ, H', ⟨by have := HK1.out; omega⟩, by repeat (first | exact Drawn0.refl _ | apply Drawn0.step)⟩
        ·rw [if_neg c8] at H
         have c8b0 : ((rd l0 x13_1) == (rd l1 x13_1)) = false := beq_eq_false_iff_ne.mpr c8; have c8b1 : ((rd l0 x13_1) != (rd l1 x13_1)) = true := bne_iff_ne.mpr c8; obtain rfl := Option.some.inj H; obtain ⟨ad290, e290, hx290_0⟩ := Kd.at_int HR0.out x13_1 dT dT; cases e290; have p290 := eT (0 ≤ (x13_1 : Int)); have q290 := eT (x13_1 < (l0.length : Int)); obtain ⟨ad291, e291, hx291_0⟩ := Kd.at_int HR1.out x13_1 dT dT; cases e291; have p291 := eT (0 ≤ (x13_1 : Int)); have q291 := eT (x13_1 < (l1.length : Int))
         go_wp2
         repeat (go_quiet (fail); try go_wp2)
         go_ret
         exact ⟨by first | rfl | (simp; done) | (simp [*]; done), by repeat (first | exact Drawn0.refl _ | apply Drawn0.step)⟩
       ·rw [if_neg c7] at H
        exact absurd H (by simp)
      ·rw [if_neg c6] at H
       exact absurd H (by simp)
     ·rw [if_neg c5] at H
      exact absurd H (by simp)
    ·rw [if_neg c4] at H
     have c4b0 : decide (x13_1 < (l0.length : Int)) = false := decide_eq_false c4; clear c4; obtain rfl := Option.some.inj H
     go_wp2
     repeat (go_quiet (fail); try go_wp2)
     go_ret
     exact ⟨by first | rfl | (simp; done) | (simp [*]; done), by repeat (first | exact Drawn0.refl _ | apply Drawn0.step)⟩
 ·rw [if_neg c3] at H
  have c3b0 : ((l0.length : Int) == (l1.length : Int)) = false := beq_eq_false_iff_ne.mpr c3; have c3b1 : ((l0.length : Int) != (l1.length : Int)) = true := bne_iff_ne.mpr c3
  have c3b2 : (l0.length == l1.length) = false := by first | simpa using c3 | (simp at c3 ⊢; omega)
  obtain rfl := Option.some.inj H
  go_enter Try.func69, Try.ntmps69
  go_wp2
  repeat (go_quiet (fail); try go_wp2)
  go_ret
  exact ⟨by first | rfl | (simp; done) | (simp [*]; done), by repeat (first | exact Drawn0.refl _ | apply Drawn0.step)⟩

end Go.Proofs.Ytfedgkmklcialaa.PM
