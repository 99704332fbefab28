import Derived.Test.YtfedgkmklcialaaCF1
-- printed by a program of this session (wip/gp) out of the translation; Lean checks it
namespace Go.Proofs.Ytfedgkmklcialaa.PM
open Go.RowKit Go.Proofs.YtfedgkmklcialaaW.PrintWords Go.Proofs.YtfedgkmklcialaaW.PrintLast Go.Proofs.YtfedgkmklcialaaW.PrintMore Go.Proofs.YtfedgkmklcialaaSq
attribute [local go_sem] max2_int min2_int max_two min_two max_three min_three max_four min_four   -- for this text's walks alone
attribute [local go_sem] Go.Proofs.YtfedgkmklcialaaGp.str_geq Go.Proofs.YtfedgkmklcialaaGp.str_gtr Go.Proofs.YtfedgkmklcialaaGp.str_leq
set_option linter.unusedVariables false
set_option linter.unusedSimpArgs false

set_option maxHeartbeats 8000000
set_option maxRecDepth 100000
def impl_IsKey.l0 : Nat → ByteArray → Int → Int → Option (Bool)
 | 0, _, _, _ => none
 | k + 1, x0, x5, x6 => if x6 < x5 then (if 0 ≤ x6 then (if x6 < (x0.size : Int) then (if (bt x0 x6) < 33 then (some false) else (if (bt x0 x6) > 125 then (some false) else (impl_IsKey.l0 k x0 x5 (wrap64 (x6 + 1))))) else (none)) else (none)) else ((impl_in.f (x0.size : Int) 1 12).bind fun t259 => (some t259))
def impl_IsKey.f (k : Nat) (a0 : ByteArray) : Option (Bool) := impl_IsKey.l0 k a0 (a0.size : Int) 0
theorem impl_IsKey.calls (k : Nat) (a0 : ByteArray) (r : Bool) (w : World) (h : impl_IsKey.f k a0 = some r) :
  Calls Try.prog 66 #[.string a0] w fun e w' => e = .returned (.bool r) ∧ Drawn0 w w' := by
 have H : (impl_IsKey.l0 k a0 (a0.size : Int) 0) = some r := h; clear h; have H' := am H; clear H
 go_enter Try.func66, Try.ntmps66
 go_wp2
 go_loopg [6] k (fun kq v6 w' => ∃ (x6_1 : Int), v6 = .int .i64 x6_1 ∧ Aside0 (impl_IsKey.l0 kq a0 (a0.size : Int) x6_1 = some r) ∧ Aside0 (kq ≤ k) ∧ Drawn0 w w')
 case atStart => exact ⟨(0), wZ, H', ⟨Nat.le_refl _⟩, by repeat (first | exact Drawn0.refl _ | apply Drawn0.step)⟩
 case round =>
  clear H'; obtain ⟨x6_1, rfl, HA, HK1, ⟨m1, rfl⟩⟩ := hrel; cases gk with
  | zero => exact absurd HA.out (by simp [impl_IsKey.l0])
  | succ k1 =>
   have H := HA.out; clear HA
   simp only [impl_IsKey.l0] at H
   by_cases c2 : x6_1 < (a0.size : Int)
   ·rw [if_pos c2] at H
    have c2b0 : decide (x6_1 < (a0.size : Int)) = true := decide_eq_true c2; clear c2
    by_cases c3 : 0 ≤ x6_1
    ·rw [if_pos c3] at H
     have c3b0 : decide (0 ≤ x6_1) = true := decide_eq_true c3; clear c3
     by_cases c4 : x6_1 < (a0.size : Int)
     ·rw [if_pos c4] at H
      have c4b0 : decide (x6_1 < (a0.size : Int)) = true := decide_eq_true c4; clear c4
      by_cases c6 : (bt a0 x6_1) < 33
      ·rw [if_pos c6] at H
       have c6b0 : decide ((bt a0 x6_1) < 33) = true := decide_eq_true c6; clear c6; obtain rfl := Option.some.inj H; have p5 : 0 ≤ (x6_1 : Int) := dT; have q5 : x6_1 < (a0.size : Int) := dT; have hx5 := bt_at a0 x6_1; replace p5 := eq_true p5; replace q5 := eq_true q5
       go_wp2
       go_ret
       exact ⟨by first | rfl | (simp; done) | (simp [*]; done), by repeat (first | exact Drawn0.refl _ | apply Drawn0.step)⟩
      ·rw [if_neg c6] at H
       have c6b0 : decide ((bt a0 x6_1) < 33) = false := decide_eq_false c6; clear c6
       by_cases c8 : (bt a0 x6_1) > 125
       ·rw [if_pos c8] at H
        have c8b0 : decide (125 < (bt a0 x6_1)) = true := decide_eq_true c8; clear c8; obtain rfl := Option.some.inj H; have p5 : 0 ≤ (x6_1 : Int) := dT; have q5 : x6_1 < (a0.size : Int) := dT; have hx5 := bt_at a0 x6_1; replace p5 := eq_true p5; replace q5 := eq_true q5; have p7 : 0 ≤ (x6_1 : Int) := dT; have q7 : x6_1 < (a0.size : Int) := dT; have hx7 := bt_at a0 x6_1; replace p7 := eq_true p7; replace q7 := eq_true q7
        go_wp2
        go_ret
        exact ⟨by first | rfl | (simp; done) | (simp [*]; done), by repeat (first | exact Drawn0.refl _ | apply Drawn0.step)⟩
       ·rw [if_neg c8] at H
        have c8b0 : decide (125 < (bt a0 x6_1)) = false := decide_eq_false c8; clear c8; have H' := am H; clear H; have p5 : 0 ≤ (x6_1 : Int) := dT; have q5 : x6_1 < (a0.size : Int) := dT; have hx5 := bt_at a0 x6_1; replace p5 := eq_true p5; replace q5 := eq_true q5; have p7 : 0 ≤ (x6_1 : Int) := dT; have q7 : x6_1 < (a0.size : Int) := dT; have hx7 := bt_at a0 x6_1; replace p7 := eq_true p7; replace q7 := eq_true q7
        go_wp2
        go_roundg k1
        case measure => have := HK1.out; omega
        case rel => exact ⟨(wrap64 (x6_1 + 1)), wZ, H', ⟨by have := HK1.out; omega⟩, by repeat (first | exact Drawn0.refl _ | apply Drawn0.step)⟩
     ·rw [if_neg c4] at H
      exact absurd H (by simp)
    ·rw [if_neg c3] at H
     exact absurd H (by simp)
   ·rw [if_neg c2] at H
    have c2b0 : decide (x6_1 < (a0.size : Int)) = false := decide_eq_false c2; clear c2; obtain ⟨t259, A9, H⟩ := ob H; (try dsimp -simprocs only at H); obtain rfl := Option.some.inj H
    go_wp2_with (first | ((with_reducible refine gate_callee (f := 42) rfl ?_); refine gL (some 22) Try.func42 #[.int .i64 (a0.size : Int), .int .i64 1, .int .i64 12] ?_; (with_reducible refine (impl_in.calls (a0.size : Int) 1 12 t259 _ A9.out).mono ?_); rintro e w' ⟨rfl, ⟨nd, rfl⟩⟩; refine ⟨_, rfl, ?_⟩))
    go_ret
    exact ⟨by first | rfl | (simp; done) | (simp [*]; done), by repeat (first | exact Drawn0.refl _ | apply Drawn0.step)⟩

def impl_AreKeys.l0 : Nat → List ByteArray → List ByteArray → Int → Int → Option (Bool)
 | 0, _, _, _, _ => none
 | k + 1, x0, x5, x6, x7 => if x7 < x6 then (if 0 ≤ x7 then (if x7 < (x5.length : Int) then ((impl_IsKey.f k (rdOf ByteArray.empty x5 x7)).bind fun t261 => (if t261 = true then (if x7 > 0 then (if 0 ≤ (wrap64 (x7 - 1)) then (if (wrap64 (x7 - 1)) < (x0.length : Int) then (if ((Op.bytesLess ((rdOf ByteArray.empty x0 (wrap64 (x7 - 1))).toList) ((rdOf ByteArray.empty x5 x7).toList)) = true) then (impl_AreKeys.l0 k x0 x5 x6 (wrap64 (x7 + 1))) else (some false)) else (none)) else (none)) else (impl_AreKeys.l0 k x0 x5 x6 (wrap64 (x7 + 1)))) else (some false))) else (none)) else (none)) else (some (decide ((x0.length : Int) ≤ 40)))
def impl_AreKeys.f (k : Nat) (l0 : List ByteArray) : Option (Bool) := impl_AreKeys.l0 k l0 l0 (l0.length : Int) 0
theorem impl_AreKeys.calls (k : Nat) (A0 : Option Addr) (c0 : Nat) (l0 : List ByteArray) (r : Bool) (w : World) (hr0 : Kd.C Kd.string w A0 l0.length l0) (hc0 : l0.length ≤ c0) (h : impl_AreKeys.f k l0 = some r) :
  Calls Try.prog 41 #[.slice A0 l0.length c0] w fun e w' => e = .returned (.bool r) ∧ Drawn0 w w' := by
 have HR0 := am hr0; have HC0 := am hc0; clear hr0 hc0; have H : (impl_AreKeys.l0 k l0 l0 (l0.length : Int) 0) = some r := h; clear h; have H' := am H; clear H
 go_enter Try.func41, Try.ntmps41
 go_wp2
 go_loopg [7] k (fun kq v7 w' => ∃ (x7_1 : Int), v7 = .int .i64 x7_1 ∧ Aside0 (impl_AreKeys.l0 kq l0 l0 (l0.length : Int) x7_1 = some r) ∧ Aside0 (kq ≤ k) ∧ Drawn0 w w')
 case atStart => exact ⟨(0), wZ, H', ⟨Nat.le_refl _⟩, by repeat (first | exact Drawn0.refl _ | apply Drawn0.step)⟩
 case round =>
  clear H'; obtain ⟨x7_1, rfl, HA, HK1, ⟨m1, rfl⟩⟩ := hrel; cases gk with
  | zero => exact absurd HA.out (by simp [impl_AreKeys.l0])
  | succ k1 =>
   have H := HA.out; clear HA
   simp only [impl_AreKeys.l0] at H
   by_cases c2 : x7_1 < (l0.length : Int)
   ·rw [if_pos c2] at H
    have c2b0 : decide (x7_1 < (l0.length : Int)) = true := decide_eq_true c2; clear c2
    by_cases c3 : 0 ≤ x7_1
    ·rw [if_pos c3] at H
     have c3b0 : decide (0 ≤ x7_1) = true := decide_eq_true c3; clear c3
     by_cases c4 : x7_1 < (l0.length : Int)
     ·rw [if_pos c4] at H
      have c4b0 : decide (x7_1 < (l0.length : Int)) = true := decide_eq_true c4; clear c4; obtain ⟨t261, A5, H⟩ := ob H; (try dsimp -simprocs only at H)
      by_cases c6 : t261 = true
      ·subst c6
       rw [if_pos rfl] at H
       by_cases c7 : x7_1 > 0
       ·rw [if_pos c7] at H
        have c7b0 : decide (0 < x7_1) = true := decide_eq_true c7; clear c7; obtain ⟨ji8, hji8⟩ : ∃ j_ : Int, (wrap64 (x7_1 - 1)) = j_ := ⟨_, rfl⟩
        replace H : (if 0 ≤ (ji8) then (if (ji8) < (l0.length : Int) then (if ((Op.bytesLess ((rdOf ByteArray.empty l0 (ji8)).toList) ((rdOf ByteArray.empty l0 x7_1).toList)) = true) then (impl_AreKeys.l0 k1 l0 l0 (l0.length : Int) (wrap64 (x7_1 + 1))) else (some false)) else (none)) else (none)) = some r := by first | (rw [hji8] at H; exact H) | (simp only [hji8] at H ⊢; exact H)
        (try rw [hji8] at A5)
        have hji8w : (IntKind.i64.wrap (x7_1 - 1)) = ji8 := (i64_w _).trans hji8
        by_cases c9 : 0 ≤ (ji8)
        ·rw [if_pos c9] at H
         have c9b0 : decide (0 ≤ (ji8)) = true := decide_eq_true c9; clear c9
         by_cases c10 : (ji8) < (l0.length : Int)
         ·rw [if_pos c10] at H
          have c10b0 : decide ((ji8) < (l0.length : Int)) = true := decide_eq_true c10; clear c10
          by_cases c11 : ((Op.bytesLess ((rdOf ByteArray.empty l0 (ji8)).toList) ((rdOf ByteArray.empty l0 x7_1).toList)) = true)
          ·rw [if_pos c11] at H
           have c11b0 : (Op.bytesLess ((rdOf ByteArray.empty l0 (ji8)).toList) ((rdOf ByteArray.empty l0 x7_1).toList)) = true := c11; clear c11; have H' := am H; clear H; obtain ⟨ad260, e260, hx260_0⟩ := Kd.at_string HR0.out x7_1 dT dT; cases e260; have p260 := eT (0 ≤ (x7_1 : Int)); have q260 := eT (x7_1 < (l0.length : Int))
           go_wp2_with (first | ((with_reducible refine gate_callee (f := 66) rfl ?_); refine gL (some 13) Try.func66 #[.string (rdOf ByteArray.empty l0 x7_1)] ?_; (with_reducible refine (impl_IsKey.calls k1 (rdOf ByteArray.empty l0 x7_1) true _ A5.out).mono ?_); rintro e w' ⟨rfl, ⟨nd, rfl⟩⟩; refine ⟨_, rfl, ?_⟩; have p262 : 0 ≤ ((ji8) : Int) := dT; have q262 : (ji8) < (l0.length : Int) := dT; obtain ⟨ad262, e262, hx262_0⟩ := Kd.at_string HR0.out (ji8) p262 q262; obtain rfl : ad260 = ad262 := (by injection e262); replace p262 := eq_true p262; replace q262 := eq_true q262))
           go_roundg k1
           case measure => have := HK1.out; omega
           case rel => exact ⟨(wrap64 (x7_1 + 1)), wZ, H', ⟨by have := HK1.out; omega⟩, by repeat (first | exact Drawn0.refl _ | apply Drawn0.step)⟩
          ·rw [if_neg c11] at H
           have c11b0 : (Op.bytesLess ((rdOf ByteArray.empty l0 (ji8)).toList) ((rdOf ByteArray.empty l0 x7_1).toList)) = false := by simpa using c11
           clear c11; obtain rfl := Option.some.inj H; obtain ⟨ad260, e260, hx260_0⟩ := Kd.at_string HR0.out x7_1 dT dT; cases e260; have p260 := eT (0 ≤ (x7_1 : Int)); have q260 := eT (x7_1 < (l0.length : Int))
           go_wp2_with (first | ((with_reducible refine gate_callee (f := 66) rfl ?_); refine gL (some 13) Try.func66 #[.string (rdOf ByteArray.empty l0 x7_1)] ?_; (with_reducible refine (impl_IsKey.calls k1 (rdOf ByteArray.empty l0 x7_1) true _ A5.out).mono ?_); rintro e w' ⟨rfl, ⟨nd, rfl⟩⟩; refine ⟨_, rfl, ?_⟩; have p262 : 0 ≤ ((ji8) : Int) := dT; have q262 : (ji8) < (l0.length : Int) := dT; obtain ⟨ad262, e262, hx262_0⟩ := Kd.at_string HR0.out (ji8) p262 q262; obtain rfl : ad260 = ad262 := (by injection e262); replace p262 := eq_true p262; replace q262 := eq_true q262))
           go_ret
           exact ⟨by first | rfl | (simp; done) | (simp only [← hji8] <;> (first | rfl | simp)) | (simp [*]; done), by repeat (first | exact Drawn0.refl _ | apply Drawn0.step)⟩
         ·rw [if_neg c10] at H
          exact absurd H (by simp)
        ·rw [if_neg c9] at H
         exact absurd H (by simp)
       ·rw [if_neg c7] at H
        have c7b0 : decide (0 < x7_1) = false := decide_eq_false c7; clear c7; have H' := am H; clear H; obtain ⟨ad260, e260, hx260_0⟩ := Kd.at_string HR0.out x7_1 dT dT; cases e260; have p260 := eT (0 ≤ (x7_1 : Int)); have q260 := eT (x7_1 < (l0.length : Int))
        go_wp2_with (first | ((with_reducible refine gate_callee (f := 66) rfl ?_); refine gL (some 13) Try.func66 #[.string (rdOf ByteArray.empty l0 x7_1)] ?_; (with_reducible refine (impl_IsKey.calls k1 (rdOf ByteArray.empty l0 x7_1) true _ A5.out).mono ?_); rintro e w' ⟨rfl, ⟨nd, rfl⟩⟩; refine ⟨_, rfl, ?_⟩))
        go_roundg k1
        case measure => have := HK1.out; omega
        case rel => exact ⟨(wrap64 (x7_1 + 1)), wZ, H', ⟨by have := HK1.out; omega⟩, by repeat (first | exact Drawn0.refl _ | apply Drawn0.step)⟩
      ·replace c6 := Bool.eq_false_iff.mpr c6
       subst c6
       rw [if_neg (show ¬ (false = true) by decide)] at H; obtain rfl := Option.some.inj H; obtain ⟨ad260, e260, hx260_0⟩ := Kd.at_string HR0.out x7_1 dT dT; cases e260; have p260 := eT (0 ≤ (x7_1 : Int)); have q260 := eT (x7_1 < (l0.length : Int))
       go_wp2_with (first | ((with_reducible refine gate_callee (f := 66) rfl ?_); refine gL (some 13) Try.func66 #[.string (rdOf ByteArray.empty l0 x7_1)] ?_; (with_reducible refine (impl_IsKey.calls k1 (rdOf ByteArray.empty l0 x7_1) false _ A5.out).mono ?_); rintro e w' ⟨rfl, ⟨nd, rfl⟩⟩; refine ⟨_, rfl, ?_⟩))
       go_ret
       exact ⟨by first | rfl | (simp; done) | (simp [*]; done), by repeat (first | exact Drawn0.refl _ | apply Drawn0.step)⟩
     ·rw [if_neg c4] at H
      exact absurd H (by simp)
    ·rw [if_neg c3] at H
     exact absurd H (by simp)
   ·rw [if_neg c2] at H
    have c2b0 : decide (x7_1 < (l0.length : Int)) = false := decide_eq_false c2; clear c2; obtain rfl := Option.some.inj H
    go_wp2
    go_ret
    exact ⟨by first | rfl | (simp; done) | (simp [*]; done), by repeat (first | exact Drawn0.refl _ | apply Drawn0.step)⟩

mutual
def impl_front.l0 : Nat → List ByteArray → Int → List ByteArray → Int → Int → Int → List Int → List ByteArray → Option (Int × List Int × List ByteArray)
 | 0, _, _, _, _, _, _, _, _ => none
 | k + 1, x0, x1, x11, x12, x13, x265000, x265001, x265002 => if x13 < x12 then (if 0 ≤ x13 then (if x13 < (x11.length : Int) then (impl_front.l1 k x0 x1 x13 (rdOf ByteArray.empty x11 x13) 0 x11 x12 x13 x265000 x265001 x265002) else (none)) else (none)) else (some (x265000, x265001, x265002))
def impl_front.l1 : Nat → List ByteArray → Int → Int → ByteArray → Int → List ByteArray → Int → Int → Int → List Int → List ByteArray → Option (Int × List Int × List ByteArray)
 | 0, _, _, _, _, _, _, _, _, _, _, _ => none
 | k + 1, x0, x1, x6, x7, x8, x11, x12, x13, x265000, x265001, x265002 => if x1 = 0 then (none) else (if (Int.tmod x6 x1) > 0 then (if x8 < (x7.size : Int) then (if 0 ≤ (wrap64 (x6 - 1)) then (if (wrap64 (x6 - 1)) < (x0.length : Int) then (if x8 < ((rdOf ByteArray.empty x0 (wrap64 (x6 - 1))).size : Int) then (if 0 ≤ x8 then (impl_front.j2 k x0 x1 x6 x7 x8 x11 x12 x13 ((bt x7 x8) == (bt (rdOf ByteArray.empty x0 (wrap64 (x6 - 1))) x8)) x265000 x265001 x265002) else (none)) else (impl_front.j2 k x0 x1 x6 x7 x8 x11 x12 x13 false x265000 x265001 x265002)) else (none)) else (none)) else (impl_front.j2 k x0 x1 x6 x7 x8 x11 x12 x13 false x265000 x265001 x265002)) else (impl_front.j2 k x0 x1 x6 x7 x8 x11 x12 x13 false x265000 x265001 x265002))
def impl_front.j2 : Nat → List ByteArray → Int → Int → ByteArray → Int → List ByteArray → Int → Int → Bool → Int → List Int → List ByteArray → Option (Int × List Int × List ByteArray)
 | 0, _, _, _, _, _, _, _, _, _, _, _, _ => none
 | k + 1, x0, x1, x6, x7, x8, x11, x12, x13, x50, x265000, x265001, x265002 => if x50 = true then (impl_front.l1 k x0 x1 x6 x7 (wrap64 (x8 + 1)) x11 x12 x13 x265000 x265001 x265002) else ((some (([x8] : List Int) : List Int)).bind fun y268 => (if x265001.length + y268.length < 17592186044416 then (if 0 ≤ x8 then (if x8 ≤ (x7.size : Int) then ((some (([x7.extract (x8 : Int).toNat x7.size] : List ByteArray) : List ByteArray)).bind fun y274 => (if x265002.length + y274.length < 8796093022208 then (impl_front.l0 k x0 x1 x11 x12 (wrap64 (x13 + 1)) x265000 (x265001 ++ y268) (x265002 ++ y274)) else (none))) else (none)) else (none)) else (none)))
end
def impl_front.f (k : Nat) (l0 : List ByteArray) (a1 : Int) : Option (Int × List Int × List ByteArray) := impl_front.l0 k l0 a1 l0 (l0.length : Int) 0 a1 ([] : List Int) ([] : List ByteArray)
def impl_front.T6 : Bool × List (List Nat × List Nat) := (true, [([], []), ([], []), ([0, 1], [0, 1]), ([2], [2]), ([3], [3]), ([4], [4]), ([4], [4]), ([6, 4], [4, 6]), ([5, 7, 4], [4, 5, 7]), ([4, 8], [4, 8]), ([9, 4], [9]), ([10], [10]), ([10], [10]), ([10], [10]), ([13, 10], [10, 13]), ([12, 14, 10], [10, 12, 14]), ([15, 10], [10, 15]), ([16, 10], [10, 16]), ([11, 17, 10], [10, 11, 17]), ([10, 18], [10, 18]), ([19, 10], [19]), ([20], [20]), ([20], [20]), ([21, 22, 20], [20, 21, 22]), ([20], [20]), ([20], [20]), ([25, 20], [20, 25]), ([24, 26, 20], [20, 24, 26]), ([27, 20], [20, 27]), ([20], [20]), ([28, 29, 20], [20, 28, 29]), ([23, 30, 20], [20, 23, 30]), ([20, 31], [20, 31])])
def impl_front.B6 : List Nat := [0, 0, 3, 7, 15, 31, 31, 95, 255, 511, 1023, 2047, 2047, 2047, 10239, 30719, 63487, 129023, 262143, 524287, 1048575, 2097151, 2097151, 8388607, 2097151, 2097151, 35651583, 119537663, 253755391, 2097151, 1059061759, 2147483647, 4294967295]
theorem impl_front.tab6 : rtab .any (opsOf Try.f43 6) = impl_front.T6 := by kernel_rfl
theorem impl_front.bits6 : waitsOk impl_front.T6.2 impl_front.B6 = true := by kernel_rfl
def impl_front.T8 : Bool × List (List Nat × List Nat) := (true, [([], []), ([0], [0]), ([], []), ([2], [2]), ([1, 3], [1, 3]), ([], []), ([5], [5]), ([], []), ([], []), ([7, 8], [7, 8]), ([9], [9]), ([6, 10, 4], [6, 10]), ([0, 1, 2, 3, 4, 5, 6], []), ([12, 4, 11, 0, 1, 2, 3, 4, 5, 6], [4, 12]), ([0, 1, 2, 3, 4, 5, 6, 7, 8, 9, 10, 11, 12, 13], []), ([14, 11, 13, 0, 1, 2, 3, 4, 5, 6, 7, 8, 9, 10, 11, 12, 13], [11, 14])])
def impl_front.B8 : List Nat := [0, 1, 0, 4, 15, 0, 32, 0, 0, 384, 896, 2047, 127, 8191, 16383, 32767]
theorem impl_front.tab8 : rtab .any (opsOf Try.f43 8) = impl_front.T8 := by kernel_rfl
theorem impl_front.bits8 : waitsOk impl_front.T8.2 impl_front.B8 = true := by kernel_rfl
theorem impl_front.calls (k : Nat) (A0 : Option Addr) (c0 : Nat) (l0 : List ByteArray) (a1 : Int) (r1 : Int) (r2 : List Int) (r3 : List ByteArray) (w : World) (hr0 : Kd.C Kd.string w A0 l0.length l0) (hc0 : l0.length ≤ c0) (h : impl_front.f k l0 a1 = some (r1, r2, r3)) :
  Calls Try.prog 43 #[.slice A0 l0.length c0, .int .i64 a1] w fun e w' => ∃ v1_ v2_ : Value, e = .returned (.agg #[.int .i64 r1, v1_, v2_]) ∧ Kd.R (Kd.int .i64) 3 w' w.heap.size (fun _ => True) v1_ r2 ∧ Kd.R Kd.string 9 w' w.heap.size (fun _ => True) v2_ r3 ∧ Below w.heap.size w w' := by
 have hu26 := Try.underlying26; have HR0 := am hr0; have HC0 := am hc0; clear hr0 hc0; have HB := am (Below.refl w.heap.size w); have H : (impl_front.l0 k l0 a1 l0 (l0.length : Int) 0 a1 ([] : List Int) ([] : List ByteArray)) = some (r1, r2, r3) := h; clear h; have H' := am H; clear H
 go_enter Try.func43, Try.ntmps43
 go_wp2_with (first | ((with_reducible refine gate_dst (N := 4) rfl ?_); (try (refine gate_guard (by rfl) ?_; dsimp only)); refine bE 4 #[.int .i64 0, .slice none 0 0, .slice none 0 0] 26 ?_; intro gb263 hg w3 hbox hb; have n0_ := Bb HB hb; have n1_ := am (hbox); have n2_ := Gl HB hg; have n3_ := Gl HB hg; clear HB; revert n0_ n1_ n2_ n3_; intro HB BK263 GW263 GE263; clear hb hbox hg) | ((with_reducible refine gate_dst (N := 5) rfl ?_); (try (refine gate_guard (by rfl) ?_; dsimp only)); refine bE 5 #[.int .i64 0, .slice none 0 0, .slice none 0 0] 26 ?_; intro gb264 hg w4 hbox hb; have n0_ := Kb BK263 hb; have n1_ := Bc HB hb; have n2_ := am (hbox); have n3_ := Gm HB hg; have n4_ := Gm HB hg; have n5_ := Nl BK263 hg; have n6_ := Ng BK263 hg; clear BK263 HB; revert n0_ n1_ n2_ n3_ n4_ n5_ n6_; intro BK263 HB BK264 GW264 GE264 NB263_264 NB264_263; clear hb hbox hg; have hnb5 := NB264_263.out; have hnc5 := NB263_264.out; obtain ⟨hcz6_0, hcz6_1, hcz6_2, hfz6_0, hfz6_1, hfz6_2⟩ := cf3 (w := w4) BK264))
 (try simp only [aP])
 go_loopg [13] k (fun kq v13 w' => ∃ (x13_1 : Int) (x265001_1 : List Int) (x265002_1 : List ByteArray) (u265001 : Value) (u265002 : Value), v13 = .int .i64 x13_1 ∧ Aside0 (impl_front.l0 kq l0 a1 l0 (l0.length : Int) x13_1 a1 x265001_1 x265002_1 = some (r1, r2, r3)) ∧ Aside0 (kq ≤ k) ∧ Aside0 (Kd.R (Kd.int .i64) 3 w' w.heap.size (fun _ => True) u265001 x265001_1) ∧ Aside0 (Kd.R Kd.string 9 w' w.heap.size (fun _ => True) u265002 x265002_1) ∧ Aside0 (w'.heap[gb263]? = some (.cells #[.int .i64 0, (.slice none 0 0), (.slice none 0 0)] 26 (0, 0))) ∧ Aside0 (w'.heap[gb264]? = some (.cells #[.int .i64 a1, u265001, u265002] 26 (0, 0))) ∧ Aside0 (Below w.heap.size w w'))
 case atStart => exact ⟨(0), (([] : List Int)), (([] : List ByteArray)), (.slice none 0 0), (.slice none 0 0), wZ, H', ⟨Nat.le_refl _⟩, ⟨nZ⟩, ⟨nZ⟩, ⟨by refine bp ?_; refine blk_far ?_ NB263_264.out _; refine bp ?_; refine blk_far ?_ NB263_264.out _; refine bp ?_; refine blk_far ?_ NB263_264.out _; refine bp ?_; exact BK263.out⟩, ⟨by refine bp ?_; refine blk_put (cs := #[.int .i64 a1, .slice none 0 0, .slice none 0 0]) ?_ 2 _ rfl; refine bp ?_; refine blk_put (cs := #[.int .i64 a1, .slice none 0 0, .slice none 0 0]) ?_ 1 _ rfl; refine bp ?_; refine blk_put (cs := #[.int .i64 0, .slice none 0 0, .slice none 0 0]) ?_ 0 _ rfl; refine bp ?_; exact BK264.out⟩, ⟨Bq⟩⟩
 case round =>
  clear H'
  try clear p2
  try clear c4
  try clear c5
  obtain ⟨x13_1, x265001_1, x265002_1, u265001, u265002, rfl, HA, HK1, HO_265001, HO_265002, BK263, BK264, HB⟩ := hrel; cases gk with
  | zero => exact absurd HA.out (by simp [impl_front.l0])
  | succ k1 =>
   have H := HA.out; clear HA
   simp only [impl_front.l0] at H
   by_cases c7 : x13_1 < (l0.length : Int)
   ·rw [if_pos c7] at H
    have c7b0 : decide (x13_1 < (l0.length : Int)) = true := decide_eq_true c7; clear c7
    by_cases c8 : 0 ≤ x13_1
    ·rw [if_pos c8] at H
     have c8b0 : decide (0 ≤ x13_1) = true := decide_eq_true c8; clear c8
     by_cases c9 : x13_1 < (l0.length : Int)
     ·rw [if_pos c9] at H
      have c9b0 : decide (x13_1 < (l0.length : Int)) = true := decide_eq_true c9; clear c9; have H' := am H; clear H; have p265 : 0 ≤ (x13_1 : Int) := dT; have q265 : x13_1 < (l0.length : Int) := dT; obtain ⟨ad265, e265, hx265_0⟩ := Kd.at_string HR0.out x13_1 p265 q265; cases e265; replace hx265_0 := (HB.out.cell (World.block_lt_of_cell? w _ hx265_0)).trans hx265_0; replace p265 := eq_true p265; replace q265 := eq_true q265
      go_wp2
      go_loopg [8] k1 (fun kq v8 w' => ∃ (x8_2 : Int), v8 = .int .i64 x8_2 ∧ Aside0 (impl_front.l1 kq l0 a1 x13_1 (rdOf ByteArray.empty l0 x13_1) x8_2 l0 (l0.length : Int) x13_1 a1 x265001_1 x265002_1 = some (r1, r2, r3)) ∧ Aside0 (kq ≤ k1) ∧ Aside0 (Kd.R (Kd.int .i64) 3 w' w.heap.size (fun _ => True) u265001 x265001_1) ∧ Aside0 (Kd.R Kd.string 9 w' w.heap.size (fun _ => True) u265002 x265002_1) ∧ Aside0 (w'.heap[gb263]? = some (.cells #[.int .i64 0, (.slice none 0 0), (.slice none 0 0)] 26 (0, 0))) ∧ Aside0 (w'.heap[gb264]? = some (.cells #[.int .i64 a1, u265001, u265002] 26 (0, 0))) ∧ Aside0 (Below w.heap.size w w'))
      case atStart => exact ⟨(0), wZ, H', ⟨Nat.le_refl _⟩, ⟨Rz HO_265001.out⟩, ⟨Rz HO_265002.out⟩, ⟨Kz BK263.out⟩, ⟨Kz BK264.out⟩, ⟨Bq⟩⟩
      case round =>
       clear H'
       try clear p2
       try clear q2
       try clear hx2
       try clear c4
       try clear c5
       try clear c7
       try clear c7b0
       try clear c8
       try clear c8b0
       try clear c9
       try clear c9b0
       try clear hx265_0
       try clear p2
       try clear p265
       try clear q265
       obtain ⟨x8_2, rfl, HA, HK2, HO_265001, HO_265002, BK263, BK264, HB⟩ := hrel; cases gk with
       | zero => exact absurd HA.out (by simp [impl_front.l1])
       | succ k2 =>
        have H := HA.out; clear HA
        simp only [impl_front.l1] at H
        have HC10 := am H; clear H
        go_upto_region 6 with (fail)
        go_cut [50] (fun v50 wc => ∃ (kq : Nat) (x50_9 : Bool), v50 = .bool x50_9 ∧ Aside0 (impl_front.j2 kq l0 a1 x13_1 (rdOf ByteArray.empty l0 x13_1) x8_2 l0 (l0.length : Int) x13_1 x50_9 a1 x265001_1 x265002_1 = some (r1, r2, r3)) ∧ Aside0 (kq ≤ k2) ∧ Aside0 (Kd.R (Kd.int .i64) 3 wc w.heap.size (fun _ => True) u265001 x265001_1) ∧ Aside0 (Kd.R Kd.string 9 wc w.heap.size (fun _ => True) u265002 x265002_1) ∧ Aside0 (wc.heap[gb263]? = some (.cells #[.int .i64 0, (.slice none 0 0), (.slice none 0 0)] 26 (0, 0))) ∧ Aside0 (wc.heap[gb264]? = some (.cells #[.int .i64 a1, u265001, u265002] 26 (0, 0))) ∧ Aside0 (Below w.heap.size w wc))
        case first =>
         have H := HC10.out; clear HC10
         by_cases c11 : a1 = 0
         ·rw [if_pos c11] at H
          exact absurd H (by simp)
         ·rw [if_neg c11] at H
          have c11b0 : (a1 == 0) = false := beq_eq_false_iff_ne.mpr c11; have c11b1 : (a1 != 0) = true := bne_iff_ne.mpr c11
          (first | rw [c11b0] | (simp only [i64_w, i32_w]; rw [c11b0]) | skip)
          by_cases c12 : (Int.tmod x13_1 a1) > 0
          ·rw [if_pos c12] at H
           have c12b0 : decide (0 < (Int.tmod x13_1 a1)) = true := decide_eq_true c12; clear c12
           by_cases c13 : x8_2 < ((rdOf ByteArray.empty l0 x13_1).size : Int)
           ·rw [if_pos c13] at H
            have c13b0 : decide (x8_2 < ((rdOf ByteArray.empty l0 x13_1).size : Int)) = true := decide_eq_true c13; clear c13; obtain ⟨ji14, hji14⟩ : ∃ j_ : Int, (wrap64 (x13_1 - 1)) = j_ := ⟨_, rfl⟩
            replace H : (if 0 ≤ (ji14) then (if (ji14) < (l0.length : Int) then (if x8_2 < ((rdOf ByteArray.empty l0 (ji14)).size : Int) then (if 0 ≤ x8_2 then (impl_front.j2 k2 l0 a1 x13_1 (rdOf ByteArray.empty l0 x13_1) x8_2 l0 (l0.length : Int) x13_1 ((bt (rdOf ByteArray.empty l0 x13_1) x8_2) == (bt (rdOf ByteArray.empty l0 (ji14)) x8_2)) a1 x265001_1 x265002_1) else (none)) else (impl_front.j2 k2 l0 a1 x13_1 (rdOf ByteArray.empty l0 x13_1) x8_2 l0 (l0.length : Int) x13_1 false a1 x265001_1 x265002_1)) else (none)) else (none)) = some (r1, r2, r3) := by first | (rw [hji14] at H; exact H) | (simp only [hji14] at H ⊢; exact H)
            have hji14w : (IntKind.i64.wrap (x13_1 - 1)) = ji14 := (i64_w _).trans hji14
            by_cases c15 : 0 ≤ (ji14)
            ·rw [if_pos c15] at H
             have c15b0 : decide (0 ≤ (ji14)) = true := decide_eq_true c15; clear c15
             by_cases c16 : (ji14) < (l0.length : Int)
             ·rw [if_pos c16] at H
              have c16b0 : decide ((ji14) < (l0.length : Int)) = true := decide_eq_true c16; clear c16
              by_cases c17 : x8_2 < ((rdOf ByteArray.empty l0 (ji14)).size : Int)
              ·rw [if_pos c17] at H
               have c17b0 : decide (x8_2 < ((rdOf ByteArray.empty l0 (ji14)).size : Int)) = true := decide_eq_true c17; clear c17
               by_cases c18 : 0 ≤ x8_2
               ·rw [if_pos c18] at H
                have c18b0 : decide (0 ≤ x8_2) = true := decide_eq_true c18; clear c18; have H' := am H; clear H
                try go_wp2
                have n0_ := am (Kd.R_drew HO_265001.out); have n1_ := am (Kd.R_drew HO_265002.out); have n2_ := am (blk_drew BK263.out); have n3_ := am (blk_drew BK264.out); have n4_ := am (below_drew1 HB.out); clear HO_265001 HO_265002 BK263 BK264 HB; revert n0_ n1_ n2_ n3_ n4_; intro HO_265001 HO_265002 BK263 BK264 HB; have p266 : 0 ≤ ((ji14) : Int) := dT; have q266 : (ji14) < (l0.length : Int) := dT; obtain ⟨ad266, e266, hx266_0⟩ := Kd.at_string HR0.out (ji14) p266 q266; have hw266_0 := hx266_0; obtain rfl : ad265 = ad266 := (by injection e266); replace hx266_0 := (HB.out.cell (World.block_lt_of_cell? w _ hx266_0)).trans hx266_0; replace p266 := eq_true p266; replace q266 := eq_true q266; have p19 : 0 ≤ (x8_2 : Int) := dT; have q19 : x8_2 < ((rdOf ByteArray.empty l0 x13_1).size : Int) := dT; have hx19 := bt_at (rdOf ByteArray.empty l0 x13_1) x8_2; replace p19 := eq_true p19; replace q19 := eq_true q19; have p267 : 0 ≤ ((ji14) : Int) := dT; have q267 : (ji14) < (l0.length : Int) := dT; obtain ⟨ad267, e267, hx267_0⟩ := Kd.at_string HR0.out (ji14) p267 q267; have hw267_0 := hx267_0; obtain rfl : ad265 = ad267 := (by injection e267); replace hx267_0 := (HB.out.cell (World.block_lt_of_cell? w _ hx267_0)).trans hx267_0; replace p267 := eq_true p267; replace q267 := eq_true q267; have p20 : 0 ≤ (x8_2 : Int) := dT; have q20 : x8_2 < ((rdOf ByteArray.empty l0 (ji14)).size : Int) := dT; have hx20 := bt_at (rdOf ByteArray.empty l0 (ji14)) x8_2; replace p20 := eq_true p20; replace q20 := eq_true q20; refine start_ (n := 33) (S := fun w' => w'.cell? (ad265.add ((ji14)).toNat) = some (.string (rdOf ByteArray.empty l0 (ji14))) ∧ w'.cell? (ad265.add ((ji14)).toNat) = some (.string (rdOf ByteArray.empty l0 (ji14)))) (ds := []) (bA 33 0) (by kernel_rfl) rfl rfl ⟨((HB.out.cell (World.block_lt_of_cell? w _ hw266_0)).trans hw266_0), ((HB.out.cell (World.block_lt_of_cell? w _ hw267_0)).trans hw267_0)⟩ (fun hHeld => ?_); refine with_tabW impl_front.tab6 impl_front.bits6 (fun HT_ HW_ => ?_); generalize wr.drew = w21 at HO_265001 HO_265002 BK263 BK264 HB hx266_0 hx267_0 hHeld ⊢; refine pZ 0 (some 18) (bA 33 1) HT_.out ?_; refine pZ 1 (some 19) (bA 33 3) HT_.out ?_; refine pZ 2 (some 20) (bA 33 7) HT_.out ?_; refine pZ 3 (some 21) (bA 33 15) HT_.out ?_; refine pZ 4 (some 22) (bA 33 31) HT_.out ?_; refine pZ 5 (some 23) (bA 33 63) HT_.out ?_; refine pZ 6 (some 24) (bA 33 127) HT_.out ?_; refine pZ 7 (some 25) (bA 33 255) HT_.out ?_; refine pZ 8 (some 26) (bA 33 511) HT_.out ?_; refine pZ 9 (some 27) (bA 33 1023) HT_.out ?_; refine pZ 10 (some 28) (bA 33 2047) HT_.out ?_; refine pZ 11 (some 29) (bA 33 4095) HT_.out ?_; refine pZ 12 (some 30) (bA 33 8191) HT_.out ?_; refine pZ 13 (some 31) (bA 33 16383) HT_.out ?_; refine pZ 14 (some 32) (bA 33 32767) HT_.out ?_; refine pZ 15 (some 33) (bA 33 65535) HT_.out ?_; refine tZ2 16 (some 34) (bA 33 131071) HT_.out HW_.out hHeld ?_; refine pZ 17 (some 35) (bA 33 262143) HT_.out ?_; refine pZ 18 (some 36) (bA 33 524287) HT_.out ?_
                refine pZ 19 (some 37) (bA 33 1048575) HT_.out ?_; refine pZ 20 (some 38) (bA 33 2097151) HT_.out ?_; refine pZ 21 (some 39) (bA 33 4194303) HT_.out ?_; refine pZ 22 (some 40) (bA 33 8388607) HT_.out ?_; refine pZ 24 (some 42) (bA 33 25165823) HT_.out ?_; refine pZ 25 (some 43) (bA 33 58720255) HT_.out ?_; refine pZ 26 (some 44) (bA 33 125829119) HT_.out ?_; refine pZ 27 (some 45) (bA 33 260046847) HT_.out ?_; refine pZ 29 (some 47) (bA 33 796917759) HT_.out ?_; refine tZ2 23 (some 41) (bA 33 805306367) HT_.out HW_.out hHeld ?_; refine tZ2 28 (some 46) (bA 33 1073741823) HT_.out HW_.out hHeld ?_; refine tZ2 30 (some 48) (bA 33 2147483647) HT_.out HW_.out hHeld ?_; refine pZ 31 (some 49) (bA 33 4294967295) HT_.out ?_; refine pZ 32 (some 50) (bA 33 8589934591) HT_.out ?_; refine done_ (done_of HT_.out (by kernel_rfl)) ?_
                try go_wp2
                go_meet
                case rel => exact ⟨_, (((bt (rdOf ByteArray.empty l0 x13_1) x8_2) == (bt (rdOf ByteArray.empty l0 (ji14)) x8_2))), (by first | rfl | (simp; done) | (simp only [← hji14] <;> (first | rfl | simp)) | (simp [*]; done)), H', ⟨by have := HK1.out; have := HK2.out; first | omega | exact Nat.le_refl _⟩, ⟨Rz HO_265001.out⟩, ⟨Rz HO_265002.out⟩, ⟨Kz BK263.out⟩, ⟨Kz BK264.out⟩, ⟨Bq⟩⟩
               ·rw [if_neg c18] at H
                exact absurd H (by simp)
              ·rw [if_neg c17] at H
               have c17b0 : decide (x8_2 < ((rdOf ByteArray.empty l0 (ji14)).size : Int)) = false := decide_eq_false c17; clear c17; have H' := am H; clear H
               try go_wp2
               have n0_ := am (Kd.R_drew HO_265001.out); have n1_ := am (Kd.R_drew HO_265002.out); have n2_ := am (blk_drew BK263.out); have n3_ := am (blk_drew BK264.out); have n4_ := am (below_drew1 HB.out); clear HO_265001 HO_265002 BK263 BK264 HB; revert n0_ n1_ n2_ n3_ n4_; intro HO_265001 HO_265002 BK263 BK264 HB; have p266 : 0 ≤ ((ji14) : Int) := dT; have q266 : (ji14) < (l0.length : Int) := dT; obtain ⟨ad266, e266, hx266_0⟩ := Kd.at_string HR0.out (ji14) p266 q266; have hw266_0 := hx266_0; obtain rfl : ad265 = ad266 := (by injection e266); replace hx266_0 := (HB.out.cell (World.block_lt_of_cell? w _ hx266_0)).trans hx266_0; replace p266 := eq_true p266; replace q266 := eq_true q266; refine start_ (n := 33) (S := fun w' => w'.cell? (ad265.add ((ji14)).toNat) = some (.string (rdOf ByteArray.empty l0 (ji14)))) (ds := []) (bA 33 0) (by kernel_rfl) rfl rfl (((HB.out.cell (World.block_lt_of_cell? w _ hw266_0)).trans hw266_0)) (fun hHeld => ?_); refine with_tabW impl_front.tab6 impl_front.bits6 (fun HT_ HW_ => ?_); generalize wr.drew = w22 at HO_265001 HO_265002 BK263 BK264 HB hx266_0 hHeld ⊢; refine pZ 0 (some 18) (bA 33 1) HT_.out ?_; refine pZ 1 (some 19) (bA 33 3) HT_.out ?_; refine pZ 2 (some 20) (bA 33 7) HT_.out ?_; refine pZ 3 (some 21) (bA 33 15) HT_.out ?_; refine pZ 4 (some 22) (bA 33 31) HT_.out ?_; refine pZ 5 (some 23) (bA 33 63) HT_.out ?_; refine pZ 6 (some 24) (bA 33 127) HT_.out ?_; refine pZ 7 (some 25) (bA 33 255) HT_.out ?_; refine pZ 8 (some 26) (bA 33 511) HT_.out ?_; refine pZ 9 (some 27) (bA 33 1023) HT_.out ?_; refine pZ 10 (some 28) (bA 33 2047) HT_.out ?_; refine pZ 11 (some 29) (bA 33 4095) HT_.out ?_; refine pZ 12 (some 30) (bA 33 8191) HT_.out ?_; refine pZ 13 (some 31) (bA 33 16383) HT_.out ?_; refine pZ 14 (some 32) (bA 33 32767) HT_.out ?_; refine pZ 15 (some 33) (bA 33 65535) HT_.out ?_; refine take_ (i := 16) (N := some 34) (v := ?_) (a' := ?_) (bA 33 131071) rfl rfl (take_ofW HT_.out HW_.out (by kernel_rfl)) (fun _ _ _ h => h) (Or.inl ⟨by rfl, ?_⟩) hHeld ?_ ?_
               rotate_left
               ·intro w' s0
                go_simp
                with_reducible rfl
               rotate_left
               ·simp only [aP, i64_w, i32_w]
                rfl
               refine pZ 17 (some 35) (bA 33 262143) HT_.out ?_; refine pZ 18 (some 36) (bA 33 524287) HT_.out ?_; refine pZ 19 (some 37) (bA 33 1048575) HT_.out ?_; refine pZ 20 (some 38) (bA 33 2097151) HT_.out ?_; refine sZ 21 (some 39) (bA 33 4194303) HT_.out ?_; refine sZ 22 (some 40) (bA 33 8388607) HT_.out ?_; refine sZ 23 (some 41) (bA 33 16777215) HT_.out ?_; refine sZ 24 (some 42) (bA 33 33554431) HT_.out ?_; refine sZ 25 (some 43) (bA 33 67108863) HT_.out ?_; refine sZ 26 (some 44) (bA 33 134217727) HT_.out ?_; refine sZ 27 (some 45) (bA 33 268435455) HT_.out ?_; refine sZ 28 (some 46) (bA 33 536870911) HT_.out ?_; refine sZ 29 (some 47) (bA 33 1073741823) HT_.out ?_; refine sZ 30 (some 48) (bA 33 2147483647) HT_.out ?_; refine sZ 31 (some 49) (bA 33 4294967295) HT_.out ?_; refine pZ 32 (some 50) (bA 33 8589934591) HT_.out ?_; refine done_ (done_of HT_.out (by kernel_rfl)) ?_
               try go_wp2
               go_meet
               case rel => exact ⟨_, (false), wZ, H', ⟨by have := HK1.out; have := HK2.out; first | omega | exact Nat.le_refl _⟩, ⟨Rz HO_265001.out⟩, ⟨Rz HO_265002.out⟩, ⟨Kz BK263.out⟩, ⟨Kz BK264.out⟩, ⟨Bq⟩⟩
             ·rw [if_neg c16] at H
              exact absurd H (by simp)
            ·rw [if_neg c15] at H
             exact absurd H (by simp)
           ·rw [if_neg c13] at H
            have c13b0 : decide (x8_2 < ((rdOf ByteArray.empty l0 x13_1).size : Int)) = false := decide_eq_false c13; clear c13; have H' := am H; clear H
            try go_wp2
            have n0_ := am (Kd.R_drew HO_265001.out); have n1_ := am (Kd.R_drew HO_265002.out); have n2_ := am (blk_drew BK263.out); have n3_ := am (blk_drew BK264.out); have n4_ := am (below_drew1 HB.out); clear HO_265001 HO_265002 BK263 BK264 HB; revert n0_ n1_ n2_ n3_ n4_; intro HO_265001 HO_265002 BK263 BK264 HB; refine start_ (n := 33) (S := fun w' => True) (ds := []) (bA 33 0) (by kernel_rfl) rfl rfl trivial (fun hHeld => ?_); refine with_tabW impl_front.tab6 impl_front.bits6 (fun HT_ HW_ => ?_); generalize wr.drew = w23 at HO_265001 HO_265002 BK263 BK264 HB hHeld ⊢; refine pZ 0 (some 18) (bA 33 1) HT_.out ?_; refine pZ 1 (some 19) (bA 33 3) HT_.out ?_; refine pZ 2 (some 20) (bA 33 7) HT_.out ?_; refine pZ 3 (some 21) (bA 33 15) HT_.out ?_; refine pZ 4 (some 22) (bA 33 31) HT_.out ?_; refine pZ 5 (some 23) (bA 33 63) HT_.out ?_; refine pZ 6 (some 24) (bA 33 127) HT_.out ?_; refine pZ 7 (some 25) (bA 33 255) HT_.out ?_; refine pZ 8 (some 26) (bA 33 511) HT_.out ?_; refine pZ 9 (some 27) (bA 33 1023) HT_.out ?_; refine pZ 10 (some 28) (bA 33 2047) HT_.out ?_; refine sZ 11 (some 29) (bA 33 4095) HT_.out ?_; refine sZ 12 (some 30) (bA 33 8191) HT_.out ?_; refine sZ 13 (some 31) (bA 33 16383) HT_.out ?_; refine sZ 14 (some 32) (bA 33 32767) HT_.out ?_; refine sZ 15 (some 33) (bA 33 65535) HT_.out ?_; refine sZ 16 (some 34) (bA 33 131071) HT_.out ?_; refine sZ 17 (some 35) (bA 33 262143) HT_.out ?_; refine sZ 18 (some 36) (bA 33 524287) HT_.out ?_; refine pZ 19 (some 37) (bA 33 1048575) HT_.out ?_; refine pZ 20 (some 38) (bA 33 2097151) HT_.out ?_; refine sZ 21 (some 39) (bA 33 4194303) HT_.out ?_; refine sZ 22 (some 40) (bA 33 8388607) HT_.out ?_; refine sZ 23 (some 41) (bA 33 16777215) HT_.out ?_; refine sZ 24 (some 42) (bA 33 33554431) HT_.out ?_; refine sZ 25 (some 43) (bA 33 67108863) HT_.out ?_; refine sZ 26 (some 44) (bA 33 134217727) HT_.out ?_; refine sZ 27 (some 45) (bA 33 268435455) HT_.out ?_; refine sZ 28 (some 46) (bA 33 536870911) HT_.out ?_; refine sZ 29 (some 47) (bA 33 1073741823) HT_.out ?_; refine sZ 30 (some 48) (bA 33 2147483647) HT_.out ?_; refine sZ 31 (some 49) (bA 33 4294967295) HT_.out ?_; refine pZ 32 (some 50) (bA 33 8589934591) HT_.out ?_; refine done_ (done_of HT_.out (by kernel_rfl)) ?_
            try go_wp2
            go_meet
            case rel => exact ⟨_, (false), wZ, H', ⟨by have := HK1.out; have := HK2.out; first | omega | exact Nat.le_refl _⟩, ⟨Rz HO_265001.out⟩, ⟨Rz HO_265002.out⟩, ⟨Kz BK263.out⟩, ⟨Kz BK264.out⟩, ⟨Bq⟩⟩
          ·rw [if_neg c12] at H
           have c12b0 : decide (0 < (Int.tmod x13_1 a1)) = false := decide_eq_false c12; clear c12; have H' := am H; clear H
           try go_wp2
           have n0_ := am (Kd.R_drew HO_265001.out); have n1_ := am (Kd.R_drew HO_265002.out); have n2_ := am (blk_drew BK263.out); have n3_ := am (blk_drew BK264.out); have n4_ := am (below_drew1 HB.out); clear HO_265001 HO_265002 BK263 BK264 HB; revert n0_ n1_ n2_ n3_ n4_; intro HO_265001 HO_265002 BK263 BK264 HB; refine start_ (n := 33) (S := fun w' => True) (ds := []) (bA 33 0) (by kernel_rfl) rfl rfl trivial (fun hHeld => ?_); refine with_tabW impl_front.tab6 impl_front.bits6 (fun HT_ HW_ => ?_); generalize wr.drew = w24 at HO_265001 HO_265002 BK263 BK264 HB hHeld ⊢; refine pZ 0 (some 18) (bA 33 1) HT_.out ?_; refine pZ 1 (some 19) (bA 33 3) HT_.out ?_; refine pZ 2 (some 20) (bA 33 7) HT_.out ?_; refine pZ 3 (some 21) (bA 33 15) HT_.out ?_; refine pZ 4 (some 22) (bA 33 31) HT_.out ?_; refine sZ 5 (some 23) (bA 33 63) HT_.out ?_; refine sZ 6 (some 24) (bA 33 127) HT_.out ?_; refine sZ 7 (some 25) (bA 33 255) HT_.out ?_; refine sZ 8 (some 26) (bA 33 511) HT_.out ?_; refine pZ 9 (some 27) (bA 33 1023) HT_.out ?_; refine pZ 10 (some 28) (bA 33 2047) HT_.out ?_; refine sZ 11 (some 29) (bA 33 4095) HT_.out ?_; refine sZ 12 (some 30) (bA 33 8191) HT_.out ?_; refine sZ 13 (some 31) (bA 33 16383) HT_.out ?_; refine sZ 14 (some 32) (bA 33 32767) HT_.out ?_; refine sZ 15 (some 33) (bA 33 65535) HT_.out ?_; refine sZ 16 (some 34) (bA 33 131071) HT_.out ?_; refine sZ 17 (some 35) (bA 33 262143) HT_.out ?_; refine sZ 18 (some 36) (bA 33 524287) HT_.out ?_; refine pZ 19 (some 37) (bA 33 1048575) HT_.out ?_; refine pZ 20 (some 38) (bA 33 2097151) HT_.out ?_; refine sZ 21 (some 39) (bA 33 4194303) HT_.out ?_; refine sZ 22 (some 40) (bA 33 8388607) HT_.out ?_; refine sZ 23 (some 41) (bA 33 16777215) HT_.out ?_; refine sZ 24 (some 42) (bA 33 33554431) HT_.out ?_; refine sZ 25 (some 43) (bA 33 67108863) HT_.out ?_; refine sZ 26 (some 44) (bA 33 134217727) HT_.out ?_; refine sZ 27 (some 45) (bA 33 268435455) HT_.out ?_; refine sZ 28 (some 46) (bA 33 536870911) HT_.out ?_; refine sZ 29 (some 47) (bA 33 1073741823) HT_.out ?_; refine sZ 30 (some 48) (bA 33 2147483647) HT_.out ?_; refine sZ 31 (some 49) (bA 33 4294967295) HT_.out ?_; refine pZ 32 (some 50) (bA 33 8589934591) HT_.out ?_; refine done_ (done_of HT_.out (by kernel_rfl)) ?_
           try go_wp2
           go_meet
           case rel => exact ⟨_, (false), wZ, H', ⟨by have := HK1.out; have := HK2.out; first | omega | exact Nat.le_refl _⟩, ⟨Rz HO_265001.out⟩, ⟨Rz HO_265002.out⟩, ⟨Kz BK263.out⟩, ⟨Kz BK264.out⟩, ⟨Bq⟩⟩
        case rest =>
         clear HC10
         try clear c1
         try clear p2
         try clear c12
         try clear c12b0
         try clear c13
         try clear c13b0
         try clear c15
         try clear c16
         obtain ⟨kq, x50_9, rfl, HA, HJ9, HO_265001, HO_265002, BK263, BK264, HB⟩ := hcut; cases kq with
         | zero => exact absurd HA.out (by simp [impl_front.j2])
         | succ kj9 =>
          have H := HA.out; clear HA
          simp only [impl_front.j2] at H
          by_cases c25 : x50_9 = true
          ·subst c25
           rw [if_pos rfl] at H; have H' := am H; clear H
           go_wp2
           go_roundg kj9
           case measure => have := HK1.out; have := HK2.out; have := HJ9.out; omega
           case rel => exact ⟨(wrap64 (x8_2 + 1)), wZ, H', ⟨by have := HK1.out; have := HK2.out; have := HJ9.out; omega⟩, ⟨Rz HO_265001.out⟩, ⟨Rz HO_265002.out⟩, ⟨Kz BK263.out⟩, ⟨Kz BK264.out⟩, ⟨Bq⟩⟩
          ·replace c25 := Bool.eq_false_iff.mpr c25
           subst c25
           rw [if_neg (show ¬ (false = true) by decide)] at H; obtain ⟨y268, hy268⟩ : ∃ y_ : List Int, y_ = (([x8_2] : List Int)) := ⟨_, rfl⟩
           replace H : (if x265001_1.length + y268.length < 17592186044416 then (if 0 ≤ x8_2 then (if x8_2 ≤ ((rdOf ByteArray.empty l0 x13_1).size : Int) then ((some (([(rdOf ByteArray.empty l0 x13_1).extract (x8_2 : Int).toNat (rdOf ByteArray.empty l0 x13_1).size] : List ByteArray) : List ByteArray)).bind fun y274 => (if x265002_1.length + y274.length < 8796093022208 then (impl_front.l0 kj9 l0 a1 l0 (l0.length : Int) (wrap64 (x13_1 + 1)) a1 (x265001_1 ++ y268) (x265002_1 ++ y274)) else (none))) else (none)) else (none)) else (none)) = some (r1, r2, r3) := by first | (rw [hy268]; with_reducible exact H) | (have H2_ := (Option.bind_some _ _).symm.trans H; rw [hy268]; with_reducible exact H2_) | (have H2_ := (Option.bind_some _ _).symm.trans H; with_reducible exact H2_) | with_reducible exact H | (rw [hy268]; exact H) | exact H
           have Ny268 := am hy268; clear hy268
           by_cases c26 : x265001_1.length + y268.length < 17592186044416
           ·rw [if_pos c26] at H
            have LMc26 := am c26; clear c26; obtain ⟨y271, hy271⟩ : ∃ y_ : List Int, y_ = (x265001_1 ++ y268) := ⟨_, rfl⟩
            replace H : (if 0 ≤ x8_2 then (if x8_2 ≤ ((rdOf ByteArray.empty l0 x13_1).size : Int) then ((some (([(rdOf ByteArray.empty l0 x13_1).extract (x8_2 : Int).toNat (rdOf ByteArray.empty l0 x13_1).size] : List ByteArray) : List ByteArray)).bind fun y274 => (if x265002_1.length + y274.length < 8796093022208 then (impl_front.l0 kj9 l0 a1 l0 (l0.length : Int) (wrap64 (x13_1 + 1)) a1 y271 (x265002_1 ++ y274)) else (none))) else (none)) else (none)) = some (r1, r2, r3) := by first | (rw [hy271]; with_reducible exact H) | (have H2_ := (Option.bind_some _ _).symm.trans H; rw [hy271]; with_reducible exact H2_) | (have H2_ := (Option.bind_some _ _).symm.trans H; with_reducible exact H2_) | with_reducible exact H | (rw [hy271]; exact H) | exact H
            have Ny271 := am hy271; clear hy271
            by_cases c27 : 0 ≤ x8_2
            ·rw [if_pos c27] at H
             have c27b0 := eq_true c27; have c27b1 : decide (0 ≤ x8_2) = true := decide_eq_true c27; clear c27
             by_cases c28 : x8_2 ≤ ((rdOf ByteArray.empty l0 x13_1).size : Int)
             ·rw [if_pos c28] at H
              have c28b0 := eq_true c28; have c28b1 : decide (x8_2 ≤ ((rdOf ByteArray.empty l0 x13_1).size : Int)) = true := decide_eq_true c28; clear c28; obtain ⟨y274, hy274⟩ : ∃ y_ : List ByteArray, y_ = (([(rdOf ByteArray.empty l0 x13_1).extract (x8_2 : Int).toNat (rdOf ByteArray.empty l0 x13_1).size] : List ByteArray)) := ⟨_, rfl⟩
              replace H : (if x265002_1.length + y274.length < 8796093022208 then (impl_front.l0 kj9 l0 a1 l0 (l0.length : Int) (wrap64 (x13_1 + 1)) a1 y271 (x265002_1 ++ y274)) else (none)) = some (r1, r2, r3) := by first | (rw [hy274]; with_reducible exact H) | (have H2_ := (Option.bind_some _ _).symm.trans H; rw [hy274]; with_reducible exact H2_) | (have H2_ := (Option.bind_some _ _).symm.trans H; with_reducible exact H2_) | with_reducible exact H | (rw [hy274]; exact H) | exact H
              have Ny274 := am hy274; clear hy274
              by_cases c29 : x265002_1.length + y274.length < 8796093022208
              ·rw [if_pos c29] at H
               have LMc29 := am c29; clear c29; obtain ⟨y277, hy277⟩ : ∃ y_ : List ByteArray, y_ = (x265002_1 ++ y274) := ⟨_, rfl⟩
               replace H : (impl_front.l0 kj9 l0 a1 l0 (l0.length : Int) (wrap64 (x13_1 + 1)) a1 y271 y277) = some (r1, r2, r3) := by first | (rw [hy277]; with_reducible exact H) | (have H2_ := (Option.bind_some _ _).symm.trans H; rw [hy277]; with_reducible exact H2_) | (have H2_ := (Option.bind_some _ _).symm.trans H; with_reducible exact H2_) | with_reducible exact H | (rw [hy277]; exact H) | exact H
               have Ny277 := am hy277; clear hy277; have H' := am H; clear H; obtain ⟨Ao30, co30, eo30⟩ := Kd.R_slice HO_265001.out; subst eo30; obtain ⟨Ao31, co31, eo31⟩ := Kd.R_slice HO_265002.out; subst eo31
               try go_wp2
               have n0_ := am (Kd.R_drew HO_265001.out); have n1_ := am (Kd.R_drew HO_265002.out); have n2_ := am (blk_drew BK263.out); have n3_ := am (blk_drew BK264.out); have n4_ := am (below_drew1 HB.out); clear HO_265001 HO_265002 BK263 BK264 HB; revert n0_ n1_ n2_ n3_ n4_; intro HO_265001 HO_265002 BK263 BK264 HB; refine start_ (n := 16) (S := fun w' => w'.cell? ⟨gb264, 0, none⟩ = some (.int .i64 a1) ∧ w'.cell? ⟨gb264, 1, none⟩ = some (.slice Ao30 x265001_1.length co30) ∧ w'.cell? ⟨gb264, 2, none⟩ = some (.slice Ao31 x265002_1.length co31)) (ds := [13, 15]) (bA 16 0) (by kernel_rfl) rfl rfl ⟨cz BK264 0, cz BK264 1, cz BK264 2⟩ (fun hHeld => ?_); refine with_tabW impl_front.tab8 impl_front.bits8 (fun HT_ HW_ => ?_); generalize wc.drew = w32 at HO_265001 HO_265002 BK263 BK264 HB hHeld ⊢; refine pZ 0 (some 53) (bA 16 1) HT_.out ?_; refine pZ 2 (some 55) (bA 16 5) HT_.out ?_; refine pZ 5 (some 58) (bA 16 37) HT_.out ?_; refine pZ 7 (some 60) (bA 16 165) HT_.out ?_; refine pZ 8 (some 61) (bA 16 421) HT_.out ?_; refine pZ 9 (some 62) (bA 16 933) HT_.out ?_; refine tZ3 1 (some 54) (bA 16 935) HT_.out HW_.out hHeld ?_; refine tZ3 6 (some 59) (bA 16 999) HT_.out HW_.out hHeld ?_; refine join_ (σ := Value × Value × Value) 4 (bA 16 6143) (fun s_ => [(56, s_.1), (57, s_.2.1), (63, s_.2.2), (65, .pointer (some ⟨gb264, 1, none⟩))]) (fun s_ w' => (w'.cell? ⟨gb264, 0, none⟩ = some (.int .i64 a1) ∧ w'.cell? ⟨gb264, 1, none⟩ = some (.slice Ao30 x265001_1.length co30) ∧ w'.cell? ⟨gb264, 2, none⟩ = some (.slice Ao31 x265002_1.length co31)) ∧ (Kd.R (Kd.int .i64) 3 w' w.heap.size (fun k_ => some k_ ≠ (s_.2.1 : Value).ownBlock) s_.1 y268) ∧ (Kd.R (Kd.int .i64) 3 w' w.heap.size (fun k_ => some k_ ≠ (s_.1 : Value).ownBlock) s_.2.1 y271) ∧ (Kd.R Kd.string 9 w' w.heap.size (fun k_ => some k_ ≠ (.slice Ao31 x265002_1.length co31 : Value).ownBlock) s_.2.2 y274) ∧ (Kd.R Kd.string 9 w' w.heap.size (fun k_ => some k_ ≠ (s_.2.2 : Value).ownBlock) (.slice Ao31 x265002_1.length co31) x265002_1) ∧ (w'.heap[gb263]? = some (.cells #[.int .i64 0, .slice none 0 0, .slice none 0 0] 26 (0, 0))) ∧ (w'.heap[gb264]? = some (.cells #[.int .i64 a1, .slice Ao30 x265001_1.length co30, .slice Ao31 x265002_1.length co31] 26 (0, 0))) ∧ (Below w.heap.size w w')) ?_ ?_
               rotate_left
               ·intro hCont
                refine two_ (i := 3) (j := 10) (Ni := some 56) (Nj := some 63) (bA 16 1007) (bA 16 2023) rfl rfl rfl rfl (two_of HT_.out (by kernel_rfl)) (by decide) (by decide) (fun K hK => ?_) (fun K hK => ?_)
                ·skip
                 refine Kd.R_lit_step (Kd.int .i64) _ 3 ?hg (N := 56) ?hd (xs := ([x8_2] : List Int)) (inner := [.int .i64 x8_2]) (ok := fun _ => True) (okp := fun _ => True) ?hr ?hp (fun _ hk => hk) trivial (Below.refl _ _) (Nat.le_refl _) (by simp) ?_; (case hd => rfl); (case hg => rfl); (case hr => first | (go_simp; done) | (go_simp; rfl)); (case hp => exact (Reps.one (show Kd.M (Kd.int .i64) _ _ _ x8_2 [.int .i64 x8_2] from rfl) (Reps.none _ _))); intro v269 w33 ho34 hb hg_ hnew_; clear hg_ hnew_
                 (first | rw [← Ny268.out] at ho34 | (simp only [Int.reduceToNat] at ho34; rw [← Ny268.out] at ho34))
                 have n0_ := Re HO_265001 (Kd.R_base ho34) hb; have n1_ := Rb HO_265002 hb; have n2_ := Rm (Kd.R_new' ho34 (Kd.R_lt (Rz HO_265001.out))) HB; have n3_ := Kb BK263 hb; have n4_ := Kb BK264 hb; have n5_ := Bc HB hb; clear HO_265001 HO_265002 BK263 BK264 HB; revert n0_ n1_ n2_ n3_ n4_ n5_; intro HO_265001 HO_265002 HO270 BK263 BK264 HB; clear hb ho34; obtain ⟨Ao36, co36, eo36⟩ := Kd.R_slice HO270.out
                 (first | subst eo36 | (injection eo36 with f1_ f2_ f3_; have f4_ := f1_.symm; have f5_ := f3_.symm; clear f1_ f2_ f3_; subst f4_; subst f5_))
                 refine hK.out _ _ ⟨cz BK264 0, cz BK264 1, cz BK264 2⟩ (fun hHeld => ?_); clear hK K; refine norm_ (a' := ?_) ?_ ?_; rotate_left; show Act.put _ (some 56) _ = _; simp only [aP, i64_w, i32_w]; rfl; refine two_ (i := 4) (j := 10) (Ni := some 57) (Nj := some 63) (bA 16 1023) (bA 16 2031) rfl rfl rfl rfl (two_of HT_.out (by kernel_rfl)) (by decide) (by decide) (fun K hK => ?_) (fun K hK => ?_)
                 ·skip
                  refine Kd.R_append_rows_step (Kd.int .i64) (w0 := w) w.heap.size (by rfl) (.tmp 54) (.tmp 56) 24 3 (.int .i64 0) 8 rfl Try.underlying24 info3 rfl (by decide) (by omega) (.slice Ao30 x265001_1.length co30) x265001_1 y268 _ _ _ (fun k_ => some k_ ≠ (.slice Ao36 y268.length co36 : Value).ownBlock) (fun _ => False) rfl rfl ?aO ?aR (fun _ _ h => h) (fun _ h => h.elim) ?aF ?aB ?aS ?aL ?_
                  (case aR => repeat (first | exact (Kd.R_reads' HO270.out).2.2 | (with_reducible refine Kd.C_alloc ?_ _) | (with_reducible refine Kd.C_drewN ?_ _) | (with_reducible refine Kd.C_drew ?_)))
                  (case aB => exact (Bq))
                  (case aF => exact (fun k_ hk => Kd.fresh' (Kd.R_lt (Rz HO270.out)) k_ hk))
                  (case aO => exact (Rz (Kd.R_mono HO_265001.out (fun _ hk => hk.2))))
                  (case aS => exact (below_size (w := w) (Bq)))
                  (case aL => have := LMc26.out; omega)
                  intro v272 w35 ho hb hg hat; rw [← Ny271.out] at ho; have n0_ := am (Kd.R_over' (Rz HO_265002.out) (Kd.R_typed (Rz HO_265001.out)) (by decide) hg); have n1_ := am (blk_grown (g := gb263) (o := .cells #[.int .i64 0, .slice none 0 0, .slice none 0 0] 26 (0, 0)) (Kz BK263.out) hg (Kd.R_ne HO_265001.out BK263.out (by decide))); have n2_ := am (blk_grown (g := gb264) (o := .cells #[.int .i64 a1, .slice Ao30 x265001_1.length co30, .slice Ao31 x265002_1.length co31] 26 (0, 0)) (Kz BK264.out) hg (Kd.R_ne HO_265001.out BK264.out (by decide))); have n3_ := am (Kd.R_after (ok := (fun _ => True)) (Rz HO270.out) hg hat); have n4_ := am (hb); have n5_ := am (ho); clear HO_265002 BK263 BK264 HO270 HB HO_265001; revert n0_ n1_ n2_ n3_ n4_ n5_; intro HO_265002 BK263 BK264 HO270 HB HO273; clear ho hb hg hat; refine hK.out _ _ ⟨cz BK264 0, cz BK264 1, cz BK264 2⟩ (fun hHeld => ?_); clear hK K; refine norm_ (a' := ?_) ?_ ?_; rotate_left; show Act.put _ (some 57) _ = _; simp only [aP, i64_w, i32_w]; rfl; refine pZ 12 (some 65) (bA 16 5119) HT_.out ?_; refine oZ 10 (some 63) (bA 16 6143) HT_.out (fun K hK => ?_); refine Kd.R_lit_step Kd.string _ 9 ?hg (N := 63) ?hd (xs := ([(rdOf ByteArray.empty l0 x13_1).extract (x8_2 : Int).toNat (rdOf ByteArray.empty l0 x13_1).size] : List ByteArray)) (inner := [.string ((rdOf ByteArray.empty l0 x13_1).extract (x8_2 : Int).toNat (rdOf ByteArray.empty l0 x13_1).size)]) (ok := fun _ => True) (okp := fun _ => True) ?hr ?hp (fun _ hk => hk) trivial (Below.refl _ _) (Nat.le_refl _) (by simp) ?_; (case hd => rfl); (case hg => rfl); (case hr => first | (go_simp; done) | (go_simp; rfl)); (case hp => exact (Reps.one (show Kd.M Kd.string _ _ _ ((rdOf ByteArray.empty l0 x13_1).extract (x8_2 : Int).toNat (rdOf ByteArray.empty l0 x13_1).size) [.string ((rdOf ByteArray.empty l0 x13_1).extract (x8_2 : Int).toNat (rdOf ByteArray.empty l0 x13_1).size)] from rfl) (Reps.none _ _))); intro v275 w37 ho38 hb hg_ hnew_; clear hg_ hnew_
                  (first | rw [← Ny274.out] at ho38 | (simp only [Int.reduceToNat] at ho38; rw [← Ny274.out] at ho38))
                  have n0_ := Re HO_265002 (Kd.R_base ho38) hb; have n1_ := Rb HO270 hb; have n2_ := Rb HO273 hb; have n3_ := Rm (Kd.R_new' ho38 (Kd.R_lt (Rz HO_265002.out))) HB; have n4_ := Kb BK263 hb; have n5_ := Kb BK264 hb; have n6_ := Bc HB hb; clear HO_265002 HO270 HO273 BK263 BK264 HB; revert n0_ n1_ n2_ n3_ n4_ n5_ n6_; intro HO_265002 HO270 HO273 HO276 BK263 BK264 HB; clear hb ho38; refine hK.out _ _ ⟨cz BK264 0, cz BK264 1, cz BK264 2⟩ (fun hHeld => ?_); clear hK K; refine norm_ (a' := ?_) ?_ ?_; rotate_left; show Act.put _ (some 63) _ = _; simp only [aP, i64_w, i32_w]; rfl; exact norm_ (by simp only [putAll, aP]) (hCont (.slice Ao36 y268.length co36, v272, v275) _ ⟨hHeld, (Rz (Kd.R_mono HO270.out (fun _ hk => hk.2))), (Rz HO273.out), (Rz (Kd.R_mono HO276.out (fun _ hk => hk.2))), (Rz (Kd.R_mono HO_265002.out (fun _ hk => hk.2))), (Kz BK263.out), (Kz BK264.out), (Bq)⟩)
                 ·skip
                  refine Kd.R_lit_step Kd.string _ 9 ?hg (N := 63) ?hd (xs := ([(rdOf ByteArray.empty l0 x13_1).extract (x8_2 : Int).toNat (rdOf ByteArray.empty l0 x13_1).size] : List ByteArray)) (inner := [.string ((rdOf ByteArray.empty l0 x13_1).extract (x8_2 : Int).toNat (rdOf ByteArray.empty l0 x13_1).size)]) (ok := fun _ => True) (okp := fun _ => True) ?hr ?hp (fun _ hk => hk) trivial (Below.refl _ _) (Nat.le_refl _) (by simp) ?_; (case hd => rfl); (case hg => rfl); (case hr => first | (go_simp; done) | (go_simp; rfl)); (case hp => exact (Reps.one (show Kd.M Kd.string _ _ _ ((rdOf ByteArray.empty l0 x13_1).extract (x8_2 : Int).toNat (rdOf ByteArray.empty l0 x13_1).size) [.string ((rdOf ByteArray.empty l0 x13_1).extract (x8_2 : Int).toNat (rdOf ByteArray.empty l0 x13_1).size)] from rfl) (Reps.none _ _))); intro v275 w35 ho36 hb hg_ hnew_; clear hg_ hnew_
                  (first | rw [← Ny274.out] at ho36 | (simp only [Int.reduceToNat] at ho36; rw [← Ny274.out] at ho36))
                  have n0_ := Rb HO_265001 hb; have n1_ := Re HO_265002 (Kd.R_base ho36) hb; have n2_ := Rb HO270 hb; have n3_ := Rm (Kd.R_new' ho36 (Kd.R_lt (Rz HO_265002.out))) HB; have n4_ := Kb BK263 hb; have n5_ := Kb BK264 hb; have n6_ := Bc HB hb; clear HO_265001 HO_265002 HO270 BK263 BK264 HB; revert n0_ n1_ n2_ n3_ n4_ n5_ n6_; intro HO_265001 HO_265002 HO270 HO276 BK263 BK264 HB; clear hb ho36; obtain ⟨Ao38, co38, eo38⟩ := Kd.R_slice HO270.out
                  (first | subst eo38 | (injection eo38 with f1_ f2_ f3_; have f4_ := f1_.symm; have f5_ := f3_.symm; clear f1_ f2_ f3_; subst f4_; subst f5_))
                  refine hK.out _ _ ⟨cz BK264 0, cz BK264 1, cz BK264 2⟩ (fun hHeld => ?_); clear hK K; refine norm_ (a' := ?_) ?_ ?_; rotate_left; show Act.put _ (some 63) _ = _; simp only [aP, i64_w, i32_w]; rfl; refine oZ 4 (some 57) (bA 16 2047) HT_.out (fun K hK => ?_); refine Kd.R_append_rows_step (Kd.int .i64) (w0 := w) w.heap.size (by rfl) (.tmp 54) (.tmp 56) 24 3 (.int .i64 0) 8 rfl Try.underlying24 info3 rfl (by decide) (by omega) (.slice Ao30 x265001_1.length co30) x265001_1 y268 _ _ _ (fun k_ => some k_ ≠ (.slice Ao38 y268.length co38 : Value).ownBlock) (fun _ => False) rfl rfl ?aO ?aR (fun _ _ h => h) (fun _ h => h.elim) ?aF ?aB ?aS ?aL ?_
                  (case aR => repeat (first | exact (Kd.R_reads' HO270.out).2.2 | (with_reducible refine Kd.C_alloc ?_ _) | (with_reducible refine Kd.C_drewN ?_ _) | (with_reducible refine Kd.C_drew ?_)))
                  (case aB => exact (Bq))
                  (case aF => exact (fun k_ hk => Kd.fresh' (Kd.R_lt (Rz HO270.out)) k_ hk))
                  (case aO => exact (Rz (Kd.R_mono HO_265001.out (fun _ hk => hk.2))))
                  (case aS => exact (below_size (w := w) (Bq)))
                  (case aL => have := LMc26.out; omega)
                  intro v272 w37 ho hb hg hat; rw [← Ny271.out] at ho; have n0_ := am (Kd.R_over' (Rz HO_265002.out) (Kd.R_typed (Rz HO_265001.out)) (by decide) hg); have n1_ := am (blk_grown (g := gb263) (o := .cells #[.int .i64 0, .slice none 0 0, .slice none 0 0] 26 (0, 0)) (Kz BK263.out) hg (Kd.R_ne HO_265001.out BK263.out (by decide))); have n2_ := am (blk_grown (g := gb264) (o := .cells #[.int .i64 a1, .slice Ao30 x265001_1.length co30, .slice Ao31 x265002_1.length co31] 26 (0, 0)) (Kz BK264.out) hg (Kd.R_ne HO_265001.out BK264.out (by decide))); have n3_ := am (Kd.R_after (ok := (fun _ => True)) (Rz HO270.out) hg hat); have n4_ := am (Kd.R_over' (Rz HO276.out) (Kd.R_typed (Rz HO_265001.out)) (by decide) hg); have n5_ := am (hb); have n6_ := am (ho); clear HO_265002 BK263 BK264 HO270 HO276 HB HO_265001; revert n0_ n1_ n2_ n3_ n4_ n5_ n6_; intro HO_265002 BK263 BK264 HO270 HO276 HB HO273; clear ho hb hg hat; refine hK.out _ _ ⟨cz BK264 0, cz BK264 1, cz BK264 2⟩ (fun hHeld => ?_); clear hK K; refine norm_ (a' := ?_) ?_ ?_; rotate_left; show Act.put _ (some 57) _ = _; simp only [aP, i64_w, i32_w]; rfl; refine pZ 12 (some 65) (bA 16 6143) HT_.out ?_; exact norm_ (by simp only [putAll, aP]) (hCont (.slice Ao38 y268.length co38, v272, v275) _ ⟨hHeld, (Rz (Kd.R_mono HO270.out (fun _ hk => hk.2))), (Rz HO273.out), (Rz (Kd.R_mono HO276.out (fun _ hk => hk.2))), (Rz (Kd.R_mono HO_265002.out (fun _ hk => hk.2))), (Kz BK263.out), (Kz BK264.out), (Bq)⟩)
                ·skip
                 refine Kd.R_lit_step Kd.string _ 9 ?hg (N := 63) ?hd (xs := ([(rdOf ByteArray.empty l0 x13_1).extract (x8_2 : Int).toNat (rdOf ByteArray.empty l0 x13_1).size] : List ByteArray)) (inner := [.string ((rdOf ByteArray.empty l0 x13_1).extract (x8_2 : Int).toNat (rdOf ByteArray.empty l0 x13_1).size)]) (ok := fun _ => True) (okp := fun _ => True) ?hr ?hp (fun _ hk => hk) trivial (Below.refl _ _) (Nat.le_refl _) (by simp) ?_; (case hd => rfl); (case hg => rfl); (case hr => first | (go_simp; done) | (go_simp; rfl)); (case hp => exact (Reps.one (show Kd.M Kd.string _ _ _ ((rdOf ByteArray.empty l0 x13_1).extract (x8_2 : Int).toNat (rdOf ByteArray.empty l0 x13_1).size) [.string ((rdOf ByteArray.empty l0 x13_1).extract (x8_2 : Int).toNat (rdOf ByteArray.empty l0 x13_1).size)] from rfl) (Reps.none _ _))); intro v275 w33 ho34 hb hg_ hnew_; clear hg_ hnew_
                 (first | rw [← Ny274.out] at ho34 | (simp only [Int.reduceToNat] at ho34; rw [← Ny274.out] at ho34))
                 have n0_ := Rb HO_265001 hb; have n1_ := Re HO_265002 (Kd.R_base ho34) hb; have n2_ := Rm (Kd.R_new' ho34 (Kd.R_lt (Rz HO_265002.out))) HB; have n3_ := Kb BK263 hb; have n4_ := Kb BK264 hb; have n5_ := Bc HB hb; clear HO_265001 HO_265002 BK263 BK264 HB; revert n0_ n1_ n2_ n3_ n4_ n5_; intro HO_265001 HO_265002 HO276 BK263 BK264 HB; clear hb ho34; refine hK.out _ _ ⟨cz BK264 0, cz BK264 1, cz BK264 2⟩ (fun hHeld => ?_); clear hK K; refine norm_ (a' := ?_) ?_ ?_; rotate_left; show Act.put _ (some 63) _ = _; simp only [aP, i64_w, i32_w]; rfl; refine oZ 3 (some 56) (bA 16 2031) HT_.out (fun K hK => ?_); refine Kd.R_lit_step (Kd.int .i64) _ 3 ?hg (N := 56) ?hd (xs := ([x8_2] : List Int)) (inner := [.int .i64 x8_2]) (ok := fun _ => True) (okp := fun _ => True) ?hr ?hp (fun _ hk => hk) trivial (Below.refl _ _) (Nat.le_refl _) (by simp) ?_; (case hd => rfl); (case hg => rfl); (case hr => first | (go_simp; done) | (go_simp; rfl)); (case hp => exact (Reps.one (show Kd.M (Kd.int .i64) _ _ _ x8_2 [.int .i64 x8_2] from rfl) (Reps.none _ _))); intro v269 w35 ho36 hb hg_ hnew_; clear hg_ hnew_
                 (first | rw [← Ny268.out] at ho36 | (simp only [Int.reduceToNat] at ho36; rw [← Ny268.out] at ho36))
                 have n0_ := Re HO_265001 (Kd.R_base ho36) hb; have n1_ := Rb HO_265002 hb; have n2_ := Rb HO276 hb; have n3_ := Rm (Kd.R_new' ho36 (Kd.R_lt (Rz HO_265001.out))) HB; have n4_ := Kb BK263 hb; have n5_ := Kb BK264 hb; have n6_ := Bc HB hb; clear HO_265001 HO_265002 HO276 BK263 BK264 HB; revert n0_ n1_ n2_ n3_ n4_ n5_ n6_; intro HO_265001 HO_265002 HO276 HO270 BK263 BK264 HB; clear hb ho36; obtain ⟨Ao38, co38, eo38⟩ := Kd.R_slice HO270.out
                 (first | subst eo38 | (injection eo38 with f1_ f2_ f3_; have f4_ := f1_.symm; have f5_ := f3_.symm; clear f1_ f2_ f3_; subst f4_; subst f5_))
                 refine hK.out _ _ ⟨cz BK264 0, cz BK264 1, cz BK264 2⟩ (fun hHeld => ?_); clear hK K; refine norm_ (a' := ?_) ?_ ?_; rotate_left; show Act.put _ (some 56) _ = _; simp only [aP, i64_w, i32_w]; rfl; refine oZ 4 (some 57) (bA 16 2047) HT_.out (fun K hK => ?_); refine Kd.R_append_rows_step (Kd.int .i64) (w0 := w) w.heap.size (by rfl) (.tmp 54) (.tmp 56) 24 3 (.int .i64 0) 8 rfl Try.underlying24 info3 rfl (by decide) (by omega) (.slice Ao30 x265001_1.length co30) x265001_1 y268 _ _ _ (fun k_ => some k_ ≠ (.slice Ao38 y268.length co38 : Value).ownBlock) (fun _ => False) rfl rfl ?aO ?aR (fun _ _ h => h) (fun _ h => h.elim) ?aF ?aB ?aS ?aL ?_
                 (case aR => repeat (first | exact (Kd.R_reads' HO270.out).2.2 | (with_reducible refine Kd.C_alloc ?_ _) | (with_reducible refine Kd.C_drewN ?_ _) | (with_reducible refine Kd.C_drew ?_)))
                 (case aB => exact (Bq))
                 (case aF => exact (fun k_ hk => Kd.fresh' (Kd.R_lt (Rz HO270.out)) k_ hk))
                 (case aO => exact (Rz (Kd.R_mono HO_265001.out (fun _ hk => hk.2))))
                 (case aS => exact (below_size (w := w) (Bq)))
                 (case aL => have := LMc26.out; omega)
                 intro v272 w37 ho hb hg hat; rw [← Ny271.out] at ho; have n0_ := am (Kd.R_over' (Rz HO_265002.out) (Kd.R_typed (Rz HO_265001.out)) (by decide) hg); have n1_ := am (blk_grown (g := gb263) (o := .cells #[.int .i64 0, .slice none 0 0, .slice none 0 0] 26 (0, 0)) (Kz BK263.out) hg (Kd.R_ne HO_265001.out BK263.out (by decide))); have n2_ := am (blk_grown (g := gb264) (o := .cells #[.int .i64 a1, .slice Ao30 x265001_1.length co30, .slice Ao31 x265002_1.length co31] 26 (0, 0)) (Kz BK264.out) hg (Kd.R_ne HO_265001.out BK264.out (by decide))); have n3_ := am (Kd.R_over' (Rz HO276.out) (Kd.R_typed (Rz HO_265001.out)) (by decide) hg); have n4_ := am (Kd.R_after (ok := (fun _ => True)) (Rz HO270.out) hg hat); have n5_ := am (hb); have n6_ := am (ho); clear HO_265002 BK263 BK264 HO276 HO270 HB HO_265001; revert n0_ n1_ n2_ n3_ n4_ n5_ n6_; intro HO_265002 BK263 BK264 HO276 HO270 HB HO273; clear ho hb hg hat; refine hK.out _ _ ⟨cz BK264 0, cz BK264 1, cz BK264 2⟩ (fun hHeld => ?_); clear hK K; refine norm_ (a' := ?_) ?_ ?_; rotate_left; show Act.put _ (some 57) _ = _; simp only [aP, i64_w, i32_w]; rfl; refine pZ 12 (some 65) (bA 16 6143) HT_.out ?_; exact norm_ (by simp only [putAll, aP]) (hCont (.slice Ao38 y268.length co38, v272, v275) _ ⟨hHeld, (Rz (Kd.R_mono HO270.out (fun _ hk => hk.2))), (Rz HO273.out), (Rz (Kd.R_mono HO276.out (fun _ hk => hk.2))), (Rz (Kd.R_mono HO_265002.out (fun _ hk => hk.2))), (Kz BK263.out), (Kz BK264.out), (Bq)⟩)
               rintro ⟨v269, v272, v275⟩ w39 ⟨hS_, h0_, h1_, h2_, h3_, h4_, h5_, h6_⟩; (try dsimp -simprocs only at h0_ h1_ h2_ h3_ h4_ h5_ h6_); have n0_ := am h0_; have n1_ := am h1_; have n2_ := am h2_; have n3_ := am h3_; have n4_ := am h4_; have n5_ := am h5_; have n6_ : Aside0 (Below w.heap.size w w39) := ⟨h6_⟩; clear HO_265001 HO_265002 BK263 BK264 HB; clear h0_ h1_ h2_ h3_ h4_ h5_ h6_; revert n0_ n1_ n2_ n3_ n4_ n5_ n6_; intro HO270 HO273 HO276 HO_265002 BK263 BK264 HB; have hHeld : w39.cell? ⟨gb264, 0, none⟩ = some (.int .i64 a1) ∧ w39.cell? ⟨gb264, 1, none⟩ = some (.slice Ao30 x265001_1.length co30) ∧ w39.cell? ⟨gb264, 2, none⟩ = some (.slice Ao31 x265002_1.length co31) := hS_; obtain ⟨Ao41, co41, eo41⟩ := Kd.R_slice HO276.out
               (first | subst eo41 | (injection eo41 with f1_ f2_ f3_; have f4_ := f1_.symm; have f5_ := f3_.symm; clear f1_ f2_ f3_; subst f4_; subst f5_))
               refine norm_ (a' := ?_) ?_ ?_
               rotate_left
               ·simp only [putAll, aP]
                rfl
               refine oZ 11 (some 64) (bA 16 8191) HT_.out (fun K hK => ?_); refine Kd.R_append_rows_step Kd.string (w0 := w) w.heap.size (by rfl) (.tmp 59) (.tmp 63) 22 9 (.string ⟨#[]⟩) 16 rfl Try.underlying22 info9 rfl (by decide) (by omega) (.slice Ao31 x265002_1.length co31) x265002_1 y274 _ _ _ (fun k_ => some k_ ≠ (.slice Ao41 y274.length co41 : Value).ownBlock) (fun _ => False) rfl rfl ?aO ?aR (fun _ _ h => h) (fun _ h => h.elim) ?aF ?aB ?aS ?aL ?_
               (case aR => repeat (first | exact (Kd.R_reads' HO276.out).2.2 | (with_reducible refine Kd.C_alloc ?_ _) | (with_reducible refine Kd.C_drewN ?_ _) | (with_reducible refine Kd.C_drew ?_)))
               (case aB => exact (Bq))
               (case aF => exact (fun k_ hk => Kd.fresh' (Kd.R_lt (Rz HO276.out)) k_ hk))
               (case aO => exact (Rz HO_265002.out))
               (case aS => exact (below_size (w := w) (Bq)))
               (case aL => have := LMc29.out; omega)
               intro v278 w40 ho hb hg hat; rw [← Ny277.out] at ho; have n0_ := am (blk_grown (g := gb263) (o := .cells #[.int .i64 0, .slice none 0 0, .slice none 0 0] 26 (0, 0)) (Kz BK263.out) hg (Kd.R_ne HO_265002.out BK263.out (by decide))); have n1_ := am (blk_grown (g := gb264) (o := .cells #[.int .i64 a1, .slice Ao30 x265001_1.length co30, .slice Ao31 x265002_1.length co31] 26 (0, 0)) (Kz BK264.out) hg (Kd.R_ne HO_265002.out BK264.out (by decide))); have n2_ := am (Kd.R_over' (Rz HO270.out) (Kd.R_typed (Rz HO_265002.out)) (by decide) hg); have n3_ := am (Kd.R_over' (Rz HO273.out) (Kd.R_typed (Rz HO_265002.out)) (by decide) hg); have n4_ := am (Kd.R_after (ok := (fun _ => True)) (Rz (Kd.R_mono HO276.out (fun _ hk => ⟨trivial, hk⟩))) hg hat); have n5_ := am (hb); have n6_ := am (ho); clear BK263 BK264 HO270 HO273 HO276 HB HO_265002; revert n0_ n1_ n2_ n3_ n4_ n5_ n6_; intro BK263 BK264 HO270 HO273 HO276 HB HO279; clear ho hb hg hat; obtain ⟨Ao42, co42, eo42⟩ := Kd.R_slice HO273.out
               (first | subst eo42 | (injection eo42 with f1_ f2_ f3_; have f4_ := f1_.symm; have f5_ := f3_.symm; clear f1_ f2_ f3_; subst f4_; subst f5_))
               obtain ⟨Ao44, co44, eo44⟩ := Kd.R_slice HO279.out
               (first | subst eo44 | (injection eo44 with f1_ f2_ f3_; have f4_ := f1_.symm; have f5_ := f3_.symm; clear f1_ f2_ f3_; subst f4_; subst f5_))
               refine hK.out _ _ ⟨cz BK264 0, cz BK264 1, cz BK264 2⟩ (fun hHeld => ?_); clear hK K; refine norm_ (a' := ?_) ?_ ?_; rotate_left; show Act.put _ (some 64) _ = _; simp only [aP, i64_w, i32_w]; rfl; refine lZ 13 none (bA 16 16383) HT_.out (fun K hK => ?_); have hs43 : w40.cell? ⟨gb264, 1, none⟩ = some (.slice Ao30 x265001_1.length co30) := cz BK264 1; have hfs43 := blk_frozen BK264.out 1; have hns43_0 := NB263_264.out; have hms43_0 := NB264_263.out; refine skip_ (w1 := ?_) (by rfl) rfl ?_ ?_
               rotate_left
               ·go_simp
                rfl
               refine hK.out _ _ ?_; clear hK K; refine pZ 14 (some 66) (bA 16 32767) HT_.out ?_; refine lZ 15 none (bA 16 65535) HT_.out (fun K hK => ?_); have hs45 : w40.cell? ⟨gb264, 2, none⟩ = some (.slice Ao31 x265002_1.length co31) := cz BK264 2; have hfs45 := blk_frozen BK264.out 2; have hns45_0 := NB263_264.out; have hms45_0 := NB264_263.out; refine skip_ (w1 := ?_) (by rfl) rfl ?_ ?_
               rotate_left
               ·go_simp
                rfl
               refine hK.out _ _ ?_; clear hK K; refine done_ (done_of HT_.out (by kernel_rfl)) ?_
               try go_wp2
               go_roundg kj9
               case measure => have := HK1.out; have := HK2.out; have := HJ9.out; omega
               case rel => exact ⟨(wrap64 (x13_1 + 1)), (y271), (y277), (.slice Ao42 y271.length co42), (.slice Ao44 y277.length co44), wZ, H', ⟨by have := HK1.out; have := HK2.out; have := HJ9.out; omega⟩, ⟨Rz (Kd.R_mono (Kd.R_far (p := ⟨gb264, 2, none⟩) (Kd.R_far (p := ⟨gb264, 1, none⟩) (Kd.R_types HO273.out BK264.out (by decide)) (fun _ hk => hk.2) (.slice Ao42 y271.length co42)) (fun _ hk => hk.2) (.slice Ao44 y277.length co44)) (fun _ hk => trivial))⟩, ⟨Rz (Kd.R_mono (Kd.R_far (p := ⟨gb264, 2, none⟩) (Kd.R_far (p := ⟨gb264, 1, none⟩) (Kd.R_types HO279.out BK264.out (by decide)) (fun _ hk => hk.2) (.slice Ao42 y271.length co42)) (fun _ hk => hk.2) (.slice Ao44 y277.length co44)) (fun _ hk => trivial))⟩, ⟨by refine bp ?_; refine blk_far ?_ NB263_264.out _; refine bp ?_; refine blk_far ?_ NB263_264.out _; refine bp ?_; exact BK263.out⟩, ⟨by refine bp ?_; refine blk_put (cs := #[.int .i64 a1, .slice Ao42 y271.length co42, .slice Ao31 x265002_1.length co31]) ?_ 2 _ rfl; refine bp ?_; refine blk_put (cs := #[.int .i64 a1, .slice Ao30 x265001_1.length co30, .slice Ao31 x265002_1.length co31]) ?_ 1 _ rfl; refine bp ?_; exact BK264.out⟩, ⟨Bq⟩⟩
              ·rw [if_neg c29] at H
               exact absurd H (by simp)
             ·rw [if_neg c28] at H
              exact absurd H (by simp)
            ·rw [if_neg c27] at H
             exact absurd H (by simp)
           ·rw [if_neg c26] at H
            exact absurd H (by simp)
     ·rw [if_neg c9] at H
      exact absurd H (by simp)
    ·rw [if_neg c8] at H
     exact absurd H (by simp)
   ·rw [if_neg c7] at H
    have c7b0 : decide (x13_1 < (l0.length : Int)) = false := decide_eq_false c7; clear c7
    simp only [Option.some.injEq, Prod.mk.injEq] at H
    obtain ⟨rfl, rfl, rfl⟩ := H; have hnb46 := NB264_263.out; have hnc46 := NB263_264.out; obtain ⟨hcz47_0, hcz47_1, hcz47_2, hfz47_0, hfz47_1, hfz47_2⟩ := cf3 (w := wr) BK264; obtain ⟨hcz48_0, hcz48_1, hcz48_2, hfz48_0, hfz48_1, hfz48_2⟩ := cf3 (w := wr) BK263; obtain ⟨Ao49, co49, eo49⟩ := Kd.R_slice HO_265001.out; subst eo49; obtain ⟨Ao50, co50, eo50⟩ := Kd.R_slice HO_265002.out; subst eo50
    go_wp2
    refine bodyPost_ret (results_cell_row rfl _ _ gb263 26 #[.int .i64 a1, .slice Ao49 x265001_1.length co49, .slice Ao50 x265002_1.length co50] (0, 0) _ rfl (by refine bp ?_; refine blk_put (cs := #[.int .i64 a1, .slice Ao49 x265001_1.length co49, .slice none 0 0]) ?_ 2 _ rfl; refine bp ?_; refine blk_put (cs := #[.int .i64 a1, .slice none 0 0, .slice none 0 0]) ?_ 1 _ rfl; refine bp ?_; refine blk_put (cs := #[.int .i64 0, .slice none 0 0, .slice none 0 0]) ?_ 0 _ rfl; exact Kz BK263.out) Try.underlying26 rfl (by kernel_rfl)) rfl ?_; exact ⟨_, _, eZ, Rz (Kd.R_mono (Kd.R_far (p := ⟨gb263, 2, none⟩) (Kd.R_far (p := ⟨gb263, 1, none⟩) (Kd.R_far (p := ⟨gb263, 0, none⟩) (Kd.R_types HO_265001.out BK263.out (by decide)) (fun _ hk => hk.2) (.int .i64 a1)) (fun _ hk => hk.2) (.slice Ao49 x265001_1.length co49)) (fun _ hk => hk.2) (.slice Ao50 x265002_1.length co50)) (fun _ hk => trivial)), Rz (Kd.R_mono (Kd.R_far (p := ⟨gb263, 2, none⟩) (Kd.R_far (p := ⟨gb263, 1, none⟩) (Kd.R_far (p := ⟨gb263, 0, none⟩) (Kd.R_types HO_265002.out BK263.out (by decide)) (fun _ hk => hk.2) (.int .i64 a1)) (fun _ hk => hk.2) (.slice Ao49 x265001_1.length co49)) (fun _ hk => hk.2) (.slice Ao50 x265002_1.length co50)) (fun _ hk => trivial)), Bq⟩

def impl_BuildFront.f (k : Nat) (l0 : List ByteArray) (a1 : Int) : Option (Int × List Int × List ByteArray × Bool) := (impl_AreKeys.f k l0).bind fun t281 => (if t281 = true then ((impl_in.f a1 1 16).bind fun t282 => (if t282 = true then ((impl_front.f k l0 a1).bind fun bt283 => (some (bt283.1, bt283.2.1, bt283.2.2, true))) else (some (0, ([] : List Int), ([] : List ByteArray), false)))) else (some (0, ([] : List Int), ([] : List ByteArray), false)))
theorem impl_BuildFront.calls (k : Nat) (A0 : Option Addr) (c0 : Nat) (l0 : List ByteArray) (a1 : Int) (r1 : Int) (r2 : List Int) (r3 : List ByteArray) (r4 : Bool) (w : World) (hr0 : Kd.C Kd.string w A0 l0.length l0) (hc0 : l0.length ≤ c0) (h : impl_BuildFront.f k l0 a1 = some (r1, r2, r3, r4)) :
  Calls Try.prog 14 #[.slice A0 l0.length c0, .int .i64 a1] w fun e w' => ∃ v1_ v2_ : Value, e = .returned (.tuple #[.agg #[.int .i64 r1, v1_, v2_], .bool r4]) ∧ Kd.R (Kd.int .i64) 3 w' w.heap.size (fun _ => True) v1_ r2 ∧ Kd.R Kd.string 9 w' w.heap.size (fun _ => True) v2_ r3 ∧ Below w.heap.size w w' := by
 have hu26 := Try.underlying26; have HR0 := am hr0; have HC0 := am hc0; clear hr0 hc0; have HB := am (Below.refl w.heap.size w); have H : ((impl_AreKeys.f k l0).bind fun t281 => (if t281 = true then ((impl_in.f a1 1 16).bind fun t282 => (if t282 = true then ((impl_front.f k l0 a1).bind fun bt283 => (some (bt283.1, bt283.2.1, bt283.2.2, true))) else (some (0, ([] : List Int), ([] : List ByteArray), false)))) else (some (0, ([] : List Int), ([] : List ByteArray), false)))) = some (r1, r2, r3, r4) := h; clear h; obtain ⟨t281, A3, H⟩ := ob H; (try dsimp -simprocs only at H)
 by_cases c4 : t281 = true
 ·subst c4
  rw [if_pos rfl] at H; obtain ⟨t282, A5, H⟩ := ob H; (try dsimp -simprocs only at H)
  by_cases c6 : t282 = true
  ·subst c6
   rw [if_pos rfl] at H; obtain ⟨⟨t283, t284, t287⟩, A7, H⟩ := ob H; (try dsimp -simprocs only at H)
   simp only [Option.some.injEq, Prod.mk.injEq] at H
   obtain ⟨rfl, rfl, rfl, rfl⟩ := H
   go_enter Try.func14, Try.ntmps14
   go_wp2_with (first | ((with_reducible refine gate_dst (N := 4) rfl ?_); refine bE 4 #[.int .i64 0, .slice none 0 0, .slice none 0 0] 26 ?_; intro gb280 hg w8 hbox hb; have n0_ := Bb HB hb; have n1_ := am (hbox); have n2_ := Gl HB hg; have n3_ := Gl HB hg; clear HB; revert n0_ n1_ n2_ n3_; intro HB BK280 GW280 GE280; clear hb hbox hg) | ((with_reducible refine gate_callee (f := 41) rfl ?_); refine gL (some 7) Try.func41 #[.slice A0 l0.length c0] ?_; (with_reducible refine (impl_AreKeys.calls k _ _ l0 true _ ?side1 ?side2 A3.out).mono ?_); (case side1 => exact Cz (Kd.C_below HR0.out HB.out)); (case side2 => exact HC0.out); rintro e w' ⟨rfl, ⟨nd, rfl⟩⟩; refine ⟨_, rfl, ?_⟩; (try (rw [drewN_self w8]; generalize hq_ : World.drewN w8 _ = w8; have n0_ : Aside0 (w8.heap[gb280]? = some (.cells #[.int .i64 0, .slice none 0 0, .slice none 0 0] 26 (0, 0))) := ⟨by rw [← hq_]; exact (Kz BK280.out)⟩; have n1_ : Aside0 (Below w.heap.size w w8) := ⟨by rw [← hq_]; exact (Bq)⟩; clear BK280 HB hq_; revert n0_ n1_; intro BK280 HB))) | (go_at_call 42; (with_reducible refine (impl_in.calls a1 1 16 true _ A5.out).mono ?_); rintro e w' ⟨rfl, ⟨nd, rfl⟩⟩; (try (rw [drewN_self w8]; generalize hq_ : World.drewN w8 _ = w8; have n0_ : Aside0 (w8.heap[gb280]? = some (.cells #[.int .i64 0, .slice none 0 0, .slice none 0 0] 26 (0, 0))) := ⟨by rw [← hq_]; exact (Kz BK280.out)⟩; have n1_ : Aside0 (Below w.heap.size w w8) := ⟨by rw [← hq_]; exact (Bq)⟩; clear BK280 HB hq_; revert n0_ n1_; intro BK280 HB))) | ((with_reducible refine gate_callee (f := 43) rfl ?_); refine gL (some 17) Try.func43 #[.slice A0 l0.length c0, .int .i64 a1] ?_; (with_reducible refine (impl_front.calls k _ _ l0 a1 t283 t284 t287 _ ?side1 ?side2 A7.out).mono ?_); (case side1 => exact Cz (Kd.C_below HR0.out HB.out)); (case side2 => exact HC0.out); rintro e w9 ⟨v285, v288, rfl, ho0, ho1, hb⟩; refine ⟨_, rfl, ?_⟩; have n0_ := Rm ho0 HB; have n1_ := Rm ho1 HB; have n2_ := Kb BK280 hb; have n3_ := Bc HB hb; clear BK280 HB; revert n0_ n1_ n2_ n3_; intro HO286 HO289 BK280 HB; (try clear hb); (try clear hb2); (try clear hk); (try clear hi); (try clear ho0); (try clear ho1); obtain ⟨hcz10_0, hcz10_1, hcz10_2, hfz10_0, hfz10_1, hfz10_2⟩ := cf3 (w := w9) BK280; obtain ⟨Ao11, co11, eo11⟩ := Kd.R_slice HO286.out; subst eo11; obtain ⟨Ao12, co12, eo12⟩ := Kd.R_slice HO289.out; subst eo12))
   refine bodyPost_ret (results_ct rfl _ _ gb280 26 #[.int .i64 t283, .slice Ao11 t284.length co11, .slice Ao12 t287.length co12] (0, 0) _ rfl (by refine bp ?_; refine blk_put (cs := #[.int .i64 t283, .slice Ao11 t284.length co11, .slice none 0 0]) ?_ 2 _ rfl; refine bp ?_; refine blk_put (cs := #[.int .i64 t283, .slice none 0 0, .slice none 0 0]) ?_ 1 _ rfl; refine bp ?_; refine blk_put (cs := #[.int .i64 0, .slice none 0 0, .slice none 0 0]) ?_ 0 _ rfl; exact Kz BK280.out) Try.underlying26 rfl (by kernel_rfl)) rfl ?_; exact ⟨_, _, eZ, Rz (Kd.R_mono (Kd.R_far (p := ⟨gb280, 2, none⟩) (Kd.R_far (p := ⟨gb280, 1, none⟩) (Kd.R_far (p := ⟨gb280, 0, none⟩) (Kd.R_types HO286.out BK280.out (by decide)) (fun _ hk => hk.2) (.int .i64 t283)) (fun _ hk => hk.2) (.slice Ao11 t284.length co11)) (fun _ hk => hk.2) (.slice Ao12 t287.length co12)) (fun _ hk => trivial)), Rz (Kd.R_mono (Kd.R_far (p := ⟨gb280, 2, none⟩) (Kd.R_far (p := ⟨gb280, 1, none⟩) (Kd.R_far (p := ⟨gb280, 0, none⟩) (Kd.R_types HO289.out BK280.out (by decide)) (fun _ hk => hk.2) (.int .i64 t283)) (fun _ hk => hk.2) (.slice Ao11 t284.length co11)) (fun _ hk => hk.2) (.slice Ao12 t287.length co12)) (fun _ hk => trivial)), Bq⟩
  ·replace c6 := Bool.eq_false_iff.mpr c6
   subst c6
   rw [if_neg (show ¬ (false = true) by decide)] at H
   simp only [Option.some.injEq, Prod.mk.injEq] at H
   obtain ⟨rfl, rfl, rfl, rfl⟩ := H
   go_enter Try.func14, Try.ntmps14
   go_wp2_with (first | ((with_reducible refine gate_dst (N := 4) rfl ?_); refine bE 4 #[.int .i64 0, .slice none 0 0, .slice none 0 0] 26 ?_; intro gb280 hg w13 hbox hb; have n0_ := Bb HB hb; have n1_ := am (hbox); have n2_ := Gl HB hg; have n3_ := Gl HB hg; clear HB; revert n0_ n1_ n2_ n3_; intro HB BK280 GW280 GE280; clear hb hbox hg) | ((with_reducible refine gate_callee (f := 41) rfl ?_); refine gL (some 7) Try.func41 #[.slice A0 l0.length c0] ?_; (with_reducible refine (impl_AreKeys.calls k _ _ l0 true _ ?side1 ?side2 A3.out).mono ?_); (case side1 => exact Cz (Kd.C_below HR0.out HB.out)); (case side2 => exact HC0.out); rintro e w' ⟨rfl, ⟨nd, rfl⟩⟩; refine ⟨_, rfl, ?_⟩; (try (rw [drewN_self w13]; generalize hq_ : World.drewN w13 _ = w13; have n0_ : Aside0 (w13.heap[gb280]? = some (.cells #[.int .i64 0, .slice none 0 0, .slice none 0 0] 26 (0, 0))) := ⟨by rw [← hq_]; exact (Kz BK280.out)⟩; have n1_ : Aside0 (Below w.heap.size w w13) := ⟨by rw [← hq_]; exact (Bq)⟩; clear BK280 HB hq_; revert n0_ n1_; intro BK280 HB))) | (go_at_call 42; (with_reducible refine (impl_in.calls a1 1 16 false _ A5.out).mono ?_); rintro e w' ⟨rfl, ⟨nd, rfl⟩⟩; (try (rw [drewN_self w13]; generalize hq_ : World.drewN w13 _ = w13; have n0_ : Aside0 (w13.heap[gb280]? = some (.cells #[.int .i64 0, .slice none 0 0, .slice none 0 0] 26 (0, 0))) := ⟨by rw [← hq_]; exact (Kz BK280.out)⟩; have n1_ : Aside0 (Below w.heap.size w w13) := ⟨by rw [← hq_]; exact (Bq)⟩; clear BK280 HB hq_; revert n0_ n1_; intro BK280 HB)); obtain ⟨hcz14_0, hcz14_1, hcz14_2, hfz14_0, hfz14_1, hfz14_2⟩ := cf3 (w := w13) BK280))
   refine bodyPost_ret (results_ct rfl _ _ gb280 26 #[.int .i64 0, .slice none 0 0, .slice none 0 0] (0, 0) _ rfl (by refine bp ?_; refine blk_put (cs := #[.int .i64 0, .slice none 0 0, .slice none 0 0]) ?_ 2 _ rfl; refine bp ?_; refine blk_put (cs := #[.int .i64 0, .slice none 0 0, .slice none 0 0]) ?_ 1 _ rfl; refine bp ?_; refine blk_put (cs := #[.int .i64 0, .slice none 0 0, .slice none 0 0]) ?_ 0 _ rfl; exact Kz BK280.out) Try.underlying26 rfl (by kernel_rfl)) rfl ?_; exact ⟨_, _, eZ, nZ, nZ, Bq⟩
 ·replace c4 := Bool.eq_false_iff.mpr c4
  subst c4
  rw [if_neg (show ¬ (false = true) by decide)] at H
  simp only [Option.some.injEq, Prod.mk.injEq] at H
  obtain ⟨rfl, rfl, rfl, rfl⟩ := H
  go_enter Try.func14, Try.ntmps14
  go_wp2_with (first | ((with_reducible refine gate_dst (N := 4) rfl ?_); refine bE 4 #[.int .i64 0, .slice none 0 0, .slice none 0 0] 26 ?_; intro gb280 hg w15 hbox hb; have n0_ := Bb HB hb; have n1_ := am (hbox); have n2_ := Gl HB hg; have n3_ := Gl HB hg; clear HB; revert n0_ n1_ n2_ n3_; intro HB BK280 GW280 GE280; clear hb hbox hg) | ((with_reducible refine gate_callee (f := 41) rfl ?_); refine gL (some 7) Try.func41 #[.slice A0 l0.length c0] ?_; (with_reducible refine (impl_AreKeys.calls k _ _ l0 false _ ?side1 ?side2 A3.out).mono ?_); (case side1 => exact Cz (Kd.C_below HR0.out HB.out)); (case side2 => exact HC0.out); rintro e w' ⟨rfl, ⟨nd, rfl⟩⟩; refine ⟨_, rfl, ?_⟩; (try (rw [drewN_self w15]; generalize hq_ : World.drewN w15 _ = w15; have n0_ : Aside0 (w15.heap[gb280]? = some (.cells #[.int .i64 0, .slice none 0 0, .slice none 0 0] 26 (0, 0))) := ⟨by rw [← hq_]; exact (Kz BK280.out)⟩; have n1_ : Aside0 (Below w.heap.size w w15) := ⟨by rw [← hq_]; exact (Bq)⟩; clear BK280 HB hq_; revert n0_ n1_; intro BK280 HB)); obtain ⟨hcz16_0, hcz16_1, hcz16_2, hfz16_0, hfz16_1, hfz16_2⟩ := cf3 (w := w15) BK280))
  refine bodyPost_ret (results_ct rfl _ _ gb280 26 #[.int .i64 0, .slice none 0 0, .slice none 0 0] (0, 0) _ rfl (by refine bp ?_; refine blk_put (cs := #[.int .i64 0, .slice none 0 0, .slice none 0 0]) ?_ 2 _ rfl; refine bp ?_; refine blk_put (cs := #[.int .i64 0, .slice none 0 0, .slice none 0 0]) ?_ 1 _ rfl; refine bp ?_; refine blk_put (cs := #[.int .i64 0, .slice none 0 0, .slice none 0 0]) ?_ 0 _ rfl; exact Kz BK280.out) Try.underlying26 rfl (by kernel_rfl)) rfl ?_; exact ⟨_, _, eZ, nZ, nZ, Bq⟩

def slices_Equal_int_int.l0 : Nat → List Int → List Int → Int → Int → Option (Bool)
 | 0, _, _, _, _ => none
 | k + 1, x0, x1, x12, x13 => if x13 < x12 then (if 0 ≤ x13 then (if x13 < (x0.length : Int) then (if x13 < (x1.length : Int) then (if (rd x0 x13) = (rd x1 x13) then (slices_Equal_int_int.l0 k x0 x1 x12 (wrap64 (x13 + 1))) else (some false)) else (none)) else (none)) else (none)) else (some true)
def slices_Equal_int_int.f (k : Nat) (l0 : List Int) (l1 : List Int) : Option (Bool) := if (l0.length : Int) = (l1.length : Int) then (slices_Equal_int_int.l0 k l0 l1 (l0.length : Int) 0) else (some false)
theorem slices_Equal_int_int.calls (k : Nat) (A0 : Option Addr) (c0 : Nat) (l0 : List Int) (A1 : Option Addr) (c1 : Nat) (l1 : List Int) (r : Bool) (w : World) (hr0 : Kd.C (Kd.int .i64) w A0 l0.length l0) (hc0 : l0.length ≤ c0) (hr1 : Kd.C (Kd.int .i64) w A1 l1.length l1) (hc1 : l1.length ≤ c1) (h : slices_Equal_int_int.f k l0 l1 = some r) :
  Calls Try.prog 69 #[.slice A0 l0.length c0, .slice A1 l1.length c1] w fun e w' => e = .returned (.bool r) ∧ Drawn0 w w' := by
 have HR0 := am hr0; have HC0 := am hc0; clear hr0 hc0; have HR1 := am hr1; have HC1 := am hc1; clear hr1 hc1; have H : (if (l0.length : Int) = (l1.length : Int) then (slices_Equal_int_int.l0 k l0 l1 (l0.length : Int) 0) else (some false)) = some r := h; clear h
 by_cases c3 : (l0.length : Int) = (l1.length : Int)
 ·rw [if_pos c3] at H
  have c3b0 : ((l0.length : Int) == (l1.length : Int)) = true := beq_iff_eq.mpr c3; have c3b1 : ((l0.length : Int) != (l1.length : Int)) = false := bne_eq_false_iff_eq.mpr c3
  have c3b2 : (l0.length == l1.length) = true := by first | simpa using c3 | (simp at c3 ⊢; omega)
  clear c3; have H' := am H; clear H
  go_enter Try.func69, Try.ntmps69
  go_wp2
  repeat (go_quiet (fail); try go_wp2)
  go_loopg [13] k (fun kq v13 w' => ∃ (x13_1 : Int), v13 = .int .i64 x13_1 ∧ Aside0 (slices_Equal_int_int.l0 kq l0 l1 (l0.length : Int) x13_1 = some r) ∧ Aside0 (kq ≤ k) ∧ Drawn0 w w')
  case atStart => exact ⟨(0), wZ, H', ⟨Nat.le_refl _⟩, by repeat (first | exact Drawn0.refl _ | apply Drawn0.step)⟩
  case round =>
   clear H'
   try clear c1
   try clear p2
   try clear c3
   try clear c3b0
   try clear c3b1
   try clear c3b2
   obtain ⟨x13_1, rfl, HA, HK1, ⟨m1, rfl⟩⟩ := hrel; cases gk with
   | zero => exact absurd HA.out (by simp [slices_Equal_int_int.l0])
   | succ k1 =>
    have H := HA.out; clear HA
    simp only [slices_Equal_int_int.l0] at H
    by_cases c4 : x13_1 < (l0.length : Int)
    ·rw [if_pos c4] at H
     have c4b0 : decide (x13_1 < (l0.length : Int)) = true := decide_eq_true c4; clear c4
     by_cases c5 : 0 ≤ x13_1
     ·rw [if_pos c5] at H
      have c5b0 : decide (0 ≤ x13_1) = true := decide_eq_true c5; clear c5
      by_cases c6 : x13_1 < (l0.length : Int)
      ·rw [if_pos c6] at H
       have c6b0 : decide (x13_1 < (l0.length : Int)) = true := decide_eq_true c6; clear c6
       by_cases c7 : x13_1 < (l1.length : Int)
       ·rw [if_pos c7] at H
        have c7b0 : decide (x13_1 < (l1.length : Int)) = true := decide_eq_true c7; clear c7
        by_cases c8 : (rd l0 x13_1) = (rd l1 x13_1)
        ·rw [if_pos c8] at H
         have c8b0 : ((rd l0 x13_1) == (rd l1 x13_1)) = true := beq_iff_eq.mpr c8; have c8b1 : ((rd l0 x13_1) != (rd l1 x13_1)) = false := bne_eq_false_iff_eq.mpr c8; clear c8; have H' := am H; clear H; obtain ⟨ad290, e290, hx290_0⟩ := Kd.at_int HR0.out x13_1 dT dT; cases e290; have p290 := eT (0 ≤ (x13_1 : Int)); have q290 := eT (x13_1 < (l0.length : Int)); obtain ⟨ad291, e291, hx291_0⟩ := Kd.at_int HR1.out x13_1 dT dT; cases e291; have p291 := eT (0 ≤ (x13_1 : Int)); have q291 := eT (x13_1 < (l1.length : Int))
         go_wp2
         repeat (go_quiet (fail); try go_wp2)
         go_roundg k1
         case measure => have := HK1.out; omega
         case rel => exact ⟨(wrap64 (x13_1 + 1)), wZ, H', ⟨by have := HK1.out; omega⟩, by repeat (first | exact Drawn0.refl _ | apply Drawn0.step)⟩
        ·rw [if_neg c8] at H
         have c8b0 : ((rd l0 x13_1) == (rd l1 x13_1)) = false := beq_eq_false_iff_ne.mpr c8; have c8b1 : ((rd l0 x13_1) != (rd l1 x13_1)) = true := bne_iff_ne.mpr c8; obtain rfl := Option.some.inj H; obtain ⟨ad290, e290, hx290_0⟩ := Kd.at_int HR0.out x13_1 dT dT; cases e290; have p290 := eT (0 ≤ (x13_1 : Int)); have q290 := eT (x13_1 < (l0.length : Int)); obtain ⟨ad291, e291, hx291_0⟩ := Kd.at_int HR1.out x13_1 dT dT; cases e291; have p291 := eT (0 ≤ (x13_1 : Int)); have q291 := eT (x13_1 < (l1.length : Int))
         go_wp2
         repeat (go_quiet (fail); try go_wp2)
         go_ret
         exact ⟨by first | rfl | (simp; done) | (simp [*]; done), by repeat (first | exact Drawn0.refl _ | apply Drawn0.step)⟩
       ·rw [if_neg c7] at H
        exact absurd H (by simp)
      ·rw [if_neg c6] at H
       exact absurd H (by simp)
     ·rw [if_neg c5] at H
      exact absurd H (by simp)
    ·rw [if_neg c4] at H
     have c4b0 : decide (x13_1 < (l0.length : Int)) = false := decide_eq_false c4; clear c4; obtain rfl := Option.some.inj H
     go_wp2
     repeat (go_quiet (fail); try go_wp2)
     go_ret
     exact ⟨by first | rfl | (simp; done) | (simp [*]; done), by repeat (first | exact Drawn0.refl _ | apply Drawn0.step)⟩
 ·rw [if_neg c3] at H
  have c3b0 : ((l0.length : Int) == (l1.length : Int)) = false := beq_eq_false_iff_ne.mpr c3; have c3b1 : ((l0.length : Int) != (l1.length : Int)) = true := bne_iff_ne.mpr c3
  have c3b2 : (l0.length == l1.length) = false := by first | simpa using c3 | (simp at c3 ⊢; omega)
  obtain rfl := Option.some.inj H
  go_enter Try.func69, Try.ntmps69
  go_wp2
  repeat (go_quiet (fail); try go_wp2)
  go_ret
  exact ⟨by first | rfl | (simp; done) | (simp [*]; done), by repeat (first | exact Drawn0.refl _ | apply Drawn0.step)⟩

end Go.Proofs.Ytfedgkmklcialaa.PM
-- printed by a program of this session (wip/gp) out of the translation; Lean checks it
namespace Go.Proofs.Ytfedgkmklcialaa.PM
open Go.RowKit Go.Proofs.YtfedgkmklcialaaW.PrintWords Go.Proofs.YtfedgkmklcialaaW.PrintLast Go.Proofs.YtfedgkmklcialaaW.PrintMore Go.Proofs.YtfedgkmklcialaaSq
attribute [local go_sem] max2_int min2_int max_two min_two max_three min_three max_four min_four   -- for this text's walks alone
attribute [local go_sem] Go.Proofs.YtfedgkmklcialaaGp.str_geq Go.Proofs.YtfedgkmklcialaaGp.str_gtr Go.Proofs.YtfedgkmklcialaaGp.str_leq
set_option linter.unusedVariables false
set_option linter.unusedSimpArgs false

set_option maxHeartbeats 8000000
set_option maxRecDepth 100000
def slices_Equal_string_string.l0 : Nat → List ByteArray → List ByteArray → Int → Int → Option (Bool)
 | 0, _, _, _, _ => none
 | k + 1, x0, x1, x12, x13 => if x13 < x12 then (if 0 ≤ x13 then (if x13 < (x0.length : Int) then (if x13 < (x1.length : Int) then (if (rdOf ByteArray.empty x0 x13).toList = (rdOf ByteArray.empty x1 x13).toList then (slices_Equal_string_string.l0 k x0 x1 x12 (wrap64 (x13 + 1))) else (some false)) else (none)) else (none)) else (none)) else (some true)
def slices_Equal_string_string.f (k : Nat) (l0 : List ByteArray) (l1 : List ByteArray) : Option (Bool) := if (l0.length : Int) = (l1.length : Int) then (slices_Equal_string_string.l0 k l0 l1 (l0.length : Int) 0) else (some false)
theorem slices_Equal_string_string.calls (k : Nat) (A0 : Option Addr) (c0 : Nat) (l0 : List ByteArray) (A1 : Option Addr) (c1 : Nat) (l1 : List ByteArray) (r : Bool) (w : World) (hr0 : Kd.C Kd.string w A0 l0.length l0) (hc0 : l0.length ≤ c0) (hr1 : Kd.C Kd.string w A1 l1.length l1) (hc1 : l1.length ≤ c1) (h : slices_Equal_string_string.f k l0 l1 = some r) :
  Calls Try.prog 70 #[.slice A0 l0.length c0, .slice A1 l1.length c1] w fun e w' => e = .returned (.bool r) ∧ Drawn0 w w' := by
 have HR0 := am hr0; have HC0 := am hc0; clear hr0 hc0; have HR1 := am hr1; have HC1 := am hc1; clear hr1 hc1; have H : (if (l0.length : Int) = (l1.length : Int) then (slices_Equal_string_string.l0 k l0 l1 (l0.length : Int) 0) else (some false)) = some r := h; clear h
 by_cases c3 : (l0.length : Int) = (l1.length : Int)
 ·rw [if_pos c3] at H
  have c3b0 : ((l0.length : Int) == (l1.length : Int)) = true := beq_iff_eq.mpr c3; have c3b1 : ((l0.length : Int) != (l1.length : Int)) = false := bne_eq_false_iff_eq.mpr c3
  have c3b2 : (l0.length == l1.length) = true := by first | simpa using c3 | (simp at c3 ⊢; omega)
  clear c3; have H' := am H; clear H
  go_enter Try.func70, Try.ntmps70
  go_wp2
  repeat (go_quiet (fail); try go_wp2)
  go_loopg [13] k (fun kq v13 w' => ∃ (x13_1 : Int), v13 = .int .i64 x13_1 ∧ Aside0 (slices_Equal_string_string.l0 kq l0 l1 (l0.length : Int) x13_1 = some r) ∧ Aside0 (kq ≤ k) ∧ Drawn0 w w')
  case atStart => exact ⟨(0), wZ, H', ⟨Nat.le_refl _⟩, by repeat (first | exact Drawn0.refl _ | apply Drawn0.step)⟩
  case round =>
   clear H'
   try clear c1
   try clear p2
   try clear c3
   try clear c3b0
   try clear c3b1
   try clear c3b2
   obtain ⟨x13_1, rfl, HA, HK1, ⟨m1, rfl⟩⟩ := hrel; cases gk with
   | zero => exact absurd HA.out (by simp [slices_Equal_string_string.l0])
   | succ k1 =>
    have H := HA.out; clear HA
    simp only [slices_Equal_string_string.l0] at H
    by_cases c4 : x13_1 < (l0.length : Int)
    ·rw [if_pos c4] at H
     have c4b0 : decide (x13_1 < (l0.length : Int)) = true := decide_eq_true c4; clear c4
     by_cases c5 : 0 ≤ x13_1
     ·rw [if_pos c5] at H
      have c5b0 : decide (0 ≤ x13_1) = true := decide_eq_true c5; clear c5
      by_cases c6 : x13_1 < (l0.length : Int)
      ·rw [if_pos c6] at H
       have c6b0 : decide (x13_1 < (l0.length : Int)) = true := decide_eq_true c6; clear c6
       by_cases c7 : x13_1 < (l1.length : Int)
       ·rw [if_pos c7] at H
        have c7b0 : decide (x13_1 < (l1.length : Int)) = true := decide_eq_true c7; clear c7
        by_cases c8 : (rdOf ByteArray.empty l0 x13_1).toList = (rdOf ByteArray.empty l1 x13_1).toList
        ·rw [if_pos c8] at H
         have c8b0 : ((rdOf ByteArray.empty l0 x13_1).toList == (rdOf ByteArray.empty l1 x13_1).toList) = true := beq_iff_eq.mpr c8; have c8b1 : ((rdOf ByteArray.empty l0 x13_1).toList != (rdOf ByteArray.empty l1 x13_1).toList) = false := bne_eq_false_iff_eq.mpr c8; clear c8; have H' := am H; clear H; obtain ⟨ad292, e292, hx292_0⟩ := Kd.at_string HR0.out x13_1 dT dT; cases e292; have p292 := eT (0 ≤ (x13_1 : Int)); have q292 := eT (x13_1 < (l0.length : Int)); obtain ⟨ad293, e293, hx293_0⟩ := Kd.at_string HR1.out x13_1 dT dT; cases e293; have p293 := eT (0 ≤ (x13_1 : Int)); have q293 := eT (x13_1 < (l1.length : Int))
         go_wp2
         repeat (go_quiet (fail); try go_wp2)
         go_roundg k1
         case measure => have := HK1.out; omega
         case rel => exact ⟨(wrap64 (x13_1 + 1)), wZ, H', ⟨by have := HK1.out; omega⟩, by repeat (first | exact Drawn0.refl _ | apply Drawn0.step)⟩
        ·rw [if_neg c8] at H
         have c8b0 : ((rdOf ByteArray.empty l0 x13_1).toList == (rdOf ByteArray.empty l1 x13_1).toList) = false := beq_eq_false_iff_ne.mpr c8; have c8b1 : ((rdOf ByteArray.empty l0 x13_1).toList != (rdOf ByteArray.empty l1 x13_1).toList) = true := bne_iff_ne.mpr c8; obtain rfl := Option.some.inj H; obtain ⟨ad292, e292, hx292_0⟩ := Kd.at_string HR0.out x13_1 dT dT; cases e292; have p292 := eT (0 ≤ (x13_1 : Int)); have q292 := eT (x13_1 < (l0.length : Int)); obtain ⟨ad293, e293, hx293_0⟩ := Kd.at_string HR1.out x13_1 dT dT; cases e293; have p293 := eT (0 ≤ (x13_1 : Int)); have q293 := eT (x13_1 < (l1.length : Int))
         go_wp2
         repeat (go_quiet (fail); try go_wp2)
         go_ret
         exact ⟨by first | rfl | (simp; done) | (simp [*]; done), by repeat (first | exact Drawn0.refl _ | apply Drawn0.step)⟩
       ·rw [if_neg c7] at H
        exact absurd H (by simp)
      ·rw [if_neg c6] at H
       exact absurd H (by simp)
     ·rw [if_neg c5] at H
      exact absurd H (by simp)
    ·rw [if_neg c4] at H
     have c4b0 : decide (x13_1 < (l0.length : Int)) = false := decide_eq_false c4; clear c4; obtain rfl := Option.some.inj H
     go_wp2
     repeat (go_quiet (fail); try go_wp2)
     go_ret
     exact ⟨by first | rfl | (simp; done) | (simp [*]; done), by repeat (first | exact Drawn0.refl _ | apply Drawn0.step)⟩
 ·rw [if_neg c3] at H
  have c3b0 : ((l0.length : Int) == (l1.length : Int)) = false := beq_eq_false_iff_ne.mpr c3; have c3b1 : ((l0.length : Int) != (l1.length : Int)) = true := bne_iff_ne.mpr c3
  have c3b2 : (l0.length == l1.length) = false := by first | simpa using c3 | (simp at c3 ⊢; omega)
  obtain rfl := Option.some.inj H
  go_enter Try.func70, Try.ntmps70
  go_wp2
  repeat (go_quiet (fail); try go_wp2)
  go_ret
  exact ⟨by first | rfl | (simp; done) | (simp [*]; done), by repeat (first | exact Drawn0.refl _ | apply Drawn0.step)⟩

mutual
def impl_Front_keys.j0 : Nat → Bool → Int → List Int → List ByteArray → Option (List ByteArray × Bool)
 | 0, _, _, _, _ => none
 | k + 1, x35, x1000, x1001, x1002 => if x35 = true then (some (([] : List ByteArray), false)) else (impl_Front_keys.l0 k (([] : List ByteArray)) (⟨#[]⟩ : ByteArray) x1001 (x1001.length : Int) 0 x1000 x1001 x1002)
def impl_Front_keys.l0 : Nat → List ByteArray → ByteArray → List Int → Int → Int → Int → List Int → List ByteArray → Option (List ByteArray × Bool)
 | 0, _, _, _, _, _, _, _, _ => none
 | k + 1, x4, x5, x40, x41, x42, x1000, x1001, x1002 => if x42 < x41 then (if 0 ≤ x42 then (if x42 < (x40.length : Int) then ((impl_in.f (rd x40 x42) 0 (x5.size : Int)).bind fun t299 => (if t299 = true then (if x42 < (x1002.length : Int) then (if ((rdOf ByteArray.empty x1002 x42).size : Int) > 12 then (some (([] : List ByteArray), false)) else (if 0 ≤ (rd x40 x42) then (if (rd x40 x42) ≤ (x5.size : Int) then (if (x5.extract 0 ((rd x40 x42) : Int).toNat).size + (rdOf ByteArray.empty x1002 x42).size ≤ 9223372036854775807 then (if x4.length < 8796093022208 then (impl_Front_keys.l0 k (x4 ++ [(x5.extract 0 ((rd x40 x42) : Int).toNat) ++ (rdOf ByteArray.empty x1002 x42)]) ((x5.extract 0 ((rd x40 x42) : Int).toNat) ++ (rdOf ByteArray.empty x1002 x42)) x40 x41 (wrap64 (x42 + 1)) x1000 x1001 x1002) else (none)) else (none)) else (none)) else (none))) else (none)) else (some (([] : List ByteArray), false)))) else (none)) else (none)) else ((impl_AreKeys.f k x4).bind fun t305 => (if t305 = true then ((impl_front.f k x4 x1000).bind fun bt306 => ((slices_Equal_int_int.f k bt306.2.1 x1001).bind fun t314 => (if t314 = true then ((slices_Equal_string_string.f k bt306.2.2 x1002).bind fun t315 => (some (x4, t315))) else (some (x4, false))))) else (some (([] : List ByteArray), false))))
end
def impl_Front_keys.f (k : Nat) (a0_0 : Int) (l0_1 : List Int) (l0_2 : List ByteArray) : Option (List ByteArray × Bool) := (impl_in.f a0_0 1 16).bind fun t294 => (if t294 = true then (if (l0_1.length : Int) = (l0_2.length : Int) then (impl_Front_keys.j0 k (decide ((l0_2.length : Int) > 40)) a0_0 l0_1 l0_2) else (impl_Front_keys.j0 k true a0_0 l0_1 l0_2)) else (impl_Front_keys.j0 k true a0_0 l0_1 l0_2))
def impl_Front_keys.T1 : Bool × List (List Nat × List Nat) := (true, [([], []), ([0], [0]), ([1], [1]), ([2], [2]), ([3], [3]), ([4], [4]), ([5, 4], [5]), ([6], [6]), ([7, 6], [6, 7]), ([8, 6], [6, 8]), ([9, 6], [6, 9]), ([10, 6], [6, 10]), ([6], [6]), ([12, 6], [6, 12]), ([13, 6], [6, 13]), ([14, 6], [6, 14]), ([15, 6], [6, 15]), ([11, 16, 6], [6, 11, 16]), ([6, 17], [6, 17]), ([18, 6], [18]), ([19], [19]), ([20, 19], [19, 20]), ([21, 19], [19, 21]), ([22, 19], [19, 22]), ([23, 19], [19, 23]), ([24, 19], [19, 24]), ([19, 25], [19, 25])])
def impl_Front_keys.B1 : List Nat := [0, 1, 3, 7, 15, 31, 63, 127, 255, 511, 1023, 2047, 127, 4223, 12415, 28799, 61567, 131071, 262143, 524287, 1048575, 2097151, 4194303, 8388607, 16777215, 33554431, 67108863]
theorem impl_Front_keys.tab1 : rtab .any (opsOf Try.f52 1) = impl_Front_keys.T1 := by kernel_rfl
theorem impl_Front_keys.bits1 : waitsOk impl_Front_keys.T1.2 impl_Front_keys.B1 = true := by kernel_rfl
def impl_Front_keys.T9 : Bool × List (List Nat × List Nat) := (true, [([], []), ([], []), ([0, 1], [0, 1]), ([], []), ([3], [3]), ([4], [4]), ([5], [5]), ([], []), ([6, 7], [6, 7]), ([8], [8]), ([2, 9], [2, 9]), ([10, 0, 1, 2, 3, 4, 5, 6, 7, 8, 9, 10], [0, 10])])
def impl_Front_keys.B9 : List Nat := [0, 0, 3, 0, 8, 24, 56, 0, 248, 504, 1023, 2047]
theorem impl_Front_keys.tab9 : rtab .any (opsOf Try.f52 9) = impl_Front_keys.T9 := by kernel_rfl
theorem impl_Front_keys.bits9 : waitsOk impl_Front_keys.T9.2 impl_Front_keys.B9 = true := by kernel_rfl
def impl_Front_keys.T15 : Bool × List (List Nat × List Nat) := (true, [([], []), ([], []), ([1], [1]), ([], []), ([3], [3]), ([4], [4]), ([5], [5]), ([2, 6], [2, 6]), ([7, 7], [7]), ([8], [8]), ([9, 8], [8, 9]), ([8], [8]), ([11, 8], [8, 11]), ([12, 8], [8, 12]), ([13, 8], [8, 13]), ([10, 14, 8, 8], [8, 10, 14]), ([8, 15], [8, 15]), ([0, 15, 0], [0]), ([16, 17, 0, 1, 2, 3, 4, 5, 6, 7, 8, 9, 10, 11, 12, 13, 14, 15, 16, 17], [16])])
def impl_Front_keys.B15 : List Nat := [0, 0, 2, 0, 8, 24, 56, 126, 254, 510, 1022, 510, 2558, 6654, 14846, 32766, 65534, 65535, 262143]
theorem impl_Front_keys.tab15 : rtab .any (opsOf Try.f52 15) = impl_Front_keys.T15 := by kernel_rfl
theorem impl_Front_keys.bits15 : waitsOk impl_Front_keys.T15.2 impl_Front_keys.B15 = true := by kernel_rfl
theorem impl_Front_keys.calls (k : Nat) (g0 : Nat) (a0_0 : Int) (A0_1 : Option Addr) (c0_1 : Nat) (l0_1 : List Int) (A0_2 : Option Addr) (c0_2 : Nat) (l0_2 : List ByteArray) (r1 : List ByteArray) (r2 : Bool) (w : World) (hb0 : w.heap[g0]? = some (.cells #[.int .i64 a0_0, .slice A0_1 l0_1.length c0_1, .slice A0_2 l0_2.length c0_2] 26 (0, 0))) (hr0_1 : Kd.C (Kd.int .i64) w A0_1 l0_1.length l0_1) (hc0_1 : l0_1.length ≤ c0_1) (hr0_2 : Kd.C Kd.string w A0_2 l0_2.length l0_2) (hc0_2 : l0_2.length ≤ c0_2) (h : impl_Front_keys.f k a0_0 l0_1 l0_2 = some (r1, r2)) :
  Calls Try.prog 52 #[.pointer (some ⟨g0, 0, none⟩)] w fun e w' => ∃ v0_ : Value, e = .returned (.tuple #[v0_, .bool r2]) ∧ Kd.R Kd.string 9 w' w.heap.size (fun _ => True) v0_ r1 ∧ Below w.heap.size w w' := by
 have hu26 := Try.underlying26; have HR0_1 := am hr0_1; have HC0_1 := am hc0_1; clear hr0_1 hc0_1; have HR0_2 := am hr0_2; have HC0_2 := am hc0_2; clear hr0_2 hc0_2; have BK0 := am hb0; clear hb0; have HB := am (Below.refl w.heap.size w); have H : ((impl_in.f a0_0 1 16).bind fun t294 => (if t294 = true then (if (l0_1.length : Int) = (l0_2.length : Int) then (impl_Front_keys.j0 k (decide ((l0_2.length : Int) > 40)) a0_0 l0_1 l0_2) else (impl_Front_keys.j0 k true a0_0 l0_1 l0_2)) else (impl_Front_keys.j0 k true a0_0 l0_1 l0_2))) = some (r1, r2) := h; clear h; have HC2 := am H; clear H
 go_enter Try.func52, Try.ntmps52
 go_upto_region 1 with (fail)
 go_cut [35] (fun v35 wc => ∃ (kq : Nat) (x35_1 : Bool), v35 = .bool x35_1 ∧ Aside0 (impl_Front_keys.j0 kq x35_1 a0_0 l0_1 l0_2 = some (r1, r2)) ∧ Aside0 (kq ≤ k) ∧ Aside0 (wc.heap[g0]? = some (.cells #[.int .i64 a0_0, (.slice A0_1 l0_1.length c0_1), (.slice A0_2 l0_2.length c0_2)] 26 (0, 0))) ∧ Aside0 (Below w.heap.size w wc))
 case first =>
  have H := HC2.out; clear HC2; obtain ⟨t294, A3, H⟩ := ob H; (try dsimp -simprocs only at H)
  by_cases c4 : t294 = true
  ·subst c4
   rw [if_pos rfl] at H
   by_cases c5 : (l0_1.length : Int) = (l0_2.length : Int)
   ·rw [if_pos c5] at H
    have c5b0 : ((l0_1.length : Int) == (l0_2.length : Int)) = true := beq_iff_eq.mpr c5; have c5b1 : ((l0_1.length : Int) != (l0_2.length : Int)) = false := bne_eq_false_iff_eq.mpr c5
    have c5b2 : (l0_1.length == l0_2.length) = true := by first | simpa using c5 | (simp at c5 ⊢; omega)
    clear c5
    (first | rw [c5b0] | (simp only [i64_w, i32_w]; rw [c5b0]) | skip)
    have H' := am H; clear H
    try go_wp2
    have n0_ := am (blk_drew BK0.out); have n1_ := am (below_drew1 HB.out); clear BK0 HB; revert n0_ n1_; intro BK0 HB; refine start_ (n := 27) (S := fun w' => w'.cell? ⟨g0, 0, none⟩ = some (.int .i64 a0_0) ∧ w'.cell? ⟨g0, 1, none⟩ = some (.slice A0_1 l0_1.length c0_1) ∧ w'.cell? ⟨g0, 2, none⟩ = some (.slice A0_2 l0_2.length c0_2)) (ds := []) (bA 27 0) (by kernel_rfl) rfl rfl ⟨cz BK0 0, cz BK0 1, cz BK0 2⟩ (fun hHeld => ?_); refine with_tabW impl_Front_keys.tab1 impl_Front_keys.bits1 (fun HT_ HW_ => ?_); generalize w.drew = w6 at BK0 HB hHeld ⊢; refine pZ 0 (some 9) (bA 27 1) HT_.out ?_; refine pZ 1 (some 10) (bA 27 3) HT_.out ?_; refine pZ 2 (some 11) (bA 27 7) HT_.out ?_; refine tZ3 3 (some 12) (bA 27 15) HT_.out HW_.out hHeld ?_; refine oZ 4 (some 13) (bA 27 31) HT_.out (fun K hK => ?_); refine gZ Try.func42 #[.int .i64 a0_0, .int .i64 1, .int .i64 16] ?_
    with_reducible refine (impl_in.calls a0_0 1 16 true _ A3.out).mono ?_
    rintro e w' ⟨rfl, ⟨nd, rfl⟩⟩; refine ⟨_, rfl, ?_⟩; refine hK.out _ _ ⟨cz BK0 0, cz BK0 1, cz BK0 2⟩ (fun hHeld => ?_); clear hK K; refine norm_ (a' := ?_) ?_ ?_; rotate_left; show Act.put _ (some 13) _ = _; simp only [aP, i64_w, i32_w]; rfl; refine pZ 5 (some 14) (bA 27 63) HT_.out ?_; refine pZ 6 (some 15) (bA 27 127) HT_.out ?_; refine pZ 7 (some 16) (bA 27 255) HT_.out ?_; refine pZ 8 (some 17) (bA 27 511) HT_.out ?_; refine pZ 9 (some 18) (bA 27 1023) HT_.out ?_; refine pZ 12 (some 21) (bA 27 5119) HT_.out ?_; refine pZ 13 (some 22) (bA 27 13311) HT_.out ?_; refine pZ 14 (some 23) (bA 27 29695) HT_.out ?_; refine tZ3 10 (some 19) (bA 27 30719) HT_.out HW_.out hHeld ?_; refine pZ 11 (some 20) (bA 27 32767) HT_.out ?_; refine tZ3 15 (some 24) (bA 27 65535) HT_.out HW_.out hHeld ?_; refine pZ 16 (some 25) (bA 27 131071) HT_.out ?_; refine pZ 17 (some 26) (bA 27 262143) HT_.out ?_; refine pZ 18 (some 27) (bA 27 524287) HT_.out ?_; refine pZ 19 (some 28) (bA 27 1048575) HT_.out ?_; refine pZ 20 (some 29) (bA 27 2097151) HT_.out ?_; refine pZ 21 (some 30) (bA 27 4194303) HT_.out ?_; refine pZ 22 (some 31) (bA 27 8388607) HT_.out ?_; refine tZ3 23 (some 32) (bA 27 16777215) HT_.out HW_.out hHeld ?_; refine pZ 24 (some 33) (bA 27 33554431) HT_.out ?_; refine pZ 25 (some 34) (bA 27 67108863) HT_.out ?_; refine pZ 26 (some 35) (bA 27 134217727) HT_.out ?_; refine done_ (done_of HT_.out (by kernel_rfl)) ?_
    try go_wp2
    go_meet
    case rel => exact ⟨_, (decide ((l0_2.length : Int) > 40)), wZ, H', ⟨by first | omega | exact Nat.le_refl _⟩, ⟨Kz BK0.out⟩, ⟨Bq⟩⟩
   ·rw [if_neg c5] at H
    have c5b0 : ((l0_1.length : Int) == (l0_2.length : Int)) = false := beq_eq_false_iff_ne.mpr c5; have c5b1 : ((l0_1.length : Int) != (l0_2.length : Int)) = true := bne_iff_ne.mpr c5
    have c5b2 : (l0_1.length == l0_2.length) = false := by first | simpa using c5 | (simp at c5 ⊢; omega)
    (first | rw [c5b0] | (simp only [i64_w, i32_w]; rw [c5b0]) | skip)
    have H' := am H; clear H
    try go_wp2
    have n0_ := am (blk_drew BK0.out); have n1_ := am (below_drew1 HB.out); clear BK0 HB; revert n0_ n1_; intro BK0 HB; refine start_ (n := 27) (S := fun w' => w'.cell? ⟨g0, 0, none⟩ = some (.int .i64 a0_0) ∧ w'.cell? ⟨g0, 1, none⟩ = some (.slice A0_1 l0_1.length c0_1) ∧ w'.cell? ⟨g0, 2, none⟩ = some (.slice A0_2 l0_2.length c0_2)) (ds := []) (bA 27 0) (by kernel_rfl) rfl rfl ⟨cz BK0 0, cz BK0 1, cz BK0 2⟩ (fun hHeld => ?_); refine with_tabW impl_Front_keys.tab1 impl_Front_keys.bits1 (fun HT_ HW_ => ?_); generalize w.drew = w7 at BK0 HB hHeld ⊢; refine pZ 0 (some 9) (bA 27 1) HT_.out ?_; refine pZ 1 (some 10) (bA 27 3) HT_.out ?_; refine pZ 2 (some 11) (bA 27 7) HT_.out ?_; refine tZ3 3 (some 12) (bA 27 15) HT_.out HW_.out hHeld ?_; refine oZ 4 (some 13) (bA 27 31) HT_.out (fun K hK => ?_); refine gZ Try.func42 #[.int .i64 a0_0, .int .i64 1, .int .i64 16] ?_
    with_reducible refine (impl_in.calls a0_0 1 16 true _ A3.out).mono ?_
    rintro e w' ⟨rfl, ⟨nd, rfl⟩⟩; refine ⟨_, rfl, ?_⟩; refine hK.out _ _ ⟨cz BK0 0, cz BK0 1, cz BK0 2⟩ (fun hHeld => ?_); clear hK K; refine norm_ (a' := ?_) ?_ ?_; rotate_left; show Act.put _ (some 13) _ = _; simp only [aP, i64_w, i32_w]; rfl; refine pZ 5 (some 14) (bA 27 63) HT_.out ?_; refine pZ 6 (some 15) (bA 27 127) HT_.out ?_; refine pZ 7 (some 16) (bA 27 255) HT_.out ?_; refine pZ 8 (some 17) (bA 27 511) HT_.out ?_; refine pZ 9 (some 18) (bA 27 1023) HT_.out ?_; refine pZ 12 (some 21) (bA 27 5119) HT_.out ?_; refine pZ 13 (some 22) (bA 27 13311) HT_.out ?_; refine pZ 14 (some 23) (bA 27 29695) HT_.out ?_; refine tZ3 10 (some 19) (bA 27 30719) HT_.out HW_.out hHeld ?_; refine pZ 11 (some 20) (bA 27 32767) HT_.out ?_; refine tZ3 15 (some 24) (bA 27 65535) HT_.out HW_.out hHeld ?_; refine pZ 16 (some 25) (bA 27 131071) HT_.out ?_; refine pZ 17 (some 26) (bA 27 262143) HT_.out ?_; refine pZ 18 (some 27) (bA 27 524287) HT_.out ?_; refine pZ 19 (some 28) (bA 27 1048575) HT_.out ?_; refine sZ 20 (some 29) (bA 27 2097151) HT_.out ?_; refine sZ 21 (some 30) (bA 27 4194303) HT_.out ?_; refine sZ 22 (some 31) (bA 27 8388607) HT_.out ?_; refine sZ 23 (some 32) (bA 27 16777215) HT_.out ?_; refine sZ 24 (some 33) (bA 27 33554431) HT_.out ?_; refine sZ 25 (some 34) (bA 27 67108863) HT_.out ?_; refine pZ 26 (some 35) (bA 27 134217727) HT_.out ?_; refine done_ (done_of HT_.out (by kernel_rfl)) ?_
    try go_wp2
    go_meet
    case rel => exact ⟨_, (true), wZ, H', ⟨by first | omega | exact Nat.le_refl _⟩, ⟨Kz BK0.out⟩, ⟨Bq⟩⟩
  ·replace c4 := Bool.eq_false_iff.mpr c4
   subst c4
   rw [if_neg (show ¬ (false = true) by decide)] at H; have H' := am H; clear H
   try go_wp2
   have n0_ := am (blk_drew BK0.out); have n1_ := am (below_drew1 HB.out); clear BK0 HB; revert n0_ n1_; intro BK0 HB; refine start_ (n := 27) (S := fun w' => w'.cell? ⟨g0, 0, none⟩ = some (.int .i64 a0_0) ∧ w'.cell? ⟨g0, 1, none⟩ = some (.slice A0_1 l0_1.length c0_1) ∧ w'.cell? ⟨g0, 2, none⟩ = some (.slice A0_2 l0_2.length c0_2)) (ds := []) (bA 27 0) (by kernel_rfl) rfl rfl ⟨cz BK0 0, cz BK0 1, cz BK0 2⟩ (fun hHeld => ?_); refine with_tabW impl_Front_keys.tab1 impl_Front_keys.bits1 (fun HT_ HW_ => ?_); generalize w.drew = w8 at BK0 HB hHeld ⊢; refine pZ 0 (some 9) (bA 27 1) HT_.out ?_; refine pZ 1 (some 10) (bA 27 3) HT_.out ?_; refine pZ 2 (some 11) (bA 27 7) HT_.out ?_; refine tZ3 3 (some 12) (bA 27 15) HT_.out HW_.out hHeld ?_; refine oZ 4 (some 13) (bA 27 31) HT_.out (fun K hK => ?_); refine gZ Try.func42 #[.int .i64 a0_0, .int .i64 1, .int .i64 16] ?_
   with_reducible refine (impl_in.calls a0_0 1 16 false _ A3.out).mono ?_
   rintro e w' ⟨rfl, ⟨nd, rfl⟩⟩; refine ⟨_, rfl, ?_⟩; refine hK.out _ _ ⟨cz BK0 0, cz BK0 1, cz BK0 2⟩ (fun hHeld => ?_); clear hK K; refine norm_ (a' := ?_) ?_ ?_; rotate_left; show Act.put _ (some 13) _ = _; simp only [aP, i64_w, i32_w]; rfl; refine pZ 5 (some 14) (bA 27 63) HT_.out ?_; refine pZ 6 (some 15) (bA 27 127) HT_.out ?_; refine sZ 7 (some 16) (bA 27 255) HT_.out ?_; refine sZ 8 (some 17) (bA 27 511) HT_.out ?_; refine sZ 9 (some 18) (bA 27 1023) HT_.out ?_; refine sZ 10 (some 19) (bA 27 2047) HT_.out ?_; refine sZ 11 (some 20) (bA 27 4095) HT_.out ?_; refine sZ 12 (some 21) (bA 27 8191) HT_.out ?_; refine sZ 13 (some 22) (bA 27 16383) HT_.out ?_; refine sZ 14 (some 23) (bA 27 32767) HT_.out ?_; refine sZ 15 (some 24) (bA 27 65535) HT_.out ?_; refine sZ 16 (some 25) (bA 27 131071) HT_.out ?_; refine sZ 17 (some 26) (bA 27 262143) HT_.out ?_; refine pZ 18 (some 27) (bA 27 524287) HT_.out ?_; refine pZ 19 (some 28) (bA 27 1048575) HT_.out ?_; refine sZ 20 (some 29) (bA 27 2097151) HT_.out ?_; refine sZ 21 (some 30) (bA 27 4194303) HT_.out ?_; refine sZ 22 (some 31) (bA 27 8388607) HT_.out ?_; refine sZ 23 (some 32) (bA 27 16777215) HT_.out ?_; refine sZ 24 (some 33) (bA 27 33554431) HT_.out ?_; refine sZ 25 (some 34) (bA 27 67108863) HT_.out ?_; refine pZ 26 (some 35) (bA 27 134217727) HT_.out ?_; refine done_ (done_of HT_.out (by kernel_rfl)) ?_
   try go_wp2
   go_meet
   case rel => exact ⟨_, (true), wZ, H', ⟨by first | omega | exact Nat.le_refl _⟩, ⟨Kz BK0.out⟩, ⟨Bq⟩⟩
 case rest =>
  clear HC2
  try clear p2
  try clear c4
  try clear c5
  try clear c5b0
  try clear c5b1
  try clear c5b2
  obtain ⟨kq, x35_1, rfl, HA, HJ1, BK0, HB⟩ := hcut; cases kq with
  | zero => exact absurd HA.out (by simp [impl_Front_keys.j0])
  | succ kj1 =>
   have H := HA.out; clear HA
   simp only [impl_Front_keys.j0] at H
   by_cases c9 : x35_1 = true
   ·subst c9
    rw [if_pos rfl] at H
    simp only [Option.some.injEq, Prod.mk.injEq] at H
    obtain ⟨rfl, rfl⟩ := H
    go_wp2
    go_ret2
    exact ⟨_, eZ, nZ, Bq⟩
   ·replace c9 := Bool.eq_false_iff.mpr c9
    subst c9
    rw [if_neg (show ¬ (false = true) by decide)] at H; obtain ⟨y295, hy295⟩ : ∃ y_ : List ByteArray, y_ = (([] : List ByteArray)) := ⟨_, rfl⟩
    replace H : (impl_Front_keys.l0 kj1 y295 (⟨#[]⟩ : ByteArray) l0_1 (l0_1.length : Int) 0 a0_0 l0_1 l0_2) = some (r1, r2) := by first | (rw [hy295]; with_reducible exact H) | (have H2_ := (Option.bind_some _ _).symm.trans H; rw [hy295]; with_reducible exact H2_) | (have H2_ := (Option.bind_some _ _).symm.trans H; with_reducible exact H2_) | with_reducible exact H | (rw [hy295]; exact H) | exact H
    have Ny295 := am hy295; clear hy295; have H' := am H; clear H
    go_wp2_with (first | ((with_reducible refine gate_dst (N := 36) rfl ?_); (try (refine gate_guard (by rfl) ?_; dsimp only)); refine Kd.R_lit Kd.string _ 9 ?hg (N := 36) ?hd (xs := ([] : List ByteArray)) (inner := []) (ok := fun _ => True) (okp := fun _ => True) ?hr ?hp (fun _ hk => hk) trivial (Below.refl _ _) (Nat.le_refl _) (by simp) ?_; (case hd => rfl); (case hg => rfl); (case hr => first | (go_simp; done) | (go_simp; rfl)); (case hp => exact (Reps.none _ _)); intro v296 w10 ho11 hb hg_ hnew_; clear hg_ hnew_; (first | rw [← Ny295.out] at ho11 | (simp only [Int.reduceToNat] at ho11; rw [← Ny295.out] at ho11)); have n0_ := Rm ho11 HB; have n1_ := Kb BK0 hb; have n2_ := Bc HB hb; clear BK0 HB; revert n0_ n1_ n2_; intro HO297 BK0 HB; clear hb ho11; obtain ⟨hcz12_0, hcz12_1, hcz12_2, hfz12_0, hfz12_1, hfz12_2⟩ := cf3 (w := w10) BK0))
    (try simp only [aP])
    go_loopg [4, 5, 42] kj1 (fun kq v4 v5 v42 w' => ∃ (x4_2 : List ByteArray) (x5_2 : ByteArray) (x42_2 : Int), v5 = .string x5_2 ∧ v42 = .int .i64 x42_2 ∧ Aside0 (impl_Front_keys.l0 kq x4_2 x5_2 l0_1 (l0_1.length : Int) x42_2 a0_0 l0_1 l0_2 = some (r1, r2)) ∧ Aside0 (kq ≤ kj1) ∧ Aside0 (Kd.R Kd.string 9 w' w.heap.size (fun _ => True) v4 x4_2) ∧ Aside0 (w'.heap[g0]? = some (.cells #[.int .i64 a0_0, (.slice A0_1 l0_1.length c0_1), (.slice A0_2 l0_2.length c0_2)] 26 (0, 0))) ∧ Aside0 (Below w.heap.size w w'))
    case atStart => exact ⟨(y295), ((⟨#[]⟩ : ByteArray)), (0), wZ, wZ, H', ⟨Nat.le_refl _⟩, ⟨Rz HO297.out⟩, ⟨Kz BK0.out⟩, ⟨Bq⟩⟩
    case round =>
     clear H'
     try clear p2
     try clear c4
     try clear c5
     try clear c5b0
     try clear c5b1
     try clear c5b2
     try clear c9
     try clear p2
     obtain ⟨x4_2, x5_2, x42_2, rfl, rfl, HA, HK2, HO_4, BK0, HB⟩ := hrel; cases gk with
     | zero => exact absurd HA.out (by simp [impl_Front_keys.l0])
     | succ k2 =>
      have H := HA.out; clear HA
      simp only [impl_Front_keys.l0] at H
      by_cases c13 : x42_2 < (l0_1.length : Int)
      ·rw [if_pos c13] at H
       have c13b0 : decide (x42_2 < (l0_1.length : Int)) = true := decide_eq_true c13; clear c13
       by_cases c14 : 0 ≤ x42_2
       ·rw [if_pos c14] at H
        have c14b0 : decide (0 ≤ x42_2) = true := decide_eq_true c14; clear c14
        by_cases c15 : x42_2 < (l0_1.length : Int)
        ·rw [if_pos c15] at H
         have c15b0 : decide (x42_2 < (l0_1.length : Int)) = true := decide_eq_true c15; clear c15; obtain ⟨t299, A16, H⟩ := ob H; (try dsimp -simprocs only at H)
         by_cases c17 : t299 = true
         ·subst c17
          rw [if_pos rfl] at H
          by_cases c18 : x42_2 < (l0_2.length : Int)
          ·rw [if_pos c18] at H
           have c18b0 : decide (x42_2 < (l0_2.length : Int)) = true := decide_eq_true c18; clear c18
           by_cases c19 : ((rdOf ByteArray.empty l0_2 x42_2).size : Int) > 12
           ·rw [if_pos c19] at H
            have c19b0 : decide (12 < ((rdOf ByteArray.empty l0_2 x42_2).size : Int)) = true := decide_eq_true c19; have c19b1 : decide (12 < (rdOf ByteArray.empty l0_2 x42_2).size) = true := decide_eq_true (by omega); clear c19
            simp only [Option.some.injEq, Prod.mk.injEq] at H
            obtain ⟨rfl, rfl⟩ := H; have p298 : 0 ≤ (x42_2 : Int) := dT; have q298 : x42_2 < (l0_1.length : Int) := dT; obtain ⟨ad298, e298, hx298_0⟩ := Kd.at_int HR0_1.out x42_2 p298 q298; cases e298; replace hx298_0 := (HB.out.cell (World.block_lt_of_cell? w _ hx298_0)).trans hx298_0; replace p298 := eq_true p298; replace q298 := eq_true q298
            go_wp2_with (first | ((with_reducible refine gate_callee (f := 42) rfl ?_); refine gL (some 50) Try.func42 #[.int .i64 (rd l0_1 x42_2), .int .i64 0, .int .i64 (x5_2.size : Int)] ?_; (with_reducible refine (impl_in.calls (rd l0_1 x42_2) 0 (x5_2.size : Int) true _ A16.out).mono ?_); rintro e w' ⟨rfl, ⟨nd, rfl⟩⟩; refine ⟨_, rfl, ?_⟩; obtain ⟨hcz20_0, hcz20_1, hcz20_2, hfz20_0, hfz20_1, hfz20_2⟩ := cf3 (w := wr) BK0; have p300 : 0 ≤ (x42_2 : Int) := dT; have q300 : x42_2 < (l0_2.length : Int) := dT; obtain ⟨ad300, e300, hx300_0⟩ := Kd.at_string HR0_2.out x42_2 p300 q300; cases e300; replace hx300_0 := (HB.out.cell (World.block_lt_of_cell? w _ hx300_0)).trans hx300_0; replace p300 := eq_true p300; replace q300 := eq_true q300))
            go_ret2
            exact ⟨_, eZ, nZ, Bq⟩
           ·rw [if_neg c19] at H
            have c19b0 : decide (12 < ((rdOf ByteArray.empty l0_2 x42_2).size : Int)) = false := decide_eq_false c19; have c19b1 : decide (12 < (rdOf ByteArray.empty l0_2 x42_2).size) = false := decide_eq_false (by omega); clear c19
            by_cases c21 : 0 ≤ (rd l0_1 x42_2)
            ·rw [if_pos c21] at H
             have c21b0 := eq_true c21; have c21b1 : decide (0 ≤ (rd l0_1 x42_2)) = true := decide_eq_true c21; clear c21
             by_cases c22 : (rd l0_1 x42_2) ≤ (x5_2.size : Int)
             ·rw [if_pos c22] at H
              have c22b0 := eq_true c22; have c22b1 : decide ((rd l0_1 x42_2) ≤ (x5_2.size : Int)) = true := decide_eq_true c22; clear c22
              by_cases c23 : (x5_2.extract 0 ((rd l0_1 x42_2) : Int).toNat).size + (rdOf ByteArray.empty l0_2 x42_2).size ≤ 9223372036854775807
              ·rw [if_pos c23] at H
               have c23b0 := eq_true c23; have c23b1 : decide ((x5_2.extract 0 ((rd l0_1 x42_2) : Int).toNat).size + (rdOf ByteArray.empty l0_2 x42_2).size ≤ 9223372036854775807) = true := decide_eq_true c23
               try have c23b2 : (9223372036854775807 < (x5_2.extract 0 ((rd l0_1 x42_2) : Int).toNat).size + (rdOf ByteArray.empty l0_2 x42_2).size) = False := eq_false (Nat.not_lt.2 c23)
               (try (have c23b3 := c23b2; simp only [ByteArray.size_extract, Int.toNat_natCast] at c23b3))
               (try (have c23b4 := c23b2; rw [ByteArray.size_extract, Nat.min_eq_left (Int.toNat_le.2 dT), Nat.sub_zero] at c23b4))
               by_cases c24 : x4_2.length < 8796093022208
               ·rw [if_pos c24] at H
                have LMc24 := am c24; clear c24; obtain ⟨y302, hy302⟩ : ∃ y_ : List ByteArray, y_ = (x4_2 ++ [(x5_2.extract 0 ((rd l0_1 x42_2) : Int).toNat) ++ (rdOf ByteArray.empty l0_2 x42_2)]) := ⟨_, rfl⟩
                replace H : (impl_Front_keys.l0 k2 y302 ((x5_2.extract 0 ((rd l0_1 x42_2) : Int).toNat) ++ (rdOf ByteArray.empty l0_2 x42_2)) l0_1 (l0_1.length : Int) (wrap64 (x42_2 + 1)) a0_0 l0_1 l0_2) = some (r1, r2) := by first | (rw [hy302]; with_reducible exact H) | (have H2_ := (Option.bind_some _ _).symm.trans H; rw [hy302]; with_reducible exact H2_) | (have H2_ := (Option.bind_some _ _).symm.trans H; with_reducible exact H2_) | with_reducible exact H | (rw [hy302]; exact H) | exact H
                have Ny302 := am hy302; clear hy302; have H' := am H; clear H; have p298 : 0 ≤ (x42_2 : Int) := dT; have q298 : x42_2 < (l0_1.length : Int) := dT; obtain ⟨ad298, e298, hx298_0⟩ := Kd.at_int HR0_1.out x42_2 p298 q298; cases e298; replace hx298_0 := (HB.out.cell (World.block_lt_of_cell? w _ hx298_0)).trans hx298_0; replace p298 := eq_true p298; replace q298 := eq_true q298
                try go_wp2_with (first | ((with_reducible refine gate_callee (f := 42) rfl ?_); refine gL (some 50) Try.func42 #[.int .i64 (rd l0_1 x42_2), .int .i64 0, .int .i64 (x5_2.size : Int)] ?_; (with_reducible refine (impl_in.calls (rd l0_1 x42_2) 0 (x5_2.size : Int) true _ A16.out).mono ?_); rintro e w' ⟨rfl, ⟨nd, rfl⟩⟩; refine ⟨_, rfl, ?_⟩; obtain ⟨hcz25_0, hcz25_1, hcz25_2, hfz25_0, hfz25_1, hfz25_2⟩ := cf3 (w := wr) BK0; have p300 : 0 ≤ (x42_2 : Int) := dT; have q300 : x42_2 < (l0_2.length : Int) := dT; obtain ⟨ad300, e300, hx300_0⟩ := Kd.at_string HR0_2.out x42_2 p300 q300; cases e300; replace hx300_0 := (HB.out.cell (World.block_lt_of_cell? w _ hx300_0)).trans hx300_0; replace p300 := eq_true p300; replace q300 := eq_true q300))
                (try (rw [drewN_self wr]; generalize hq_ : World.drewN wr _ = wr; have n0_ : Aside0 (Kd.R Kd.string 9 wr w.heap.size (fun _ => True) u4 x4_2) := ⟨by rw [← hq_]; exact (Rz HO_4.out)⟩; have n1_ : Aside0 (wr.heap[g0]? = some (.cells #[.int .i64 a0_0, .slice (some ad298) l0_1.length c0_1, .slice (some ad300) l0_2.length c0_2] 26 (0, 0))) := ⟨by rw [← hq_]; exact (Kz BK0.out)⟩; have n2_ : Aside0 (Below w.heap.size w wr) := ⟨by rw [← hq_]; exact (Bq)⟩; clear HO_4 BK0 HB hq_; revert n0_ n1_ n2_; intro HO_4 BK0 HB))
                have n0_ := am (Kd.R_drew HO_4.out); have n1_ := am (blk_drew BK0.out); have n2_ := am (below_drew1 HB.out); clear HO_4 BK0 HB; revert n0_ n1_ n2_; intro HO_4 BK0 HB; have p301 : 0 ≤ (x42_2 : Int) := dT; have q301 : x42_2 < (l0_2.length : Int) := dT; obtain ⟨ad301, e301, hx301_0⟩ := Kd.at_string HR0_2.out x42_2 p301 q301; have hw301_0 := hx301_0; obtain rfl : ad300 = ad301 := (by injection e301); replace hx301_0 := (HB.out.cell (World.block_lt_of_cell? w _ hx301_0)).trans hx301_0; replace p301 := eq_true p301; replace q301 := eq_true q301; refine start_ (n := 12) (S := fun w' => w'.cell? ⟨g0, 0, none⟩ = some (.int .i64 a0_0) ∧ w'.cell? ⟨g0, 1, none⟩ = some (.slice (some ad298) l0_1.length c0_1) ∧ w'.cell? ⟨g0, 2, none⟩ = some (.slice (some ad300) l0_2.length c0_2) ∧ w'.cell? (ad300.add (x42_2).toNat) = some (.string (rdOf ByteArray.empty l0_2 x42_2))) (ds := []) (bA 12 0) (by kernel_rfl) rfl rfl ⟨cz BK0 0, cz BK0 1, cz BK0 2, ((HB.out.cell (World.block_lt_of_cell? w _ hw301_0)).trans hw301_0)⟩ (fun hHeld => ?_); refine with_tabW impl_Front_keys.tab9 impl_Front_keys.bits9 (fun HT_ HW_ => ?_); generalize wr.drew = w26 at HO_4 BK0 HB hx301_0 hHeld ⊢; refine pZ 0 (some 63) (bA 12 1) HT_.out ?_; refine pZ 1 (some 64) (bA 12 3) HT_.out ?_; refine pZ 2 (some 65) (bA 12 7) HT_.out ?_; refine pZ 3 (some 66) (bA 12 15) HT_.out ?_; refine pZ 4 (some 67) (bA 12 31) HT_.out ?_; refine pZ 5 (some 68) (bA 12 63) HT_.out ?_; refine pZ 7 (some 70) (bA 12 191) HT_.out ?_; refine tZ4 6 (some 69) (bA 12 255) HT_.out HW_.out hHeld ?_; refine pZ 8 (some 71) (bA 12 511) HT_.out ?_; refine tZ4 9 (some 72) (bA 12 1023) HT_.out HW_.out hHeld ?_; refine pZ 10 (some 73) (bA 12 2047) HT_.out ?_; refine pZ 11 (some 5) (bA 12 4095) HT_.out ?_; refine done_ (done_of HT_.out (by kernel_rfl)) ?_
                try go_wp2_with (first | ((with_reducible refine gate_builtin (b := .append) (xs := #[.tmp 74, .tmp 76]) rfl ?_); (try (refine gate_guard (by rfl) ?_; dsimp only)); at_builtin; refine Kd.R_append Kd.string (w0 := w) w.heap.size rfl (.tmp 74) (.tmp 76) 22 9 (.string ⟨#[]⟩) 16 rfl Try.underlying22 info9 rfl (by decide) (by omega) u4 x4_2 ((x5_2.extract 0 ((rd l0_1 x42_2) : Int).toNat) ++ (rdOf ByteArray.empty l0_2 x42_2)) [.string ((x5_2.extract 0 ((rd l0_1 x42_2) : Int).toNat) ++ (rdOf ByteArray.empty l0_2 x42_2))] (fun _ => True) (fun _ => False) rfl rfl ?aP (fun _ hk => hk.elim) ?aF ?aO ?aB ?aS ?aL ?_; (case aP => exact rfl); (case aB => exact (Bq)); (case aF => exact (fun _ _ => trivial)); (case aO => exact (Rz HO_4.out)); (case aS => exact (below_size (w := w) (Bq))); (case aL => have := LMc24.out; omega); intro v303 w27 ho hb hg hat; rw [← Ny302.out] at ho; have n0_ := am (blk_grown (g := g0) (o := .cells #[.int .i64 a0_0, .slice (some ad298) l0_1.length c0_1, .slice (some ad300) l0_2.length c0_2] 26 (0, 0)) (Kz BK0.out) hg (Kd.R_ne HO_4.out BK0.out (by decide))); have n1_ := am (hb); have n2_ := am (ho); clear BK0 HB HO_4; revert n0_ n1_ n2_; intro BK0 HB HO304; clear ho hb hg hat))
                go_roundg k2
                case measure => have := HJ1.out; have := HK2.out; omega
                case rel => exact ⟨(y302), ((x5_2.extract 0 ((rd l0_1 x42_2) : Int).toNat) ++ (rdOf ByteArray.empty l0_2 x42_2)), (wrap64 (x42_2 + 1)), wZ, wZ, H', ⟨by have := HJ1.out; have := HK2.out; omega⟩, ⟨Rz HO304.out⟩, ⟨Kz BK0.out⟩, ⟨Bq⟩⟩
               ·rw [if_neg c24] at H
                exact absurd H (by simp)
              ·rw [if_neg c23] at H
               exact absurd H (by simp)
             ·rw [if_neg c22] at H
              exact absurd H (by simp)
            ·rw [if_neg c21] at H
             exact absurd H (by simp)
          ·rw [if_neg c18] at H
           exact absurd H (by simp)
         ·replace c17 := Bool.eq_false_iff.mpr c17
          subst c17
          rw [if_neg (show ¬ (false = true) by decide)] at H
          simp only [Option.some.injEq, Prod.mk.injEq] at H
          obtain ⟨rfl, rfl⟩ := H; have p298 : 0 ≤ (x42_2 : Int) := dT; have q298 : x42_2 < (l0_1.length : Int) := dT; obtain ⟨ad298, e298, hx298_0⟩ := Kd.at_int HR0_1.out x42_2 p298 q298; cases e298; replace hx298_0 := (HB.out.cell (World.block_lt_of_cell? w _ hx298_0)).trans hx298_0; replace p298 := eq_true p298; replace q298 := eq_true q298
          go_wp2_with (first | ((with_reducible refine gate_callee (f := 42) rfl ?_); refine gL (some 50) Try.func42 #[.int .i64 (rd l0_1 x42_2), .int .i64 0, .int .i64 (x5_2.size : Int)] ?_; (with_reducible refine (impl_in.calls (rd l0_1 x42_2) 0 (x5_2.size : Int) false _ A16.out).mono ?_); rintro e w' ⟨rfl, ⟨nd, rfl⟩⟩; refine ⟨_, rfl, ?_⟩))
          go_ret2
          exact ⟨_, eZ, nZ, Bq⟩
        ·rw [if_neg c15] at H
         exact absurd H (by simp)
       ·rw [if_neg c14] at H
        exact absurd H (by simp)
      ·rw [if_neg c13] at H
       have c13b0 : decide (x42_2 < (l0_1.length : Int)) = false := decide_eq_false c13; clear c13; obtain ⟨t305, A28, H⟩ := ob H; (try dsimp -simprocs only at H)
       by_cases c29 : t305 = true
       ·subst c29
        rw [if_pos rfl] at H; obtain ⟨⟨t306, t307, t310⟩, A30, H⟩ := ob H; (try dsimp -simprocs only at H); obtain ⟨t314, A31, H⟩ := ob H; (try dsimp -simprocs only at H)
        by_cases c32 : t314 = true
        ·subst c32
         rw [if_pos rfl] at H; obtain ⟨t315, A33, H⟩ := ob H; (try dsimp -simprocs only at H)
         simp only [Option.some.injEq, Prod.mk.injEq] at H
         obtain ⟨rfl, rfl⟩ := H; obtain ⟨Ao34, co34, eo34⟩ := Kd.R_slice HO_4.out; subst eo34
         try go_wp2_with (first | ((with_reducible refine gate_callee (f := 41) rfl ?_); refine gL (some 80) Try.func41 #[.slice Ao34 x4_2.length co34] ?_; (with_reducible refine (impl_AreKeys.calls k2 _ _ x4_2 true _ ?side1 ?side2 A28.out).mono ?_); (case side1 => exact Cz ((Kd.R_reads' HO_4.out).2.2)); (case side2 => exact (Kd.R_reads' HO_4.out).2.1); rintro e w' ⟨rfl, ⟨nd, rfl⟩⟩; refine ⟨_, rfl, ?_⟩; (try (rw [drewN_self wr]; generalize hq_ : World.drewN wr _ = wr; have n0_ : Aside0 (Kd.R Kd.string 9 wr w.heap.size (fun _ => True) (.slice Ao34 x4_2.length co34) x4_2) := ⟨by rw [← hq_]; exact (Rz HO_4.out)⟩; have n1_ : Aside0 (wr.heap[g0]? = some (.cells #[.int .i64 a0_0, .slice A0_1 l0_1.length c0_1, .slice A0_2 l0_2.length c0_2] 26 (0, 0))) := ⟨by rw [← hq_]; exact (Kz BK0.out)⟩; have n2_ : Aside0 (Below w.heap.size w wr) := ⟨by rw [← hq_]; exact (Bq)⟩; clear HO_4 BK0 HB hq_; revert n0_ n1_ n2_; intro HO_4 BK0 HB)); obtain ⟨hcz35_0, hcz35_1, hcz35_2, hfz35_0, hfz35_1, hfz35_2⟩ := cf3 (w := wr) BK0) | ((with_reducible refine gate_callee (f := 43) rfl ?_); refine gL (some 87) Try.func43 #[.slice Ao34 x4_2.length co34, .int .i64 a0_0] ?_; (with_reducible refine (impl_front.calls k2 _ _ x4_2 a0_0 t306 t307 t310 _ ?side1 ?side2 A30.out).mono ?_); (case side1 => exact Cz ((Kd.R_reads' HO_4.out).2.2)); (case side2 => exact (Kd.R_reads' HO_4.out).2.1); rintro e w36 ⟨v308, v311, rfl, ho0, ho1, hb⟩; refine ⟨_, rfl, ?_⟩; have n0_ := Re HO_4 (Kd.R_base ho1) hb; have n1_ := Rm ho0 HB; have n2_ := Rm (Kd.R_new' ho1 (Kd.R_lt (Rz HO_4.out))) HB; have n3_ := Kb BK0 hb; have n4_ := Bc HB hb; clear HO_4 BK0 HB; revert n0_ n1_ n2_ n3_ n4_; intro HO_4 HO309 HO312 BK0 HB; (try clear hb); (try clear hb2); (try clear hk); (try clear hi); (try clear ho0); (try clear ho1)) | ((with_reducible refine gate_dst (N := 8) rfl ?_); (try (refine gate_guard (by rfl) ?_; dsimp only)); refine bE 8 #[.int .i64 0, .slice none 0 0, .slice none 0 0] 26 ?_; intro gb313 hg w37 hbox hb; have n0_ := Rb HO_4 hb; have n1_ := Rb HO309 hb; have n2_ := Rb HO312 hb; have n3_ := Kb BK0 hb; have n4_ := Bc HB hb; have n5_ := am (hbox); have n6_ := Gm HB hg; have n7_ := Gm HB hg; have n8_ := Nl BK0 hg; have n9_ := Ng BK0 hg; clear HO_4 HO309 HO312 BK0 HB; revert n0_ n1_ n2_ n3_ n4_ n5_ n6_ n7_ n8_ n9_; intro HO_4 HO309 HO312 BK0 HB BK313 GW313 GE313 NB0_313 NB313_0; clear hb hbox hg; have hnb38 := NB313_0.out; have hnc38 := NB0_313.out; obtain ⟨hcz39_0, hcz39_1, hcz39_2, hfz39_0, hfz39_1, hfz39_2⟩ := cf3 (w := w37) BK313; obtain ⟨Ao40, co40, eo40⟩ := Kd.R_slice HO309.out; subst eo40; obtain ⟨Ao41, co41, eo41⟩ := Kd.R_slice HO312.out; subst eo41))
         have n0_ : Aside0 (Kd.R Kd.string 9 (((w37.setCell ⟨gb313, 0, none⟩ (.int .i64 t306)).setCell ⟨gb313, 1, none⟩ (.slice Ao40 t307.length co40)).setCell ⟨gb313, 2, none⟩ (.slice Ao41 t310.length co41)) w.heap.size (fun k_ => some k_ ≠ (.slice Ao41 t310.length co41 : Value).ownBlock) (.slice Ao34 x4_2.length co34) x4_2) := ⟨Rz (Kd.R_mono (Kd.R_far (p := ⟨gb313, 2, none⟩) (Kd.R_far (p := ⟨gb313, 1, none⟩) (Kd.R_far (p := ⟨gb313, 0, none⟩) (Kd.R_types HO_4.out BK313.out (by decide)) (fun _ hk => hk.2) (.int .i64 t306)) (fun _ hk => hk.2) (.slice Ao40 t307.length co40)) (fun _ hk => hk.2) (.slice Ao41 t310.length co41)) (fun _ hk => hk.1.2))⟩; have n1_ : Aside0 (Kd.R (Kd.int .i64) 3 (((w37.setCell ⟨gb313, 0, none⟩ (.int .i64 t306)).setCell ⟨gb313, 1, none⟩ (.slice Ao40 t307.length co40)).setCell ⟨gb313, 2, none⟩ (.slice Ao41 t310.length co41)) w.heap.size (fun _ => True) (.slice Ao40 t307.length co40) t307) := ⟨Rz (Kd.R_mono (Kd.R_far (p := ⟨gb313, 2, none⟩) (Kd.R_far (p := ⟨gb313, 1, none⟩) (Kd.R_far (p := ⟨gb313, 0, none⟩) (Kd.R_types HO309.out BK313.out (by decide)) (fun _ hk => hk.2) (.int .i64 t306)) (fun _ hk => hk.2) (.slice Ao40 t307.length co40)) (fun _ hk => hk.2) (.slice Ao41 t310.length co41)) (fun _ hk => trivial))⟩; have n2_ : Aside0 (Kd.R Kd.string 9 (((w37.setCell ⟨gb313, 0, none⟩ (.int .i64 t306)).setCell ⟨gb313, 1, none⟩ (.slice Ao40 t307.length co40)).setCell ⟨gb313, 2, none⟩ (.slice Ao41 t310.length co41)) w.heap.size (fun k_ => some k_ ≠ (.slice Ao34 x4_2.length co34 : Value).ownBlock) (.slice Ao41 t310.length co41) t310) := ⟨Rz (Kd.R_mono (Kd.R_far (p := ⟨gb313, 2, none⟩) (Kd.R_far (p := ⟨gb313, 1, none⟩) (Kd.R_far (p := ⟨gb313, 0, none⟩) (Kd.R_types HO312.out BK313.out (by decide)) (fun _ hk => hk.2) (.int .i64 t306)) (fun _ hk => hk.2) (.slice Ao40 t307.length co40)) (fun _ hk => hk.2) (.slice Ao41 t310.length co41)) (fun _ hk => hk.1.2))⟩; have n3_ : Aside0 ((((w37.setCell ⟨gb313, 0, none⟩ (.int .i64 t306)).setCell ⟨gb313, 1, none⟩ (.slice Ao40 t307.length co40)).setCell ⟨gb313, 2, none⟩ (.slice Ao41 t310.length co41)).heap[g0]? = some (.cells #[.int .i64 a0_0, .slice A0_1 l0_1.length c0_1, .slice A0_2 l0_2.length c0_2] 26 (0, 0))) := ⟨by refine bp ?_; refine blk_far ?_ NB0_313.out _; refine bp ?_; refine blk_far ?_ NB0_313.out _; refine bp ?_; refine blk_far ?_ NB0_313.out _; refine bp ?_; exact BK0.out⟩; have n4_ : Aside0 ((((w37.setCell ⟨gb313, 0, none⟩ (.int .i64 t306)).setCell ⟨gb313, 1, none⟩ (.slice Ao40 t307.length co40)).setCell ⟨gb313, 2, none⟩ (.slice Ao41 t310.length co41)).heap[gb313]? = some (.cells #[.int .i64 t306, .slice Ao40 t307.length co40, .slice Ao41 t310.length co41] 26 (0, 0))) := ⟨by refine bp ?_; refine blk_put (cs := #[.int .i64 t306, .slice Ao40 t307.length co40, .slice none 0 0]) ?_ 2 _ rfl; refine bp ?_; refine blk_put (cs := #[.int .i64 t306, .slice none 0 0, .slice none 0 0]) ?_ 1 _ rfl; refine bp ?_; refine blk_put (cs := #[.int .i64 0, .slice none 0 0, .slice none 0 0]) ?_ 0 _ rfl; refine bp ?_; exact BK313.out⟩
         have n5_ : Aside0 (Below w.heap.size w (((w37.setCell ⟨gb313, 0, none⟩ (.int .i64 t306)).setCell ⟨gb313, 1, none⟩ (.slice Ao40 t307.length co40)).setCell ⟨gb313, 2, none⟩ (.slice Ao41 t310.length co41))) := ⟨Bq⟩
         (try clear HO_4)
         (try clear HO309)
         (try clear HO312)
         (try clear BK0)
         (try clear BK313)
         (try clear HB)
         generalize (((w37.setCell ⟨gb313, 0, none⟩ (.int .i64 t306)).setCell ⟨gb313, 1, none⟩ (.slice Ao40 t307.length co40)).setCell ⟨gb313, 2, none⟩ (.slice Ao41 t310.length co41)) = w42 at n0_ n1_ n2_ n3_ n4_ n5_ ⊢; revert n0_ n1_ n2_ n3_ n4_ n5_; intro HO_4 HO309 HO312 BK0 BK313 HB; have n0_ := am (Kd.R_drew HO_4.out); have n1_ := am (Kd.R_drew HO309.out); have n2_ := am (Kd.R_drew HO312.out); have n3_ := am (blk_drew BK0.out); have n4_ := am (blk_drew BK313.out); have n5_ := am (below_drew1 HB.out); clear HO_4 HO309 HO312 BK0 BK313 HB; revert n0_ n1_ n2_ n3_ n4_ n5_; intro HO_4 HO309 HO312 BK0 BK313 HB; refine start_ (n := 19) (S := fun w' => w'.cell? ⟨gb313, 0, none⟩ = some (.int .i64 t306) ∧ w'.cell? ⟨gb313, 1, none⟩ = some (.slice Ao40 t307.length co40) ∧ w'.cell? ⟨gb313, 2, none⟩ = some (.slice Ao41 t310.length co41) ∧ w'.cell? ⟨g0, 0, none⟩ = some (.int .i64 a0_0) ∧ w'.cell? ⟨g0, 1, none⟩ = some (.slice A0_1 l0_1.length c0_1) ∧ w'.cell? ⟨g0, 2, none⟩ = some (.slice A0_2 l0_2.length c0_2)) (ds := []) (bA 19 0) (by kernel_rfl) rfl rfl ⟨cz BK313 0, cz BK313 1, cz BK313 2, cz BK0 0, cz BK0 1, cz BK0 2⟩ (fun hHeld => ?_); refine with_tabW impl_Front_keys.tab15 impl_Front_keys.bits15 (fun HT_ HW_ => ?_); generalize w42.drew = w43 at HO_4 HO309 HO312 BK0 BK313 HB hHeld ⊢; refine pZ 0 (some 88) (bA 19 1) HT_.out ?_; refine pZ 1 (some 89) (bA 19 3) HT_.out ?_; refine pZ 3 (some 91) (bA 19 11) HT_.out ?_; refine pZ 4 (some 92) (bA 19 27) HT_.out ?_; refine pZ 5 (some 93) (bA 19 59) HT_.out ?_; refine tZ6 2 (some 90) (bA 19 63) HT_.out HW_.out hHeld ?_; refine tZ6 6 (some 94) (bA 19 127) HT_.out HW_.out hHeld ?_; refine oZ 7 (some 95) (bA 19 255) HT_.out (fun K hK => ?_); refine gZ Try.func69 #[.slice Ao40 t307.length co40, .slice A0_1 l0_1.length c0_1] ?_
         with_reducible refine (slices_Equal_int_int.calls k2 _ _ t307 _ _ l0_1 true _ ?side1 ?side2 ?side3 ?side4 A31.out).mono ?_
         (case side1 => exact Cz ((Kd.R_reads' HO309.out).2.2))
         (case side2 => exact (Kd.R_reads' HO309.out).2.1)
         (case side3 => exact Cz (Kd.C_below HR0_1.out HB.out))
         (case side4 => exact HC0_1.out)
         rintro e w' ⟨rfl, ⟨nd, rfl⟩⟩; refine ⟨_, rfl, ?_⟩; refine hK.out _ _ ⟨cz BK313 0, cz BK313 1, cz BK313 2, cz BK0 0, cz BK0 1, cz BK0 2⟩ (fun hHeld => ?_); clear hK K; refine norm_ (a' := ?_) ?_ ?_; rotate_left; show Act.put _ (some 95) _ = _; simp only [aP, i64_w, i32_w]; rfl; refine pZ 8 (some 96) (bA 19 511) HT_.out ?_; refine pZ 9 (some 97) (bA 19 1023) HT_.out ?_; refine pZ 11 (some 99) (bA 19 3071) HT_.out ?_; refine pZ 12 (some 100) (bA 19 7167) HT_.out ?_; refine pZ 13 (some 101) (bA 19 15359) HT_.out ?_; refine tZ6 10 (some 98) (bA 19 16383) HT_.out HW_.out hHeld ?_; refine tZ6 14 (some 102) (bA 19 32767) HT_.out HW_.out hHeld ?_; refine oZ 15 (some 103) (bA 19 65535) HT_.out (fun K hK => ?_); refine gZ Try.func70 #[.slice Ao41 t310.length co41, .slice A0_2 l0_2.length c0_2] ?_
         with_reducible refine (slices_Equal_string_string.calls k2 _ _ t310 _ _ l0_2 t315 _ ?side1 ?side2 ?side3 ?side4 A33.out).mono ?_
         (case side1 => exact Cz ((Kd.R_reads' HO312.out).2.2))
         (case side2 => exact (Kd.R_reads' HO312.out).2.1)
         (case side3 => exact Cz (Kd.C_below HR0_2.out (Bq)))
         (case side4 => exact HC0_2.out)
         rintro e w' ⟨rfl, ⟨nd, rfl⟩⟩; refine ⟨_, rfl, ?_⟩; refine hK.out _ _ ⟨cz BK313 0, cz BK313 1, cz BK313 2, cz BK0 0, cz BK0 1, cz BK0 2⟩ (fun hHeld => ?_); clear hK K; refine norm_ (a' := ?_) ?_ ?_; rotate_left; show Act.put _ (some 103) _ = _; simp only [aP, i64_w, i32_w]; rfl; refine pZ 16 (some 104) (bA 19 131071) HT_.out ?_; refine pZ 17 (some 2) (bA 19 262143) HT_.out ?_; refine pZ 18 (some 3) (bA 19 524287) HT_.out ?_; refine done_ (done_of HT_.out (by kernel_rfl)) ?_
         try go_wp2
         go_ret2
         exact ⟨_, eZ, Rz (Kd.R_mono HO_4.out (fun _ hk => trivial)), Bq⟩
        ·replace c32 := Bool.eq_false_iff.mpr c32
         subst c32
         rw [if_neg (show ¬ (false = true) by decide)] at H
         simp only [Option.some.injEq, Prod.mk.injEq] at H
         obtain ⟨rfl, rfl⟩ := H; obtain ⟨Ao44, co44, eo44⟩ := Kd.R_slice HO_4.out; subst eo44
         try go_wp2_with (first | ((with_reducible refine gate_callee (f := 41) rfl ?_); refine gL (some 80) Try.func41 #[.slice Ao44 x4_2.length co44] ?_; (with_reducible refine (impl_AreKeys.calls k2 _ _ x4_2 true _ ?side1 ?side2 A28.out).mono ?_); (case side1 => exact Cz ((Kd.R_reads' HO_4.out).2.2)); (case side2 => exact (Kd.R_reads' HO_4.out).2.1); rintro e w' ⟨rfl, ⟨nd, rfl⟩⟩; refine ⟨_, rfl, ?_⟩; (try (rw [drewN_self wr]; generalize hq_ : World.drewN wr _ = wr; have n0_ : Aside0 (Kd.R Kd.string 9 wr w.heap.size (fun _ => True) (.slice Ao44 x4_2.length co44) x4_2) := ⟨by rw [← hq_]; exact (Rz HO_4.out)⟩; have n1_ : Aside0 (wr.heap[g0]? = some (.cells #[.int .i64 a0_0, .slice A0_1 l0_1.length c0_1, .slice A0_2 l0_2.length c0_2] 26 (0, 0))) := ⟨by rw [← hq_]; exact (Kz BK0.out)⟩; have n2_ : Aside0 (Below w.heap.size w wr) := ⟨by rw [← hq_]; exact (Bq)⟩; clear HO_4 BK0 HB hq_; revert n0_ n1_ n2_; intro HO_4 BK0 HB)); obtain ⟨hcz45_0, hcz45_1, hcz45_2, hfz45_0, hfz45_1, hfz45_2⟩ := cf3 (w := wr) BK0) | ((with_reducible refine gate_callee (f := 43) rfl ?_); refine gL (some 87) Try.func43 #[.slice Ao44 x4_2.length co44, .int .i64 a0_0] ?_; (with_reducible refine (impl_front.calls k2 _ _ x4_2 a0_0 t306 t307 t310 _ ?side1 ?side2 A30.out).mono ?_); (case side1 => exact Cz ((Kd.R_reads' HO_4.out).2.2)); (case side2 => exact (Kd.R_reads' HO_4.out).2.1); rintro e w46 ⟨v308, v311, rfl, ho0, ho1, hb⟩; refine ⟨_, rfl, ?_⟩; have n0_ := Re HO_4 (Kd.R_base ho1) hb; have n1_ := Rm ho0 HB; have n2_ := Rm (Kd.R_new' ho1 (Kd.R_lt (Rz HO_4.out))) HB; have n3_ := Kb BK0 hb; have n4_ := Bc HB hb; clear HO_4 BK0 HB; revert n0_ n1_ n2_ n3_ n4_; intro HO_4 HO309 HO312 BK0 HB; (try clear hb); (try clear hb2); (try clear hk); (try clear hi); (try clear ho0); (try clear ho1)) | ((with_reducible refine gate_dst (N := 8) rfl ?_); (try (refine gate_guard (by rfl) ?_; dsimp only)); refine bE 8 #[.int .i64 0, .slice none 0 0, .slice none 0 0] 26 ?_; intro gb313 hg w47 hbox hb; have n0_ := Rb HO_4 hb; have n1_ := Rb HO309 hb; have n2_ := Rb HO312 hb; have n3_ := Kb BK0 hb; have n4_ := Bc HB hb; have n5_ := am (hbox); have n6_ := Gm HB hg; have n7_ := Gm HB hg; have n8_ := Nl BK0 hg; have n9_ := Ng BK0 hg; clear HO_4 HO309 HO312 BK0 HB; revert n0_ n1_ n2_ n3_ n4_ n5_ n6_ n7_ n8_ n9_; intro HO_4 HO309 HO312 BK0 HB BK313 GW313 GE313 NB0_313 NB313_0; clear hb hbox hg; have hnb48 := NB313_0.out; have hnc48 := NB0_313.out; obtain ⟨hcz49_0, hcz49_1, hcz49_2, hfz49_0, hfz49_1, hfz49_2⟩ := cf3 (w := w47) BK313; obtain ⟨Ao50, co50, eo50⟩ := Kd.R_slice HO309.out; subst eo50; obtain ⟨Ao51, co51, eo51⟩ := Kd.R_slice HO312.out; subst eo51))
         have n0_ : Aside0 (Kd.R Kd.string 9 (((w47.setCell ⟨gb313, 0, none⟩ (.int .i64 t306)).setCell ⟨gb313, 1, none⟩ (.slice Ao50 t307.length co50)).setCell ⟨gb313, 2, none⟩ (.slice Ao51 t310.length co51)) w.heap.size (fun k_ => some k_ ≠ (.slice Ao51 t310.length co51 : Value).ownBlock) (.slice Ao44 x4_2.length co44) x4_2) := ⟨Rz (Kd.R_mono (Kd.R_far (p := ⟨gb313, 2, none⟩) (Kd.R_far (p := ⟨gb313, 1, none⟩) (Kd.R_far (p := ⟨gb313, 0, none⟩) (Kd.R_types HO_4.out BK313.out (by decide)) (fun _ hk => hk.2) (.int .i64 t306)) (fun _ hk => hk.2) (.slice Ao50 t307.length co50)) (fun _ hk => hk.2) (.slice Ao51 t310.length co51)) (fun _ hk => hk.1.2))⟩; have n1_ : Aside0 (Kd.R (Kd.int .i64) 3 (((w47.setCell ⟨gb313, 0, none⟩ (.int .i64 t306)).setCell ⟨gb313, 1, none⟩ (.slice Ao50 t307.length co50)).setCell ⟨gb313, 2, none⟩ (.slice Ao51 t310.length co51)) w.heap.size (fun _ => True) (.slice Ao50 t307.length co50) t307) := ⟨Rz (Kd.R_mono (Kd.R_far (p := ⟨gb313, 2, none⟩) (Kd.R_far (p := ⟨gb313, 1, none⟩) (Kd.R_far (p := ⟨gb313, 0, none⟩) (Kd.R_types HO309.out BK313.out (by decide)) (fun _ hk => hk.2) (.int .i64 t306)) (fun _ hk => hk.2) (.slice Ao50 t307.length co50)) (fun _ hk => hk.2) (.slice Ao51 t310.length co51)) (fun _ hk => trivial))⟩; have n2_ : Aside0 (Kd.R Kd.string 9 (((w47.setCell ⟨gb313, 0, none⟩ (.int .i64 t306)).setCell ⟨gb313, 1, none⟩ (.slice Ao50 t307.length co50)).setCell ⟨gb313, 2, none⟩ (.slice Ao51 t310.length co51)) w.heap.size (fun k_ => some k_ ≠ (.slice Ao44 x4_2.length co44 : Value).ownBlock) (.slice Ao51 t310.length co51) t310) := ⟨Rz (Kd.R_mono (Kd.R_far (p := ⟨gb313, 2, none⟩) (Kd.R_far (p := ⟨gb313, 1, none⟩) (Kd.R_far (p := ⟨gb313, 0, none⟩) (Kd.R_types HO312.out BK313.out (by decide)) (fun _ hk => hk.2) (.int .i64 t306)) (fun _ hk => hk.2) (.slice Ao50 t307.length co50)) (fun _ hk => hk.2) (.slice Ao51 t310.length co51)) (fun _ hk => hk.1.2))⟩; have n3_ : Aside0 ((((w47.setCell ⟨gb313, 0, none⟩ (.int .i64 t306)).setCell ⟨gb313, 1, none⟩ (.slice Ao50 t307.length co50)).setCell ⟨gb313, 2, none⟩ (.slice Ao51 t310.length co51)).heap[g0]? = some (.cells #[.int .i64 a0_0, .slice A0_1 l0_1.length c0_1, .slice A0_2 l0_2.length c0_2] 26 (0, 0))) := ⟨by refine bp ?_; refine blk_far ?_ NB0_313.out _; refine bp ?_; refine blk_far ?_ NB0_313.out _; refine bp ?_; refine blk_far ?_ NB0_313.out _; refine bp ?_; exact BK0.out⟩; have n4_ : Aside0 ((((w47.setCell ⟨gb313, 0, none⟩ (.int .i64 t306)).setCell ⟨gb313, 1, none⟩ (.slice Ao50 t307.length co50)).setCell ⟨gb313, 2, none⟩ (.slice Ao51 t310.length co51)).heap[gb313]? = some (.cells #[.int .i64 t306, .slice Ao50 t307.length co50, .slice Ao51 t310.length co51] 26 (0, 0))) := ⟨by refine bp ?_; refine blk_put (cs := #[.int .i64 t306, .slice Ao50 t307.length co50, .slice none 0 0]) ?_ 2 _ rfl; refine bp ?_; refine blk_put (cs := #[.int .i64 t306, .slice none 0 0, .slice none 0 0]) ?_ 1 _ rfl; refine bp ?_; refine blk_put (cs := #[.int .i64 0, .slice none 0 0, .slice none 0 0]) ?_ 0 _ rfl; refine bp ?_; exact BK313.out⟩
         have n5_ : Aside0 (Below w.heap.size w (((w47.setCell ⟨gb313, 0, none⟩ (.int .i64 t306)).setCell ⟨gb313, 1, none⟩ (.slice Ao50 t307.length co50)).setCell ⟨gb313, 2, none⟩ (.slice Ao51 t310.length co51))) := ⟨Bq⟩
         (try clear HO_4)
         (try clear HO309)
         (try clear HO312)
         (try clear BK0)
         (try clear BK313)
         (try clear HB)
         generalize (((w47.setCell ⟨gb313, 0, none⟩ (.int .i64 t306)).setCell ⟨gb313, 1, none⟩ (.slice Ao50 t307.length co50)).setCell ⟨gb313, 2, none⟩ (.slice Ao51 t310.length co51)) = w52 at n0_ n1_ n2_ n3_ n4_ n5_ ⊢; revert n0_ n1_ n2_ n3_ n4_ n5_; intro HO_4 HO309 HO312 BK0 BK313 HB; have n0_ := am (Kd.R_drew HO_4.out); have n1_ := am (Kd.R_drew HO309.out); have n2_ := am (Kd.R_drew HO312.out); have n3_ := am (blk_drew BK0.out); have n4_ := am (blk_drew BK313.out); have n5_ := am (below_drew1 HB.out); clear HO_4 HO309 HO312 BK0 BK313 HB; revert n0_ n1_ n2_ n3_ n4_ n5_; intro HO_4 HO309 HO312 BK0 BK313 HB; refine start_ (n := 19) (S := fun w' => w'.cell? ⟨gb313, 0, none⟩ = some (.int .i64 t306) ∧ w'.cell? ⟨gb313, 1, none⟩ = some (.slice Ao50 t307.length co50) ∧ w'.cell? ⟨gb313, 2, none⟩ = some (.slice Ao51 t310.length co51) ∧ w'.cell? ⟨g0, 0, none⟩ = some (.int .i64 a0_0) ∧ w'.cell? ⟨g0, 1, none⟩ = some (.slice A0_1 l0_1.length c0_1) ∧ w'.cell? ⟨g0, 2, none⟩ = some (.slice A0_2 l0_2.length c0_2)) (ds := []) (bA 19 0) (by kernel_rfl) rfl rfl ⟨cz BK313 0, cz BK313 1, cz BK313 2, cz BK0 0, cz BK0 1, cz BK0 2⟩ (fun hHeld => ?_); refine with_tabW impl_Front_keys.tab15 impl_Front_keys.bits15 (fun HT_ HW_ => ?_); generalize w52.drew = w53 at HO_4 HO309 HO312 BK0 BK313 HB hHeld ⊢; refine pZ 0 (some 88) (bA 19 1) HT_.out ?_; refine pZ 1 (some 89) (bA 19 3) HT_.out ?_; refine pZ 3 (some 91) (bA 19 11) HT_.out ?_; refine pZ 4 (some 92) (bA 19 27) HT_.out ?_; refine pZ 5 (some 93) (bA 19 59) HT_.out ?_; refine tZ6 2 (some 90) (bA 19 63) HT_.out HW_.out hHeld ?_; refine tZ6 6 (some 94) (bA 19 127) HT_.out HW_.out hHeld ?_; refine oZ 7 (some 95) (bA 19 255) HT_.out (fun K hK => ?_); refine gZ Try.func69 #[.slice Ao50 t307.length co50, .slice A0_1 l0_1.length c0_1] ?_
         with_reducible refine (slices_Equal_int_int.calls k2 _ _ t307 _ _ l0_1 false _ ?side1 ?side2 ?side3 ?side4 A31.out).mono ?_
         (case side1 => exact Cz ((Kd.R_reads' HO309.out).2.2))
         (case side2 => exact (Kd.R_reads' HO309.out).2.1)
         (case side3 => exact Cz (Kd.C_below HR0_1.out HB.out))
         (case side4 => exact HC0_1.out)
         rintro e w' ⟨rfl, ⟨nd, rfl⟩⟩; refine ⟨_, rfl, ?_⟩; refine hK.out _ _ ⟨cz BK313 0, cz BK313 1, cz BK313 2, cz BK0 0, cz BK0 1, cz BK0 2⟩ (fun hHeld => ?_); clear hK K; refine norm_ (a' := ?_) ?_ ?_; rotate_left; show Act.put _ (some 95) _ = _; simp only [aP, i64_w, i32_w]; rfl; refine pZ 8 (some 96) (bA 19 511) HT_.out ?_; refine sZ 9 (some 97) (bA 19 1023) HT_.out ?_; refine sZ 10 (some 98) (bA 19 2047) HT_.out ?_; refine sZ 11 (some 99) (bA 19 4095) HT_.out ?_; refine sZ 12 (some 100) (bA 19 8191) HT_.out ?_; refine sZ 13 (some 101) (bA 19 16383) HT_.out ?_; refine sZ 14 (some 102) (bA 19 32767) HT_.out ?_; refine sZ 15 (some 103) (bA 19 65535) HT_.out ?_; refine pZ 16 (some 104) (bA 19 131071) HT_.out ?_; refine pZ 17 (some 2) (bA 19 262143) HT_.out ?_; refine pZ 18 (some 3) (bA 19 524287) HT_.out ?_; refine done_ (done_of HT_.out (by kernel_rfl)) ?_
         try go_wp2
         go_ret2
         exact ⟨_, eZ, Rz (Kd.R_mono HO_4.out (fun _ hk => trivial)), Bq⟩
       ·replace c29 := Bool.eq_false_iff.mpr c29
        subst c29
        rw [if_neg (show ¬ (false = true) by decide)] at H
        simp only [Option.some.injEq, Prod.mk.injEq] at H
        obtain ⟨rfl, rfl⟩ := H; obtain ⟨Ao54, co54, eo54⟩ := Kd.R_slice HO_4.out; subst eo54
        go_wp2_with (first | ((with_reducible refine gate_callee (f := 41) rfl ?_); refine gL (some 80) Try.func41 #[.slice Ao54 x4_2.length co54] ?_; (with_reducible refine (impl_AreKeys.calls k2 _ _ x4_2 false _ ?side1 ?side2 A28.out).mono ?_); (case side1 => exact Cz ((Kd.R_reads' HO_4.out).2.2)); (case side2 => exact (Kd.R_reads' HO_4.out).2.1); rintro e w' ⟨rfl, ⟨nd, rfl⟩⟩; refine ⟨_, rfl, ?_⟩))
        go_ret2
        exact ⟨_, eZ, nZ, Bq⟩

-- NOT PRINTED: function 74 (slices_Grow_string_string)

def slices_Grow_string_string_at_nil.f  (a1 : Int) : Option (List ByteArray) := if a1 < 0 then (none) else (if (wrap64 (a1 - (wrap64 (-(([] : List ByteArray).length : Int))))) > 0 then (if 0 ≤ (wrap64 (a1 - (wrap64 (-(([] : List ByteArray).length : Int))))) then (if ([] : List ByteArray).length + (wrap64 (a1 - (wrap64 (-(([] : List ByteArray).length : Int)))) : Int).toNat < 8796093022208 then ((some (([] : List ByteArray) ++ List.replicate (wrap64 (a1 - (wrap64 (-(([] : List ByteArray).length : Int)))) : Int).toNat (⟨#[]⟩ : ByteArray) : List ByteArray)).bind fun y317 => (if 0 ≤ (([] : List ByteArray).length : Int) then (if (([] : List ByteArray).length : Int) ≤ (y317.length : Int) then (some (y317.take ((([] : List ByteArray).length : Int) : Int).toNat)) else (none)) else (none))) else (none)) else (none)) else (some ([] : List ByteArray)))
theorem slices_Grow_string_string_at_nil.calls  (a1 : Int) (r : List ByteArray) (w : World) (h : slices_Grow_string_string_at_nil.f a1 = some r) :
  Calls Try.prog 74 #[.slice none 0 0, .int .i64 a1] w fun e w' => ∃ v0_ : Value, e = .returned (v0_) ∧ Kd.R Kd.string 9 w' w.heap.size (fun _ => True) v0_ r ∧ Below w.heap.size w w' := by
 have HB := am (Below.refl w.heap.size w); have H : (if a1 < 0 then (none) else (if (wrap64 (a1 - (wrap64 (-(([] : List ByteArray).length : Int))))) > 0 then (if 0 ≤ (wrap64 (a1 - (wrap64 (-(([] : List ByteArray).length : Int))))) then (if ([] : List ByteArray).length + (wrap64 (a1 - (wrap64 (-(([] : List ByteArray).length : Int)))) : Int).toNat < 8796093022208 then ((some (([] : List ByteArray) ++ List.replicate (wrap64 (a1 - (wrap64 (-(([] : List ByteArray).length : Int)))) : Int).toNat (⟨#[]⟩ : ByteArray) : List ByteArray)).bind fun y317 => (if 0 ≤ (([] : List ByteArray).length : Int) then (if (([] : List ByteArray).length : Int) ≤ (y317.length : Int) then (some (y317.take ((([] : List ByteArray).length : Int) : Int).toNat)) else (none)) else (none))) else (none)) else (none)) else (some ([] : List ByteArray)))) = some r := h; clear h
 by_cases c3 : a1 < 0
 ·rw [if_pos c3] at H
  exact absurd H (by simp)
 ·rw [if_neg c3] at H
  have c3b0 : decide (a1 < 0) = false := decide_eq_false c3; clear c3
  by_cases c4 : (wrap64 (a1 - (wrap64 (-(([] : List ByteArray).length : Int))))) > 0
  ·rw [if_pos c4] at H
   have c4b0 : decide (0 < (wrap64 (a1 - (wrap64 (-(([] : List ByteArray).length : Int)))))) = true := decide_eq_true c4; clear c4; obtain ⟨ji5, hji5⟩ : ∃ j_ : Int, (wrap64 (a1 - (wrap64 (-(([] : List ByteArray).length : Int))))) = j_ := ⟨_, rfl⟩; have hji5v : wrap64 a1 = ji5 := by rw [← hji5, List.length_nil]; unfold wrap64; omega
   replace H : (if 0 ≤ (ji5) then (if ([] : List ByteArray).length + (ji5 : Int).toNat < 8796093022208 then ((some (([] : List ByteArray) ++ List.replicate (ji5 : Int).toNat (⟨#[]⟩ : ByteArray) : List ByteArray)).bind fun y317 => (if 0 ≤ (([] : List ByteArray).length : Int) then (if (([] : List ByteArray).length : Int) ≤ (y317.length : Int) then (some (y317.take ((([] : List ByteArray).length : Int) : Int).toNat)) else (none)) else (none))) else (none)) else (none)) = some r := by first | (rw [hji5] at H; exact H) | (simp only [hji5] at H ⊢; exact H)
   (try rw [hji5] at c4b0)
   have hji5w : (IntKind.i64.wrap (a1 - (wrap64 (-(([] : List ByteArray).length : Int))))) = ji5 := (i64_w _).trans hji5
   by_cases c6 : 0 ≤ (ji5)
   ·rw [if_pos c6] at H
    have c6b0 := eq_true c6; have c6b1 : decide (0 ≤ (ji5)) = true := decide_eq_true c6; clear c6
    by_cases c7 : ([] : List ByteArray).length + (ji5 : Int).toNat < 8796093022208
    ·rw [if_pos c7] at H
     have LMc7 := am c7; clear c7; obtain ⟨y317, hy317⟩ : ∃ y_ : List ByteArray, y_ = (([] : List ByteArray) ++ List.replicate (ji5 : Int).toNat (⟨#[]⟩ : ByteArray)) := ⟨_, rfl⟩
     replace H : (if 0 ≤ (([] : List ByteArray).length : Int) then (if (([] : List ByteArray).length : Int) ≤ (y317.length : Int) then (some (y317.take ((([] : List ByteArray).length : Int) : Int).toNat)) else (none)) else (none)) = some r := by first | (rw [hy317]; with_reducible exact H) | (have H2_ := (Option.bind_some _ _).symm.trans H; rw [hy317]; with_reducible exact H2_) | (have H2_ := (Option.bind_some _ _).symm.trans H; with_reducible exact H2_) | with_reducible exact H | (rw [hy317]; exact H) | exact H
     have Ny317 := am hy317; clear hy317
     by_cases c8 : 0 ≤ (([] : List ByteArray).length : Int)
     ·rw [if_pos c8] at H
      have c8b0 := eq_true c8; have c8b1 : decide (0 ≤ (([] : List ByteArray).length : Int)) = true := decide_eq_true c8; clear c8
      by_cases c9 : (([] : List ByteArray).length : Int) ≤ (y317.length : Int)
      ·rw [if_pos c9] at H
       have c9b0 := eq_true c9; have c9b1 : decide ((([] : List ByteArray).length : Int) ≤ (y317.length : Int)) = true := decide_eq_true c9; clear c9; obtain ⟨y320, hy320⟩ : ∃ y_ : List ByteArray, y_ = (y317.take ((([] : List ByteArray).length : Int) : Int).toNat) := ⟨_, rfl⟩
       replace H : (some y320) = some r := by first | (rw [hy320]; with_reducible exact H) | (have H2_ := (Option.bind_some _ _).symm.trans H; rw [hy320]; with_reducible exact H2_) | (have H2_ := (Option.bind_some _ _).symm.trans H; with_reducible exact H2_) | with_reducible exact H | (rw [hy320]; exact H) | exact H
       have Ny320 := am hy320; clear hy320; obtain rfl := Option.some.inj H
       go_enter Try.func74, Try.ntmps74
       go_wp2_with (first | (at_builtin; (try simp only [hji5v]); refine Kd.R_append_zeros Kd.string (w0 := w) w.heap.size rfl (.tmp 20) (.tmp 21) 22 3 9 (.string ⟨#[]⟩) 16 rfl Try.underlying22 Try.underlying3 info9 rfl (by decide) (by omega) (.slice none 0 0) ([] : List ByteArray) (⟨#[]⟩ : ByteArray) (ji5 : Int) (fun _ => True) rfl rfl rfl ?aF ?aO (dT) ?aB ?aS ?aL ?_; (case aB => exact (Bz HB.out)); (case aF => exact (fun _ _ => trivial)); (case aO => exact ((Kd.R_nil _ _ _ _ (fun _ => True)))); (case aS => exact (below_size (Bz HB.out))); (case aL => have := LMc7.out; omega); intro v318 w10 ho hb hg hat; rw [← Ny317.out] at ho; have n0_ := am (hb); have n1_ := am (ho); clear HB; revert n0_ n1_; intro HB HO319; clear ho hb hg hat; obtain ⟨Ao11, co11, eo11⟩ := Kd.R_slice HO319.out; subst eo11; have q12 : ((([] : List ByteArray).length : Int) : Int) ≤ ((y317.length : Int) : Int) := dT; obtain ⟨i012, hi012, _, hsz12, _⟩ := info_parts info9; have hcut12 := cut_to (P := Try.prog) 22 9 .i64 Try.underlying22 hi012 Ao11 y317.length co11 (([] : List ByteArray).length : Int) (dT) q12 (Kd.R_reads' HO319.out).2.1; have hr12 := Kd.R_take (m := ((([] : List ByteArray).length : Int) : Int).toNat) HO319.out (by omega); have hy12 : y320.length = ((([] : List ByteArray).length : Int) : Int).toNat := (by rw [Ny320.out, List.length_take]; omega); rw [← Ny320.out] at hr12; rw [← hy12] at hr12 hcut12; clear hy12 hi012 hsz12 HO319; have HO322 := am hr12; clear hr12; replace q12 := eq_true q12))
       go_ret
       have hy9 : y320.length = 0 := by rw [Ny320.out]; simp
       exact ⟨_, by first | rfl | (simp [errW_none, errW_some] <;> rfl) | (simp only [← hji5]; first | rfl | (simp [errW_none, errW_some] <;> rfl)) | (simp [*, errW_none, errW_some] <;> rfl), Rz HO322.out, Bz HB.out⟩
      ·rw [if_neg c9] at H
       exact absurd H (by simp)
     ·rw [if_neg c8] at H
      exact absurd H (by simp)
    ·rw [if_neg c7] at H
     exact absurd H (by simp)
   ·rw [if_neg c6] at H
    exact absurd H (by simp)
  ·rw [if_neg c4] at H
   have c4b0 : decide (0 < (wrap64 (a1 - (wrap64 (-(([] : List ByteArray).length : Int)))))) = false := decide_eq_false c4; clear c4; have c4b9 : decide (0 < wrap64 a1) = false := (congrArg (fun z_ : Int => decide (0 < z_)) (show wrap64 a1 = (wrap64 (a1 - (wrap64 (-(([] : List ByteArray).length : Int))))) from (by unfold wrap64; simp only [List.length_nil]; omega))).trans c4b0; obtain rfl := Option.some.inj H
   go_enter Try.func74, Try.ntmps74
   go_wp2
   go_ret
   exact ⟨_, eZ, nZ, Bz HB.out⟩

mutual
def slices_Concat_string_string.l0 : Nat → List (List ByteArray) → Int → List (List ByteArray) → Int → Int → Option (List ByteArray)
 | 0, _, _, _, _, _ => none
 | k + 1, x0, x3, x9, x10, x11 => if x11 < x10 then (if 0 ≤ x11 then (if x11 < (x9.length : Int) then (if (wrap64 (x3 + ((rd_L3 x9 x11).length : Int))) < 0 then (none) else (slices_Concat_string_string.l0 k x0 (wrap64 (x3 + ((rd_L3 x9 x11).length : Int))) x9 x10 (wrap64 (x11 + 1)))) else (none)) else (none)) else ((slices_Grow_string_string_at_nil.f x3).bind fun t324 => (slices_Concat_string_string.l1 k t324 x0 (x0.length : Int) 0))
def slices_Concat_string_string.l1 : Nat → List ByteArray → List (List ByteArray) → Int → Int → Option (List ByteArray)
 | 0, _, _, _, _ => none
 | k + 1, x6, x25, x26, x27 => if x27 < x26 then (if 0 ≤ x27 then (if x27 < (x25.length : Int) then (if x6.length + (rd_L3 x25 x27).length < 8796093022208 then (slices_Concat_string_string.l1 k (x6 ++ (rd_L3 x25 x27)) x25 x26 (wrap64 (x27 + 1))) else (none)) else (none)) else (none)) else (some x6)
end
def slices_Concat_string_string.f (k : Nat) (l0 : List (List ByteArray)) : Option (List ByteArray) := slices_Concat_string_string.l0 k l0 0 l0 (l0.length : Int) 0
theorem slices_Concat_string_string.calls (k : Nat) (A0 : Option Addr) (c0 : Nat) (l0 : List (List ByteArray)) (r : List ByteArray) (w : World) (hr0 : Kd.C (Kd.slice 9 Kd.string) w A0 l0.length l0) (hc0 : l0.length ≤ c0) (h : slices_Concat_string_string.f k l0 = some r) :
  Calls Try.prog 58 #[.slice A0 l0.length c0] w fun e w' => ∃ v0_ : Value, e = .returned (v0_) ∧ Kd.R Kd.string 9 w' w.heap.size (fun _ => True) v0_ r ∧ Below w.heap.size w w' := by
 have HR0 := am hr0; have HC0 := am hc0; clear hr0 hc0; have HB := am (Below.refl w.heap.size w); have H : (slices_Concat_string_string.l0 k l0 0 l0 (l0.length : Int) 0) = some r := h; clear h; have H' := am H; clear H
 go_enter Try.func58, Try.ntmps58
 go_wp2
 go_loopg [3, 11] k (fun kq v3 v11 w' => ∃ (x3_1 : Int) (x11_1 : Int), v3 = .int .i64 x3_1 ∧ v11 = .int .i64 x11_1 ∧ Aside0 (slices_Concat_string_string.l0 kq l0 x3_1 l0 (l0.length : Int) x11_1 = some r) ∧ Aside0 (kq ≤ k) ∧ Aside0 (Below w.heap.size w w'))
 case atStart => exact ⟨(0), (0), wZ, wZ, H', ⟨Nat.le_refl _⟩, ⟨Bz HB.out⟩⟩
 case round =>
  clear H'; obtain ⟨x3_1, x11_1, rfl, rfl, HA, HK1, HB⟩ := hrel; cases gk with
  | zero => exact absurd HA.out (by simp [slices_Concat_string_string.l0])
  | succ k1 =>
   have H := HA.out; clear HA
   simp only [slices_Concat_string_string.l0] at H
   by_cases c2 : x11_1 < (l0.length : Int)
   ·rw [if_pos c2] at H
    have c2b0 : decide (x11_1 < (l0.length : Int)) = true := decide_eq_true c2; clear c2
    by_cases c3 : 0 ≤ x11_1
    ·rw [if_pos c3] at H
     have c3b0 : decide (0 ≤ x11_1) = true := decide_eq_true c3; clear c3
     by_cases c4 : x11_1 < (l0.length : Int)
     ·rw [if_pos c4] at H
      have c4b0 : decide (x11_1 < (l0.length : Int)) = true := decide_eq_true c4; clear c4
      by_cases c5 : (wrap64 (x3_1 + ((rd_L3 l0 x11_1).length : Int))) < 0
      ·rw [if_pos c5] at H
       exact absurd H (by simp)
      ·rw [if_neg c5] at H
       have c5b0 : decide ((wrap64 (x3_1 + ((rd_L3 l0 x11_1).length : Int))) < 0) = false := decide_eq_false c5; clear c5; have H' := am H; clear H; have p323 : 0 ≤ (x11_1 : Int) := dT; have q323 : x11_1 < (l0.length : Int) := dT; obtain ⟨ad323, A323_0, c323_0, e323, hx323_0, hl323_0, hi323_0⟩ := at_L3 HR0.out x11_1 p323 q323; cases e323; replace hx323_0 := (HB.out.cell (World.block_lt_of_cell? w _ hx323_0)).trans hx323_0; have HR323_0 := am hi323_0; have HC323_0 := am hl323_0; clear hi323_0 hl323_0; replace p323 := eq_true p323; replace q323 := eq_true q323
       go_wp2
       go_roundg k1
       case measure => have := HK1.out; omega
       case rel => exact ⟨(wrap64 (x3_1 + ((rd_L3 l0 x11_1).length : Int))), (wrap64 (x11_1 + 1)), wZ, wZ, H', ⟨by have := HK1.out; omega⟩, ⟨Bz HB.out⟩⟩
     ·rw [if_neg c4] at H
      exact absurd H (by simp)
    ·rw [if_neg c3] at H
     exact absurd H (by simp)
   ·rw [if_neg c2] at H
    have c2b0 : decide (x11_1 < (l0.length : Int)) = false := decide_eq_false c2; clear c2; obtain ⟨t324, A6, H⟩ := ob H; (try dsimp -simprocs only at H); have H' := am H; clear H
    go_wp2_with (first | ((with_reducible refine gate_callee (f := 74) rfl ?_); refine gL (some 24) Try.func74 #[.slice none 0 0, .int .i64 x3_1] ?_; (with_reducible refine (slices_Grow_string_string_at_nil.calls  x3_1 t324 _ A6.out).mono ?_); rintro e w7 ⟨v325, rfl, ho0, hb⟩; refine ⟨_, rfl, ?_⟩; have n0_ := Rl ho0 HB; have n1_ := Bb HB hb; clear HB; revert n0_ n1_; intro HO326 HB; (try clear hb); (try clear hb2); (try clear hk); (try clear hi); (try clear ho0)))
    (try simp only [aP])
    go_loopg [6, 27] k1 (fun kq v6 v27 w' => ∃ (x6_2 : List ByteArray) (x27_2 : Int), v27 = .int .i64 x27_2 ∧ Aside0 (slices_Concat_string_string.l1 kq x6_2 l0 (l0.length : Int) x27_2 = some r) ∧ Aside0 (kq ≤ k1) ∧ Aside0 (Kd.R Kd.string 9 w' w.heap.size (fun _ => True) v6 x6_2) ∧ Aside0 (Below w.heap.size w w'))
    case atStart => exact ⟨(t324), (0), wZ, H', ⟨Nat.le_refl _⟩, ⟨Rz HO326.out⟩, ⟨Bz HB.out⟩⟩
    case round =>
     clear H'
     try clear c2
     try clear c2b0
     try clear p2
     try clear c3
     try clear c3b0
     try clear p3
     try clear q3
     try clear hx3
     try clear c4
     try clear c4b0
     try clear c5
     try clear c5b0
     try clear p6
     try clear c7
     try clear hx323_0
     try clear p323
     try clear q323
     obtain ⟨x6_2, x27_2, rfl, HA, HK2, HO_6, HB⟩ := hrel; cases gk with
     | zero => exact absurd HA.out (by simp [slices_Concat_string_string.l1])
     | succ k2 =>
      have H := HA.out; clear HA
      simp only [slices_Concat_string_string.l1] at H
      by_cases c8 : x27_2 < (l0.length : Int)
      ·rw [if_pos c8] at H
       have c8b0 : decide (x27_2 < (l0.length : Int)) = true := decide_eq_true c8; clear c8
       by_cases c9 : 0 ≤ x27_2
       ·rw [if_pos c9] at H
        have c9b0 : decide (0 ≤ x27_2) = true := decide_eq_true c9; clear c9
        by_cases c10 : x27_2 < (l0.length : Int)
        ·rw [if_pos c10] at H
         have c10b0 : decide (x27_2 < (l0.length : Int)) = true := decide_eq_true c10; clear c10
         by_cases c11 : x6_2.length + (rd_L3 l0 x27_2).length < 8796093022208
         ·rw [if_pos c11] at H
          have LMc11 := am c11; clear c11; obtain ⟨y328, hy328⟩ : ∃ y_ : List ByteArray, y_ = (x6_2 ++ (rd_L3 l0 x27_2)) := ⟨_, rfl⟩
          replace H : (slices_Concat_string_string.l1 k2 y328 l0 (l0.length : Int) (wrap64 (x27_2 + 1))) = some r := by first | (rw [hy328]; with_reducible exact H) | (have H2_ := (Option.bind_some _ _).symm.trans H; rw [hy328]; with_reducible exact H2_) | (have H2_ := (Option.bind_some _ _).symm.trans H; with_reducible exact H2_) | with_reducible exact H | (rw [hy328]; exact H) | exact H
          have Ny328 := am hy328; clear hy328; have H' := am H; clear H; have p327 : 0 ≤ (x27_2 : Int) := dT; have q327 : x27_2 < (l0.length : Int) := dT; obtain ⟨ad327, A327_0, c327_0, e327, hx327_0, hl327_0, hi327_0⟩ := at_L3 HR0.out x27_2 p327 q327; cases e327; replace hx327_0 := (HB.out.cell (World.block_lt_of_cell? w _ hx327_0)).trans hx327_0; have HR327_0 := am hi327_0; have HC327_0 := am hl327_0; clear hi327_0 hl327_0; replace p327 := eq_true p327; replace q327 := eq_true q327
          go_wp2_with (first | ((with_reducible refine gate_builtin (b := .append) (xs := #[.tmp 31, .tmp 32]) rfl ?_); at_builtin; refine Kd.R_append_rows Kd.string (w0 := w) w.heap.size rfl (.tmp 31) (.tmp 32) 22 9 (.string ⟨#[]⟩) 16 rfl Try.underlying22 info9 rfl (by decide) (by omega) u6 x6_2 (rd_L3 l0 x27_2) _ _ _ (fun _ => True) (fun _ => False) rfl rfl ?aO ?aR (fun _ _ h => h) (fun _ h => h.elim) ?aF ?aB ?aS ?aL ?_; (case aR => repeat (first | exact (Kd.C_below HR327_0.out HB.out) | (with_reducible refine Kd.C_alloc ?_ _) | (with_reducible refine Kd.C_drewN ?_ _) | (with_reducible refine Kd.C_drew ?_))); (case aB => exact (Bz HB.out)); (case aF => exact (fun _ _ => trivial)); (case aO => exact (Rz HO_6.out)); (case aS => exact (below_size (Bz HB.out))); (case aL => have := LMc11.out; omega); intro v329 w12 ho hb hg hat; rw [← Ny328.out] at ho; have n0_ := am (hb); have n1_ := am (ho); clear HB HO_6; revert n0_ n1_; intro HB HO330; clear ho hb hg hat))
          go_roundg k2
          case measure => have := HK1.out; have := HK2.out; omega
          case rel => exact ⟨(y328), (wrap64 (x27_2 + 1)), wZ, H', ⟨by have := HK1.out; have := HK2.out; omega⟩, ⟨Rz HO330.out⟩, ⟨Bz HB.out⟩⟩
         ·rw [if_neg c11] at H
          exact absurd H (by simp)
        ·rw [if_neg c10] at H
         exact absurd H (by simp)
       ·rw [if_neg c9] at H
        exact absurd H (by simp)
      ·rw [if_neg c8] at H
       have c8b0 : decide (x27_2 < (l0.length : Int)) = false := decide_eq_false c8; clear c8; obtain rfl := Option.some.inj H
       go_wp2
       go_ret
       exact ⟨_, eZ, Rz HO_6.out, Bz HB.out⟩

-- BY HAND: function 59 (slices_Sort_string_string)

-- BY HAND: function 60 (slices_Compact_string_string)

def impl_MergeFronts.j0 : Nat → List ByteArray → List ByteArray → Bool → Int → List Int → List ByteArray → Option (Int × List Int × List ByteArray × Bool)
 | 0, _, _, _, _, _, _ => none
 | k + 1, x6, x8, x24, x332000, x332001, x332002 => if x24 = true then (some (0, ([] : List Int), ([] : List ByteArray), false)) else ((slices_Concat_string_string.f k (([x6, x8] : List (List ByteArray)))).bind fun t345 => ((slices_Sort_string_string.f t345).bind fun t348 => ((slices_Compact_string_string.f t348).bind fun t349 => ((impl_BuildFront.f k t349 x332000).bind fun bt352 => (some (bt352.1, bt352.2.1, bt352.2.2.1, bt352.2.2.2))))))
def impl_MergeFronts.f (k : Nat) (a0_0 : Int) (l0_1 : List Int) (l0_2 : List ByteArray) (a1_0 : Int) (l1_1 : List Int) (l1_2 : List ByteArray) : Option (Int × List Int × List ByteArray × Bool) := (impl_Front_keys.f k a0_0 l0_1 l0_2).bind fun bt334 => ((impl_Front_keys.f k a1_0 l1_1 l1_2).bind fun bt338 => (if bt334.2 = true then (impl_MergeFronts.j0 k bt334.1 bt338.1 (!bt338.2) a0_0 l0_1 l0_2) else (impl_MergeFronts.j0 k bt334.1 bt338.1 true a0_0 l0_1 l0_2)))
def impl_MergeFronts.T7 : Bool × List (List Nat × List Nat) := (true, [([], []), ([0], [0]), ([], []), ([2], [2]), ([1, 3, 1], [1, 3]), ([4], [4]), ([4], [4]), ([5, 4, 0, 1, 2, 3, 4, 5, 6], [5]), ([6, 7, 0, 1, 2, 3, 4, 5, 6, 7], [6])])
def impl_MergeFronts.B7 : List Nat := [0, 1, 0, 4, 15, 31, 31, 127, 255]
theorem impl_MergeFronts.tab7 : rtab .any (opsOf Try.f33 7) = impl_MergeFronts.T7 := by kernel_rfl
theorem impl_MergeFronts.bits7 : waitsOk impl_MergeFronts.T7.2 impl_MergeFronts.B7 = true := by kernel_rfl
theorem impl_MergeFronts.calls (k : Nat) (a0_0 : Int) (A0_1 : Option Addr) (c0_1 : Nat) (l0_1 : List Int) (A0_2 : Option Addr) (c0_2 : Nat) (l0_2 : List ByteArray) (a1_0 : Int) (A1_1 : Option Addr) (c1_1 : Nat) (l1_1 : List Int) (A1_2 : Option Addr) (c1_2 : Nat) (l1_2 : List ByteArray) (r1 : Int) (r2 : List Int) (r3 : List ByteArray) (r4 : Bool) (w : World) (hr0_1 : Kd.C (Kd.int .i64) w A0_1 l0_1.length l0_1) (hc0_1 : l0_1.length ≤ c0_1) (hr0_2 : Kd.C Kd.string w A0_2 l0_2.length l0_2) (hc0_2 : l0_2.length ≤ c0_2) (hr1_1 : Kd.C (Kd.int .i64) w A1_1 l1_1.length l1_1) (hc1_1 : l1_1.length ≤ c1_1) (hr1_2 : Kd.C Kd.string w A1_2 l1_2.length l1_2) (hc1_2 : l1_2.length ≤ c1_2) (h : impl_MergeFronts.f k a0_0 l0_1 l0_2 a1_0 l1_1 l1_2 = some (r1, r2, r3, r4)) :
  Calls Try.prog 33 #[.agg #[.int .i64 a0_0, .slice A0_1 l0_1.length c0_1, .slice A0_2 l0_2.length c0_2], .agg #[.int .i64 a1_0, .slice A1_1 l1_1.length c1_1, .slice A1_2 l1_2.length c1_2]] w fun e w' => ∃ v1_ v2_ : Value, e = .returned (.tuple #[.agg #[.int .i64 r1, v1_, v2_], .bool r4]) ∧ Kd.R (Kd.int .i64) 3 w' w.heap.size (fun _ => True) v1_ r2 ∧ Kd.R Kd.string 9 w' w.heap.size (fun _ => True) v2_ r3 ∧ Below w.heap.size w w' := by
 have hu26 := Try.underlying26; have HR0_1 := am hr0_1; have HC0_1 := am hc0_1; clear hr0_1 hc0_1; have HR0_2 := am hr0_2; have HC0_2 := am hc0_2; clear hr0_2 hc0_2; have HR1_1 := am hr1_1; have HC1_1 := am hc1_1; clear hr1_1 hc1_1; have HR1_2 := am hr1_2; have HC1_2 := am hc1_2; clear hr1_2 hc1_2; have HB := am (Below.refl w.heap.size w); have H : ((impl_Front_keys.f k a0_0 l0_1 l0_2).bind fun bt334 => ((impl_Front_keys.f k a1_0 l1_1 l1_2).bind fun bt338 => (if bt334.2 = true then (impl_MergeFronts.j0 k bt334.1 bt338.1 (!bt338.2) a0_0 l0_1 l0_2) else (impl_MergeFronts.j0 k bt334.1 bt338.1 true a0_0 l0_1 l0_2)))) = some (r1, r2, r3, r4) := h; clear h; obtain ⟨⟨t334, t335⟩, A3, H⟩ := ob H; (try dsimp -simprocs only at H); obtain ⟨⟨t338, t339⟩, A4, H⟩ := ob H; (try dsimp -simprocs only at H); have HC5 := am H; clear H
 go_enter Try.func33, Try.ntmps33
 go_upto_region 3 with (first | ((with_reducible refine gate_dst (N := 2) rfl ?_); refine bE 2 #[.int .i64 a0_0, .slice A0_1 l0_1.length c0_1, .slice A0_2 l0_2.length c0_2] 26 ?_; intro gb331 hg w6 hbox hb; have n0_ := Bb HB hb; have n1_ := am (hbox); have n2_ := Gl HB hg; have n3_ := Gl HB hg; clear HB; revert n0_ n1_ n2_ n3_; intro HB BK331 GW331 GE331; clear hb hbox hg) | ((with_reducible refine gate_dst (N := 3) rfl ?_); refine bE 3 #[.int .i64 a1_0, .slice A1_1 l1_1.length c1_1, .slice A1_2 l1_2.length c1_2] 26 ?_; intro gb332 hg w7 hbox hb; have n0_ := Kb BK331 hb; have n1_ := Bc HB hb; have n2_ := am (hbox); have n3_ := Gm HB hg; have n4_ := Gm HB hg; have n5_ := Nl BK331 hg; have n6_ := Ng BK331 hg; clear BK331 HB; revert n0_ n1_ n2_ n3_ n4_ n5_ n6_; intro BK331 HB BK332 GW332 GE332 NB331_332 NB332_331; clear hb hbox hg) | ((with_reducible refine gate_dst (N := 4) rfl ?_); refine bE 4 #[.int .i64 0, .slice none 0 0, .slice none 0 0] 26 ?_; intro gb333 hg w8 hbox hb; have n0_ := Kb BK331 hb; have n1_ := Kb BK332 hb; have n2_ := Bc HB hb; have n3_ := am (hbox); have n4_ := Gm HB hg; have n5_ := Gm HB hg; have n6_ := Nl BK331 hg; have n7_ := Ng BK331 hg; have n8_ := Nl BK332 hg; have n9_ := Ng BK332 hg; clear BK331 BK332 HB; revert n0_ n1_ n2_ n3_ n4_ n5_ n6_ n7_ n8_ n9_; intro BK331 BK332 HB BK333 GW333 GE333 NB331_333 NB333_331 NB332_333 NB333_332; clear hb hbox hg) | ((with_reducible refine gate_callee (f := 52) rfl ?_); refine gL (some 12) Try.func52 #[.pointer (some ⟨gb331, 0, none⟩)] ?_; (with_reducible refine (impl_Front_keys.calls k gb331 a0_0 A0_1 c0_1 l0_1 A0_2 c0_2 l0_2 t334 t335 _ ?side1 ?side2 ?side3 ?side4 ?side5 A3.out).mono ?_); (case side1 => exact Kz BK331.out); (case side2 => exact Cz (Kd.C_below HR0_1.out HB.out)); (case side3 => exact HC0_1.out); (case side4 => exact Cz (Kd.C_below HR0_2.out HB.out)); (case side5 => exact HC0_2.out); rintro e w9 ⟨v336, rfl, ho0, hb⟩; refine ⟨_, rfl, ?_⟩; have n0_ := Rm ho0 HB; have n1_ := Kb BK331 hb; have n2_ := Kb BK332 hb; have n3_ := Kb BK333 hb; have n4_ := Bc HB hb; clear BK331 BK332 BK333 HB; revert n0_ n1_ n2_ n3_ n4_; intro HO337 BK331 BK332 BK333 HB; (try clear hb); (try clear hb2); (try clear hk); (try clear hi); (try clear ho0)) | ((with_reducible refine gate_callee (f := 52) rfl ?_); refine gL (some 16) Try.func52 #[.pointer (some ⟨gb332, 0, none⟩)] ?_; (with_reducible refine (impl_Front_keys.calls k gb332 a1_0 A1_1 c1_1 l1_1 A1_2 c1_2 l1_2 t338 t339 _ ?side1 ?side2 ?side3 ?side4 ?side5 A4.out).mono ?_); (case side1 => exact Kz BK332.out); (case side2 => exact Cz (Kd.C_below HR1_1.out HB.out)); (case side3 => exact HC1_1.out); (case side4 => exact Cz (Kd.C_below HR1_2.out HB.out)); (case side5 => exact HC1_2.out); rintro e w10 ⟨v340, rfl, ho0, hb⟩; refine ⟨_, rfl, ?_⟩; have n0_ := Re HO337 (Kd.R_base ho0) hb; have n1_ := Rm (Kd.R_new' ho0 (Kd.R_lt (Rz HO337.out))) HB; have n2_ := Kb BK331 hb; have n3_ := Kb BK332 hb; have n4_ := Kb BK333 hb; have n5_ := Bc HB hb; clear HO337 BK331 BK332 BK333 HB; revert n0_ n1_ n2_ n3_ n4_ n5_; intro HO337 HO341 BK331 BK332 BK333 HB; (try clear hb); (try clear hb2); (try clear hk); (try clear hi); (try clear ho0)))
 (try simp only [aP])
 go_cut [24] (fun v24 wc => ∃ (kq : Nat) (x24_4 : Bool), v24 = .bool x24_4 ∧ Aside0 (impl_MergeFronts.j0 kq t334 t338 x24_4 a0_0 l0_1 l0_2 = some (r1, r2, r3, r4)) ∧ Aside0 (kq ≤ k) ∧ Aside0 (Kd.R Kd.string 9 wc w.heap.size (fun k_ => some k_ ≠ (v340 : Value).ownBlock) v336 t334) ∧ Aside0 (Kd.R Kd.string 9 wc w.heap.size (fun k_ => some k_ ≠ (v336 : Value).ownBlock) v340 t338) ∧ Aside0 (wc.heap[gb331]? = some (.cells #[.int .i64 a0_0, (.slice A0_1 l0_1.length c0_1), (.slice A0_2 l0_2.length c0_2)] 26 (0, 0))) ∧ Aside0 (wc.heap[gb332]? = some (.cells #[.int .i64 a1_0, (.slice A1_1 l1_1.length c1_1), (.slice A1_2 l1_2.length c1_2)] 26 (0, 0))) ∧ Aside0 (wc.heap[gb333]? = some (.cells #[.int .i64 0, (.slice none 0 0), (.slice none 0 0)] 26 (0, 0))) ∧ Aside0 (Below w.heap.size w wc))
 case first =>
  have H := HC5.out; clear HC5
  by_cases c11 : t335 = true
  ·subst c11
   rw [if_pos rfl] at H; have H' := am H; clear H
   go_wp2
   go_meet
   case rel => exact ⟨_, (!t339), wZ, H', ⟨by first | omega | exact Nat.le_refl _⟩, ⟨Rz (Kd.R_mono HO337.out (fun _ hk => hk.2))⟩, ⟨Rz (Kd.R_mono HO341.out (fun _ hk => hk.2))⟩, ⟨Kz BK331.out⟩, ⟨Kz BK332.out⟩, ⟨Kz BK333.out⟩, ⟨Bq⟩⟩
  ·replace c11 := Bool.eq_false_iff.mpr c11
   subst c11
   rw [if_neg (show ¬ (false = true) by decide)] at H; have H' := am H; clear H
   go_wp2
   go_meet
   case rel => exact ⟨_, (true), wZ, H', ⟨by first | omega | exact Nat.le_refl _⟩, ⟨Rz (Kd.R_mono HO337.out (fun _ hk => hk.2))⟩, ⟨Rz (Kd.R_mono HO341.out (fun _ hk => hk.2))⟩, ⟨Kz BK331.out⟩, ⟨Kz BK332.out⟩, ⟨Kz BK333.out⟩, ⟨Bq⟩⟩
 case rest =>
  clear HC5
  try clear c1
  try clear p2
  try clear c3
  try clear c5
  try clear c11
  obtain ⟨kq, x24_4, rfl, HA, HJ4, HO_6, HO_8, BK331, BK332, BK333, HB⟩ := hcut; cases kq with
  | zero => exact absurd HA.out (by simp [impl_MergeFronts.j0])
  | succ kj4 =>
   have H := HA.out; clear HA
   simp only [impl_MergeFronts.j0] at H
   by_cases c12 : x24_4 = true
   ·subst c12
    rw [if_pos rfl] at H
    simp only [Option.some.injEq, Prod.mk.injEq] at H
    obtain ⟨rfl, rfl, rfl, rfl⟩ := H; have hnb13 := NB333_331.out; have hnc13 := NB331_333.out; have hnb14 := NB333_332.out; have hnc14 := NB332_333.out; obtain ⟨hcz15_0, hcz15_1, hcz15_2, hfz15_0, hfz15_1, hfz15_2⟩ := cf3 (w := wc) BK333
    go_wp2
    refine bodyPost_ret (results_ct rfl _ _ gb333 26 #[.int .i64 0, .slice none 0 0, .slice none 0 0] (0, 0) _ rfl (by refine bp ?_; refine blk_put (cs := #[.int .i64 0, .slice none 0 0, .slice none 0 0]) ?_ 2 _ rfl; refine bp ?_; refine blk_put (cs := #[.int .i64 0, .slice none 0 0, .slice none 0 0]) ?_ 1 _ rfl; refine bp ?_; refine blk_put (cs := #[.int .i64 0, .slice none 0 0, .slice none 0 0]) ?_ 0 _ rfl; exact Kz BK333.out) Try.underlying26 rfl (by kernel_rfl)) rfl ?_; exact ⟨_, _, eZ, nZ, nZ, Bq⟩
   ·replace c12 := Bool.eq_false_iff.mpr c12
    subst c12
    rw [if_neg (show ¬ (false = true) by decide)] at H; obtain ⟨y342, hy342⟩ : ∃ y_ : List (List ByteArray), y_ = (([t334, t338] : List (List ByteArray))) := ⟨_, rfl⟩
    replace H : ((slices_Concat_string_string.f kj4 y342).bind fun t345 => ((slices_Sort_string_string.f t345).bind fun t348 => ((slices_Compact_string_string.f t348).bind fun t349 => ((impl_BuildFront.f kj4 t349 a0_0).bind fun bt352 => (some (bt352.1, bt352.2.1, bt352.2.2.1, bt352.2.2.2)))))) = some (r1, r2, r3, r4) := by first | (rw [hy342]; with_reducible exact H) | (have H2_ := (Option.bind_some _ _).symm.trans H; rw [hy342]; with_reducible exact H2_) | (have H2_ := (Option.bind_some _ _).symm.trans H; with_reducible exact H2_) | with_reducible exact H | (rw [hy342]; exact H) | exact H
    have Ny342 := am hy342; clear hy342; obtain ⟨t345, A16, H⟩ := ob H; (try dsimp -simprocs only at H); obtain ⟨t348, A17, H⟩ := ob H; (try dsimp -simprocs only at H); obtain ⟨t349, A18, H⟩ := ob H; (try dsimp -simprocs only at H); obtain ⟨⟨t352, t353, t356, t359⟩, A19, H⟩ := ob H; (try dsimp -simprocs only at H)
    simp only [Option.some.injEq, Prod.mk.injEq] at H
    obtain ⟨rfl, rfl, rfl, rfl⟩ := H; obtain ⟨Ao20, co20, eo20⟩ := Kd.R_slice HO_6.out; subst eo20; obtain ⟨Ao21, co21, eo21⟩ := Kd.R_slice HO_8.out; subst eo21
    try go_wp2_with (first | ((with_reducible refine gate_dst (N := 28) rfl ?_); refine Kd.N_lit (Kd.slice 9 Kd.string) _ 22 ?hg (N' := 28) ?hd (xs := ([t334, t338] : List (List ByteArray))) (inner := [.slice Ao20 t334.length co20, .slice Ao21 t338.length co21]) (ok := (fun k_ => k_ ≠ gb331 ∧ k_ ≠ gb332 ∧ k_ ≠ gb333)) (okp := (fun k_ => k_ ≠ gb331 ∧ k_ ≠ gb332 ∧ k_ ≠ gb333)) ?hr ?hp (fun _ hk => hk) ((show ∀ k_, wc.heap.size ≤ k_ → (fun k_ => k_ ≠ gb331 ∧ k_ ≠ gb332 ∧ k_ ≠ gb333) k_ from fun k_ hk => ⟨Kd.freshB (g := gb331) (o := .cells #[.int .i64 a0_0, .slice A0_1 l0_1.length c0_1, .slice A0_2 l0_2.length c0_2] 26 (0, 0)) (Kz BK331.out) k_ hk, Kd.freshB (g := gb332) (o := .cells #[.int .i64 a1_0, .slice A1_1 l1_1.length c1_1, .slice A1_2 l1_2.length c1_2] 26 (0, 0)) (Kz BK332.out) k_ hk, Kd.freshB (g := gb333) (o := .cells #[.int .i64 0, .slice none 0 0, .slice none 0 0] 26 (0, 0)) (Kz BK333.out) k_ hk⟩) _ (Nat.le_refl _)) (Below.refl _ _) (Nat.le_refl _) (by simp) ?_; (case hd => rfl); (case hg => rfl); (case hr => first | (go_simp; done) | (go_simp; rfl)); (case hp => exact (Reps.one (show Kd.FK (Kd.slice 9 Kd.string) _ _ t334 [.slice Ao20 t334.length co20] from (Kd.FK_slice_mk (Kd.R_reads' (Kd.R_mono (ok' := (fun k_ => k_ ≠ gb331 ∧ k_ ≠ gb332 ∧ k_ ≠ gb333)) (Kd.R_types (Kd.R_types (Kd.R_types (HO_6.out) BK331.out (by decide)) BK332.out (by decide)) BK333.out (by decide)) (fun k_ hk => ⟨hk.1.1.2, ⟨hk.1.2, hk.2⟩⟩))).2.1 (Kd.R_F (Kd.R_mono (ok' := (fun k_ => k_ ≠ gb331 ∧ k_ ≠ gb332 ∧ k_ ≠ gb333)) (Kd.R_types (Kd.R_types (Kd.R_types (HO_6.out) BK331.out (by decide)) BK332.out (by decide)) BK333.out (by decide)) (fun k_ hk => ⟨hk.1.1.2, ⟨hk.1.2, hk.2⟩⟩))))) (Reps.one (show Kd.FK (Kd.slice 9 Kd.string) _ _ t338 [.slice Ao21 t338.length co21] from (Kd.FK_slice_mk (Kd.R_reads' (Kd.R_mono (ok' := (fun k_ => k_ ≠ gb331 ∧ k_ ≠ gb332 ∧ k_ ≠ gb333)) (Kd.R_types (Kd.R_types (Kd.R_types (HO_8.out) BK331.out (by decide)) BK332.out (by decide)) BK333.out (by decide)) (fun k_ hk => ⟨hk.1.1.2, ⟨hk.1.2, hk.2⟩⟩))).2.1 (Kd.R_F (Kd.R_mono (ok' := (fun k_ => k_ ≠ gb331 ∧ k_ ≠ gb332 ∧ k_ ≠ gb333)) (Kd.R_types (Kd.R_types (Kd.R_types (HO_8.out) BK331.out (by decide)) BK332.out (by decide)) BK333.out (by decide)) (fun k_ hk => ⟨hk.1.1.2, ⟨hk.1.2, hk.2⟩⟩))))) (Reps.none _ _)))); intro v343 w22 ho23 hb hg_ hnew_; clear hg_ hnew_; (first | rw [← Ny342.out] at ho23 | (simp only [Int.reduceToNat] at ho23; rw [← Ny342.out] at ho23)); have n0_ := am (Kd.N_lower ho23 (below_size (w := w) (Bq))); have n1_ := Kb BK331 hb; have n2_ := Kb BK332 hb; have n3_ := Kb BK333 hb; have n4_ := Bc HB hb; clear BK331 BK332 BK333 HB HO_6 HO_8; revert n0_ n1_ n2_ n3_ n4_; intro HO344 BK331 BK332 BK333 HB; clear hb ho23; obtain ⟨Ao24, co24, eo24⟩ := Kd.N_slice HO344.out; subst eo24) | ((with_reducible refine gate_callee (f := 58) rfl ?_); refine gL (some 29) Try.func58 #[.slice Ao24 y342.length co24] ?_; (with_reducible refine (slices_Concat_string_string.calls kj4 _ _ y342 t345 _ ?side1 ?side2 A16.out).mono ?_); (case side1 => exact Cz ((Kd.N_reads' HO344.out).2.2)); (case side2 => exact (Kd.N_reads' HO344.out).2.1); rintro e w25 ⟨v346, rfl, ho0, hb⟩; refine ⟨_, rfl, ?_⟩; have n0_ := am (Kd.N_elder' (by (with_reducible repeat (first | apply Kd.N_alloc | apply Kd.N_drewN | apply Kd.N_drew)); exact HO344.out) (Kd.R_base ho0) hb); have n1_ := Rm ho0 HB; have n2_ := Kb BK331 hb; have n3_ := Kb BK332 hb; have n4_ := Kb BK333 hb; have n5_ := Bc HB hb; clear HO344 BK331 BK332 BK333 HB; revert n0_ n1_ n2_ n3_ n4_ n5_; intro HO344 HO347 BK331 BK332 BK333 HB; (try clear hb); (try clear hb2); (try clear hk); (try clear hi); (try clear ho0); obtain ⟨Ao26, co26, eo26⟩ := Kd.R_slice HO347.out; subst eo26) | ((with_reducible refine gate_callee (f := 59) rfl ?_); refine gL (some 31) Try.func59 #[.slice Ao26 t345.length co26] ?_; (with_reducible refine (slices_Sort_string_string.calls (fun k_ => some k_ = (.slice Ao26 t345.length co26 : Value).ownBlock) (.slice Ao26 t345.length co26) t345 t348 w _ ?side1 ?side2 A17.out).mono ?_); (case side1 => repeat (first | (with_reducible first | exact HB.out | apply below_alloc | apply pw_below_drewN | apply below_drew1 | refine below_set ?_ GE331.out | refine below_set ?_ GE332.out | refine below_set ?_ GE333.out) | exact HB.out)); (case side2 => exact Kd.R_tight rfl HO347.out); rintro e w27 ⟨rfl, hy0, hb, hkp⟩; refine ⟨_, rfl, ?_⟩; have n0_ := am (blk_kept (Kz BK331.out) hkp (fun hs_ => (fun e_ => (Kd.R_ne HO347.out BK331.out (by decide)) e_) hs_)); have n1_ := am (blk_kept (Kz BK332.out) hkp (fun hs_ => (fun e_ => (Kd.R_ne HO347.out BK332.out (by decide)) e_) hs_)); have n2_ := am (blk_kept (Kz BK333.out) hkp (fun hs_ => (fun e_ => (Kd.R_ne HO347.out BK333.out (by decide)) e_) hs_)); have n3_ := am (Kd.N_mono (ok' := fun k_ => some k_ ≠ (.slice Ao26 t345.length co26 : Value).ownBlock ∧ k_ ≠ gb331 ∧ k_ ≠ gb332 ∧ k_ ≠ gb333) (Kd.N_keptB (HO344.out) hkp (fun k_ hk_ hs_ => (hk_.2) hs_)) (fun k_ hk_ => ⟨hk_.1.2, hk_.1.1.1, hk_.1.1.2.1, hk_.1.1.2.2⟩)); have n4_ := am (Kd.R_reok rfl hy0 (fun k_ e_ => HO347.out.1 k_ e_)); have n5_ := am (hb); clear BK331 BK332 BK333 HO344 HO347 HB; revert n0_ n1_ n2_ n3_ n4_ n5_; intro BK331 BK332 BK333 HO344 HO347 HB; (try clear hb); (try clear hkp); (try clear hy0)))
    have n0_ := am (Kd.N_drew HO344.out); have n1_ := am (Kd.R_drew HO347.out); have n2_ := am (blk_drew BK331.out); have n3_ := am (blk_drew BK332.out); have n4_ := am (blk_drew BK333.out); have n5_ := am (below_drew1 HB.out); clear HO344 HO347 BK331 BK332 BK333 HB; revert n0_ n1_ n2_ n3_ n4_ n5_; intro HO344 HO347 BK331 BK332 BK333 HB; refine start_ (n := 9) (S := fun w' => w'.cell? ⟨gb331, 0, none⟩ = some (.int .i64 a0_0) ∧ w'.cell? ⟨gb331, 1, none⟩ = some (.slice A0_1 l0_1.length c0_1) ∧ w'.cell? ⟨gb331, 2, none⟩ = some (.slice A0_2 l0_2.length c0_2)) (ds := []) (bA 9 0) (by kernel_rfl) rfl rfl ⟨cz BK331 0, cz BK331 1, cz BK331 2⟩ (fun hHeld => ?_); refine with_tabW impl_MergeFronts.tab7 impl_MergeFronts.bits7 (fun HT_ HW_ => ?_); generalize w27.drew = w28 at HO344 HO347 BK331 BK332 BK333 HB hHeld ⊢; refine pZ 0 (some 32) (bA 9 1) HT_.out ?_; refine pZ 2 (some 34) (bA 9 5) HT_.out ?_; refine tZ3 3 (some 35) (bA 9 13) HT_.out HW_.out hHeld ?_; refine oZ 1 (some 33) (bA 9 15) HT_.out (fun K hK => ?_); refine gZ Try.func60 #[.slice Ao26 t345.length co26] ?_
    with_reducible refine (slices_Compact_string_string.calls (fun k_ => some k_ = (.slice Ao26 t345.length co26 : Value).ownBlock) (.slice Ao26 t345.length co26) t348 t349 w _ ?side1 ?side2 A18.out).mono ?_
    (case side1 => repeat (first | (with_reducible first | exact HB.out | apply below_alloc | apply pw_below_drewN | apply below_drew1 | refine below_set ?_ GE331.out | refine below_set ?_ GE332.out | refine below_set ?_ GE333.out) | exact HB.out))
    (case side2 => exact Kd.R_tight rfl HO347.out)
    rintro e w29 ⟨v350, rfl, ho0, hb, hkp⟩; refine ⟨_, rfl, ?_⟩; have n0_ := am (blk_kept (Kz BK331.out) hkp (fun hs_ => (fun e_ => (Kd.R_ne HO347.out BK331.out (by decide)) e_) hs_)); have n1_ := am (blk_kept (Kz BK332.out) hkp (fun hs_ => (fun e_ => (Kd.R_ne HO347.out BK332.out (by decide)) e_) hs_)); have n2_ := am (blk_kept (Kz BK333.out) hkp (fun hs_ => (fun e_ => (Kd.R_ne HO347.out BK333.out (by decide)) e_) hs_)); have n3_ := am (Kd.N_mono (ok' := fun k_ => k_ ≠ gb331 ∧ k_ ≠ gb332 ∧ k_ ≠ gb333 ∧ some k_ ≠ (v350 : Value).ownBlock) (Kd.N_keptB (HO344.out) hkp (fun k_ hk_ hs_ => (hk_.1) hs_)) (fun k_ hk_ => ⟨hk_.1.2.1, hk_.1.2.2.1, hk_.1.2.2.2, fun e_ => Or.elim (ho0.1 k_ e_.symm) (fun hs_ => hk_.2.1 hs_) (fun hn_ => Nat.not_le.2 hk_.2.2 hn_)⟩)); have n4_ := am (Kd.R_mono (ok' := fun k_ => True) ho0 (fun k_ hk_ => trivial)); have n5_ := am (hb); clear BK331 BK332 BK333 HO344 HB HO347; revert n0_ n1_ n2_ n3_ n4_ n5_; intro BK331 BK332 BK333 HO344 HO351 HB
    (try clear hb)
    (try clear hkp)
    (try clear ho0)
    obtain ⟨Ao30, co30, eo30⟩ := Kd.R_slice HO351.out
    (first | subst eo30 | (injection eo30 with f1_ f2_ f3_; have f4_ := f1_.symm; have f5_ := f3_.symm; clear f1_ f2_ f3_; subst f4_; subst f5_))
    refine hK.out _ _ ⟨cz BK331 0, cz BK331 1, cz BK331 2⟩ (fun hHeld => ?_); clear hK K; refine norm_ (a' := ?_) ?_ ?_; rotate_left; show Act.put _ (some 33) _ = _; simp only [aP, i64_w, i32_w]; rfl; refine oZ 4 (some 36) (bA 9 31) HT_.out (fun K hK => ?_); refine gZ Try.func14 #[.slice Ao30 t349.length co30, .int .i64 a0_0] ?_
    with_reducible refine (impl_BuildFront.calls kj4 _ _ t349 a0_0 t352 t353 t356 t359 _ ?side1 ?side2 A19.out).mono ?_
    (case side1 => exact Cz ((Kd.R_reads' HO351.out).2.2))
    (case side2 => exact (Kd.R_reads' HO351.out).2.1)
    rintro e w31 ⟨v354, v357, rfl, ho0, ho1, hb⟩; refine ⟨_, rfl, ?_⟩; have n0_ := am (Kd.N_mono (Kd.N_told (Kd.N_told (Kd.N_old (by (with_reducible repeat (first | apply Kd.N_alloc | apply Kd.N_drewN | apply Kd.N_drew)); exact HO344.out) hb) (Kd.R_base ho0)) (Kd.R_base ho1)) (fun _ h_ => h_.1)); have n1_ := Re HO351 (Kd.R_base ho1) hb; have n2_ := Rm ho0 HB; have n3_ := Rm (Kd.R_new' ho1 (Kd.R_lt (Rz HO351.out))) HB; have n4_ := Kb BK331 hb; have n5_ := Kb BK332 hb; have n6_ := Kb BK333 hb; have n7_ := Bc HB hb; clear HO344 HO351 BK331 BK332 BK333 HB; revert n0_ n1_ n2_ n3_ n4_ n5_ n6_ n7_; intro HO344 HO351 HO355 HO358 BK331 BK332 BK333 HB
    (try clear hb)
    (try clear hb2)
    (try clear hk)
    (try clear hi)
    (try clear ho0)
    (try clear ho1)
    obtain ⟨Ao33, co33, eo33⟩ := Kd.R_slice HO355.out
    (first | subst eo33 | (injection eo33 with f1_ f2_ f3_; have f4_ := f1_.symm; have f5_ := f3_.symm; clear f1_ f2_ f3_; subst f4_; subst f5_))
    obtain ⟨Ao35, co35, eo35⟩ := Kd.R_slice HO358.out
    (first | subst eo35 | (injection eo35 with f1_ f2_ f3_; have f4_ := f1_.symm; have f5_ := f3_.symm; clear f1_ f2_ f3_; subst f4_; subst f5_))
    refine hK.out _ _ ⟨cz BK331 0, cz BK331 1, cz BK331 2⟩ (fun hHeld => ?_); clear hK K; refine norm_ (a' := ?_) ?_ ?_; rotate_left; show Act.put _ (some 36) _ = _; simp only [aP, i64_w, i32_w]; rfl; refine pZ 5 (some 37) (bA 9 63) HT_.out ?_; refine pZ 6 (some 38) (bA 9 127) HT_.out ?_; refine oZ 7 none (bA 9 255) HT_.out (fun K hK => ?_); have hs32 : w31.cell? ⟨gb333, 0, none⟩ = some (.int .i64 0) := cz BK333 0; have hfs32 := blk_frozen BK333.out 0; have hns32_0 := NB331_333.out; have hns32_1 := NB332_333.out; have hms32_0 := NB333_331.out; have hms32_1 := NB333_332.out; have hs34 : w31.cell? ⟨gb333, 1, none⟩ = some (.slice none 0 0) := cz BK333 1; have hfs34 := blk_frozen BK333.out 1; have hns34_0 := NB331_333.out; have hns34_1 := NB332_333.out; have hms34_0 := NB333_331.out; have hms34_1 := NB333_332.out; have hs36 : w31.cell? ⟨gb333, 2, none⟩ = some (.slice none 0 0) := cz BK333 2; have hfs36 := blk_frozen BK333.out 2; have hns36_0 := NB331_333.out; have hns36_1 := NB332_333.out; have hms36_0 := NB333_331.out; have hms36_1 := NB333_332.out; refine skip_ (w1 := ?_) (by rfl) rfl ?_ ?_
    rotate_left
    ·go_simp
     rfl
    refine hK.out _ _ ⟨((cell_far (p := ⟨gb333, _, none⟩) NB331_333.out _).trans (((cell_far (p := ⟨gb333, _, none⟩) NB331_333.out _).trans (((cell_far (p := ⟨gb333, _, none⟩) NB331_333.out _).trans (hHeld.1)))))), ((cell_far (p := ⟨gb333, _, none⟩) NB331_333.out _).trans (((cell_far (p := ⟨gb333, _, none⟩) NB331_333.out _).trans (((cell_far (p := ⟨gb333, _, none⟩) NB331_333.out _).trans (hHeld.2.1)))))), ((cell_far (p := ⟨gb333, _, none⟩) NB331_333.out _).trans (((cell_far (p := ⟨gb333, _, none⟩) NB331_333.out _).trans (((cell_far (p := ⟨gb333, _, none⟩) NB331_333.out _).trans (hHeld.2.2))))))⟩ (fun hHeld => ?_); clear hK K; refine pZ 8 (some 5) (bA 9 511) HT_.out ?_; refine done_ (done_of HT_.out (by kernel_rfl)) ?_
    try go_wp2
    refine bodyPost_ret (results_ct rfl _ _ gb333 26 #[.int .i64 t352, .slice Ao33 t353.length co33, .slice Ao35 t356.length co35] (0, 0) _ rfl (by refine bp ?_; refine blk_put (cs := #[.int .i64 t352, .slice Ao33 t353.length co33, .slice none 0 0]) ?_ 2 _ rfl; refine bp ?_; refine blk_put (cs := #[.int .i64 t352, .slice none 0 0, .slice none 0 0]) ?_ 1 _ rfl; refine bp ?_; refine blk_put (cs := #[.int .i64 0, .slice none 0 0, .slice none 0 0]) ?_ 0 _ rfl; exact Kz BK333.out) Try.underlying26 rfl (by kernel_rfl)) rfl ?_; exact ⟨_, _, eZ, Rz (Kd.R_mono (Kd.R_far (p := ⟨gb333, 2, none⟩) (Kd.R_far (p := ⟨gb333, 1, none⟩) (Kd.R_far (p := ⟨gb333, 0, none⟩) (Kd.R_types HO355.out BK333.out (by decide)) (fun _ hk => hk.2) (.int .i64 t352)) (fun _ hk => hk.2) (.slice Ao33 t353.length co33)) (fun _ hk => hk.2) (.slice Ao35 t356.length co35)) (fun _ hk => trivial)), Rz (Kd.R_mono (Kd.R_far (p := ⟨gb333, 2, none⟩) (Kd.R_far (p := ⟨gb333, 1, none⟩) (Kd.R_far (p := ⟨gb333, 0, none⟩) (Kd.R_types HO358.out BK333.out (by decide)) (fun _ hk => hk.2) (.int .i64 t352)) (fun _ hk => hk.2) (.slice Ao33 t353.length co33)) (fun _ hk => hk.2) (.slice Ao35 t356.length co35)) (fun _ hk => trivial)), Bq⟩

end Go.Proofs.Ytfedgkmklcialaa.PM
