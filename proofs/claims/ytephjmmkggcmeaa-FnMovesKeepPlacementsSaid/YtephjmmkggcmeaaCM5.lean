import Derived.Test.YtephjmmkggcmeaaCM1
import Derived.Test.YtephjmmkggcmeaaCM4
import Derived.Test.YtephjmmkggcmeaaCM2
import Derived.Test.YtephjmmkggcmeaaCM0
import Derived.Lib.Bytes
-- printed by a program of this session (wip/gp) out of the translation; Lean checks it
namespace Go.Proofs.Ytephjmmkggcmeaa.PM
open Go.RowKit Go.Proofs.YtephjmmkggcmeaaW.PrintWords Go.Proofs.YtephjmmkggcmeaaW.PrintLast Go.Proofs.YtephjmmkggcmeaaW.PrintMore Go.Proofs.YtephjmmkggcmeaaSq
attribute [local go_sem] max2_int min2_int max_two min_two max_three min_three max_four min_four   -- for this text's walks alone
attribute [local go_sem] Go.Proofs.YtephjmmkggcmeaaGp.str_geq Go.Proofs.YtephjmmkggcmeaaGp.str_gtr Go.Proofs.YtephjmmkggcmeaaGp.str_leq
set_option linter.unusedVariables false
set_option linter.unusedSimpArgs false

set_option maxHeartbeats 8000000
set_option maxRecDepth 100000
mutual
def impl_hash.l0 : Nat → ByteArray → Int → Int → Int → Option (Int)
 | 0, _, _, _, _ => none
 | k + 1, x2, x7, x18, x19 => if x19 < x18 then (if 0 ≤ x19 then (if x19 < (x2.size : Int) then (impl_hash.l0 k x2 (Int.tmod (wrap64 ((wrap64 (263 * x7)) + (wrap64 (bt x2 x19)))) 65521) x18 (wrap64 (x19 + 1))) else (none)) else (none)) else (impl_hash.l1 k x7 1 0)
def impl_hash.l1 : Nat → Int → Int → Int → Option (Int)
 | 0, _, _, _ => none
 | k + 1, x7, x9, x31 => if x31 < 11 then (impl_hash.l1 k x7 (Int.tmod (wrap64 (x9 * x7)) 65521) (wrap64 (x31 + 1))) else (some x9)
end
def impl_hash.f (k : Nat) (a0 : Int) (a1 : Int) (a2 : ByteArray) : Option (Int) := impl_hash.l0 k a2 (Int.tmod (wrap64 ((wrap64 ((wrap64 (31 * a0)) + (wrap64 (977 * a1)))) + 7)) 65521) (a2.size : Int) 0
theorem impl_hash.calls (k : Nat) (a0 : Int) (a1 : Int) (a2 : ByteArray) (r : Int) (w : World) (h : impl_hash.f k a0 a1 a2 = some r) :
  Calls Try.prog 150 #[.int .i64 a0, .int .i64 a1, .string a2] w fun e w' => e = .returned (.int .i64 r) ∧ Drawn0 w w' := by
 have H : (impl_hash.l0 k a2 (Int.tmod (wrap64 ((wrap64 ((wrap64 (31 * a0)) + (wrap64 (977 * a1)))) + 7)) 65521) (a2.size : Int) 0) = some r := h; clear h; have H' := am H; clear H
 go_enter Try.func150, Try.ntmps150
 go_wp2
 go_loopg [7, 19] k (fun kq v7 v19 w' => ∃ (x7_1 : Int) (x19_1 : Int), v7 = .int .i64 x7_1 ∧ v19 = .int .i64 x19_1 ∧ Aside0 (impl_hash.l0 kq a2 x7_1 (a2.size : Int) x19_1 = some r) ∧ Aside0 (kq ≤ k) ∧ Drawn0 w w')
 case atStart => exact ⟨(Int.tmod (wrap64 ((wrap64 ((wrap64 (31 * a0)) + (wrap64 (977 * a1)))) + 7)) 65521), (0), wZ, wZ, H', ⟨Nat.le_refl _⟩, by repeat (first | exact Drawn0.refl _ | apply Drawn0.step)⟩
 case round =>
  clear H'
  try clear c1
  try clear p2
  obtain ⟨x7_1, x19_1, rfl, rfl, HA, HK1, ⟨m1, rfl⟩⟩ := hrel; cases gk with
  | zero => exact absurd HA.out (by simp [impl_hash.l0])
  | succ k1 =>
   have H := HA.out; clear HA
   simp only [impl_hash.l0] at H
   by_cases c4 : x19_1 < (a2.size : Int)
   ·rw [if_pos c4] at H
    have c4b0 : decide (x19_1 < (a2.size : Int)) = true := decide_eq_true c4; clear c4
    by_cases c5 : 0 ≤ x19_1
    ·rw [if_pos c5] at H
     have c5b0 : decide (0 ≤ x19_1) = true := decide_eq_true c5; clear c5
     by_cases c6 : x19_1 < (a2.size : Int)
     ·rw [if_pos c6] at H
      have c6b0 : decide (x19_1 < (a2.size : Int)) = true := decide_eq_true c6; clear c6; have H' := am H; clear H; have p7 : 0 ≤ (x19_1 : Int) := dT; have q7 : x19_1 < (a2.size : Int) := dT; have hx7 := bt_at a2 x19_1; replace p7 := eq_true p7; replace q7 := eq_true q7
      go_wp2
      go_roundg k1
      case measure => have := HK1.out; omega
      case rel => exact ⟨(Int.tmod (wrap64 ((wrap64 (263 * x7_1)) + (wrap64 (bt a2 x19_1)))) 65521), (wrap64 (x19_1 + 1)), wZ, wZ, H', ⟨by have := HK1.out; omega⟩, by repeat (first | exact Drawn0.refl _ | apply Drawn0.step)⟩
     ·rw [if_neg c6] at H
      exact absurd H (by simp)
    ·rw [if_neg c5] at H
     exact absurd H (by simp)
   ·rw [if_neg c4] at H
    have c4b0 : decide (x19_1 < (a2.size : Int)) = false := decide_eq_false c4; clear c4; have H' := am H; clear H
    go_wp2
    go_loopg [9, 31] k1 (fun kq v9 v31 w' => ∃ (x9_2 : Int) (x31_2 : Int), v9 = .int .i64 x9_2 ∧ v31 = .int .i64 x31_2 ∧ Aside0 (impl_hash.l1 kq x7_1 x9_2 x31_2 = some r) ∧ Aside0 (kq ≤ k1) ∧ Drawn0 w w')
    case atStart => exact ⟨(1), (0), wZ, wZ, H', ⟨Nat.le_refl _⟩, by repeat (first | exact Drawn0.refl _ | apply Drawn0.step)⟩
    case round =>
     clear H'
     try clear c1
     try clear p2
     try clear c4
     try clear c4b0
     try clear c5
     try clear c5b0
     try clear c6
     try clear c6b0
     try clear p6
     try clear p7
     try clear q7
     try clear hx7
     try clear p2
     try clear p7
     try clear q7
     obtain ⟨x9_2, x31_2, rfl, rfl, HA, HK2, ⟨m2, rfl⟩⟩ := hrel; cases gk with
     | zero => exact absurd HA.out (by simp [impl_hash.l1])
     | succ k2 =>
      have H := HA.out; clear HA
      simp only [impl_hash.l1] at H
      by_cases c8 : x31_2 < 11
      ·rw [if_pos c8] at H
       have c8b0 : decide (x31_2 < 11) = true := decide_eq_true c8; clear c8; have H' := am H; clear H
       go_wp2
       go_roundg k2
       case measure => have := HK1.out; have := HK2.out; omega
       case rel => exact ⟨(Int.tmod (wrap64 (x9_2 * x7_1)) 65521), (wrap64 (x31_2 + 1)), wZ, wZ, H', ⟨by have := HK1.out; have := HK2.out; omega⟩, by repeat (first | exact Drawn0.refl _ | apply Drawn0.step)⟩
      ·rw [if_neg c8] at H
       have c8b0 : decide (x31_2 < 11) = false := decide_eq_false c8; clear c8; obtain rfl := Option.some.inj H
       go_wp2
       go_ret
       exact ⟨by first | rfl | (simp; done) | (simp [*]; done), by repeat (first | exact Drawn0.refl _ | apply Drawn0.step)⟩

def impl_place.f (k : Nat) (a0 : Int) (a1 : Int) (a2 : ByteArray) (a3 : Int) : Option (Int) := (impl_hash.f k a0 a1 a2).bind fun t490 => (some (wrap64 (Int.tdiv (wrap64 (t490 * a3)) 65521)))
theorem impl_place.calls (k : Nat) (a0 : Int) (a1 : Int) (a2 : ByteArray) (a3 : Int) (r : Int) (w : World) (h : impl_place.f k a0 a1 a2 a3 = some r) :
  Calls Try.prog 126 #[.int .i64 a0, .int .i64 a1, .string a2, .int .i64 a3] w fun e w' => e = .returned (.int .i64 r) ∧ Drawn0 w w' := by
 have H : ((impl_hash.f k a0 a1 a2).bind fun t490 => (some (wrap64 (Int.tdiv (wrap64 (t490 * a3)) 65521)))) = some r := h; clear h; replace H := Option.bind_eq_some_iff.mp H; obtain ⟨t490, A50, H⟩ := H; (try dsimp -simprocs only at H); have A5 := am A50; clear A50; obtain rfl := Option.some.inj H
 go_enter Try.func126, Try.ntmps126
 go_wp2_with (first | ((with_reducible refine gate_callee (f := 150) rfl ?_); refine gL (some 12) Try.func150 #[.int .i64 a0, .int .i64 a1, .string a2] ?_; (with_reducible refine (impl_hash.calls k a0 a1 a2 t490 _ A5.out).mono ?_); rintro e w' ⟨rfl, ⟨nd, rfl⟩⟩; refine ⟨_, rfl, ?_⟩))
 go_ret
 exact ⟨by first | rfl | (simp; done) | (simp [*]; done), by repeat (first | exact Drawn0.refl _ | apply Drawn0.step)⟩

def impl_cellsOf.f (k : Nat) (a0 : Int) (a1 : ByteArray) (a2 : Int) : Option (Int × Int) := (impl_place.f k a0 0 a1 a2).bind fun t491 => ((impl_place.f k a0 1 a1 a2).bind fun t492 => (some (t491, t492)))
theorem impl_cellsOf.calls (k : Nat) (a0 : Int) (a1 : ByteArray) (a2 : Int) (r1 : Int) (r2 : Int) (w : World) (h : impl_cellsOf.f k a0 a1 a2 = some (r1, r2)) :
  Calls Try.prog 68 #[.int .i64 a0, .string a1, .int .i64 a2] w fun e w' => e = .returned (.tuple #[.int .i64 r1, .int .i64 r2]) ∧ Drawn0 w w' := by
 have H : ((impl_place.f k a0 0 a1 a2).bind fun t491 => ((impl_place.f k a0 1 a1 a2).bind fun t492 => (some (t491, t492)))) = some (r1, r2) := h; clear h; replace H := Option.bind_eq_some_iff.mp H; obtain ⟨t491, A40, H⟩ := H; (try dsimp -simprocs only at H); have A4 := am A40; clear A40; replace H := Option.bind_eq_some_iff.mp H; obtain ⟨t492, A50, H⟩ := H; (try dsimp -simprocs only at H); have A5 := am A50; clear A50
 simp only [Option.some.injEq, Prod.mk.injEq] at H
 obtain ⟨rfl, rfl⟩ := H
 go_enter Try.func68, Try.ntmps68
 go_wp2_with (first | ((with_reducible refine gate_callee (f := 126) rfl ?_); refine gL (some 11) Try.func126 #[.int .i64 a0, .int .i64 0, .string a1, .int .i64 a2] ?_; (with_reducible refine (impl_place.calls k a0 0 a1 a2 t491 _ A4.out).mono ?_); rintro e w' ⟨rfl, ⟨nd, rfl⟩⟩; refine ⟨_, rfl, ?_⟩) | ((with_reducible refine gate_callee (f := 126) rfl ?_); refine gL (some 15) Try.func126 #[.int .i64 a0, .int .i64 1, .string a1, .int .i64 a2] ?_; (with_reducible refine (impl_place.calls k a0 1 a1 a2 t492 _ A5.out).mono ?_); rintro e w' ⟨rfl, ⟨nd, rfl⟩⟩; refine ⟨_, rfl, ?_⟩))
 go_ret2
 exact ⟨by first | rfl | (simp; done) | (simp [*]; done), by repeat (first | exact Drawn0.refl _ | apply Drawn0.step)⟩

def impl_IsKey.l0 : Nat → ByteArray → Int → Int → Option (Bool)
 | 0, _, _, _ => none
 | k + 1, x0, x5, x6 => if x6 < x5 then (if 0 ≤ x6 then (if x6 < (x0.size : Int) then (if (bt x0 x6) < 33 then (some false) else (if (bt x0 x6) > 125 then (some false) else (impl_IsKey.l0 k x0 x5 (wrap64 (x6 + 1))))) else (none)) else (none)) else ((impl_in.f (x0.size : Int) 1 12).bind fun t493 => (some t493))
def impl_IsKey.f (k : Nat) (a0 : ByteArray) : Option (Bool) := impl_IsKey.l0 k a0 (a0.size : Int) 0
theorem impl_IsKey.calls (k : Nat) (a0 : ByteArray) (r : Bool) (w : World) (h : impl_IsKey.f k a0 = some r) :
  Calls Try.prog 66 #[.string a0] w fun e w' => e = .returned (.bool r) ∧ Drawn0 w w' := by
 have H : (impl_IsKey.l0 k a0 (a0.size : Int) 0) = some r := h; clear h; have H' := am H; clear H
 go_enter Try.func66, Try.ntmps66
 go_wp2
 go_loopg [6] k (fun kq v6 w' => ∃ (x6_1 : Int), v6 = .int .i64 x6_1 ∧ Aside0 (impl_IsKey.l0 kq a0 (a0.size : Int) x6_1 = some r) ∧ Aside0 (kq ≤ k) ∧ Drawn0 w w')
 case atStart => exact ⟨(0), wZ, H', ⟨Nat.le_refl _⟩, by repeat (first | exact Drawn0.refl _ | apply Drawn0.step)⟩
 case round =>
  clear H'; obtain ⟨x6_1, rfl, HA, HK1, ⟨m1, rfl⟩⟩ := hrel; cases gk with
  | zero => exact absurd HA.out (by simp [impl_IsKey.l0])
  | succ k1 =>
   have H := HA.out; clear HA
   simp only [impl_IsKey.l0] at H
   by_cases c2 : x6_1 < (a0.size : Int)
   ·rw [if_pos c2] at H
    have c2b0 : decide (x6_1 < (a0.size : Int)) = true := decide_eq_true c2; clear c2
    by_cases c3 : 0 ≤ x6_1
    ·rw [if_pos c3] at H
     have c3b0 : decide (0 ≤ x6_1) = true := decide_eq_true c3; clear c3
     by_cases c4 : x6_1 < (a0.size : Int)
     ·rw [if_pos c4] at H
      have c4b0 : decide (x6_1 < (a0.size : Int)) = true := decide_eq_true c4; clear c4
      by_cases c6 : (bt a0 x6_1) < 33
      ·rw [if_pos c6] at H
       have c6b0 : decide ((bt a0 x6_1) < 33) = true := decide_eq_true c6; clear c6; obtain rfl := Option.some.inj H; have p5 : 0 ≤ (x6_1 : Int) := dT; have q5 : x6_1 < (a0.size : Int) := dT; have hx5 := bt_at a0 x6_1; replace p5 := eq_true p5; replace q5 := eq_true q5
       go_wp2
       go_ret
       exact ⟨by first | rfl | (simp; done) | (simp [*]; done), by repeat (first | exact Drawn0.refl _ | apply Drawn0.step)⟩
      ·rw [if_neg c6] at H
       have c6b0 : decide ((bt a0 x6_1) < 33) = false := decide_eq_false c6; clear c6
       by_cases c8 : (bt a0 x6_1) > 125
       ·rw [if_pos c8] at H
        have c8b0 : decide (125 < (bt a0 x6_1)) = true := decide_eq_true c8; clear c8; obtain rfl := Option.some.inj H; have p5 : 0 ≤ (x6_1 : Int) := dT; have q5 : x6_1 < (a0.size : Int) := dT; have hx5 := bt_at a0 x6_1; replace p5 := eq_true p5; replace q5 := eq_true q5; have p7 : 0 ≤ (x6_1 : Int) := dT; have q7 : x6_1 < (a0.size : Int) := dT; have hx7 := bt_at a0 x6_1; replace p7 := eq_true p7; replace q7 := eq_true q7
        go_wp2
        go_ret
        exact ⟨by first | rfl | (simp; done) | (simp [*]; done), by repeat (first | exact Drawn0.refl _ | apply Drawn0.step)⟩
       ·rw [if_neg c8] at H
        have c8b0 : decide (125 < (bt a0 x6_1)) = false := decide_eq_false c8; clear c8; have H' := am H; clear H; have p5 : 0 ≤ (x6_1 : Int) := dT; have q5 : x6_1 < (a0.size : Int) := dT; have hx5 := bt_at a0 x6_1; replace p5 := eq_true p5; replace q5 := eq_true q5; have p7 : 0 ≤ (x6_1 : Int) := dT; have q7 : x6_1 < (a0.size : Int) := dT; have hx7 := bt_at a0 x6_1; replace p7 := eq_true p7; replace q7 := eq_true q7
        go_wp2
        go_roundg k1
        case measure => have := HK1.out; omega
        case rel => exact ⟨(wrap64 (x6_1 + 1)), wZ, H', ⟨by have := HK1.out; omega⟩, by repeat (first | exact Drawn0.refl _ | apply Drawn0.step)⟩
     ·rw [if_neg c4] at H
      exact absurd H (by simp)
    ·rw [if_neg c3] at H
     exact absurd H (by simp)
   ·rw [if_neg c2] at H
    have c2b0 : decide (x6_1 < (a0.size : Int)) = false := decide_eq_false c2; clear c2; replace H := Option.bind_eq_some_iff.mp H; obtain ⟨t493, A90, H⟩ := H; (try dsimp -simprocs only at H); have A9 := am A90; clear A90; obtain rfl := Option.some.inj H
    go_wp2_with (first | ((with_reducible refine gate_callee (f := 112) rfl ?_); refine gL (some 22) Try.func112 #[.int .i64 (a0.size : Int), .int .i64 1, .int .i64 12] ?_; (with_reducible refine (impl_in.calls (a0.size : Int) 1 12 t493 _ A9.out).mono ?_); rintro e w' ⟨rfl, ⟨nd, rfl⟩⟩; refine ⟨_, rfl, ?_⟩))
    go_ret
    exact ⟨by first | rfl | (simp; done) | (simp [*]; done), by repeat (first | exact Drawn0.refl _ | apply Drawn0.step)⟩

def impl_AreKeys.l0 : Nat → List ByteArray → List ByteArray → Int → Int → Option (Bool)
 | 0, _, _, _, _ => none
 | k + 1, x0, x5, x6, x7 => if x7 < x6 then (if 0 ≤ x7 then (if x7 < (x5.length : Int) then ((impl_IsKey.f k (rdOf ByteArray.empty x5 x7)).bind fun t495 => (if t495 = true then (if x7 > 0 then (if 0 ≤ (wrap64 (x7 - 1)) then (if (wrap64 (x7 - 1)) < (x0.length : Int) then (if ((Op.bytesLess ((rdOf ByteArray.empty x0 (wrap64 (x7 - 1))).toList) ((rdOf ByteArray.empty x5 x7).toList)) = true) then (impl_AreKeys.l0 k x0 x5 x6 (wrap64 (x7 + 1))) else (some false)) else (none)) else (none)) else (impl_AreKeys.l0 k x0 x5 x6 (wrap64 (x7 + 1)))) else (some false))) else (none)) else (none)) else (some (decide ((x0.length : Int) ≤ 40)))
def impl_AreKeys.f (k : Nat) (l0 : List ByteArray) : Option (Bool) := impl_AreKeys.l0 k l0 l0 (l0.length : Int) 0
theorem impl_AreKeys.calls (k : Nat) (A0 : Option Addr) (c0 : Nat) (l0 : List ByteArray) (r : Bool) (w : World) (hr0 : Kd.C Kd.string w A0 l0.length l0) (hc0 : l0.length ≤ c0) (h : impl_AreKeys.f k l0 = some r) :
  Calls Try.prog 72 #[.slice A0 l0.length c0] w fun e w' => e = .returned (.bool r) ∧ Drawn0 w w' := by
 have HR0 := am hr0; have HC0 := am hc0; clear hr0 hc0; have H : (impl_AreKeys.l0 k l0 l0 (l0.length : Int) 0) = some r := h; clear h; have H' := am H; clear H
 go_enter Try.func72, Try.ntmps72
 go_wp2
 go_loopg [7] k (fun kq v7 w' => ∃ (x7_1 : Int), v7 = .int .i64 x7_1 ∧ Aside0 (impl_AreKeys.l0 kq l0 l0 (l0.length : Int) x7_1 = some r) ∧ Aside0 (kq ≤ k) ∧ Drawn0 w w')
 case atStart => exact ⟨(0), wZ, H', ⟨Nat.le_refl _⟩, by repeat (first | exact Drawn0.refl _ | apply Drawn0.step)⟩
 case round =>
  clear H'; obtain ⟨x7_1, rfl, HA, HK1, ⟨m1, rfl⟩⟩ := hrel; cases gk with
  | zero => exact absurd HA.out (by simp [impl_AreKeys.l0])
  | succ k1 =>
   have H := HA.out; clear HA
   simp only [impl_AreKeys.l0] at H
   by_cases c2 : x7_1 < (l0.length : Int)
   ·rw [if_pos c2] at H
    have c2b0 : decide (x7_1 < (l0.length : Int)) = true := decide_eq_true c2; clear c2
    by_cases c3 : 0 ≤ x7_1
    ·rw [if_pos c3] at H
     have c3b0 : decide (0 ≤ x7_1) = true := decide_eq_true c3; clear c3
     by_cases c4 : x7_1 < (l0.length : Int)
     ·rw [if_pos c4] at H
      have c4b0 : decide (x7_1 < (l0.length : Int)) = true := decide_eq_true c4; clear c4; replace H := Option.bind_eq_some_iff.mp H; obtain ⟨t495, A50, H⟩ := H; (try dsimp -simprocs only at H); have A5 := am A50; clear A50
      by_cases c6 : t495 = true
      ·subst c6
       rw [if_pos rfl] at H
       by_cases c7 : x7_1 > 0
       ·rw [if_pos c7] at H
        have c7b0 : decide (0 < x7_1) = true := decide_eq_true c7; clear c7; obtain ⟨ji8, hji8⟩ : ∃ j_ : Int, (wrap64 (x7_1 - 1)) = j_ := ⟨_, rfl⟩
        replace H : (if 0 ≤ (ji8) then (if (ji8) < (l0.length : Int) then (if ((Op.bytesLess ((rdOf ByteArray.empty l0 (ji8)).toList) ((rdOf ByteArray.empty l0 x7_1).toList)) = true) then (impl_AreKeys.l0 k1 l0 l0 (l0.length : Int) (wrap64 (x7_1 + 1))) else (some false)) else (none)) else (none)) = some r := by first | (rw [hji8] at H; exact H) | (simp only [hji8] at H ⊢; exact H)
        (try rw [hji8] at A5)
        have hji8w : (IntKind.i64.wrap (x7_1 - 1)) = ji8 := (i64_w _).trans hji8
        by_cases c9 : 0 ≤ (ji8)
        ·rw [if_pos c9] at H
         have c9b0 : decide (0 ≤ (ji8)) = true := decide_eq_true c9; clear c9
         by_cases c10 : (ji8) < (l0.length : Int)
         ·rw [if_pos c10] at H
          have c10b0 : decide ((ji8) < (l0.length : Int)) = true := decide_eq_true c10; clear c10
          by_cases c11 : ((Op.bytesLess ((rdOf ByteArray.empty l0 (ji8)).toList) ((rdOf ByteArray.empty l0 x7_1).toList)) = true)
          ·rw [if_pos c11] at H
           have c11b0 : (Op.bytesLess ((rdOf ByteArray.empty l0 (ji8)).toList) ((rdOf ByteArray.empty l0 x7_1).toList)) = true := c11; clear c11; have H' := am H; clear H; obtain ⟨ad494, e494, hx494_0⟩ := Kd.at_string HR0.out x7_1 dT dT; cases e494; have p494 := eT (0 ≤ (x7_1 : Int)); have q494 := eT (x7_1 < (l0.length : Int))
           go_wp2_with (first | ((with_reducible refine gate_callee (f := 66) rfl ?_); refine gL (some 13) Try.func66 #[.string (rdOf ByteArray.empty l0 x7_1)] ?_; (with_reducible refine (impl_IsKey.calls k1 (rdOf ByteArray.empty l0 x7_1) true _ A5.out).mono ?_); rintro e w' ⟨rfl, ⟨nd, rfl⟩⟩; refine ⟨_, rfl, ?_⟩; have p496 : 0 ≤ ((ji8) : Int) := dT; have q496 : (ji8) < (l0.length : Int) := dT; obtain ⟨ad496, e496, hx496_0⟩ := Kd.at_string HR0.out (ji8) p496 q496; obtain rfl : ad494 = ad496 := (by injection e496); replace p496 := eq_true p496; replace q496 := eq_true q496))
           go_roundg k1
           case measure => have := HK1.out; omega
           case rel => exact ⟨(wrap64 (x7_1 + 1)), wZ, H', ⟨by have := HK1.out; omega⟩, by repeat (first | exact Drawn0.refl _ | apply Drawn0.step)⟩
          ·rw [if_neg c11] at H
           have c11b0 : (Op.bytesLess ((rdOf ByteArray.empty l0 (ji8)).toList) ((rdOf ByteArray.empty l0 x7_1).toList)) = false := by simpa using c11
           clear c11; obtain rfl := Option.some.inj H; obtain ⟨ad494, e494, hx494_0⟩ := Kd.at_string HR0.out x7_1 dT dT; cases e494; have p494 := eT (0 ≤ (x7_1 : Int)); have q494 := eT (x7_1 < (l0.length : Int))
           go_wp2_with (first | ((with_reducible refine gate_callee (f := 66) rfl ?_); refine gL (some 13) Try.func66 #[.string (rdOf ByteArray.empty l0 x7_1)] ?_; (with_reducible refine (impl_IsKey.calls k1 (rdOf ByteArray.empty l0 x7_1) true _ A5.out).mono ?_); rintro e w' ⟨rfl, ⟨nd, rfl⟩⟩; refine ⟨_, rfl, ?_⟩; have p496 : 0 ≤ ((ji8) : Int) := dT; have q496 : (ji8) < (l0.length : Int) := dT; obtain ⟨ad496, e496, hx496_0⟩ := Kd.at_string HR0.out (ji8) p496 q496; obtain rfl : ad494 = ad496 := (by injection e496); replace p496 := eq_true p496; replace q496 := eq_true q496))
           go_ret
           exact ⟨by first | rfl | (simp; done) | (simp only [← hji8] <;> (first | rfl | simp)) | (simp [*]; done), by repeat (first | exact Drawn0.refl _ | apply Drawn0.step)⟩
         ·rw [if_neg c10] at H
          exact absurd H (by simp)
        ·rw [if_neg c9] at H
         exact absurd H (by simp)
       ·rw [if_neg c7] at H
        have c7b0 : decide (0 < x7_1) = false := decide_eq_false c7; clear c7; have H' := am H; clear H; obtain ⟨ad494, e494, hx494_0⟩ := Kd.at_string HR0.out x7_1 dT dT; cases e494; have p494 := eT (0 ≤ (x7_1 : Int)); have q494 := eT (x7_1 < (l0.length : Int))
        go_wp2_with (first | ((with_reducible refine gate_callee (f := 66) rfl ?_); refine gL (some 13) Try.func66 #[.string (rdOf ByteArray.empty l0 x7_1)] ?_; (with_reducible refine (impl_IsKey.calls k1 (rdOf ByteArray.empty l0 x7_1) true _ A5.out).mono ?_); rintro e w' ⟨rfl, ⟨nd, rfl⟩⟩; refine ⟨_, rfl, ?_⟩))
        go_roundg k1
        case measure => have := HK1.out; omega
        case rel => exact ⟨(wrap64 (x7_1 + 1)), wZ, H', ⟨by have := HK1.out; omega⟩, by repeat (first | exact Drawn0.refl _ | apply Drawn0.step)⟩
      ·replace c6 := Bool.eq_false_iff.mpr c6
       subst c6
       rw [if_neg (show ¬ (false = true) by decide)] at H; obtain rfl := Option.some.inj H; obtain ⟨ad494, e494, hx494_0⟩ := Kd.at_string HR0.out x7_1 dT dT; cases e494; have p494 := eT (0 ≤ (x7_1 : Int)); have q494 := eT (x7_1 < (l0.length : Int))
       go_wp2_with (first | ((with_reducible refine gate_callee (f := 66) rfl ?_); refine gL (some 13) Try.func66 #[.string (rdOf ByteArray.empty l0 x7_1)] ?_; (with_reducible refine (impl_IsKey.calls k1 (rdOf ByteArray.empty l0 x7_1) false _ A5.out).mono ?_); rintro e w' ⟨rfl, ⟨nd, rfl⟩⟩; refine ⟨_, rfl, ?_⟩))
       go_ret
       exact ⟨by first | rfl | (simp; done) | (simp [*]; done), by repeat (first | exact Drawn0.refl _ | apply Drawn0.step)⟩
     ·rw [if_neg c4] at H
      exact absurd H (by simp)
    ·rw [if_neg c3] at H
     exact absurd H (by simp)
   ·rw [if_neg c2] at H
    have c2b0 : decide (x7_1 < (l0.length : Int)) = false := decide_eq_false c2; clear c2; obtain rfl := Option.some.inj H
    go_wp2
    go_ret
    exact ⟨by first | rfl | (simp; done) | (simp [*]; done), by repeat (first | exact Drawn0.refl _ | apply Drawn0.step)⟩

mutual
def impl_pairs.j0 : Nat → Int → List ByteArray → Int → Bool → Option ((List (List Int)) × Bool)
 | 0, _, _, _, _ => none
 | k + 1, x0, x1, x2, x25 => if x25 = true then (some (([] : List (List Int)), false)) else (impl_pairs.l0 k x0 x2 (([] : List (List Int))) x1 (x1.length : Int) 0)
def impl_pairs.l0 : Nat → Int → Int → List (List Int) → List ByteArray → Int → Int → Option ((List (List Int)) × Bool)
 | 0, _, _, _, _, _, _ => none
 | k + 1, x0, x2, x8, x27, x28, x29 => if x29 < x28 then (if 0 ≤ x29 then (if x29 < (x27.length : Int) then ((impl_cellsOf.f k x0 (rdOf ByteArray.empty x27 x29) x2).bind fun bt504 => (if x8.length < 5864062014805 then (impl_pairs.l0 k x0 x2 (x8 ++ [(([bt504.1, bt504.2] : List Int))]) x27 x28 (wrap64 (x29 + 1))) else (none))) else (none)) else (none)) else (some (x8, true))
end
def impl_pairs.f (k : Nat) (a0 : Int) (l1 : List ByteArray) (a2 : Int) : Option ((List (List Int)) × Bool) := (impl_isSeed.f a0).bind fun t497 => (if t497 = true then ((impl_AreKeys.f k l1).bind fun t498 => (if t498 = true then ((impl_cellsOk.f a2).bind fun t499 => (impl_pairs.j0 k a0 l1 a2 (!t499))) else (impl_pairs.j0 k a0 l1 a2 true))) else (impl_pairs.j0 k a0 l1 a2 true))
theorem impl_pairs.calls (k : Nat) (a0 : Int) (A1 : Option Addr) (c1 : Nat) (l1 : List ByteArray) (a2 : Int) (r1 : List (List Int)) (r2 : Bool) (w : World) (hr1 : Kd.C Kd.string w A1 l1.length l1) (hc1 : l1.length ≤ c1) (h : impl_pairs.f k a0 l1 a2 = some (r1, r2)) :
  Calls Try.prog 60 #[.int .i64 a0, .slice A1 l1.length c1, .int .i64 a2] w fun e w' => ∃ v0_ : Value, e = .returned (.tuple #[v0_, .bool r2]) ∧ Kd.S (Kd.slice 3 (Kd.int .i64)) 31 w' w.heap.size (fun _ => True) v0_ r1 ∧ Below w.heap.size w w' := by
 have HR1 := am hr1; have HC1 := am hc1; clear hr1 hc1; have HB := am (Below.refl w.heap.size w); have H : ((impl_isSeed.f a0).bind fun t497 => (if t497 = true then ((impl_AreKeys.f k l1).bind fun t498 => (if t498 = true then ((impl_cellsOk.f a2).bind fun t499 => (impl_pairs.j0 k a0 l1 a2 (!t499))) else (impl_pairs.j0 k a0 l1 a2 true))) else (impl_pairs.j0 k a0 l1 a2 true))) = some (r1, r2) := h; clear h; have HC4 := am H; clear H
 go_enter Try.func60, Try.ntmps60
 go_upto_region 1 with (fail)
 go_cut [25] (fun v25 wc => ∃ (kq : Nat) (x25_3 : Bool), v25 = .bool x25_3 ∧ Aside0 (impl_pairs.j0 kq a0 l1 a2 x25_3 = some (r1, r2)) ∧ Aside0 (kq ≤ k) ∧ Aside0 (Below w.heap.size w wc))
 case first =>
  have H := HC4.out; clear HC4; replace H := Option.bind_eq_some_iff.mp H; obtain ⟨t497, A50, H⟩ := H; (try dsimp -simprocs only at H); have A5 := am A50; clear A50
  by_cases c6 : t497 = true
  ·subst c6
   rw [if_pos rfl] at H; replace H := Option.bind_eq_some_iff.mp H; obtain ⟨t498, A70, H⟩ := H; (try dsimp -simprocs only at H); have A7 := am A70; clear A70
   by_cases c8 : t498 = true
   ·subst c8
    rw [if_pos rfl] at H; replace H := Option.bind_eq_some_iff.mp H; obtain ⟨t499, A90, H⟩ := H; (try dsimp -simprocs only at H); have A9 := am A90; clear A90; have H' := am H; clear H
    go_wp2_with (first | ((with_reducible refine gate_callee (f := 65) rfl ?_); refine gL (some 14) Try.func65 #[.int .i64 a0] ?_; (with_reducible refine (impl_isSeed.calls a0 true _ A5.out).mono ?_); rintro e w' ⟨rfl, ⟨nd, rfl⟩⟩; refine ⟨_, rfl, ?_⟩) | (go_at_call 72; (with_reducible refine (impl_AreKeys.calls k _ _ l1 true _ ?side1 ?side2 A7.out).mono ?_); (case side1 => exact Kd.C_below HR1.out (Bz HB.out)); (case side2 => exact HC1.out); rintro e w' ⟨rfl, ⟨nd, rfl⟩⟩) | (go_at_call 67; (with_reducible refine (impl_cellsOk.calls a2 t499 _ A9.out).mono ?_); rintro e w' ⟨rfl, ⟨nd, rfl⟩⟩))
    go_meet
    case rel => exact ⟨_, (!t499), wZ, H', ⟨by first | omega | exact Nat.le_refl _⟩, ⟨Bz HB.out⟩⟩
   ·replace c8 := Bool.eq_false_iff.mpr c8
    subst c8
    rw [if_neg (show ¬ (false = true) by decide)] at H; have H' := am H; clear H
    go_wp2_with (first | ((with_reducible refine gate_callee (f := 65) rfl ?_); refine gL (some 14) Try.func65 #[.int .i64 a0] ?_; (with_reducible refine (impl_isSeed.calls a0 true _ A5.out).mono ?_); rintro e w' ⟨rfl, ⟨nd, rfl⟩⟩; refine ⟨_, rfl, ?_⟩) | (go_at_call 72; (with_reducible refine (impl_AreKeys.calls k _ _ l1 false _ ?side1 ?side2 A7.out).mono ?_); (case side1 => exact Kd.C_below HR1.out (Bz HB.out)); (case side2 => exact HC1.out); rintro e w' ⟨rfl, ⟨nd, rfl⟩⟩))
    go_meet
    case rel => exact ⟨_, (true), wZ, H', ⟨by first | omega | exact Nat.le_refl _⟩, ⟨Bz HB.out⟩⟩
  ·replace c6 := Bool.eq_false_iff.mpr c6
   subst c6
   rw [if_neg (show ¬ (false = true) by decide)] at H; have H' := am H; clear H
   go_wp2_with (first | ((with_reducible refine gate_callee (f := 65) rfl ?_); refine gL (some 14) Try.func65 #[.int .i64 a0] ?_; (with_reducible refine (impl_isSeed.calls a0 false _ A5.out).mono ?_); rintro e w' ⟨rfl, ⟨nd, rfl⟩⟩; refine ⟨_, rfl, ?_⟩))
   go_meet
   case rel => exact ⟨_, (true), wZ, H', ⟨by first | omega | exact Nat.le_refl _⟩, ⟨Bz HB.out⟩⟩
 case rest =>
  clear HC4
  try clear c1
  try clear p2
  try clear c6
  try clear c8
  obtain ⟨kq, x25_3, rfl, HA, HJ3, HB⟩ := hcut; cases kq with
  | zero => exact absurd HA.out (by simp [impl_pairs.j0])
  | succ kj3 =>
   have H := HA.out; clear HA
   simp only [impl_pairs.j0] at H
   by_cases c10 : x25_3 = true
   ·subst c10
    rw [if_pos rfl] at H
    simp only [Option.some.injEq, Prod.mk.injEq] at H
    obtain ⟨rfl, rfl⟩ := H
    go_wp2
    go_ret2
    exact ⟨_, eZ, by first | exact Kd.S_nil _ _ _ _ _ | exact Kd.N_nil _ _ _ _ _ | exact Kd.V_nil _ _ _ _ _ | exact Kd.Q_nil _ _ _ _ _ | exact Kd.R_nil _ _ _ _ _, Bz HB.out⟩
   ·replace c10 := Bool.eq_false_iff.mpr c10
    subst c10
    rw [if_neg (show ¬ (false = true) by decide)] at H; obtain ⟨y500, hy500⟩ : ∃ y_ : List (List Int), y_ = (([] : List (List Int))) := ⟨_, rfl⟩
    replace H : (impl_pairs.l0 kj3 a0 a2 y500 l1 (l1.length : Int) 0) = some (r1, r2) := by first | (rw [hy500]; with_reducible exact H) | (have H2_ := (Option.bind_some _ _).symm.trans H; rw [hy500]; with_reducible exact H2_) | (have H2_ := (Option.bind_some _ _).symm.trans H; with_reducible exact H2_) | with_reducible exact H | (rw [hy500]; exact H) | exact H
    have Ny500 := am hy500; clear hy500; have H' := am H; clear H
    go_wp2_with (first | ((with_reducible refine gate_dst (N := 26) rfl ?_); refine Kd.S_lit (Kd.slice 3 (Kd.int .i64)) _ 31 ?hg (N := 26) ?hd (xs := ([] : List (List Int))) (inner := []) (ok := fun _ => True) (okp := fun _ => True) ?hr ?hp (fun _ hk => hk) trivial (Below.refl _ _) (Nat.le_refl _) (by simp) ?_; (case hd => rfl); (case hg => rfl); (case hr => first | (go_simp; done) | (go_simp; rfl)); (case hp => exact (Reps.none _ _)); intro v501 w11 ho12 hb hg_ hnew_; clear hg_ hnew_; (first | rw [← Ny500.out] at ho12 | (simp only [Int.reduceToNat] at ho12; rw [← Ny500.out] at ho12)); have n0_ := am (Kd.S_lower ho12 (below_size (Bz HB.out))); have n1_ := Bb HB hb; clear HB; revert n0_ n1_; intro HO502 HB; clear hb ho12))
    (try simp only [aP])
    go_loopg [8, 29] kj3 (fun kq v8 v29 w' => ∃ (x8_2 : List (List Int)) (x29_2 : Int), v29 = .int .i64 x29_2 ∧ Aside0 (impl_pairs.l0 kq a0 a2 x8_2 l1 (l1.length : Int) x29_2 = some (r1, r2)) ∧ Aside0 (kq ≤ kj3) ∧ Aside0 (Kd.S (Kd.slice 3 (Kd.int .i64)) 31 w' w.heap.size (fun _ => True) v8 x8_2) ∧ Aside0 (Below w.heap.size w w'))
    case atStart => exact ⟨(y500), (0), wZ, H', ⟨Nat.le_refl _⟩, ⟨by (with_reducible repeat (first | apply Kd.S_alloc | apply Kd.S_drewN | apply Kd.S_drew)); exact HO502.out⟩, ⟨Bz HB.out⟩⟩
    case round =>
     clear H'
     try clear c1
     try clear p2
     try clear c6
     try clear c8
     try clear c10
     try clear p2
     obtain ⟨x8_2, x29_2, rfl, HA, HK2, HO_8, HB⟩ := hrel; cases gk with
     | zero => exact absurd HA.out (by simp [impl_pairs.l0])
     | succ k2 =>
      have H := HA.out; clear HA
      simp only [impl_pairs.l0] at H
      by_cases c13 : x29_2 < (l1.length : Int)
      ·rw [if_pos c13] at H
       have c13b0 : decide (x29_2 < (l1.length : Int)) = true := decide_eq_true c13; clear c13
       by_cases c14 : 0 ≤ x29_2
       ·rw [if_pos c14] at H
        have c14b0 : decide (0 ≤ x29_2) = true := decide_eq_true c14; clear c14
        by_cases c15 : x29_2 < (l1.length : Int)
        ·rw [if_pos c15] at H
         have c15b0 : decide (x29_2 < (l1.length : Int)) = true := decide_eq_true c15; clear c15; replace H := Option.bind_eq_some_iff.mp H; obtain ⟨⟨t504, t505⟩, A160, H⟩ := H; (try dsimp -simprocs only at H); have A16 := am A160; clear A160; obtain ⟨y506, hy506⟩ : ∃ y_ : List Int, y_ = (([t504, t505] : List Int)) := ⟨_, rfl⟩
         replace H : (if x8_2.length < 5864062014805 then (impl_pairs.l0 k2 a0 a2 (x8_2 ++ [y506]) l1 (l1.length : Int) (wrap64 (x29_2 + 1))) else (none)) = some (r1, r2) := by first | (rw [hy506]; with_reducible exact H) | (have H2_ := (Option.bind_some _ _).symm.trans H; rw [hy506]; with_reducible exact H2_) | (have H2_ := (Option.bind_some _ _).symm.trans H; with_reducible exact H2_) | with_reducible exact H | (rw [hy506]; exact H) | exact H
         have Ny506 := am hy506; clear hy506
         by_cases c17 : x8_2.length < 5864062014805
         ·rw [if_pos c17] at H
          have LMc17 := am c17; clear c17; obtain ⟨y509, hy509⟩ : ∃ y_ : List (List Int), y_ = (x8_2 ++ [y506]) := ⟨_, rfl⟩
          replace H : (impl_pairs.l0 k2 a0 a2 y509 l1 (l1.length : Int) (wrap64 (x29_2 + 1))) = some (r1, r2) := by first | (rw [hy509]; with_reducible exact H) | (have H2_ := (Option.bind_some _ _).symm.trans H; rw [hy509]; with_reducible exact H2_) | (have H2_ := (Option.bind_some _ _).symm.trans H; with_reducible exact H2_) | with_reducible exact H | (rw [hy509]; exact H) | exact H
          have Ny509 := am hy509; clear hy509; have H' := am H; clear H; have p503 : 0 ≤ (x29_2 : Int) := dT; have q503 : x29_2 < (l1.length : Int) := dT; obtain ⟨ad503, e503, hx503_0⟩ := Kd.at_string HR1.out x29_2 p503 q503; cases e503; replace hx503_0 := (HB.out.cell (World.block_lt_of_cell? w _ hx503_0)).trans hx503_0; replace p503 := eq_true p503; replace q503 := eq_true q503
          go_wp2_with (first | ((with_reducible refine gate_callee (f := 68) rfl ?_); refine gL (some 37) Try.func68 #[.int .i64 a0, .string (rdOf ByteArray.empty l1 x29_2), .int .i64 a2] ?_; (with_reducible refine (impl_cellsOf.calls k2 a0 (rdOf ByteArray.empty l1 x29_2) a2 t504 t505 _ A16.out).mono ?_); rintro e w' ⟨rfl, ⟨nd, rfl⟩⟩; refine ⟨_, rfl, ?_⟩) | ((with_reducible refine gate_dst (N := 43) rfl ?_); refine Kd.R_lit (Kd.int .i64) _ 3 ?hg (N := 43) ?hd (xs := ([t504, t505] : List Int)) (inner := [.int .i64 t504, .int .i64 t505]) (ok := fun _ => True) (okp := fun _ => True) ?hr ?hp (fun _ hk => hk) trivial (Below.refl _ _) (Nat.le_refl _) (by simp) ?_; (case hd => rfl); (case hg => rfl); (case hr => first | (go_simp; done) | (go_simp; rfl)); (case hp => exact (Reps.one (show Kd.M (Kd.int .i64) _ _ _ t504 [.int .i64 t504] from rfl) (Reps.one (show Kd.M (Kd.int .i64) _ _ _ t505 [.int .i64 t505] from rfl) (Reps.none _ _)))); intro v507 w18 ho19 hb hg_ hnew_; clear hg_ hnew_; (first | rw [← Ny506.out] at ho19 | (simp only [Int.reduceToNat] at ho19; rw [← Ny506.out] at ho19)); have n0_ := am (Kd.S_elder' (by (with_reducible repeat (first | apply Kd.S_alloc | apply Kd.S_drewN | apply Kd.S_drew)); exact HO_8.out) (Kd.R_base ho19) hb); have n1_ := Rl ho19 HB; have n2_ := Bb HB hb; clear HO_8 HB; revert n0_ n1_ n2_; intro HO_8 HO508 HB; clear hb ho19; obtain ⟨Ao21, co21, eo21⟩ := Kd.R_slice HO508.out; subst eo21) | ((with_reducible refine gate_builtin (b := .append) (xs := #[.tmp 40, .tmp 44]) rfl ?_); at_builtin; refine Kd.S_append (Kd.slice 3 (Kd.int .i64)) (w0 := w) w.heap.size rfl (.tmp 40) (.tmp 44) 27 31 (.slice none 0 0) 24 rfl Try.underlying27 info31 rfl (by decide) (by omega) u8 x8_2 y506 [.slice Ao21 y506.length co21] (fun _ => True) (fun k_ => some k_ = (.slice Ao21 y506.length co21 : Value).ownBlock) rfl rfl ?aP (fun k_ hk_ => ((Kd.R_mono (ok' := fun k_ => ((fun _ => True)) k_ ∧ some k_ ≠ (u8 : Value).ownBlock) (Kd.R_apart' (HO508.out) (Kd.S_typed HO_8.out) (by decide)) (fun k_ hk => ⟨trivial, hk.2⟩))).1 k_ hk_.symm) ?aF ?aO ?aB ?aS ?aL ?_; (case aP => exact Kd.M_row (Kd.R_mono (Kd.R_tight rfl (Kd.R_mono (ok' := fun k_ => ((fun _ => True)) k_ ∧ some k_ ≠ (u8 : Value).ownBlock) (Kd.R_apart' (HO508.out) (Kd.S_typed HO_8.out) (by decide)) (fun k_ hk => ⟨trivial, hk.2⟩))) (fun _ h_ => h_))); (case aB => exact (Bz HB.out)); (case aF => exact (fun _ _ => trivial)); (case aO => exact (by (with_reducible repeat (first | apply Kd.S_alloc | apply Kd.S_drewN | apply Kd.S_drew)); exact Kd.S_mono HO_8.out (fun k_ hk => ⟨trivial, fun e_ => hk.2 e_⟩))); (case aS => exact (below_size (Bz HB.out))); (case aL => have := LMc17.out; omega); intro v510 w20 ho hb hg hat; rw [← Ny509.out] at ho; have n0_ := am (hb); have n1_ := am (ho); clear HB HO_8 HO508; revert n0_ n1_; intro HB HO511; clear ho hb hg hat))
          go_roundg k2
          case measure => have := HJ3.out; have := HK2.out; omega
          case rel => exact ⟨(y509), (wrap64 (x29_2 + 1)), wZ, H', ⟨by have := HJ3.out; have := HK2.out; omega⟩, ⟨by (with_reducible repeat (first | apply Kd.S_alloc | apply Kd.S_drewN | apply Kd.S_drew)); exact HO511.out⟩, ⟨Bz HB.out⟩⟩
         ·rw [if_neg c17] at H
          exact absurd H (by simp)
        ·rw [if_neg c15] at H
         exact absurd H (by simp)
       ·rw [if_neg c14] at H
        exact absurd H (by simp)
      ·rw [if_neg c13] at H
       have c13b0 : decide (x29_2 < (l1.length : Int)) = false := decide_eq_false c13; clear c13
       simp only [Option.some.injEq, Prod.mk.injEq] at H
       obtain ⟨rfl, rfl⟩ := H
       go_wp2
       go_ret2
       exact ⟨_, eZ, by (with_reducible repeat (first | apply Kd.S_alloc | apply Kd.S_drewN | apply Kd.S_drew)); exact HO_8.out, Bz HB.out⟩

def slices_Index_int_int.l0 : Nat → List Int → Int → Int → Int → Option (Int)
 | 0, _, _, _, _ => none
 | k + 1, x0, x1, x7, x8 => if x8 < x7 then (if 0 ≤ x8 then (if x8 < (x0.length : Int) then (if x1 = (rd x0 x8) then (some x8) else (slices_Index_int_int.l0 k x0 x1 x7 (wrap64 (x8 + 1)))) else (none)) else (none)) else (some (-1))
def slices_Index_int_int.f (k : Nat) (l0 : List Int) (a1 : Int) : Option (Int) := slices_Index_int_int.l0 k l0 a1 (l0.length : Int) 0
theorem slices_Index_int_int.calls (k : Nat) (A0 : Option Addr) (c0 : Nat) (l0 : List Int) (a1 : Int) (r : Int) (w : World) (hr0 : Kd.C (Kd.int .i64) w A0 l0.length l0) (hc0 : l0.length ≤ c0) (h : slices_Index_int_int.f k l0 a1 = some r) :
  Calls Try.prog 133 #[.slice A0 l0.length c0, .int .i64 a1] w fun e w' => e = .returned (.int .i64 r) ∧ Drawn0 w w' := by
 have HR0 := am hr0; have HC0 := am hc0; clear hr0 hc0; have H : (slices_Index_int_int.l0 k l0 a1 (l0.length : Int) 0) = some r := h; clear h; have H' := am H; clear H
 go_enter Try.func133, Try.ntmps133
 go_wp2
 go_loopg [8] k (fun kq v8 w' => ∃ (x8_1 : Int), v8 = .int .i64 x8_1 ∧ Aside0 (slices_Index_int_int.l0 kq l0 a1 (l0.length : Int) x8_1 = some r) ∧ Aside0 (kq ≤ k) ∧ Drawn0 w w')
 case atStart => exact ⟨(0), wZ, H', ⟨Nat.le_refl _⟩, by repeat (first | exact Drawn0.refl _ | apply Drawn0.step)⟩
 case round =>
  clear H'
  try clear c1
  try clear p2
  obtain ⟨x8_1, rfl, HA, HK1, ⟨m1, rfl⟩⟩ := hrel; cases gk with
  | zero => exact absurd HA.out (by simp [slices_Index_int_int.l0])
  | succ k1 =>
   have H := HA.out; clear HA
   simp only [slices_Index_int_int.l0] at H
   by_cases c3 : x8_1 < (l0.length : Int)
   ·rw [if_pos c3] at H
    have c3b0 : decide (x8_1 < (l0.length : Int)) = true := decide_eq_true c3; clear c3
    by_cases c4 : 0 ≤ x8_1
    ·rw [if_pos c4] at H
     have c4b0 : decide (0 ≤ x8_1) = true := decide_eq_true c4; clear c4
     by_cases c5 : x8_1 < (l0.length : Int)
     ·rw [if_pos c5] at H
      have c5b0 : decide (x8_1 < (l0.length : Int)) = true := decide_eq_true c5; clear c5
      by_cases c6 : a1 = (rd l0 x8_1)
      ·rw [if_pos c6] at H
       have c6b0 : (a1 == (rd l0 x8_1)) = true := beq_iff_eq.mpr c6; have c6b1 : (a1 != (rd l0 x8_1)) = false := bne_eq_false_iff_eq.mpr c6; clear c6; obtain rfl := Option.some.inj H; obtain ⟨ad512, e512, hx512_0⟩ := Kd.at_int HR0.out x8_1 dT dT; cases e512; have p512 := eT (0 ≤ (x8_1 : Int)); have q512 := eT (x8_1 < (l0.length : Int))
       go_wp2
       go_ret
       exact ⟨by first | rfl | (simp; done) | (simp [*]; done), by repeat (first | exact Drawn0.refl _ | apply Drawn0.step)⟩
      ·rw [if_neg c6] at H
       have c6b0 : (a1 == (rd l0 x8_1)) = false := beq_eq_false_iff_ne.mpr c6; have c6b1 : (a1 != (rd l0 x8_1)) = true := bne_iff_ne.mpr c6; have H' := am H; clear H; obtain ⟨ad512, e512, hx512_0⟩ := Kd.at_int HR0.out x8_1 dT dT; cases e512; have p512 := eT (0 ≤ (x8_1 : Int)); have q512 := eT (x8_1 < (l0.length : Int))
       go_wp2
       go_roundg k1
       case measure => have := HK1.out; omega
       case rel => exact ⟨(wrap64 (x8_1 + 1)), wZ, H', ⟨by have := HK1.out; omega⟩, by repeat (first | exact Drawn0.refl _ | apply Drawn0.step)⟩
     ·rw [if_neg c5] at H
      exact absurd H (by simp)
    ·rw [if_neg c4] at H
     exact absurd H (by simp)
   ·rw [if_neg c3] at H
    have c3b0 : decide (x8_1 < (l0.length : Int)) = false := decide_eq_false c3; clear c3; obtain rfl := Option.some.inj H
    go_wp2
    go_ret
    exact ⟨by first | rfl | (simp; done) | (simp [*]; done), by repeat (first | exact Drawn0.refl _ | apply Drawn0.step)⟩

def slices_Contains_int_int.f (k : Nat) (l0 : List Int) (a1 : Int) : Option (Bool) := (slices_Index_int_int.f k l0 a1).bind fun t513 => (some (decide (t513 ≥ 0)))
theorem slices_Contains_int_int.calls (k : Nat) (A0 : Option Addr) (c0 : Nat) (l0 : List Int) (a1 : Int) (r : Bool) (w : World) (hr0 : Kd.C (Kd.int .i64) w A0 l0.length l0) (hc0 : l0.length ≤ c0) (h : slices_Contains_int_int.f k l0 a1 = some r) :
  Calls Try.prog 88 #[.slice A0 l0.length c0, .int .i64 a1] w fun e w' => e = .returned (.bool r) ∧ Drawn0 w w' := by
 have HR0 := am hr0; have HC0 := am hc0; clear hr0 hc0; have H : ((slices_Index_int_int.f k l0 a1).bind fun t513 => (some (decide (t513 ≥ 0)))) = some r := h; clear h; replace H := Option.bind_eq_some_iff.mp H; obtain ⟨t513, A30, H⟩ := H; (try dsimp -simprocs only at H); have A3 := am A30; clear A30; obtain rfl := Option.some.inj H
 go_enter Try.func88, Try.ntmps88
 go_wp2_with (first | ((with_reducible refine gate_callee (f := 133) rfl ?_); refine gL (some 7) Try.func133 #[.slice A0 l0.length c0, .int .i64 a1] ?_; (with_reducible refine (slices_Index_int_int.calls k _ _ l0 a1 t513 _ ?side1 ?side2 A3.out).mono ?_); (case side1 => exact Cz HR0.out); (case side2 => exact HC0.out); rintro e w' ⟨rfl, ⟨nd, rfl⟩⟩; refine ⟨_, rfl, ?_⟩))
 go_ret
 exact ⟨by first | rfl | (simp; done) | (simp [*]; done), by repeat (first | exact Drawn0.refl _ | apply Drawn0.step)⟩

-- BY HAND: function 132 (impl_distinct)

mutual
def impl_isPlacement.j0 : Nat → List (List Int) → List Int → Bool → Option (Bool)
 | 0, _, _, _ => none
 | k + 1, x0, x1, x16 => if x16 = true then (some false) else (impl_isPlacement.l0 k x0 x1 (x1.length : Int) 0)
def impl_isPlacement.l0 : Nat → List (List Int) → List Int → Int → Int → Option (Bool)
 | 0, _, _, _, _ => none
 | k + 1, x0, x17, x18, x19 => if x19 < x18 then (if 0 ≤ x19 then (if x19 < (x17.length : Int) then (if x19 < (x0.length : Int) then ((slices_Contains_int_int.f k (rd_L3 x0 x19) (rd x17 x19)).bind fun t517 => (if t517 = true then (impl_isPlacement.l0 k x0 x17 x18 (wrap64 (x19 + 1))) else (some false))) else (none)) else (none)) else (none)) else (some true)
end
def impl_isPlacement.f (k : Nat) (l0 : List (List Int)) (l1 : List Int) : Option (Bool) := if (l1.length : Int) = (l0.length : Int) then ((impl_distinct.f l1).bind fun t514 => (impl_isPlacement.j0 k l0 l1 (!t514))) else (impl_isPlacement.j0 k l0 l1 true)
theorem impl_isPlacement.calls (k : Nat) (A0 : Option Addr) (c0 : Nat) (l0 : List (List Int)) (A1 : Option Addr) (c1 : Nat) (l1 : List Int) (r : Bool) (w : World) (hr0 : Kd.C (Kd.slice 3 (Kd.int .i64)) w A0 l0.length l0) (hc0 : l0.length ≤ c0) (hr1 : Kd.C (Kd.int .i64) w A1 l1.length l1) (hc1 : l1.length ≤ c1) (h : impl_isPlacement.f k l0 l1 = some r) :
  Calls Try.prog 85 #[.slice A0 l0.length c0, .slice A1 l1.length c1] w fun e w' => e = .returned (.bool r) ∧ Below w.heap.size w w' := by
 have HR0 := am hr0; have HC0 := am hc0; clear hr0 hc0; have HR1 := am hr1; have HC1 := am hc1; clear hr1 hc1; have HB := am (Below.refl w.heap.size w); have H : (if (l1.length : Int) = (l0.length : Int) then ((impl_distinct.f l1).bind fun t514 => (impl_isPlacement.j0 k l0 l1 (!t514))) else (impl_isPlacement.j0 k l0 l1 true)) = some r := h; clear h; have HC3 := am H; clear H
 go_enter Try.func85, Try.ntmps85
 go_upto_region 1 with (fail)
 go_cut [16] (fun v16 wc => ∃ (kq : Nat) (x16_2 : Bool), v16 = .bool x16_2 ∧ Aside0 (impl_isPlacement.j0 kq l0 l1 x16_2 = some r) ∧ Aside0 (kq ≤ k) ∧ Aside0 (Below w.heap.size w wc))
 case first =>
  have H := HC3.out; clear HC3
  by_cases c4 : (l1.length : Int) = (l0.length : Int)
  ·rw [if_pos c4] at H
   have c4b0 : ((l1.length : Int) == (l0.length : Int)) = true := beq_iff_eq.mpr c4; have c4b1 : ((l1.length : Int) != (l0.length : Int)) = false := bne_eq_false_iff_eq.mpr c4
   have c4b2 : (l1.length == l0.length) = true := by first | simpa using c4 | (simp at c4 ⊢; omega)
   clear c4
   (first | rw [c4b0] | (simp only [i64_w, i32_w]; rw [c4b0]) | skip)
   replace H := Option.bind_eq_some_iff.mp H; obtain ⟨t514, A50, H⟩ := H; (try dsimp -simprocs only at H); have A5 := am A50; clear A50; have H' := am H; clear H
   go_wp2_with (first | (go_at_call 132; (with_reducible refine (impl_distinct.calls _ _ l1 t514 _ ?side1 ?side2 A5.out).mono ?_); (case side1 => exact Cz (Kd.C_below HR1.out HB.out)); (case side2 => exact HC1.out); rintro e w6 ⟨rfl, hb⟩; have n0_ := Bb HB hb; clear HB; revert n0_; intro HB; (try clear hb); (try clear hb2); (try clear hk); (try clear hi)))
   go_meet
   case rel => exact ⟨_, (!t514), wZ, H', ⟨by first | omega | exact Nat.le_refl _⟩, ⟨Bz HB.out⟩⟩
  ·rw [if_neg c4] at H
   have c4b0 : ((l1.length : Int) == (l0.length : Int)) = false := beq_eq_false_iff_ne.mpr c4; have c4b1 : ((l1.length : Int) != (l0.length : Int)) = true := bne_iff_ne.mpr c4
   have c4b2 : (l1.length == l0.length) = false := by first | simpa using c4 | (simp at c4 ⊢; omega)
   (first | rw [c4b0] | (simp only [i64_w, i32_w]; rw [c4b0]) | skip)
   have H' := am H; clear H
   go_wp2
   go_meet
   case rel => exact ⟨_, (true), wZ, H', ⟨by first | omega | exact Nat.le_refl _⟩, ⟨Bz HB.out⟩⟩
 case rest =>
  clear HC3
  try clear c1
  try clear p2
  try clear c4
  try clear c4b0
  try clear c4b1
  try clear c4b2
  obtain ⟨kq, x16_2, rfl, HA, HJ2, HB⟩ := hcut; cases kq with
  | zero => exact absurd HA.out (by simp [impl_isPlacement.j0])
  | succ kj2 =>
   have H := HA.out; clear HA
   simp only [impl_isPlacement.j0] at H
   by_cases c7 : x16_2 = true
   ·subst c7
    rw [if_pos rfl] at H; obtain rfl := Option.some.inj H
    go_wp2
    go_ret
    exact ⟨eZ, Bz HB.out⟩
   ·replace c7 := Bool.eq_false_iff.mpr c7
    subst c7
    rw [if_neg (show ¬ (false = true) by decide)] at H; have H' := am H; clear H
    go_wp2
    go_loopg [19] kj2 (fun kq v19 w' => ∃ (x19_2 : Int), v19 = .int .i64 x19_2 ∧ Aside0 (impl_isPlacement.l0 kq l0 l1 (l1.length : Int) x19_2 = some r) ∧ Aside0 (kq ≤ kj2) ∧ Aside0 (Below w.heap.size w w'))
    case atStart => exact ⟨(0), wZ, H', ⟨Nat.le_refl _⟩, ⟨Bz HB.out⟩⟩
    case round =>
     clear H'
     try clear c1
     try clear p2
     try clear c4
     try clear c4b0
     try clear c4b1
     try clear c4b2
     try clear c7
     try clear p2
     obtain ⟨x19_2, rfl, HA, HK2, HB⟩ := hrel; cases gk with
     | zero => exact absurd HA.out (by simp [impl_isPlacement.l0])
     | succ k2 =>
      have H := HA.out; clear HA
      simp only [impl_isPlacement.l0] at H
      by_cases c8 : x19_2 < (l1.length : Int)
      ·rw [if_pos c8] at H
       have c8b0 : decide (x19_2 < (l1.length : Int)) = true := decide_eq_true c8; clear c8
       by_cases c9 : 0 ≤ x19_2
       ·rw [if_pos c9] at H
        have c9b0 : decide (0 ≤ x19_2) = true := decide_eq_true c9; clear c9
        by_cases c10 : x19_2 < (l1.length : Int)
        ·rw [if_pos c10] at H
         have c10b0 : decide (x19_2 < (l1.length : Int)) = true := decide_eq_true c10; clear c10
         by_cases c11 : x19_2 < (l0.length : Int)
         ·rw [if_pos c11] at H
          have c11b0 : decide (x19_2 < (l0.length : Int)) = true := decide_eq_true c11; clear c11; replace H := Option.bind_eq_some_iff.mp H; obtain ⟨t517, A120, H⟩ := H; (try dsimp -simprocs only at H); have A12 := am A120; clear A120
          by_cases c13 : t517 = true
          ·subst c13
           rw [if_pos rfl] at H; have H' := am H; clear H; have p515 : 0 ≤ (x19_2 : Int) := dT; have q515 : x19_2 < (l1.length : Int) := dT; obtain ⟨ad515, e515, hx515_0⟩ := Kd.at_int HR1.out x19_2 p515 q515; cases e515; replace hx515_0 := (HB.out.cell (World.block_lt_of_cell? w _ hx515_0)).trans hx515_0; replace p515 := eq_true p515; replace q515 := eq_true q515; have p516 : 0 ≤ (x19_2 : Int) := dT; have q516 : x19_2 < (l0.length : Int) := dT; obtain ⟨ad516, A516_0, c516_0, e516, hx516_0, hl516_0, hi516_0⟩ := at_L3 HR0.out x19_2 p516 q516; cases e516; replace hx516_0 := (HB.out.cell (World.block_lt_of_cell? w _ hx516_0)).trans hx516_0; have HR516_0 := am hi516_0; have HC516_0 := am hl516_0; clear hi516_0 hl516_0; replace p516 := eq_true p516; replace q516 := eq_true q516
           go_wp2_with (first | ((with_reducible refine gate_callee (f := 88) rfl ?_); refine gL (some 29) Try.func88 #[.slice A516_0 (rd_L3 l0 x19_2).length c516_0, .int .i64 (rd l1 x19_2)] ?_; (with_reducible refine (slices_Contains_int_int.calls k2 _ _ (rd_L3 l0 x19_2) (rd l1 x19_2) true _ ?side1 ?side2 A12.out).mono ?_); (case side1 => exact Cz (Kd.C_below HR516_0.out HB.out)); (case side2 => exact HC516_0.out); rintro e w' ⟨rfl, ⟨nd, rfl⟩⟩; refine ⟨_, rfl, ?_⟩))
           go_roundg k2
           case measure => have := HJ2.out; have := HK2.out; omega
           case rel => exact ⟨(wrap64 (x19_2 + 1)), wZ, H', ⟨by have := HJ2.out; have := HK2.out; omega⟩, ⟨Bz HB.out⟩⟩
          ·replace c13 := Bool.eq_false_iff.mpr c13
           subst c13
           rw [if_neg (show ¬ (false = true) by decide)] at H; obtain rfl := Option.some.inj H; have p515 : 0 ≤ (x19_2 : Int) := dT; have q515 : x19_2 < (l1.length : Int) := dT; obtain ⟨ad515, e515, hx515_0⟩ := Kd.at_int HR1.out x19_2 p515 q515; cases e515; replace hx515_0 := (HB.out.cell (World.block_lt_of_cell? w _ hx515_0)).trans hx515_0; replace p515 := eq_true p515; replace q515 := eq_true q515; have p516 : 0 ≤ (x19_2 : Int) := dT; have q516 : x19_2 < (l0.length : Int) := dT; obtain ⟨ad516, A516_0, c516_0, e516, hx516_0, hl516_0, hi516_0⟩ := at_L3 HR0.out x19_2 p516 q516; cases e516; replace hx516_0 := (HB.out.cell (World.block_lt_of_cell? w _ hx516_0)).trans hx516_0; have HR516_0 := am hi516_0; have HC516_0 := am hl516_0; clear hi516_0 hl516_0; replace p516 := eq_true p516; replace q516 := eq_true q516
           go_wp2_with (first | ((with_reducible refine gate_callee (f := 88) rfl ?_); refine gL (some 29) Try.func88 #[.slice A516_0 (rd_L3 l0 x19_2).length c516_0, .int .i64 (rd l1 x19_2)] ?_; (with_reducible refine (slices_Contains_int_int.calls k2 _ _ (rd_L3 l0 x19_2) (rd l1 x19_2) false _ ?side1 ?side2 A12.out).mono ?_); (case side1 => exact Cz (Kd.C_below HR516_0.out HB.out)); (case side2 => exact HC516_0.out); rintro e w' ⟨rfl, ⟨nd, rfl⟩⟩; refine ⟨_, rfl, ?_⟩))
           go_ret
           exact ⟨eZ, Bz HB.out⟩
         ·rw [if_neg c11] at H
          exact absurd H (by simp)
        ·rw [if_neg c10] at H
         exact absurd H (by simp)
       ·rw [if_neg c9] at H
        exact absurd H (by simp)
      ·rw [if_neg c8] at H
       have c8b0 : decide (x19_2 < (l1.length : Int)) = false := decide_eq_false c8; clear c8; obtain rfl := Option.some.inj H
       go_wp2
       go_ret
       exact ⟨eZ, Bz HB.out⟩

def slices_Clone_int_int.f (l0 : List Int) : Option (List Int) := (some (([] : List Int) : List Int)).bind fun y518 => (if y518.length + l0.length < 17592186044416 then (some (y518 ++ l0)) else (none))
theorem slices_Clone_int_int.calls (A0 : Option Addr) (c0 : Nat) (l0 : List Int) (r : List Int) (w : World) (hr0 : Kd.C (Kd.int .i64) w A0 l0.length l0) (hc0 : l0.length ≤ c0) (h : slices_Clone_int_int.f l0 = some r) :
  Calls Try.prog 86 #[.slice A0 l0.length c0] w fun e w' => ∃ v0_ : Value, e = .returned (v0_) ∧ Kd.R (Kd.int .i64) 3 w' w.heap.size (fun _ => True) v0_ r ∧ Below w.heap.size w w' := by
 have HR0 := am hr0; have HC0 := am hc0; clear hr0 hc0; have HB := am (Below.refl w.heap.size w); have H : ((some (([] : List Int) : List Int)).bind fun y518 => (if y518.length + l0.length < 17592186044416 then (some (y518 ++ l0)) else (none))) = some r := h; clear h
 by_cases c2 : A0.isNone = true
 ·have hlc2 : l0 = [] := Go.Proofs.YtephjmmkggcmeaaGp.C_isNone HR0.out c2
  rw [hlc2] at H
  have H1 : (some ([] : List Int)) = some r := by simpa using H
  clear H; have H := H1; clear H1 hlc2
  have qc2 : ∀ (w_ : World) (n_ c_ : Nat), (binOp .eql 31 (.slice A0 n_ c_) (.slice none 0 0)).run Try.prog w_ = .ok (.bool true) w_ := fun w_ _ _ => (Go.Proofs.YtephjmmkggcmeaaGp.run_eql_nil_ w_ 31 _ _ _ _ Try.underlying31).trans (by rw [c2])
  obtain rfl := Option.some.inj H
  go_enter Try.func86, Try.ntmps86
  go_wp2
  go_ret
  exact ⟨_, eZ, nZ, Bz HB.out⟩
 ·replace c2 := Bool.eq_false_iff.mpr c2
  have qc2 : ∀ (w_ : World) (n_ c_ : Nat), (binOp .eql 31 (.slice A0 n_ c_) (.slice none 0 0)).run Try.prog w_ = .ok (.bool false) w_ := fun w_ _ _ => (Go.Proofs.YtephjmmkggcmeaaGp.run_eql_nil_ w_ 31 _ _ _ _ Try.underlying31).trans (by rw [c2])
  obtain ⟨y518, hy518⟩ : ∃ y_ : List Int, y_ = (([] : List Int)) := ⟨_, rfl⟩
  replace H : (if y518.length + l0.length < 17592186044416 then (some (y518 ++ l0)) else (none)) = some r := by first | (rw [hy518]; with_reducible exact H) | (have H2_ := (Option.bind_some _ _).symm.trans H; rw [hy518]; with_reducible exact H2_) | (have H2_ := (Option.bind_some _ _).symm.trans H; with_reducible exact H2_) | with_reducible exact H | (rw [hy518]; exact H) | exact H
  have Ny518 := am hy518; clear hy518
  by_cases c3 : y518.length + l0.length < 17592186044416
  ·rw [if_pos c3] at H
   have LMc3 := am c3; clear c3; obtain ⟨y521, hy521⟩ : ∃ y_ : List Int, y_ = (y518 ++ l0) := ⟨_, rfl⟩
   replace H : (some y521) = some r := by first | (rw [hy521]; with_reducible exact H) | (have H2_ := (Option.bind_some _ _).symm.trans H; rw [hy521]; with_reducible exact H2_) | (have H2_ := (Option.bind_some _ _).symm.trans H; with_reducible exact H2_) | with_reducible exact H | (rw [hy521]; exact H) | exact H
   have Ny521 := am hy521; clear hy521; obtain rfl := Option.some.inj H
   go_enter Try.func86, Try.ntmps86
   go_wp2_with (first | ((with_reducible refine gate_dst (N := 5) rfl ?_); refine Kd.R_lit (Kd.int .i64) _ 3 ?hg (N := 5) ?hd (xs := ([] : List Int)) (inner := []) (ok := fun _ => True) (okp := fun _ => True) ?hr ?hp (fun _ hk => hk) trivial (Below.refl _ _) (Nat.le_refl _) (by simp) ?_; (case hd => rfl); (case hg => rfl); (case hr => first | (go_simp; done) | (go_simp; rfl)); (case hp => exact (Reps.none _ _)); intro v519 w4 ho5 hb hg_ hnew_; clear hg_ hnew_; (first | rw [← Ny518.out] at ho5 | (simp only [Int.reduceToNat] at ho5; rw [← Ny518.out] at ho5)); have n0_ := Rl ho5 HB; have n1_ := Bb HB hb; clear HB; revert n0_ n1_; intro HO520 HB; clear hb ho5) | ((with_reducible refine gate_builtin (b := .append) (xs := #[.tmp 5, .tmp 6]) rfl ?_); at_builtin; refine Kd.R_append_rows (Kd.int .i64) (w0 := w) w.heap.size rfl (.tmp 5) (.tmp 6) 31 3 (.int .i64 0) 8 rfl Try.underlying31 info3 rfl (by decide) (by omega) v519 y518 l0 _ _ _ (fun _ => True) (fun _ => False) rfl rfl ?aO ?aR (fun _ _ h => h) (fun _ h => h.elim) ?aF ?aB ?aS ?aL ?_; (case aR => repeat (first | exact (Kd.C_below HR0.out HB.out) | (with_reducible refine Kd.C_alloc ?_ _) | (with_reducible refine Kd.C_drewN ?_ _) | (with_reducible refine Kd.C_drew ?_))); (case aB => exact (Bz HB.out)); (case aF => exact (fun _ _ => trivial)); (case aO => exact (Rz HO520.out)); (case aS => exact (below_size (Bz HB.out))); (case aL => have := LMc3.out; omega); intro v522 w6 ho hb hg hat; rw [← Ny521.out] at ho; have n0_ := am (hb); have n1_ := am (ho); clear HB HO520; revert n0_ n1_; intro HB HO523; clear ho hb hg hat))
   go_ret
   exact ⟨_, eZ, Rz HO523.out, Bz HB.out⟩
  ·rw [if_neg c3] at H
   exact absurd H (by simp)

def slices_Equal_int_int.l0 : Nat → List Int → List Int → Int → Int → Option (Bool)
 | 0, _, _, _, _ => none
 | k + 1, x0, x1, x12, x13 => if x13 < x12 then (if 0 ≤ x13 then (if x13 < (x0.length : Int) then (if x13 < (x1.length : Int) then (if (rd x0 x13) = (rd x1 x13) then (slices_Equal_int_int.l0 k x0 x1 x12 (wrap64 (x13 + 1))) else (some false)) else (none)) else (none)) else (none)) else (some true)
def slices_Equal_int_int.f (k : Nat) (l0 : List Int) (l1 : List Int) : Option (Bool) := if (l0.length : Int) = (l1.length : Int) then (slices_Equal_int_int.l0 k l0 l1 (l0.length : Int) 0) else (some false)
theorem slices_Equal_int_int.calls (k : Nat) (A0 : Option Addr) (c0 : Nat) (l0 : List Int) (A1 : Option Addr) (c1 : Nat) (l1 : List Int) (r : Bool) (w : World) (hr0 : Kd.C (Kd.int .i64) w A0 l0.length l0) (hc0 : l0.length ≤ c0) (hr1 : Kd.C (Kd.int .i64) w A1 l1.length l1) (hc1 : l1.length ≤ c1) (h : slices_Equal_int_int.f k l0 l1 = some r) :
  Calls Try.prog 87 #[.slice A0 l0.length c0, .slice A1 l1.length c1] w fun e w' => e = .returned (.bool r) ∧ Drawn0 w w' := by
 have HR0 := am hr0; have HC0 := am hc0; clear hr0 hc0; have HR1 := am hr1; have HC1 := am hc1; clear hr1 hc1; have H : (if (l0.length : Int) = (l1.length : Int) then (slices_Equal_int_int.l0 k l0 l1 (l0.length : Int) 0) else (some false)) = some r := h; clear h
 by_cases c3 : (l0.length : Int) = (l1.length : Int)
 ·rw [if_pos c3] at H
  have c3b0 : ((l0.length : Int) == (l1.length : Int)) = true := beq_iff_eq.mpr c3; have c3b1 : ((l0.length : Int) != (l1.length : Int)) = false := bne_eq_false_iff_eq.mpr c3
  have c3b2 : (l0.length == l1.length) = true := by first | simpa using c3 | (simp at c3 ⊢; omega)
  clear c3; have H' := am H; clear H
  go_enter Try.func87, Try.ntmps87
  go_wp2
  repeat (go_quiet (fail); try go_wp2)
  go_loopg [13] k (fun kq v13 w' => ∃ (x13_1 : Int), v13 = .int .i64 x13_1 ∧ Aside0 (slices_Equal_int_int.l0 kq l0 l1 (l0.length : Int) x13_1 = some r) ∧ Aside0 (kq ≤ k) ∧ Drawn0 w w')
  case atStart => exact ⟨(0), wZ, H', ⟨Nat.le_refl _⟩, by repeat (first | exact Drawn0.refl _ | apply Drawn0.step)⟩
  case round =>
   clear H'
   try clear c1
   try clear p2
   try clear c3
   try clear c3b0
   try clear c3b1
   try clear c3b2
   obtain ⟨x13_1, rfl, HA, HK1, ⟨m1, rfl⟩⟩ := hrel; cases gk with
   | zero => exact absurd HA.out (by simp [slices_Equal_int_int.l0])
   | succ k1 =>
    have H := HA.out; clear HA
    simp only [slices_Equal_int_int.l0] at H
    by_cases c4 : x13_1 < (l0.length : Int)
    ·rw [if_pos c4] at H
     have c4b0 : decide (x13_1 < (l0.length : Int)) = true := decide_eq_true c4; clear c4
     by_cases c5 : 0 ≤ x13_1
     ·rw [if_pos c5] at H
      have c5b0 : decide (0 ≤ x13_1) = true := decide_eq_true c5; clear c5
      by_cases c6 : x13_1 < (l0.length : Int)
      ·rw [if_pos c6] at H
       have c6b0 : decide (x13_1 < (l0.length : Int)) = true := decide_eq_true c6; clear c6
       by_cases c7 : x13_1 < (l1.length : Int)
       ·rw [if_pos c7] at H
        have c7b0 : decide (x13_1 < (l1.length : Int)) = true := decide_eq_true c7; clear c7
        by_cases c8 : (rd l0 x13_1) = (rd l1 x13_1)
        ·rw [if_pos c8] at H
         have c8b0 : ((rd l0 x13_1) == (rd l1 x13_1)) = true := beq_iff_eq.mpr c8; have c8b1 : ((rd l0 x13_1) != (rd l1 x13_1)) = false := bne_eq_false_iff_eq.mpr c8; clear c8; have H' := am H; clear H; obtain ⟨ad524, e524, hx524_0⟩ := Kd.at_int HR0.out x13_1 dT dT; cases e524; have p524 := eT (0 ≤ (x13_1 : Int)); have q524 := eT (x13_1 < (l0.length : Int)); obtain ⟨ad525, e525, hx525_0⟩ := Kd.at_int HR1.out x13_1 dT dT; cases e525; have p525 := eT (0 ≤ (x13_1 : Int)); have q525 := eT (x13_1 < (l1.length : Int))
         go_wp2
         repeat (go_quiet (fail); try go_wp2)
         go_roundg k1
         case measure => have := HK1.out; omega
         case rel => exact ⟨(wrap64 (x13_1 + 1)), wZ, H', ⟨by have := HK1.out; omega⟩, by repeat (first | exact Drawn0.refl _ | apply Drawn0.step)⟩
        ·rw [if_neg c8] at H
         have c8b0 : ((rd l0 x13_1) == (rd l1 x13_1)) = false := beq_eq_false_iff_ne.mpr c8; have c8b1 : ((rd l0 x13_1) != (rd l1 x13_1)) = true := bne_iff_ne.mpr c8; obtain rfl := Option.some.inj H; obtain ⟨ad524, e524, hx524_0⟩ := Kd.at_int HR0.out x13_1 dT dT; cases e524; have p524 := eT (0 ≤ (x13_1 : Int)); have q524 := eT (x13_1 < (l0.length : Int)); obtain ⟨ad525, e525, hx525_0⟩ := Kd.at_int HR1.out x13_1 dT dT; cases e525; have p525 := eT (0 ≤ (x13_1 : Int)); have q525 := eT (x13_1 < (l1.length : Int))
         go_wp2
         repeat (go_quiet (fail); try go_wp2)
         go_ret
         exact ⟨by first | rfl | (simp; done) | (simp [*]; done), by repeat (first | exact Drawn0.refl _ | apply Drawn0.step)⟩
       ·rw [if_neg c7] at H
        exact absurd H (by simp)
      ·rw [if_neg c6] at H
       exact absurd H (by simp)
     ·rw [if_neg c5] at H
      exact absurd H (by simp)
    ·rw [if_neg c4] at H
     have c4b0 : decide (x13_1 < (l0.length : Int)) = false := decide_eq_false c4; clear c4; obtain rfl := Option.some.inj H
     go_wp2
     repeat (go_quiet (fail); try go_wp2)
     go_ret
     exact ⟨by first | rfl | (simp; done) | (simp [*]; done), by repeat (first | exact Drawn0.refl _ | apply Drawn0.step)⟩
 ·rw [if_neg c3] at H
  have c3b0 : ((l0.length : Int) == (l1.length : Int)) = false := beq_eq_false_iff_ne.mpr c3; have c3b1 : ((l0.length : Int) != (l1.length : Int)) = true := bne_iff_ne.mpr c3
  have c3b2 : (l0.length == l1.length) = false := by first | simpa using c3 | (simp at c3 ⊢; omega)
  obtain rfl := Option.some.inj H
  go_enter Try.func87, Try.ntmps87
  go_wp2
  repeat (go_quiet (fail); try go_wp2)
  go_ret
  exact ⟨by first | rfl | (simp; done) | (simp [*]; done), by repeat (first | exact Drawn0.refl _ | apply Drawn0.step)⟩

mutual
def impl_MovesBetween.j0 : Nat → List Int → List Int → Bool → Option (List Int × Bool)
 | 0, _, _, _ => none
 | k + 1, x3, x4, x38 => if x38 = true then (some (([] : List Int), false)) else ((slices_Clone_int_int.f x3).bind fun t532 => (impl_MovesBetween.l0 k x4 t532 (([] : List Int))))
def impl_MovesBetween.l0 : Nat → List Int → List Int → List Int → Option (List Int × Bool)
 | 0, _, _, _ => none
 | k + 1, x4, x14, x15 => (slices_Equal_int_int.f k x14 x4).bind fun t538 => (if t538 = true then (some (x15, true)) else (impl_MovesBetween.l1 k x4 x14 x15 false (x14.length : Int) 0))
def impl_MovesBetween.l1 : Nat → List Int → List Int → List Int → Bool → Int → Int → Option (List Int × Bool)
 | 0, _, _, _, _, _, _ => none
 | k + 1, x4, x14, x15, x16, x47, x48 => if x48 < x47 then (if x16 = true then (impl_MovesBetween.l1 k x4 x14 x15 x16 x47 (wrap64 (x48 + 1))) else (if 0 ≤ x48 then (if x48 < (x14.length : Int) then (if x48 < (x4.length : Int) then (if (rd x14 x48) = (rd x4 x48) then (impl_MovesBetween.l1 k x4 x14 x15 x16 x47 (wrap64 (x48 + 1))) else ((slices_Contains_int_int.f k x14 (rd x4 x48)).bind fun t542 => (if t542 = true then (impl_MovesBetween.l1 k x4 x14 x15 x16 x47 (wrap64 (x48 + 1))) else (if x15.length < 17592186044416 then (impl_MovesBetween.l1 k x4 (x14.set (x48 : Int).toNat (rd x4 x48)) (x15 ++ [x48]) true x47 (wrap64 (x48 + 1))) else (none))))) else (none)) else (none)) else (none))) else (if x16 = true then (impl_MovesBetween.l0 k x4 x14 x15) else (some (([] : List Int), false)))
end
def impl_MovesBetween.f (k : Nat) (a0 : Int) (l1 : List ByteArray) (a2 : Int) (l3 : List Int) (l4 : List Int) : Option (List Int × Bool) := (impl_pairs.f k a0 l1 a2).bind fun bt526 => (if bt526.2 = true then ((impl_isPlacement.f k bt526.1 l3).bind fun t530 => (if t530 = true then ((impl_isPlacement.f k bt526.1 l4).bind fun t531 => (impl_MovesBetween.j0 k l3 l4 (!t531))) else (impl_MovesBetween.j0 k l3 l4 true))) else (impl_MovesBetween.j0 k l3 l4 true))
theorem impl_MovesBetween.calls (k : Nat) (a0 : Int) (A1 : Option Addr) (c1 : Nat) (l1 : List ByteArray) (a2 : Int) (A3 : Option Addr) (c3 : Nat) (l3 : List Int) (A4 : Option Addr) (c4 : Nat) (l4 : List Int) (r1 : List Int) (r2 : Bool) (w : World) (hr1 : Kd.C Kd.string w A1 l1.length l1) (hc1 : l1.length ≤ c1) (hr3 : Kd.C (Kd.int .i64) w A3 l3.length l3) (hc3 : l3.length ≤ c3) (hr4 : Kd.C (Kd.int .i64) w A4 l4.length l4) (hc4 : l4.length ≤ c4) (h : impl_MovesBetween.f k a0 l1 a2 l3 l4 = some (r1, r2)) :
  Calls Try.prog 28 #[.int .i64 a0, .slice A1 l1.length c1, .int .i64 a2, .slice A3 l3.length c3, .slice A4 l4.length c4] w fun e w' => ∃ v0_ : Value, e = .returned (.tuple #[v0_, .bool r2]) ∧ Kd.R (Kd.int .i64) 3 w' w.heap.size (fun _ => True) v0_ r1 ∧ Below w.heap.size w w' := by
 have HR1 := am hr1; have HC1 := am hc1; clear hr1 hc1; have HR3 := am hr3; have HC3 := am hc3; clear hr3 hc3; have HR4 := am hr4; have HC4 := am hc4; clear hr4 hc4; have HB := am (Below.refl w.heap.size w); have H : ((impl_pairs.f k a0 l1 a2).bind fun bt526 => (if bt526.2 = true then ((impl_isPlacement.f k bt526.1 l3).bind fun t530 => (if t530 = true then ((impl_isPlacement.f k bt526.1 l4).bind fun t531 => (impl_MovesBetween.j0 k l3 l4 (!t531))) else (impl_MovesBetween.j0 k l3 l4 true))) else (impl_MovesBetween.j0 k l3 l4 true))) = some (r1, r2) := h; clear h; replace H := Option.bind_eq_some_iff.mp H; obtain ⟨⟨t526, t527⟩, A60, H⟩ := H; (try dsimp -simprocs only at H); have A6 := am A60; clear A60; have HC7 := am H; clear H
 go_enter Try.func28, Try.ntmps28
 go_upto_region 2 with (first | (go_at_call 60; (with_reducible refine (impl_pairs.calls k a0 _ _ l1 a2 t526 t527 _ ?side1 ?side2 A6.out).mono ?_); (case side1 => exact Cz HR1.out); (case side2 => exact HC1.out); rintro e w8 ⟨v528, rfl, ho0, hb⟩; have n0_ := am (Kd.S_lower ho0 (below_size (Bz HB.out))); have n1_ := Bb HB hb; clear HB; revert n0_ n1_; intro HO529 HB; (try clear hb); (try clear hb2); (try clear hk); (try clear hi); (try clear ho0)))
 repeat (go_quiet (first | (go_at_call 60; (with_reducible refine (impl_pairs.calls k a0 _ _ l1 a2 t526 t527 _ ?side1 ?side2 A6.out).mono ?_); (case side1 => exact Cz HR1.out); (case side2 => exact HC1.out); rintro e w8 ⟨v528, rfl, ho0, hb⟩; have n0_ := am (Kd.S_lower ho0 (below_size (Bz HB.out))); have n1_ := Bb HB hb; clear HB; revert n0_ n1_; intro HO529 HB; (try clear hb); (try clear hb2); (try clear hk); (try clear hi); (try clear ho0))); go_upto_region 2 with (first | (go_at_call 60; (with_reducible refine (impl_pairs.calls k a0 _ _ l1 a2 t526 t527 _ ?side1 ?side2 A6.out).mono ?_); (case side1 => exact Cz HR1.out); (case side2 => exact HC1.out); rintro e w8 ⟨v528, rfl, ho0, hb⟩; have n0_ := am (Kd.S_lower ho0 (below_size (Bz HB.out))); have n1_ := Bb HB hb; clear HB; revert n0_ n1_; intro HO529 HB; (try clear hb); (try clear hb2); (try clear hk); (try clear hi); (try clear ho0))))
 (try simp only [aP])
 go_cut [38] (fun v38 wc => ∃ (kq : Nat) (x38_6 : Bool), v38 = .bool x38_6 ∧ Aside0 (impl_MovesBetween.j0 kq l3 l4 x38_6 = some (r1, r2)) ∧ Aside0 (kq ≤ k) ∧ Aside0 (Below w.heap.size w wc))
 case first =>
  have H := HC7.out; clear HC7
  by_cases c9 : t527 = true
  ·subst c9
   rw [if_pos rfl] at H; replace H := Option.bind_eq_some_iff.mp H; obtain ⟨t530, A100, H⟩ := H; (try dsimp -simprocs only at H); have A10 := am A100; clear A100
   by_cases c11 : t530 = true
   ·subst c11
    rw [if_pos rfl] at H; replace H := Option.bind_eq_some_iff.mp H; obtain ⟨t531, A120, H⟩ := H; (try dsimp -simprocs only at H); have A12 := am A120; clear A120; have H' := am H; clear H; obtain ⟨Ao13, co13, eo13⟩ := Kd.S_slice HO529.out; subst eo13
    go_wp2_with (first | (go_at_call 85; (with_reducible refine (impl_isPlacement.calls k _ _ t526 _ _ l3 true _ ?side1 ?side2 ?side3 ?side4 A10.out).mono ?_); (case side1 => exact Cz ((Kd.S_reads' HO529.out).2.2)); (case side2 => exact (Kd.S_reads' HO529.out).2.1); (case side3 => exact Cz (Kd.C_below HR3.out HB.out)); (case side4 => exact HC3.out); rintro e w14 ⟨rfl, hb⟩; have n0_ := am (Kd.S_below (by (with_reducible repeat (first | apply Kd.S_alloc | apply Kd.S_drewN | apply Kd.S_drew)); exact HO529.out) hb); have n1_ := Bb HB hb; clear HO529 HB; revert n0_ n1_; intro HO529 HB; (try clear hb); (try clear hb2); (try clear hk); (try clear hi)) | (go_at_call 85; (with_reducible refine (impl_isPlacement.calls k _ _ t526 _ _ l4 t531 _ ?side1 ?side2 ?side3 ?side4 A12.out).mono ?_); (case side1 => exact Cz ((Kd.S_reads' HO529.out).2.2)); (case side2 => exact (Kd.S_reads' HO529.out).2.1); (case side3 => exact Cz (Kd.C_below HR4.out HB.out)); (case side4 => exact HC4.out); rintro e w15 ⟨rfl, hb⟩; have n0_ := am (Kd.S_below (by (with_reducible repeat (first | apply Kd.S_alloc | apply Kd.S_drewN | apply Kd.S_drew)); exact HO529.out) hb); have n1_ := Bb HB hb; clear HO529 HB; revert n0_ n1_; intro HO529 HB; (try clear hb); (try clear hb2); (try clear hk); (try clear hi)))
    repeat (go_quiet (first | (go_at_call 85; (with_reducible refine (impl_isPlacement.calls k _ _ t526 _ _ l3 true _ ?side1 ?side2 ?side3 ?side4 A10.out).mono ?_); (case side1 => exact Cz ((Kd.S_reads' HO529.out).2.2)); (case side2 => exact (Kd.S_reads' HO529.out).2.1); (case side3 => exact Cz (Kd.C_below HR3.out HB.out)); (case side4 => exact HC3.out); rintro e w14 ⟨rfl, hb⟩; have n0_ := am (Kd.S_below (by (with_reducible repeat (first | apply Kd.S_alloc | apply Kd.S_drewN | apply Kd.S_drew)); exact HO529.out) hb); have n1_ := Bb HB hb; clear HO529 HB; revert n0_ n1_; intro HO529 HB; (try clear hb); (try clear hb2); (try clear hk); (try clear hi)) | (go_at_call 85; (with_reducible refine (impl_isPlacement.calls k _ _ t526 _ _ l4 t531 _ ?side1 ?side2 ?side3 ?side4 A12.out).mono ?_); (case side1 => exact Cz ((Kd.S_reads' HO529.out).2.2)); (case side2 => exact (Kd.S_reads' HO529.out).2.1); (case side3 => exact Cz (Kd.C_below HR4.out HB.out)); (case side4 => exact HC4.out); rintro e w15 ⟨rfl, hb⟩; have n0_ := am (Kd.S_below (by (with_reducible repeat (first | apply Kd.S_alloc | apply Kd.S_drewN | apply Kd.S_drew)); exact HO529.out) hb); have n1_ := Bb HB hb; clear HO529 HB; revert n0_ n1_; intro HO529 HB; (try clear hb); (try clear hb2); (try clear hk); (try clear hi))); try go_wp2_with (first | (go_at_call 85; (with_reducible refine (impl_isPlacement.calls k _ _ t526 _ _ l3 true _ ?side1 ?side2 ?side3 ?side4 A10.out).mono ?_); (case side1 => exact Cz ((Kd.S_reads' HO529.out).2.2)); (case side2 => exact (Kd.S_reads' HO529.out).2.1); (case side3 => exact Cz (Kd.C_below HR3.out HB.out)); (case side4 => exact HC3.out); rintro e w14 ⟨rfl, hb⟩; have n0_ := am (Kd.S_below (by (with_reducible repeat (first | apply Kd.S_alloc | apply Kd.S_drewN | apply Kd.S_drew)); exact HO529.out) hb); have n1_ := Bb HB hb; clear HO529 HB; revert n0_ n1_; intro HO529 HB; (try clear hb); (try clear hb2); (try clear hk); (try clear hi)) | (go_at_call 85; (with_reducible refine (impl_isPlacement.calls k _ _ t526 _ _ l4 t531 _ ?side1 ?side2 ?side3 ?side4 A12.out).mono ?_); (case side1 => exact Cz ((Kd.S_reads' HO529.out).2.2)); (case side2 => exact (Kd.S_reads' HO529.out).2.1); (case side3 => exact Cz (Kd.C_below HR4.out HB.out)); (case side4 => exact HC4.out); rintro e w15 ⟨rfl, hb⟩; have n0_ := am (Kd.S_below (by (with_reducible repeat (first | apply Kd.S_alloc | apply Kd.S_drewN | apply Kd.S_drew)); exact HO529.out) hb); have n1_ := Bb HB hb; clear HO529 HB; revert n0_ n1_; intro HO529 HB; (try clear hb); (try clear hb2); (try clear hk); (try clear hi))))
    go_meet
    case rel => exact ⟨_, (!t531), wZ, H', ⟨by first | omega | exact Nat.le_refl _⟩, ⟨Bz HB.out⟩⟩
   ·replace c11 := Bool.eq_false_iff.mpr c11
    subst c11
    rw [if_neg (show ¬ (false = true) by decide)] at H; have H' := am H; clear H; obtain ⟨Ao16, co16, eo16⟩ := Kd.S_slice HO529.out; subst eo16
    go_wp2_with (first | (go_at_call 85; (with_reducible refine (impl_isPlacement.calls k _ _ t526 _ _ l3 false _ ?side1 ?side2 ?side3 ?side4 A10.out).mono ?_); (case side1 => exact Cz ((Kd.S_reads' HO529.out).2.2)); (case side2 => exact (Kd.S_reads' HO529.out).2.1); (case side3 => exact Cz (Kd.C_below HR3.out HB.out)); (case side4 => exact HC3.out); rintro e w17 ⟨rfl, hb⟩; have n0_ := am (Kd.S_below (by (with_reducible repeat (first | apply Kd.S_alloc | apply Kd.S_drewN | apply Kd.S_drew)); exact HO529.out) hb); have n1_ := Bb HB hb; clear HO529 HB; revert n0_ n1_; intro HO529 HB; (try clear hb); (try clear hb2); (try clear hk); (try clear hi)))
    repeat (go_quiet (first | (go_at_call 85; (with_reducible refine (impl_isPlacement.calls k _ _ t526 _ _ l3 false _ ?side1 ?side2 ?side3 ?side4 A10.out).mono ?_); (case side1 => exact Cz ((Kd.S_reads' HO529.out).2.2)); (case side2 => exact (Kd.S_reads' HO529.out).2.1); (case side3 => exact Cz (Kd.C_below HR3.out HB.out)); (case side4 => exact HC3.out); rintro e w17 ⟨rfl, hb⟩; have n0_ := am (Kd.S_below (by (with_reducible repeat (first | apply Kd.S_alloc | apply Kd.S_drewN | apply Kd.S_drew)); exact HO529.out) hb); have n1_ := Bb HB hb; clear HO529 HB; revert n0_ n1_; intro HO529 HB; (try clear hb); (try clear hb2); (try clear hk); (try clear hi))); try go_wp2_with (first | (go_at_call 85; (with_reducible refine (impl_isPlacement.calls k _ _ t526 _ _ l3 false _ ?side1 ?side2 ?side3 ?side4 A10.out).mono ?_); (case side1 => exact Cz ((Kd.S_reads' HO529.out).2.2)); (case side2 => exact (Kd.S_reads' HO529.out).2.1); (case side3 => exact Cz (Kd.C_below HR3.out HB.out)); (case side4 => exact HC3.out); rintro e w17 ⟨rfl, hb⟩; have n0_ := am (Kd.S_below (by (with_reducible repeat (first | apply Kd.S_alloc | apply Kd.S_drewN | apply Kd.S_drew)); exact HO529.out) hb); have n1_ := Bb HB hb; clear HO529 HB; revert n0_ n1_; intro HO529 HB; (try clear hb); (try clear hb2); (try clear hk); (try clear hi))))
    go_meet
    case rel => exact ⟨_, (true), wZ, H', ⟨by first | omega | exact Nat.le_refl _⟩, ⟨Bz HB.out⟩⟩
  ·replace c9 := Bool.eq_false_iff.mpr c9
   subst c9
   rw [if_neg (show ¬ (false = true) by decide)] at H; have H' := am H; clear H
   go_wp2
   repeat (go_quiet (fail); try go_wp2)
   go_meet
   case rel => exact ⟨_, (true), wZ, H', ⟨by first | omega | exact Nat.le_refl _⟩, ⟨Bz HB.out⟩⟩
 case rest =>
  clear HC7
  try clear c1
  try clear c2
  try clear p2
  try clear c3
  try clear c4
  try clear c9
  try clear c11
  obtain ⟨kq, x38_6, rfl, HA, HJ6, HB⟩ := hcut; cases kq with
  | zero => exact absurd HA.out (by simp [impl_MovesBetween.j0])
  | succ kj6 =>
   have H := HA.out; clear HA
   simp only [impl_MovesBetween.j0] at H
   by_cases c18 : x38_6 = true
   ·subst c18
    rw [if_pos rfl] at H
    simp only [Option.some.injEq, Prod.mk.injEq] at H
    obtain ⟨rfl, rfl⟩ := H
    go_wp2
    repeat (go_quiet (fail); try go_wp2)
    go_ret2
    exact ⟨_, eZ, nZ, Bz HB.out⟩
   ·replace c18 := Bool.eq_false_iff.mpr c18
    subst c18
    rw [if_neg (show ¬ (false = true) by decide)] at H; replace H := Option.bind_eq_some_iff.mp H; obtain ⟨t532, A190, H⟩ := H; (try dsimp -simprocs only at H); have A19 := am A190; clear A190; obtain ⟨y535, hy535⟩ : ∃ y_ : List Int, y_ = (([] : List Int)) := ⟨_, rfl⟩
    replace H : (impl_MovesBetween.l0 kj6 l4 t532 y535) = some (r1, r2) := by first | (rw [hy535]; with_reducible exact H) | (have H2_ := (Option.bind_some _ _).symm.trans H; rw [hy535]; with_reducible exact H2_) | (have H2_ := (Option.bind_some _ _).symm.trans H; with_reducible exact H2_) | with_reducible exact H | (rw [hy535]; exact H) | exact H
    have Ny535 := am hy535; clear hy535; have H' := am H; clear H
    go_wp2_with (first | (go_at_call 86; (with_reducible refine (slices_Clone_int_int.calls _ _ l3 t532 _ ?side1 ?side2 A19.out).mono ?_); (case side1 => exact Cz (Kd.C_below HR3.out HB.out)); (case side2 => exact HC3.out); rintro e w20 ⟨v533, rfl, ho0, hb⟩; have n0_ := Rl ho0 HB; have n1_ := Bb HB hb; clear HB; revert n0_ n1_; intro HO534 HB; (try clear hb); (try clear hb2); (try clear hk); (try clear hi); (try clear ho0)) | ((with_reducible refine gate_dst (N := 41) rfl ?_); refine Kd.R_lit (Kd.int .i64) _ 3 ?hg (N := 41) ?hd (xs := ([] : List Int)) (inner := []) (ok := fun _ => True) (okp := fun _ => True) ?hr ?hp (fun _ hk => hk) trivial (Below.refl _ _) (Nat.le_refl _) (by simp) ?_; (case hd => rfl); (case hg => rfl); (case hr => first | (go_simp; done) | (go_simp; rfl)); (case hp => exact (Reps.none _ _)); intro v536 w21 ho22 hb hg_ hnew_; clear hg_ hnew_; (first | rw [← Ny535.out] at ho22 | (simp only [Int.reduceToNat] at ho22; rw [← Ny535.out] at ho22)); have n0_ := Re HO534 (Kd.R_base ho22) hb; have n1_ := Rl (Kd.R_new' ho22 (Kd.R_lt (Rz HO534.out))) HB; have n2_ := Bb HB hb; clear HO534 HB; revert n0_ n1_ n2_; intro HO534 HO537 HB; clear hb ho22))
    repeat (go_quiet (first | (go_at_call 86; (with_reducible refine (slices_Clone_int_int.calls _ _ l3 t532 _ ?side1 ?side2 A19.out).mono ?_); (case side1 => exact Cz (Kd.C_below HR3.out HB.out)); (case side2 => exact HC3.out); rintro e w20 ⟨v533, rfl, ho0, hb⟩; have n0_ := Rl ho0 HB; have n1_ := Bb HB hb; clear HB; revert n0_ n1_; intro HO534 HB; (try clear hb); (try clear hb2); (try clear hk); (try clear hi); (try clear ho0)) | ((with_reducible refine gate_dst (N := 41) rfl ?_); refine Kd.R_lit (Kd.int .i64) _ 3 ?hg (N := 41) ?hd (xs := ([] : List Int)) (inner := []) (ok := fun _ => True) (okp := fun _ => True) ?hr ?hp (fun _ hk => hk) trivial (Below.refl _ _) (Nat.le_refl _) (by simp) ?_; (case hd => rfl); (case hg => rfl); (case hr => first | (go_simp; done) | (go_simp; rfl)); (case hp => exact (Reps.none _ _)); intro v536 w21 ho22 hb hg_ hnew_; clear hg_ hnew_; (first | rw [← Ny535.out] at ho22 | (simp only [Int.reduceToNat] at ho22; rw [← Ny535.out] at ho22)); have n0_ := Re HO534 (Kd.R_base ho22) hb; have n1_ := Rl (Kd.R_new' ho22 (Kd.R_lt (Rz HO534.out))) HB; have n2_ := Bb HB hb; clear HO534 HB; revert n0_ n1_ n2_; intro HO534 HO537 HB; clear hb ho22)); try go_wp2_with (first | (go_at_call 86; (with_reducible refine (slices_Clone_int_int.calls _ _ l3 t532 _ ?side1 ?side2 A19.out).mono ?_); (case side1 => exact Cz (Kd.C_below HR3.out HB.out)); (case side2 => exact HC3.out); rintro e w20 ⟨v533, rfl, ho0, hb⟩; have n0_ := Rl ho0 HB; have n1_ := Bb HB hb; clear HB; revert n0_ n1_; intro HO534 HB; (try clear hb); (try clear hb2); (try clear hk); (try clear hi); (try clear ho0)) | ((with_reducible refine gate_dst (N := 41) rfl ?_); refine Kd.R_lit (Kd.int .i64) _ 3 ?hg (N := 41) ?hd (xs := ([] : List Int)) (inner := []) (ok := fun _ => True) (okp := fun _ => True) ?hr ?hp (fun _ hk => hk) trivial (Below.refl _ _) (Nat.le_refl _) (by simp) ?_; (case hd => rfl); (case hg => rfl); (case hr => first | (go_simp; done) | (go_simp; rfl)); (case hp => exact (Reps.none _ _)); intro v536 w21 ho22 hb hg_ hnew_; clear hg_ hnew_; (first | rw [← Ny535.out] at ho22 | (simp only [Int.reduceToNat] at ho22; rw [← Ny535.out] at ho22)); have n0_ := Re HO534 (Kd.R_base ho22) hb; have n1_ := Rl (Kd.R_new' ho22 (Kd.R_lt (Rz HO534.out))) HB; have n2_ := Bb HB hb; clear HO534 HB; revert n0_ n1_ n2_; intro HO534 HO537 HB; clear hb ho22)))
    (try simp only [aP])
    go_loopg [15] kj6 (fun kq v15 w' => ∃ (x14_2 : List Int) (x15_2 : List Int), Aside0 (impl_MovesBetween.l0 kq l4 x14_2 x15_2 = some (r1, r2)) ∧ Aside0 (kq ≤ kj6) ∧ Aside0 (Kd.R (Kd.int .i64) 3 w' w.heap.size (fun k_ => some k_ ≠ (v15 : Value).ownBlock) v533 x14_2) ∧ Aside0 (Kd.R (Kd.int .i64) 3 w' w.heap.size (fun k_ => some k_ ≠ (v533 : Value).ownBlock) v15 x15_2) ∧ Aside0 (Below w.heap.size w w'))
    case atStart => exact ⟨(t532), (y535), H', ⟨Nat.le_refl _⟩, ⟨Rz (Kd.R_mono HO534.out (fun _ hk => hk.2))⟩, ⟨Rz (Kd.R_mono HO537.out (fun _ hk => hk.2))⟩, ⟨Bz HB.out⟩⟩
    case round =>
     clear H'
     try clear c1
     try clear c2
     try clear p2
     try clear c3
     try clear c4
     try clear c9
     try clear c11
     try clear c18
     try clear p2
     obtain ⟨x14_2, x15_2, HA, HK2, HO_14, HO_15, HB⟩ := hrel; cases gk with
     | zero => exact absurd HA.out (by simp [impl_MovesBetween.l0])
     | succ k2 =>
      have H := HA.out; clear HA
      simp only [impl_MovesBetween.l0] at H
      replace H := Option.bind_eq_some_iff.mp H; obtain ⟨t538, A230, H⟩ := H; (try dsimp -simprocs only at H); have A23 := am A230; clear A230
      by_cases c24 : t538 = true
      ·subst c24
       rw [if_pos rfl] at H
       simp only [Option.some.injEq, Prod.mk.injEq] at H
       obtain ⟨rfl, rfl⟩ := H; obtain ⟨Ao25, co25, eo25⟩ := Kd.R_slice HO_14.out; subst eo25
       go_wp2_with (first | (go_at_call 87; (with_reducible refine (slices_Equal_int_int.calls k2 _ _ x14_2 _ _ l4 true _ ?side1 ?side2 ?side3 ?side4 A23.out).mono ?_); (case side1 => exact Cz ((Kd.R_reads' HO_14.out).2.2)); (case side2 => exact (Kd.R_reads' HO_14.out).2.1); (case side3 => exact Cz (Kd.C_below HR4.out HB.out)); (case side4 => exact HC4.out); rintro e w' ⟨rfl, ⟨nd, rfl⟩⟩; (try exact yZ)))
       repeat (go_quiet (first | (go_at_call 87; (with_reducible refine (slices_Equal_int_int.calls k2 _ _ x14_2 _ _ l4 true _ ?side1 ?side2 ?side3 ?side4 A23.out).mono ?_); (case side1 => exact Cz ((Kd.R_reads' HO_14.out).2.2)); (case side2 => exact (Kd.R_reads' HO_14.out).2.1); (case side3 => exact Cz (Kd.C_below HR4.out HB.out)); (case side4 => exact HC4.out); rintro e w' ⟨rfl, ⟨nd, rfl⟩⟩; (try exact yZ))); try go_wp2_with (first | (go_at_call 87; (with_reducible refine (slices_Equal_int_int.calls k2 _ _ x14_2 _ _ l4 true _ ?side1 ?side2 ?side3 ?side4 A23.out).mono ?_); (case side1 => exact Cz ((Kd.R_reads' HO_14.out).2.2)); (case side2 => exact (Kd.R_reads' HO_14.out).2.1); (case side3 => exact Cz (Kd.C_below HR4.out HB.out)); (case side4 => exact HC4.out); rintro e w' ⟨rfl, ⟨nd, rfl⟩⟩; (try exact yZ))))
       go_ret2
       exact ⟨_, eZ, Rz (Kd.R_mono HO_15.out (fun _ hk => trivial)), Bz HB.out⟩
      ·replace c24 := Bool.eq_false_iff.mpr c24
       subst c24
       rw [if_neg (show ¬ (false = true) by decide)] at H; have H' := am H; clear H; obtain ⟨Ao26, co26, eo26⟩ := Kd.R_slice HO_14.out; subst eo26
       go_wp2_with (first | (go_at_call 87; (with_reducible refine (slices_Equal_int_int.calls k2 _ _ x14_2 _ _ l4 false _ ?side1 ?side2 ?side3 ?side4 A23.out).mono ?_); (case side1 => exact Cz ((Kd.R_reads' HO_14.out).2.2)); (case side2 => exact (Kd.R_reads' HO_14.out).2.1); (case side3 => exact Cz (Kd.C_below HR4.out HB.out)); (case side4 => exact HC4.out); rintro e w' ⟨rfl, ⟨nd, rfl⟩⟩; (try exact yZ)))
       repeat (go_quiet (first | (go_at_call 87; (with_reducible refine (slices_Equal_int_int.calls k2 _ _ x14_2 _ _ l4 false _ ?side1 ?side2 ?side3 ?side4 A23.out).mono ?_); (case side1 => exact Cz ((Kd.R_reads' HO_14.out).2.2)); (case side2 => exact (Kd.R_reads' HO_14.out).2.1); (case side3 => exact Cz (Kd.C_below HR4.out HB.out)); (case side4 => exact HC4.out); rintro e w' ⟨rfl, ⟨nd, rfl⟩⟩; (try exact yZ))); try go_wp2_with (first | (go_at_call 87; (with_reducible refine (slices_Equal_int_int.calls k2 _ _ x14_2 _ _ l4 false _ ?side1 ?side2 ?side3 ?side4 A23.out).mono ?_); (case side1 => exact Cz ((Kd.R_reads' HO_14.out).2.2)); (case side2 => exact (Kd.R_reads' HO_14.out).2.1); (case side3 => exact Cz (Kd.C_below HR4.out HB.out)); (case side4 => exact HC4.out); rintro e w' ⟨rfl, ⟨nd, rfl⟩⟩; (try exact yZ))))
       (try simp only [aP])
       go_loopg [15, 16, 48] k2 (fun kq v15 v16 v48 w' => ∃ (x14_3 : List Int) (x15_3 : List Int) (x16_3 : Bool) (x48_3 : Int), v16 = .bool x16_3 ∧ v48 = .int .i64 x48_3 ∧ Aside0 (impl_MovesBetween.l1 kq l4 x14_3 x15_3 x16_3 (x14_2.length : Int) x48_3 = some (r1, r2)) ∧ Aside0 (kq ≤ k2) ∧ Aside0 (Kd.R (Kd.int .i64) 3 w' w.heap.size (fun k_ => some k_ ≠ (v15 : Value).ownBlock) (.slice Ao26 x14_2.length co26) x14_3) ∧ Aside0 (Kd.R (Kd.int .i64) 3 w' w.heap.size (fun k_ => some k_ ≠ ((.slice Ao26 x14_2.length co26) : Value).ownBlock) v15 x15_3) ∧ Aside0 (Below w.heap.size w w'))
       case atStart => exact ⟨(x14_2), (x15_2), (false), (0), wZ, wZ, H', ⟨Nat.le_refl _⟩, ⟨Rz HO_14.out⟩, ⟨Rz HO_15.out⟩, ⟨Bz HB.out⟩⟩
       case round =>
        clear H'
        try clear c1
        try clear c2
        try clear p2
        try clear c3
        try clear c4
        try clear c9
        try clear c11
        try clear c18
        try clear c24
        try clear p2
        obtain ⟨x14_3, x15_3, x16_3, x48_3, rfl, rfl, HA, HK3, HO_14, HO_15, HB⟩ := hrel; have hl14_3 := (Kd.R_reads' HO_14.out).1; rw [hl14_3] at HO_14
        (try simp only [hl14_3])
        (try simp only [hl14_3] at HO_15)
        cases gk with
        | zero => exact absurd HA.out (by simp [impl_MovesBetween.l1])
        | succ k3 =>
         have H := HA.out; clear HA
         simp only [impl_MovesBetween.l1] at H
         by_cases c27 : x48_3 < (x14_2.length : Int)
         ·rw [if_pos c27] at H
          have c27b0 : decide (x48_3 < (x14_2.length : Int)) = true := decide_eq_true c27; (try simp only [hl14_3] at c27b0); clear c27
          by_cases c28 : x16_3 = true
          ·subst c28
           rw [if_pos rfl] at H; have H' := am H; clear H
           go_wp2
           repeat (go_quiet (fail); try go_wp2)
           (try simp only [← hl14_3])
           go_roundg k3
           case measure => have := HJ6.out; have := HK2.out; have := HK3.out; omega
           case rel => exact ⟨(x14_3), (x15_3), (true), (wrap64 (x48_3 + 1)), wZ, wZ, H', ⟨by have := HJ6.out; have := HK2.out; have := HK3.out; omega⟩, ⟨by (try simp only [hl14_3]); (with_reducible repeat (first | apply Kd.R_alloc | apply Kd.R_drewN | apply Kd.R_drew)); exact HO_14.out⟩, ⟨by (try simp only [hl14_3]); (with_reducible repeat (first | apply Kd.R_alloc | apply Kd.R_drewN | apply Kd.R_drew)); exact HO_15.out⟩, ⟨Bz HB.out⟩⟩
          ·replace c28 := Bool.eq_false_iff.mpr c28
           subst c28
           rw [if_neg (show ¬ (false = true) by decide)] at H
           by_cases c29 : 0 ≤ x48_3
           ·rw [if_pos c29] at H
            have c29b0 : decide (0 ≤ x48_3) = true := decide_eq_true c29; clear c29
            by_cases c30 : x48_3 < (x14_3.length : Int)
            ·rw [if_pos c30] at H
             have c30b0 : decide (x48_3 < (x14_3.length : Int)) = true := decide_eq_true c30; (try simp only [hl14_3] at c30b0); clear c30
             by_cases c31 : x48_3 < (l4.length : Int)
             ·rw [if_pos c31] at H
              have c31b0 : decide (x48_3 < (l4.length : Int)) = true := decide_eq_true c31; (try simp only [hl14_3] at c31b0); clear c31
              by_cases c32 : (rd x14_3 x48_3) = (rd l4 x48_3)
              ·rw [if_pos c32] at H
               have c32b0 : ((rd x14_3 x48_3) == (rd l4 x48_3)) = true := beq_iff_eq.mpr c32; have c32b1 : ((rd x14_3 x48_3) != (rd l4 x48_3)) = false := bne_eq_false_iff_eq.mpr c32; clear c32; have H' := am H; clear H; obtain ⟨ad539, e539, hx539_0⟩ := Kd.at_int (Kd.R_reads' HO_14.out).2.2 x48_3 dT dT; cases e539; have p539 := eT (0 ≤ (x48_3 : Int)); have q539 := eT (x48_3 < (x14_3.length : Int)); have p540 : 0 ≤ (x48_3 : Int) := dT; have q540 : x48_3 < (l4.length : Int) := dT; obtain ⟨ad540, e540, hx540_0⟩ := Kd.at_int HR4.out x48_3 p540 q540; cases e540; replace hx540_0 := (HB.out.cell (World.block_lt_of_cell? w _ hx540_0)).trans hx540_0; replace p540 := eq_true p540; replace q540 := eq_true q540
               go_wp2
               repeat (go_quiet (fail); try go_wp2)
               (try simp only [← hl14_3])
               go_roundg k3
               case measure => have := HJ6.out; have := HK2.out; have := HK3.out; omega
               case rel => exact ⟨(x14_3), (x15_3), (false), (wrap64 (x48_3 + 1)), wZ, wZ, H', ⟨by have := HJ6.out; have := HK2.out; have := HK3.out; omega⟩, ⟨by (try simp only [hl14_3]); (with_reducible repeat (first | apply Kd.R_alloc | apply Kd.R_drewN | apply Kd.R_drew)); exact HO_14.out⟩, ⟨by (try simp only [hl14_3]); (with_reducible repeat (first | apply Kd.R_alloc | apply Kd.R_drewN | apply Kd.R_drew)); exact HO_15.out⟩, ⟨Bz HB.out⟩⟩
              ·rw [if_neg c32] at H
               have c32b0 : ((rd x14_3 x48_3) == (rd l4 x48_3)) = false := beq_eq_false_iff_ne.mpr c32; have c32b1 : ((rd x14_3 x48_3) != (rd l4 x48_3)) = true := bne_iff_ne.mpr c32; replace H := Option.bind_eq_some_iff.mp H; obtain ⟨t542, A330, H⟩ := H; (try dsimp -simprocs only at H); have A33 := am A330; clear A330
               by_cases c34 : t542 = true
               ·subst c34
                rw [if_pos rfl] at H; have H' := am H; clear H; obtain ⟨ad539, e539, hx539_0⟩ := Kd.at_int (Kd.R_reads' HO_14.out).2.2 x48_3 dT dT; cases e539; have p539 := eT (0 ≤ (x48_3 : Int)); have q539 := eT (x48_3 < (x14_3.length : Int)); have p540 : 0 ≤ (x48_3 : Int) := dT; have q540 : x48_3 < (l4.length : Int) := dT; obtain ⟨ad540, e540, hx540_0⟩ := Kd.at_int HR4.out x48_3 p540 q540; cases e540; replace hx540_0 := (HB.out.cell (World.block_lt_of_cell? w _ hx540_0)).trans hx540_0; replace p540 := eq_true p540; replace q540 := eq_true q540; have p541 : 0 ≤ (x48_3 : Int) := dT; have q541 : x48_3 < (l4.length : Int) := dT; obtain ⟨ad541, e541, hx541_0⟩ := Kd.at_int HR4.out x48_3 p541 q541; obtain rfl : ad540 = ad541 := (by injection e541); replace hx541_0 := (HB.out.cell (World.block_lt_of_cell? w _ hx541_0)).trans hx541_0; replace p541 := eq_true p541; replace q541 := eq_true q541
                go_wp2_with (first | (go_at_call 88; (with_reducible refine (slices_Contains_int_int.calls k3 _ _ x14_3 (rd l4 x48_3) true _ ?side1 ?side2 A33.out).mono ?_); (case side1 => exact Cz ((Kd.R_reads' HO_14.out).2.2)); (case side2 => exact (Kd.R_reads' HO_14.out).2.1); rintro e w' ⟨rfl, ⟨nd, rfl⟩⟩; (try exact yZ)))
                repeat (go_quiet (first | (go_at_call 88; (with_reducible refine (slices_Contains_int_int.calls k3 _ _ x14_3 (rd l4 x48_3) true _ ?side1 ?side2 A33.out).mono ?_); (case side1 => exact Cz ((Kd.R_reads' HO_14.out).2.2)); (case side2 => exact (Kd.R_reads' HO_14.out).2.1); rintro e w' ⟨rfl, ⟨nd, rfl⟩⟩; (try exact yZ))); try go_wp2_with (first | (go_at_call 88; (with_reducible refine (slices_Contains_int_int.calls k3 _ _ x14_3 (rd l4 x48_3) true _ ?side1 ?side2 A33.out).mono ?_); (case side1 => exact Cz ((Kd.R_reads' HO_14.out).2.2)); (case side2 => exact (Kd.R_reads' HO_14.out).2.1); rintro e w' ⟨rfl, ⟨nd, rfl⟩⟩; (try exact yZ))))
                (try simp only [← hl14_3])
                go_roundg k3
                case measure => have := HJ6.out; have := HK2.out; have := HK3.out; omega
                case rel => exact ⟨(x14_3), (x15_3), (false), (wrap64 (x48_3 + 1)), wZ, wZ, H', ⟨by have := HJ6.out; have := HK2.out; have := HK3.out; omega⟩, ⟨by (try simp only [hl14_3]); (with_reducible repeat (first | apply Kd.R_alloc | apply Kd.R_drewN | apply Kd.R_drew)); exact HO_14.out⟩, ⟨by (try simp only [hl14_3]); (with_reducible repeat (first | apply Kd.R_alloc | apply Kd.R_drewN | apply Kd.R_drew)); exact HO_15.out⟩, ⟨Bz HB.out⟩⟩
               ·replace c34 := Bool.eq_false_iff.mpr c34
                subst c34
                rw [if_neg (show ¬ (false = true) by decide)] at H; obtain ⟨y544, hy544⟩ : ∃ y_ : List Int, y_ = (x14_3.set (x48_3 : Int).toNat (rd l4 x48_3)) := ⟨_, rfl⟩
                replace H : (if x15_3.length < 17592186044416 then (impl_MovesBetween.l1 k3 l4 y544 (x15_3 ++ [x48_3]) true (x14_2.length : Int) (wrap64 (x48_3 + 1))) else (none)) = some (r1, r2) := by first | (rw [hy544]; with_reducible exact H) | (have H2_ := (Option.bind_some _ _).symm.trans H; rw [hy544]; with_reducible exact H2_) | (have H2_ := (Option.bind_some _ _).symm.trans H; with_reducible exact H2_) | with_reducible exact H | (rw [hy544]; exact H) | exact H
                have Ny544 := am hy544; clear hy544
                by_cases c36 : x15_3.length < 17592186044416
                ·rw [if_pos c36] at H
                 have LMc36 := am c36; clear c36; obtain ⟨y545, hy545⟩ : ∃ y_ : List Int, y_ = (x15_3 ++ [x48_3]) := ⟨_, rfl⟩
                 replace H : (impl_MovesBetween.l1 k3 l4 y544 y545 true (x14_2.length : Int) (wrap64 (x48_3 + 1))) = some (r1, r2) := by first | (rw [hy545]; with_reducible exact H) | (have H2_ := (Option.bind_some _ _).symm.trans H; rw [hy545]; with_reducible exact H2_) | (have H2_ := (Option.bind_some _ _).symm.trans H; with_reducible exact H2_) | with_reducible exact H | (rw [hy545]; exact H) | exact H
                 have Ny545 := am hy545; clear hy545; have H' := am H; clear H; obtain ⟨ad539, e539, hx539_0⟩ := Kd.at_int (Kd.R_reads' HO_14.out).2.2 x48_3 dT dT; cases e539; have p539 := eT (0 ≤ (x48_3 : Int)); have q539 := eT (x48_3 < (x14_3.length : Int)); have p540 : 0 ≤ (x48_3 : Int) := dT; have q540 : x48_3 < (l4.length : Int) := dT; obtain ⟨ad540, e540, hx540_0⟩ := Kd.at_int HR4.out x48_3 p540 q540; cases e540; replace hx540_0 := (HB.out.cell (World.block_lt_of_cell? w _ hx540_0)).trans hx540_0; replace p540 := eq_true p540; replace q540 := eq_true q540; have p541 : 0 ≤ (x48_3 : Int) := dT; have q541 : x48_3 < (l4.length : Int) := dT; obtain ⟨ad541, e541, hx541_0⟩ := Kd.at_int HR4.out x48_3 p541 q541; obtain rfl : ad540 = ad541 := (by injection e541); replace hx541_0 := (HB.out.cell (World.block_lt_of_cell? w _ hx541_0)).trans hx541_0; replace p541 := eq_true p541; replace q541 := eq_true q541
                 go_wp2_with (first | (go_at_call 88; (with_reducible refine (slices_Contains_int_int.calls k3 _ _ x14_3 (rd l4 x48_3) false _ ?side1 ?side2 A33.out).mono ?_); (case side1 => exact Cz ((Kd.R_reads' HO_14.out).2.2)); (case side2 => exact (Kd.R_reads' HO_14.out).2.1); rintro e w' ⟨rfl, ⟨nd, rfl⟩⟩; (try exact yZ); have p543 : 0 ≤ (x48_3 : Int) := dT; have q543 : x48_3 < (l4.length : Int) := dT; obtain ⟨ad543, e543, hx543_0⟩ := Kd.at_int HR4.out x48_3 p543 q543; obtain rfl : ad540 = ad543 := (by injection e543); replace hx543_0 := (HB.out.cell (World.block_lt_of_cell? w _ hx543_0)).trans hx543_0; replace p543 := eq_true p543; replace q543 := eq_true q543; have p35 : 0 ≤ (x48_3 : Int) := dT; have q35 : (x48_3 : Int) < ((x14_3.length : Int) : Int) := dT; obtain ⟨go35, co35, eo35, gb35, gl35, cl35, HG35⟩ := Kd.R_form HO_14.out (by omega); (first | cases eo35 | (injection eo35 with ea_ en_ ec_; (first | subst ea_ | (injection ea_ with ea_; subst ea_)); subst ec_; clear en_)); have GB35 := am gb35; have GG35 := am HG35; clear gb35 gl35 HG35; (first | simp only [add_plain] at hx539_0 | skip); obtain ⟨hx35_0, hf35_0⟩ := Kd.R_celln 0 HO_14.out (x48_3 : Int) p35 q35; replace p35 := eq_true p35; replace q35 := eq_true q35; obtain ⟨hy37_, hz37_⟩ := Kd.R_celln 0 HO_14.out (x48_3 : Int) (dT) (dT); have HP37 := Kd.R_putg HO_14.out (x48_3 : Int) (rd l4 x48_3)) | ((with_reducible refine gate_store (t := 3) (p := 79) rfl ?_); (try (rw [drewN_self wr]; generalize hq_ : World.drewN wr _ = wr; have n0_ := am (Kd.R_at hq_ HO_14.out); have n1_ := am (Kd.R_at hq_ HO_15.out); have n2_ := am (below_at hq_ HB.out); clear hq_ HO_14 HO_15 HB; revert n0_ n1_ n2_; intro HO_14 HO_15 HB; (try (obtain ⟨hy37_, hz37_⟩ := Kd.R_celln 0 HO_14.out (x48_3 : Int) (dT) (dT))); (try (have HP37 := Kd.R_putg HO_14.out (x48_3 : Int) (rd l4 x48_3))))); refine store_event (t := 3) (p := 79) (v := ?vo_w38) (w1 := (wr.setCell ⟨go35, (x48_3 : Int).toNat, none⟩ (.int .i64 (rd l4 x48_3)))) ?hg ?ho ?hn ?hr ?_; (case ho => rfl); (case hg => rfl); (case hn => rfl); (case hr => first | (go_simp; done) | (go_simp; rfl)); intro w38 hw; have hg : wr.grownBy w38 (some go35) := (by rw [hw]; exact HP37.2); have hp_ : Kd.R (Kd.int .i64) 3 w38 w.heap.size (fun k_ => some k_ ≠ (u15 : Value).ownBlock) (.slice (some ⟨go35, 0, none⟩) x14_3.length co26) y544 := (by rw [hw, Ny544.out]; exact HP37.1); clear HP37; have n0_ := am (hp_); have n1_ := am (Kd.R_after (v := (.slice (some ⟨go35, 0, none⟩) x14_3.length co26)) (v1 := (.slice (some ⟨go35, 0, none⟩) x14_3.length co26)) (ok := (fun _ => True)) (Rz (Kd.R_mono HO_15.out (fun _ hk => ⟨trivial, hk⟩))) hg (.inl rfl)); have n2_ := am ((by rw [hw]; exact below_set (HB.out) GB35.out : Below w.heap.size w w38)); clear HO_14 HO_15 HB; revert n0_ n1_ n2_; intro HO_14 HO_15 HB; clear hg hw hp_) | ((with_reducible refine gate_builtin (b := .append) (xs := #[.tmp 80, .tmp 82]) rfl ?_); at_builtin; refine Kd.R_append (Kd.int .i64) (w0 := w) w.heap.size rfl (.tmp 80) (.tmp 82) 31 3 (.int .i64 0) 8 rfl Try.underlying31 info3 rfl (by decide) (by omega) u15 x15_3 x48_3 [.int .i64 x48_3] (fun k_ => some k_ ≠ (.slice (some ⟨go35, 0, none⟩) x14_3.length co26 : Value).ownBlock) (fun _ => False) rfl rfl ?aP (fun _ hk => hk.elim) ?aF ?aO ?aB ?aS ?aL ?_; (case aP => exact rfl); (case aB => exact (Bz HB.out)); (case aF => exact (fun k_ hk => Kd.fresh' (Kd.R_lt (Rz HO_14.out)) k_ hk)); (case aO => exact (Rz (Kd.R_mono HO_15.out (fun _ hk => hk.2)))); (case aS => exact (below_size (Bz HB.out))); (case aL => have := LMc36.out; omega); intro v546 w39 ho hb hg hat; rw [← Ny545.out] at ho; have n0_ := am (Kd.R_after (ok := (fun _ => True)) (Rz (Kd.R_mono HO_14.out (fun _ hk => ⟨trivial, hk⟩))) hg hat); have n1_ := am (hb); have n2_ := am (ho); clear HO_14 HB HO_15; revert n0_ n1_ n2_; intro HO_14 HB HO547; clear ho hb hg hat))
                 repeat (go_quiet (first | (go_at_call 88; (with_reducible refine (slices_Contains_int_int.calls k3 _ _ x14_3 (rd l4 x48_3) false _ ?side1 ?side2 A33.out).mono ?_); (case side1 => exact Cz ((Kd.R_reads' HO_14.out).2.2)); (case side2 => exact (Kd.R_reads' HO_14.out).2.1); rintro e w' ⟨rfl, ⟨nd, rfl⟩⟩; (try exact yZ); have p543 : 0 ≤ (x48_3 : Int) := dT; have q543 : x48_3 < (l4.length : Int) := dT; obtain ⟨ad543, e543, hx543_0⟩ := Kd.at_int HR4.out x48_3 p543 q543; obtain rfl : ad540 = ad543 := (by injection e543); replace hx543_0 := (HB.out.cell (World.block_lt_of_cell? w _ hx543_0)).trans hx543_0; replace p543 := eq_true p543; replace q543 := eq_true q543; have p35 : 0 ≤ (x48_3 : Int) := dT; have q35 : (x48_3 : Int) < ((x14_3.length : Int) : Int) := dT; obtain ⟨go35, co35, eo35, gb35, gl35, cl35, HG35⟩ := Kd.R_form HO_14.out (by omega); (first | cases eo35 | (injection eo35 with ea_ en_ ec_; (first | subst ea_ | (injection ea_ with ea_; subst ea_)); subst ec_; clear en_)); have GB35 := am gb35; have GG35 := am HG35; clear gb35 gl35 HG35; (first | simp only [add_plain] at hx539_0 | skip); obtain ⟨hx35_0, hf35_0⟩ := Kd.R_celln 0 HO_14.out (x48_3 : Int) p35 q35; replace p35 := eq_true p35; replace q35 := eq_true q35; obtain ⟨hy37_, hz37_⟩ := Kd.R_celln 0 HO_14.out (x48_3 : Int) (dT) (dT); have HP37 := Kd.R_putg HO_14.out (x48_3 : Int) (rd l4 x48_3)) | ((with_reducible refine gate_store (t := 3) (p := 79) rfl ?_); (try (rw [drewN_self wr]; generalize hq_ : World.drewN wr _ = wr; have n0_ := am (Kd.R_at hq_ HO_14.out); have n1_ := am (Kd.R_at hq_ HO_15.out); have n2_ := am (below_at hq_ HB.out); clear hq_ HO_14 HO_15 HB; revert n0_ n1_ n2_; intro HO_14 HO_15 HB; (try (obtain ⟨hy37_, hz37_⟩ := Kd.R_celln 0 HO_14.out (x48_3 : Int) (dT) (dT))); (try (have HP37 := Kd.R_putg HO_14.out (x48_3 : Int) (rd l4 x48_3))))); refine store_event (t := 3) (p := 79) (v := ?vo_w38) (w1 := (wr.setCell ⟨go35, (x48_3 : Int).toNat, none⟩ (.int .i64 (rd l4 x48_3)))) ?hg ?ho ?hn ?hr ?_; (case ho => rfl); (case hg => rfl); (case hn => rfl); (case hr => first | (go_simp; done) | (go_simp; rfl)); intro w38 hw; have hg : wr.grownBy w38 (some go35) := (by rw [hw]; exact HP37.2); have hp_ : Kd.R (Kd.int .i64) 3 w38 w.heap.size (fun k_ => some k_ ≠ (u15 : Value).ownBlock) (.slice (some ⟨go35, 0, none⟩) x14_3.length co26) y544 := (by rw [hw, Ny544.out]; exact HP37.1); clear HP37; have n0_ := am (hp_); have n1_ := am (Kd.R_after (v := (.slice (some ⟨go35, 0, none⟩) x14_3.length co26)) (v1 := (.slice (some ⟨go35, 0, none⟩) x14_3.length co26)) (ok := (fun _ => True)) (Rz (Kd.R_mono HO_15.out (fun _ hk => ⟨trivial, hk⟩))) hg (.inl rfl)); have n2_ := am ((by rw [hw]; exact below_set (HB.out) GB35.out : Below w.heap.size w w38)); clear HO_14 HO_15 HB; revert n0_ n1_ n2_; intro HO_14 HO_15 HB; clear hg hw hp_) | ((with_reducible refine gate_builtin (b := .append) (xs := #[.tmp 80, .tmp 82]) rfl ?_); at_builtin; refine Kd.R_append (Kd.int .i64) (w0 := w) w.heap.size rfl (.tmp 80) (.tmp 82) 31 3 (.int .i64 0) 8 rfl Try.underlying31 info3 rfl (by decide) (by omega) u15 x15_3 x48_3 [.int .i64 x48_3] (fun k_ => some k_ ≠ (.slice (some ⟨go35, 0, none⟩) x14_3.length co26 : Value).ownBlock) (fun _ => False) rfl rfl ?aP (fun _ hk => hk.elim) ?aF ?aO ?aB ?aS ?aL ?_; (case aP => exact rfl); (case aB => exact (Bz HB.out)); (case aF => exact (fun k_ hk => Kd.fresh' (Kd.R_lt (Rz HO_14.out)) k_ hk)); (case aO => exact (Rz (Kd.R_mono HO_15.out (fun _ hk => hk.2)))); (case aS => exact (below_size (Bz HB.out))); (case aL => have := LMc36.out; omega); intro v546 w39 ho hb hg hat; rw [← Ny545.out] at ho; have n0_ := am (Kd.R_after (ok := (fun _ => True)) (Rz (Kd.R_mono HO_14.out (fun _ hk => ⟨trivial, hk⟩))) hg hat); have n1_ := am (hb); have n2_ := am (ho); clear HO_14 HB HO_15; revert n0_ n1_ n2_; intro HO_14 HB HO547; clear ho hb hg hat)); try go_wp2_with (first | (go_at_call 88; (with_reducible refine (slices_Contains_int_int.calls k3 _ _ x14_3 (rd l4 x48_3) false _ ?side1 ?side2 A33.out).mono ?_); (case side1 => exact Cz ((Kd.R_reads' HO_14.out).2.2)); (case side2 => exact (Kd.R_reads' HO_14.out).2.1); rintro e w' ⟨rfl, ⟨nd, rfl⟩⟩; (try exact yZ); have p543 : 0 ≤ (x48_3 : Int) := dT; have q543 : x48_3 < (l4.length : Int) := dT; obtain ⟨ad543, e543, hx543_0⟩ := Kd.at_int HR4.out x48_3 p543 q543; obtain rfl : ad540 = ad543 := (by injection e543); replace hx543_0 := (HB.out.cell (World.block_lt_of_cell? w _ hx543_0)).trans hx543_0; replace p543 := eq_true p543; replace q543 := eq_true q543; have p35 : 0 ≤ (x48_3 : Int) := dT; have q35 : (x48_3 : Int) < ((x14_3.length : Int) : Int) := dT; obtain ⟨go35, co35, eo35, gb35, gl35, cl35, HG35⟩ := Kd.R_form HO_14.out (by omega); (first | cases eo35 | (injection eo35 with ea_ en_ ec_; (first | subst ea_ | (injection ea_ with ea_; subst ea_)); subst ec_; clear en_)); have GB35 := am gb35; have GG35 := am HG35; clear gb35 gl35 HG35; (first | simp only [add_plain] at hx539_0 | skip); obtain ⟨hx35_0, hf35_0⟩ := Kd.R_celln 0 HO_14.out (x48_3 : Int) p35 q35; replace p35 := eq_true p35; replace q35 := eq_true q35; obtain ⟨hy37_, hz37_⟩ := Kd.R_celln 0 HO_14.out (x48_3 : Int) (dT) (dT); have HP37 := Kd.R_putg HO_14.out (x48_3 : Int) (rd l4 x48_3)) | ((with_reducible refine gate_store (t := 3) (p := 79) rfl ?_); (try (rw [drewN_self wr]; generalize hq_ : World.drewN wr _ = wr; have n0_ := am (Kd.R_at hq_ HO_14.out); have n1_ := am (Kd.R_at hq_ HO_15.out); have n2_ := am (below_at hq_ HB.out); clear hq_ HO_14 HO_15 HB; revert n0_ n1_ n2_; intro HO_14 HO_15 HB; (try (obtain ⟨hy37_, hz37_⟩ := Kd.R_celln 0 HO_14.out (x48_3 : Int) (dT) (dT))); (try (have HP37 := Kd.R_putg HO_14.out (x48_3 : Int) (rd l4 x48_3))))); refine store_event (t := 3) (p := 79) (v := ?vo_w38) (w1 := (wr.setCell ⟨go35, (x48_3 : Int).toNat, none⟩ (.int .i64 (rd l4 x48_3)))) ?hg ?ho ?hn ?hr ?_; (case ho => rfl); (case hg => rfl); (case hn => rfl); (case hr => first | (go_simp; done) | (go_simp; rfl)); intro w38 hw; have hg : wr.grownBy w38 (some go35) := (by rw [hw]; exact HP37.2); have hp_ : Kd.R (Kd.int .i64) 3 w38 w.heap.size (fun k_ => some k_ ≠ (u15 : Value).ownBlock) (.slice (some ⟨go35, 0, none⟩) x14_3.length co26) y544 := (by rw [hw, Ny544.out]; exact HP37.1); clear HP37; have n0_ := am (hp_); have n1_ := am (Kd.R_after (v := (.slice (some ⟨go35, 0, none⟩) x14_3.length co26)) (v1 := (.slice (some ⟨go35, 0, none⟩) x14_3.length co26)) (ok := (fun _ => True)) (Rz (Kd.R_mono HO_15.out (fun _ hk => ⟨trivial, hk⟩))) hg (.inl rfl)); have n2_ := am ((by rw [hw]; exact below_set (HB.out) GB35.out : Below w.heap.size w w38)); clear HO_14 HO_15 HB; revert n0_ n1_ n2_; intro HO_14 HO_15 HB; clear hg hw hp_) | ((with_reducible refine gate_builtin (b := .append) (xs := #[.tmp 80, .tmp 82]) rfl ?_); at_builtin; refine Kd.R_append (Kd.int .i64) (w0 := w) w.heap.size rfl (.tmp 80) (.tmp 82) 31 3 (.int .i64 0) 8 rfl Try.underlying31 info3 rfl (by decide) (by omega) u15 x15_3 x48_3 [.int .i64 x48_3] (fun k_ => some k_ ≠ (.slice (some ⟨go35, 0, none⟩) x14_3.length co26 : Value).ownBlock) (fun _ => False) rfl rfl ?aP (fun _ hk => hk.elim) ?aF ?aO ?aB ?aS ?aL ?_; (case aP => exact rfl); (case aB => exact (Bz HB.out)); (case aF => exact (fun k_ hk => Kd.fresh' (Kd.R_lt (Rz HO_14.out)) k_ hk)); (case aO => exact (Rz (Kd.R_mono HO_15.out (fun _ hk => hk.2)))); (case aS => exact (below_size (Bz HB.out))); (case aL => have := LMc36.out; omega); intro v546 w39 ho hb hg hat; rw [← Ny545.out] at ho; have n0_ := am (Kd.R_after (ok := (fun _ => True)) (Rz (Kd.R_mono HO_14.out (fun _ hk => ⟨trivial, hk⟩))) hg hat); have n1_ := am (hb); have n2_ := am (ho); clear HO_14 HB HO_15; revert n0_ n1_ n2_; intro HO_14 HB HO547; clear ho hb hg hat)))
                 (try simp only [← hl14_3])
                 go_roundg k3
                 case measure => have := HJ6.out; have := HK2.out; have := HK3.out; omega
                 case rel => exact ⟨(y544), (y545), (true), (wrap64 (x48_3 + 1)), wZ, wZ, H', ⟨by have := HJ6.out; have := HK2.out; have := HK3.out; omega⟩, ⟨by (try simp only [hl14_3]); (with_reducible repeat (first | apply Kd.R_alloc | apply Kd.R_drewN | apply Kd.R_drew)); exact Kd.R_mono HO_14.out (fun _ hk => hk.2)⟩, ⟨by (try simp only [hl14_3]); (with_reducible repeat (first | apply Kd.R_alloc | apply Kd.R_drewN | apply Kd.R_drew)); exact HO547.out⟩, ⟨Bz HB.out⟩⟩
                ·rw [if_neg c36] at H
                 exact absurd H (by simp)
             ·rw [if_neg c31] at H
              exact absurd H (by simp)
            ·rw [if_neg c30] at H
             exact absurd H (by simp)
           ·rw [if_neg c29] at H
            exact absurd H (by simp)
         ·rw [if_neg c27] at H
          have c27b0 : decide (x48_3 < (x14_2.length : Int)) = false := decide_eq_false c27; (try simp only [hl14_3] at c27b0); clear c27
          by_cases c40 : x16_3 = true
          ·subst c40
           rw [if_pos rfl] at H; have H' := am H; clear H
           go_wp2
           repeat (go_quiet (fail); try go_wp2)
           (try simp only [← hl14_3])
           go_roundg k3
           case measure => have := HJ6.out; have := HK2.out; have := HK3.out; omega
           case rel => exact ⟨(x14_3), (x15_3), H', ⟨by have := HJ6.out; have := HK2.out; have := HK3.out; omega⟩, ⟨by (try simp only [hl14_3]); (with_reducible repeat (first | apply Kd.R_alloc | apply Kd.R_drewN | apply Kd.R_drew)); exact HO_14.out⟩, ⟨by (try simp only [hl14_3]); (with_reducible repeat (first | apply Kd.R_alloc | apply Kd.R_drewN | apply Kd.R_drew)); exact HO_15.out⟩, ⟨Bz HB.out⟩⟩
          ·replace c40 := Bool.eq_false_iff.mpr c40
           subst c40
           rw [if_neg (show ¬ (false = true) by decide)] at H
           simp only [Option.some.injEq, Prod.mk.injEq] at H
           obtain ⟨rfl, rfl⟩ := H
           go_wp2
           repeat (go_quiet (fail); try go_wp2)
           go_ret2
           exact ⟨_, eZ, nZ, Bz HB.out⟩

def spec_cuPlaced.l0 : Nat → List (List Int) → List Int → List Int → Int → Int → Option (Bool)
 | 0, _, _, _, _, _ => none
 | k + 1, x0, x1, x12, x13, x14 => if x14 < x13 then (if 0 ≤ x14 then (if x14 < (x12.length : Int) then (if x14 < (x0.length : Int) then ((spec_l1Has.f k (rd_L3 x0 x14) (rd x12 x14)).bind fun t550 => (if t550 = true then (if x14 ≤ (x1.length : Int) then ((spec_l1Has.f k (x1.take (x14 : Int).toNat) (rd x12 x14)).bind fun t552 => (if t552 = true then (some false) else (spec_cuPlaced.l0 k x0 x1 x12 x13 (wrap64 (x14 + 1))))) else (none)) else (some false))) else (none)) else (none)) else (none)) else (some true)
def spec_cuPlaced.f (k : Nat) (l0 : List (List Int)) (l1 : List Int) : Option (Bool) := if (l1.length : Int) = (l0.length : Int) then (spec_cuPlaced.l0 k l0 l1 l1 (l1.length : Int) 0) else (some false)
theorem spec_cuPlaced.calls (k : Nat) (A0 : Option Addr) (c0 : Nat) (l0 : List (List Int)) (A1 : Option Addr) (c1 : Nat) (l1 : List Int) (r : Bool) (w : World) (hr0 : Kd.C (Kd.slice 3 (Kd.int .i64)) w A0 l0.length l0) (hc0 : l0.length ≤ c0) (hr1 : Kd.C (Kd.int .i64) w A1 l1.length l1) (hc1 : l1.length ≤ c1) (h : spec_cuPlaced.f k l0 l1 = some r) :
  Calls Try.prog 89 #[.slice A0 l0.length c0, .slice A1 l1.length c1] w fun e w' => e = .returned (.bool r) ∧ Drawn0 w w' := by
 have HR0 := am hr0; have HC0 := am hc0; clear hr0 hc0; have HR1 := am hr1; have HC1 := am hc1; clear hr1 hc1; have H : (if (l1.length : Int) = (l0.length : Int) then (spec_cuPlaced.l0 k l0 l1 l1 (l1.length : Int) 0) else (some false)) = some r := h; clear h
 by_cases c3 : (l1.length : Int) = (l0.length : Int)
 ·rw [if_pos c3] at H
  have c3b0 : ((l1.length : Int) == (l0.length : Int)) = true := beq_iff_eq.mpr c3; have c3b1 : ((l1.length : Int) != (l0.length : Int)) = false := bne_eq_false_iff_eq.mpr c3
  have c3b2 : (l1.length == l0.length) = true := by first | simpa using c3 | (simp at c3 ⊢; omega)
  clear c3; have H' := am H; clear H
  go_enter Try.func89, Try.ntmps89
  go_wp2
  go_loopg [14] k (fun kq v14 w' => ∃ (x14_1 : Int), v14 = .int .i64 x14_1 ∧ Aside0 (spec_cuPlaced.l0 kq l0 l1 l1 (l1.length : Int) x14_1 = some r) ∧ Aside0 (kq ≤ k) ∧ Drawn0 w w')
  case atStart => exact ⟨(0), wZ, H', ⟨Nat.le_refl _⟩, by repeat (first | exact Drawn0.refl _ | apply Drawn0.step)⟩
  case round =>
   clear H'
   try clear c1
   try clear p2
   try clear c3
   try clear c3b0
   try clear c3b1
   try clear c3b2
   obtain ⟨x14_1, rfl, HA, HK1, ⟨m1, rfl⟩⟩ := hrel; cases gk with
   | zero => exact absurd HA.out (by simp [spec_cuPlaced.l0])
   | succ k1 =>
    have H := HA.out; clear HA
    simp only [spec_cuPlaced.l0] at H
    by_cases c4 : x14_1 < (l1.length : Int)
    ·rw [if_pos c4] at H
     have c4b0 : decide (x14_1 < (l1.length : Int)) = true := decide_eq_true c4; clear c4
     by_cases c5 : 0 ≤ x14_1
     ·rw [if_pos c5] at H
      have c5b0 : decide (0 ≤ x14_1) = true := decide_eq_true c5; clear c5
      by_cases c6 : x14_1 < (l1.length : Int)
      ·rw [if_pos c6] at H
       have c6b0 : decide (x14_1 < (l1.length : Int)) = true := decide_eq_true c6; clear c6
       by_cases c7 : x14_1 < (l0.length : Int)
       ·rw [if_pos c7] at H
        have c7b0 : decide (x14_1 < (l0.length : Int)) = true := decide_eq_true c7; clear c7; replace H := Option.bind_eq_some_iff.mp H; obtain ⟨t550, A80, H⟩ := H; (try dsimp -simprocs only at H); have A8 := am A80; clear A80
        by_cases c9 : t550 = true
        ·subst c9
         rw [if_pos rfl] at H; have c10b0 := eq_true (dT : 0 ≤ x14_1)
         by_cases c11 : x14_1 ≤ (l1.length : Int)
         ·rw [if_pos c11] at H
          have c11b0 := eq_true c11; have c11b1 : decide (x14_1 ≤ (l1.length : Int)) = true := decide_eq_true c11; clear c11; replace H := Option.bind_eq_some_iff.mp H; obtain ⟨t552, A120, H⟩ := H; (try dsimp -simprocs only at H); have A12 := am A120; clear A120
          by_cases c13 : t552 = true
          ·subst c13
           rw [if_pos rfl] at H; obtain rfl := Option.some.inj H; obtain ⟨ad548, e548, hx548_0⟩ := Kd.at_int HR1.out x14_1 dT dT; cases e548; have p548 := eT (0 ≤ (x14_1 : Int)); have q548 := eT (x14_1 < (l1.length : Int)); have p549 : 0 ≤ (x14_1 : Int) := dT; have q549 : x14_1 < (l0.length : Int) := dT; obtain ⟨ad549, A549_0, c549_0, e549, hx549_0, hl549_0, hi549_0⟩ := at_L3 HR0.out x14_1 p549 q549; cases e549; have HR549_0 := am hi549_0; have HC549_0 := am hl549_0; clear hi549_0 hl549_0; replace p549 := eq_true p549; replace q549 := eq_true q549
           go_wp2_with (first | ((with_reducible refine gate_callee (f := 82) rfl ?_); refine gL (some 24) Try.func82 #[.slice A549_0 (rd_L3 l0 x14_1).length c549_0, .int .i64 (rd l1 x14_1)] ?_; (with_reducible refine (spec_l1Has.calls k1 _ _ (rd_L3 l0 x14_1) (rd l1 x14_1) true _ ?side1 ?side2 A8.out).mono ?_); (case side1 => exact Cz HR549_0.out); (case side2 => exact HC549_0.out); rintro e w' ⟨rfl, ⟨nd, rfl⟩⟩; refine ⟨_, rfl, ?_⟩; obtain ⟨i014, hi014, _, hsz14, _⟩ := info_parts info3; obtain ⟨hcut14, hA14, hC14⟩ := print_take_of (P := Try.prog) (Value.int .i64) 0 31 3 .i64 Try.underlying31 hi014 hsz14 (some ad548) c1 l1 x14_1 (dT) (dT) HC1.out; have HR551 := am (Kd.C_of_reads (h1 := fun _ => rfl) (hA14 _ (Kd.reads_of_C HR1.out))); have HC551 := am hC14; clear hA14 hC14 hi014 hsz14) | (go_at_call 82; refine calls_of_args (args' := #[.slice (some ad548) (l1.take (x14_1 : Int).toNat).length c1, .int .i64 (rd l1 x14_1)]) (by rw [List.length_take, Nat.min_eq_left (by have h_ : x14_1 ≤ (l1.length : Int) := dT; omega)]) ?_; (with_reducible refine (spec_l1Has.calls k1 _ _ (l1.take (x14_1 : Int).toNat) (rd l1 x14_1) true _ ?side1 ?side2 A12.out).mono ?_); (case side1 => exact Cz HR551.out); (case side2 => exact HC551.out); rintro e w' ⟨rfl, ⟨nd, rfl⟩⟩))
           go_ret
           exact ⟨by first | rfl | (simp; done) | (simp [*]; done), by repeat (first | exact Drawn0.refl _ | apply Drawn0.step)⟩
          ·replace c13 := Bool.eq_false_iff.mpr c13
           subst c13
           rw [if_neg (show ¬ (false = true) by decide)] at H; have H' := am H; clear H; obtain ⟨ad548, e548, hx548_0⟩ := Kd.at_int HR1.out x14_1 dT dT; cases e548; have p548 := eT (0 ≤ (x14_1 : Int)); have q548 := eT (x14_1 < (l1.length : Int)); have p549 : 0 ≤ (x14_1 : Int) := dT; have q549 : x14_1 < (l0.length : Int) := dT; obtain ⟨ad549, A549_0, c549_0, e549, hx549_0, hl549_0, hi549_0⟩ := at_L3 HR0.out x14_1 p549 q549; cases e549; have HR549_0 := am hi549_0; have HC549_0 := am hl549_0; clear hi549_0 hl549_0; replace p549 := eq_true p549; replace q549 := eq_true q549
           go_wp2_with (first | ((with_reducible refine gate_callee (f := 82) rfl ?_); refine gL (some 24) Try.func82 #[.slice A549_0 (rd_L3 l0 x14_1).length c549_0, .int .i64 (rd l1 x14_1)] ?_; (with_reducible refine (spec_l1Has.calls k1 _ _ (rd_L3 l0 x14_1) (rd l1 x14_1) true _ ?side1 ?side2 A8.out).mono ?_); (case side1 => exact Cz HR549_0.out); (case side2 => exact HC549_0.out); rintro e w' ⟨rfl, ⟨nd, rfl⟩⟩; refine ⟨_, rfl, ?_⟩; obtain ⟨i015, hi015, _, hsz15, _⟩ := info_parts info3; obtain ⟨hcut15, hA15, hC15⟩ := print_take_of (P := Try.prog) (Value.int .i64) 0 31 3 .i64 Try.underlying31 hi015 hsz15 (some ad548) c1 l1 x14_1 (dT) (dT) HC1.out; have HR551 := am (Kd.C_of_reads (h1 := fun _ => rfl) (hA15 _ (Kd.reads_of_C HR1.out))); have HC551 := am hC15; clear hA15 hC15 hi015 hsz15) | (go_at_call 82; refine calls_of_args (args' := #[.slice (some ad548) (l1.take (x14_1 : Int).toNat).length c1, .int .i64 (rd l1 x14_1)]) (by rw [List.length_take, Nat.min_eq_left (by have h_ : x14_1 ≤ (l1.length : Int) := dT; omega)]) ?_; (with_reducible refine (spec_l1Has.calls k1 _ _ (l1.take (x14_1 : Int).toNat) (rd l1 x14_1) false _ ?side1 ?side2 A12.out).mono ?_); (case side1 => exact Cz HR551.out); (case side2 => exact HC551.out); rintro e w' ⟨rfl, ⟨nd, rfl⟩⟩))
           go_roundg k1
           case measure => have := HK1.out; omega
           case rel => exact ⟨(wrap64 (x14_1 + 1)), wZ, H', ⟨by have := HK1.out; omega⟩, by repeat (first | exact Drawn0.refl _ | apply Drawn0.step)⟩
         ·rw [if_neg c11] at H
          exact absurd H (by simp)
        ·replace c9 := Bool.eq_false_iff.mpr c9
         subst c9
         rw [if_neg (show ¬ (false = true) by decide)] at H; obtain rfl := Option.some.inj H; obtain ⟨ad548, e548, hx548_0⟩ := Kd.at_int HR1.out x14_1 dT dT; cases e548; have p548 := eT (0 ≤ (x14_1 : Int)); have q548 := eT (x14_1 < (l1.length : Int)); have p549 : 0 ≤ (x14_1 : Int) := dT; have q549 : x14_1 < (l0.length : Int) := dT; obtain ⟨ad549, A549_0, c549_0, e549, hx549_0, hl549_0, hi549_0⟩ := at_L3 HR0.out x14_1 p549 q549; cases e549; have HR549_0 := am hi549_0; have HC549_0 := am hl549_0; clear hi549_0 hl549_0; replace p549 := eq_true p549; replace q549 := eq_true q549
         go_wp2_with (first | ((with_reducible refine gate_callee (f := 82) rfl ?_); refine gL (some 24) Try.func82 #[.slice A549_0 (rd_L3 l0 x14_1).length c549_0, .int .i64 (rd l1 x14_1)] ?_; (with_reducible refine (spec_l1Has.calls k1 _ _ (rd_L3 l0 x14_1) (rd l1 x14_1) false _ ?side1 ?side2 A8.out).mono ?_); (case side1 => exact Cz HR549_0.out); (case side2 => exact HC549_0.out); rintro e w' ⟨rfl, ⟨nd, rfl⟩⟩; refine ⟨_, rfl, ?_⟩))
         go_ret
         exact ⟨by first | rfl | (simp; done) | (simp [*]; done), by repeat (first | exact Drawn0.refl _ | apply Drawn0.step)⟩
       ·rw [if_neg c7] at H
        exact absurd H (by simp)
      ·rw [if_neg c6] at H
       exact absurd H (by simp)
     ·rw [if_neg c5] at H
      exact absurd H (by simp)
    ·rw [if_neg c4] at H
     have c4b0 : decide (x14_1 < (l1.length : Int)) = false := decide_eq_false c4; clear c4; obtain rfl := Option.some.inj H
     go_wp2
     go_ret
     exact ⟨by first | rfl | (simp; done) | (simp [*]; done), by repeat (first | exact Drawn0.refl _ | apply Drawn0.step)⟩
 ·rw [if_neg c3] at H
  have c3b0 : ((l1.length : Int) == (l0.length : Int)) = false := beq_eq_false_iff_ne.mpr c3; have c3b1 : ((l1.length : Int) != (l0.length : Int)) = true := bne_iff_ne.mpr c3
  have c3b2 : (l1.length == l0.length) = false := by first | simpa using c3 | (simp at c3 ⊢; omega)
  obtain rfl := Option.some.inj H
  go_enter Try.func89, Try.ntmps89
  go_wp2
  go_ret
  exact ⟨by first | rfl | (simp; done) | (simp [*]; done), by repeat (first | exact Drawn0.refl _ | apply Drawn0.step)⟩

def spec_l1Same.l0 : Nat → List Int → List Int → Int → Int → Option (Bool)
 | 0, _, _, _, _ => none
 | k + 1, x0, x1, x12, x13 => if x13 < x12 then (if 0 ≤ x13 then (if x13 < (x0.length : Int) then (if x13 < (x1.length : Int) then (if (rd x0 x13) = (rd x1 x13) then (spec_l1Same.l0 k x0 x1 x12 (wrap64 (x13 + 1))) else (some false)) else (none)) else (none)) else (none)) else (some true)
def spec_l1Same.f (k : Nat) (l0 : List Int) (l1 : List Int) : Option (Bool) := if (l0.length : Int) = (l1.length : Int) then (spec_l1Same.l0 k l0 l1 (l0.length : Int) 0) else (some false)
theorem spec_l1Same.calls (k : Nat) (A0 : Option Addr) (c0 : Nat) (l0 : List Int) (A1 : Option Addr) (c1 : Nat) (l1 : List Int) (r : Bool) (w : World) (hr0 : Kd.C (Kd.int .i64) w A0 l0.length l0) (hc0 : l0.length ≤ c0) (hr1 : Kd.C (Kd.int .i64) w A1 l1.length l1) (hc1 : l1.length ≤ c1) (h : spec_l1Same.f k l0 l1 = some r) :
  Calls Try.prog 90 #[.slice A0 l0.length c0, .slice A1 l1.length c1] w fun e w' => e = .returned (.bool r) ∧ Drawn0 w w' := by
 have HR0 := am hr0; have HC0 := am hc0; clear hr0 hc0; have HR1 := am hr1; have HC1 := am hc1; clear hr1 hc1; have H : (if (l0.length : Int) = (l1.length : Int) then (spec_l1Same.l0 k l0 l1 (l0.length : Int) 0) else (some false)) = some r := h; clear h
 by_cases c3 : (l0.length : Int) = (l1.length : Int)
 ·rw [if_pos c3] at H
  have c3b0 : ((l0.length : Int) == (l1.length : Int)) = true := beq_iff_eq.mpr c3; have c3b1 : ((l0.length : Int) != (l1.length : Int)) = false := bne_eq_false_iff_eq.mpr c3
  have c3b2 : (l0.length == l1.length) = true := by first | simpa using c3 | (simp at c3 ⊢; omega)
  clear c3; have H' := am H; clear H
  go_enter Try.func90, Try.ntmps90
  go_wp2
  repeat (go_quiet (fail); try go_wp2)
  go_loopg [13] k (fun kq v13 w' => ∃ (x13_1 : Int), v13 = .int .i64 x13_1 ∧ Aside0 (spec_l1Same.l0 kq l0 l1 (l0.length : Int) x13_1 = some r) ∧ Aside0 (kq ≤ k) ∧ Drawn0 w w')
  case atStart => exact ⟨(0), wZ, H', ⟨Nat.le_refl _⟩, by repeat (first | exact Drawn0.refl _ | apply Drawn0.step)⟩
  case round =>
   clear H'
   try clear c1
   try clear p2
   try clear c3
   try clear c3b0
   try clear c3b1
   try clear c3b2
   obtain ⟨x13_1, rfl, HA, HK1, ⟨m1, rfl⟩⟩ := hrel; cases gk with
   | zero => exact absurd HA.out (by simp [spec_l1Same.l0])
   | succ k1 =>
    have H := HA.out; clear HA
    simp only [spec_l1Same.l0] at H
    by_cases c4 : x13_1 < (l0.length : Int)
    ·rw [if_pos c4] at H
     have c4b0 : decide (x13_1 < (l0.length : Int)) = true := decide_eq_true c4; clear c4
     by_cases c5 : 0 ≤ x13_1
     ·rw [if_pos c5] at H
      have c5b0 : decide (0 ≤ x13_1) = true := decide_eq_true c5; clear c5
      by_cases c6 : x13_1 < (l0.length : Int)
      ·rw [if_pos c6] at H
       have c6b0 : decide (x13_1 < (l0.length : Int)) = true := decide_eq_true c6; clear c6
       by_cases c7 : x13_1 < (l1.length : Int)
       ·rw [if_pos c7] at H
        have c7b0 : decide (x13_1 < (l1.length : Int)) = true := decide_eq_true c7; clear c7
        by_cases c8 : (rd l0 x13_1) = (rd l1 x13_1)
        ·rw [if_pos c8] at H
         have c8b0 : ((rd l0 x13_1) == (rd l1 x13_1)) = true := beq_iff_eq.mpr c8; have c8b1 : ((rd l0 x13_1) != (rd l1 x13_1)) = false := bne_eq_false_iff_eq.mpr c8; clear c8; have H' := am H; clear H; obtain ⟨ad553, e553, hx553_0⟩ := Kd.at_int HR0.out x13_1 dT dT; cases e553; have p553 := eT (0 ≤ (x13_1 : Int)); have q553 := eT (x13_1 < (l0.length : Int)); obtain ⟨ad554, e554, hx554_0⟩ := Kd.at_int HR1.out x13_1 dT dT; cases e554; have p554 := eT (0 ≤ (x13_1 : Int)); have q554 := eT (x13_1 < (l1.length : Int))
         go_wp2
         repeat (go_quiet (fail); try go_wp2)
         go_roundg k1
         case measure => have := HK1.out; omega
         case rel => exact ⟨(wrap64 (x13_1 + 1)), wZ, H', ⟨by have := HK1.out; omega⟩, by repeat (first | exact Drawn0.refl _ | apply Drawn0.step)⟩
        ·rw [if_neg c8] at H
         have c8b0 : ((rd l0 x13_1) == (rd l1 x13_1)) = false := beq_eq_false_iff_ne.mpr c8; have c8b1 : ((rd l0 x13_1) != (rd l1 x13_1)) = true := bne_iff_ne.mpr c8; obtain rfl := Option.some.inj H; obtain ⟨ad553, e553, hx553_0⟩ := Kd.at_int HR0.out x13_1 dT dT; cases e553; have p553 := eT (0 ≤ (x13_1 : Int)); have q553 := eT (x13_1 < (l0.length : Int)); obtain ⟨ad554, e554, hx554_0⟩ := Kd.at_int HR1.out x13_1 dT dT; cases e554; have p554 := eT (0 ≤ (x13_1 : Int)); have q554 := eT (x13_1 < (l1.length : Int))
         go_wp2
         repeat (go_quiet (fail); try go_wp2)
         go_ret
         exact ⟨by first | rfl | (simp; done) | (simp [*]; done), by repeat (first | exact Drawn0.refl _ | apply Drawn0.step)⟩
       ·rw [if_neg c7] at H
        exact absurd H (by simp)
      ·rw [if_neg c6] at H
       exact absurd H (by simp)
     ·rw [if_neg c5] at H
      exact absurd H (by simp)
    ·rw [if_neg c4] at H
     have c4b0 : decide (x13_1 < (l0.length : Int)) = false := decide_eq_false c4; clear c4; obtain rfl := Option.some.inj H
     go_wp2
     repeat (go_quiet (fail); try go_wp2)
     go_ret
     exact ⟨by first | rfl | (simp; done) | (simp [*]; done), by repeat (first | exact Drawn0.refl _ | apply Drawn0.step)⟩
 ·rw [if_neg c3] at H
  have c3b0 : ((l0.length : Int) == (l1.length : Int)) = false := beq_eq_false_iff_ne.mpr c3; have c3b1 : ((l0.length : Int) != (l1.length : Int)) = true := bne_iff_ne.mpr c3
  have c3b2 : (l0.length == l1.length) = false := by first | simpa using c3 | (simp at c3 ⊢; omega)
  obtain rfl := Option.some.inj H
  go_enter Try.func90, Try.ntmps90
  go_wp2
  repeat (go_quiet (fail); try go_wp2)
  go_ret
  exact ⟨by first | rfl | (simp; done) | (simp [*]; done), by repeat (first | exact Drawn0.refl _ | apply Drawn0.step)⟩

end Go.Proofs.Ytephjmmkggcmeaa.PM
-- printed by a program of this session (wip/gp) out of the translation; Lean checks it
namespace Go.Proofs.Ytephjmmkggcmeaa.PM
open Go.RowKit Go.Proofs.YtephjmmkggcmeaaW.PrintWords Go.Proofs.YtephjmmkggcmeaaW.PrintLast Go.Proofs.YtephjmmkggcmeaaW.PrintMore Go.Proofs.YtephjmmkggcmeaaSq
attribute [local go_sem] max2_int min2_int max_two min_two max_three min_three max_four min_four   -- for this text's walks alone
attribute [local go_sem] Go.Proofs.YtephjmmkggcmeaaGp.str_geq Go.Proofs.YtephjmmkggcmeaaGp.str_gtr Go.Proofs.YtephjmmkggcmeaaGp.str_leq
set_option linter.unusedVariables false
set_option linter.unusedSimpArgs false

set_option maxHeartbeats 8000000
set_option maxRecDepth 100000
mutual
def spec_MovesBetween.j0 : Nat → List Int → List Int → Bool → Option (List Int × Bool)
 | 0, _, _, _ => none
 | k + 1, x3, x4, x35 => if x35 = true then (some (([] : List Int), false)) else ((spec_l1Own.f x3).bind fun t561 => (spec_MovesBetween.l0 k x4 t561 ([] : List Int)))
def spec_MovesBetween.l0 : Nat → List Int → List Int → List Int → Option (List Int × Bool)
 | 0, _, _, _ => none
 | k + 1, x4, x13, x14 => (spec_l1Same.f k x13 x4).bind fun t564 => (if t564 = true then (some (x14, true)) else (spec_MovesBetween.l1 k x4 x13 x14 (-1) (x13.length : Int) 0))
def spec_MovesBetween.l1 : Nat → List Int → List Int → List Int → Int → Int → Int → Option (List Int × Bool)
 | 0, _, _, _, _, _, _ => none
 | k + 1, x4, x13, x14, x15, x43, x44 => if x44 < x43 then (if x15 < 0 then (if 0 ≤ x44 then (if x44 < (x13.length : Int) then (if x44 < (x4.length : Int) then (if (rd x13 x44) = (rd x4 x44) then (spec_MovesBetween.l1 k x4 x13 x14 x15 x43 (wrap64 (x44 + 1))) else ((spec_l1Has.f k x13 (rd x4 x44)).bind fun t568 => (if t568 = true then (spec_MovesBetween.l1 k x4 x13 x14 x15 x43 (wrap64 (x44 + 1))) else (spec_MovesBetween.l1 k x4 x13 x14 x44 x43 (wrap64 (x44 + 1)))))) else (none)) else (none)) else (none)) else (spec_MovesBetween.l1 k x4 x13 x14 x15 x43 (wrap64 (x44 + 1)))) else (if x15 < 0 then (some (([] : List Int), false)) else (if 0 ≤ x15 then (if x15 < (x4.length : Int) then (if x15 < (x13.length : Int) then (if x14.length < 17592186044416 then (spec_MovesBetween.l0 k x4 (x13.set (x15 : Int).toNat (rd x4 x15)) (x14 ++ [x15])) else (none)) else (none)) else (none)) else (none)))
end
def spec_MovesBetween.f (k : Nat) (a0 : Int) (l1 : List ByteArray) (a2 : Int) (l3 : List Int) (l4 : List Int) : Option (List Int × Bool) := (spec_cuKeyed.f k a0 l1 a2).bind fun t555 => (if t555 = true then ((spec_cuPairs.f k a0 l1 a2).bind fun t556 => ((spec_cuPlaced.f k t556 l3).bind fun t559 => (if t559 = true then ((spec_cuPlaced.f k t556 l4).bind fun t560 => (spec_MovesBetween.j0 k l3 l4 (!t560))) else (spec_MovesBetween.j0 k l3 l4 true)))) else (some (([] : List Int), false)))
theorem spec_MovesBetween.calls (k : Nat) (a0 : Int) (A1 : Option Addr) (c1 : Nat) (l1 : List ByteArray) (a2 : Int) (A3 : Option Addr) (c3 : Nat) (l3 : List Int) (A4 : Option Addr) (c4 : Nat) (l4 : List Int) (r1 : List Int) (r2 : Bool) (w : World) (hr1 : Kd.C Kd.string w A1 l1.length l1) (hc1 : l1.length ≤ c1) (hr3 : Kd.C (Kd.int .i64) w A3 l3.length l3) (hc3 : l3.length ≤ c3) (hr4 : Kd.C (Kd.int .i64) w A4 l4.length l4) (hc4 : l4.length ≤ c4) (h : spec_MovesBetween.f k a0 l1 a2 l3 l4 = some (r1, r2)) :
  Calls Try.prog 29 #[.int .i64 a0, .slice A1 l1.length c1, .int .i64 a2, .slice A3 l3.length c3, .slice A4 l4.length c4] w fun e w' => ∃ v0_ : Value, e = .returned (.tuple #[v0_, .bool r2]) ∧ Kd.R (Kd.int .i64) 3 w' w.heap.size (fun _ => True) v0_ r1 ∧ Below w.heap.size w w' := by
 have HR1 := am hr1; have HC1 := am hc1; clear hr1 hc1; have HR3 := am hr3; have HC3 := am hc3; clear hr3 hc3; have HR4 := am hr4; have HC4 := am hc4; clear hr4 hc4; have HB := am (Below.refl w.heap.size w); have H : ((spec_cuKeyed.f k a0 l1 a2).bind fun t555 => (if t555 = true then ((spec_cuPairs.f k a0 l1 a2).bind fun t556 => ((spec_cuPlaced.f k t556 l3).bind fun t559 => (if t559 = true then ((spec_cuPlaced.f k t556 l4).bind fun t560 => (spec_MovesBetween.j0 k l3 l4 (!t560))) else (spec_MovesBetween.j0 k l3 l4 true)))) else (some (([] : List Int), false)))) = some (r1, r2) := h; clear h; replace H := Option.bind_eq_some_iff.mp H; obtain ⟨t555, A60, H⟩ := H; (try dsimp -simprocs only at H); have A6 := am A60; clear A60
 by_cases c7 : t555 = true
 ·subst c7
  rw [if_pos rfl] at H; replace H := Option.bind_eq_some_iff.mp H; obtain ⟨t556, A80, H⟩ := H; (try dsimp -simprocs only at H); have A8 := am A80; clear A80; have HC9 := am H; clear H
  go_enter Try.func29, Try.ntmps29
  go_upto_region 4 with (first | (go_at_call 62; (with_reducible refine (spec_cuKeyed.calls k a0 _ _ l1 a2 true _ ?side1 ?side2 A6.out).mono ?_); (case side1 => exact Cz HR1.out); (case side2 => exact HC1.out); rintro e w' ⟨rfl, ⟨nd, rfl⟩⟩; (try exact yZ)) | (go_at_call 64; (with_reducible refine (spec_cuPairs.calls k a0 _ _ l1 a2 t556 _ ?side1 ?side2 A8.out).mono ?_); (case side1 => exact Cz HR1.out); (case side2 => exact HC1.out); rintro e w10 ⟨v557, rfl, ho0, hb⟩; have n0_ := am (Kd.S_lower ho0 (below_size (Bz HB.out))); have n1_ := Bb HB hb; clear HB; revert n0_ n1_; intro HO558 HB; (try clear hb); (try clear hb2); (try clear hk); (try clear hi); (try clear ho0)))
  repeat (go_quiet (first | (go_at_call 62; (with_reducible refine (spec_cuKeyed.calls k a0 _ _ l1 a2 true _ ?side1 ?side2 A6.out).mono ?_); (case side1 => exact Cz HR1.out); (case side2 => exact HC1.out); rintro e w' ⟨rfl, ⟨nd, rfl⟩⟩; (try exact yZ)) | (go_at_call 64; (with_reducible refine (spec_cuPairs.calls k a0 _ _ l1 a2 t556 _ ?side1 ?side2 A8.out).mono ?_); (case side1 => exact Cz HR1.out); (case side2 => exact HC1.out); rintro e w10 ⟨v557, rfl, ho0, hb⟩; have n0_ := am (Kd.S_lower ho0 (below_size (Bz HB.out))); have n1_ := Bb HB hb; clear HB; revert n0_ n1_; intro HO558 HB; (try clear hb); (try clear hb2); (try clear hk); (try clear hi); (try clear ho0))); go_upto_region 4 with (first | (go_at_call 62; (with_reducible refine (spec_cuKeyed.calls k a0 _ _ l1 a2 true _ ?side1 ?side2 A6.out).mono ?_); (case side1 => exact Cz HR1.out); (case side2 => exact HC1.out); rintro e w' ⟨rfl, ⟨nd, rfl⟩⟩; (try exact yZ)) | (go_at_call 64; (with_reducible refine (spec_cuPairs.calls k a0 _ _ l1 a2 t556 _ ?side1 ?side2 A8.out).mono ?_); (case side1 => exact Cz HR1.out); (case side2 => exact HC1.out); rintro e w10 ⟨v557, rfl, ho0, hb⟩; have n0_ := am (Kd.S_lower ho0 (below_size (Bz HB.out))); have n1_ := Bb HB hb; clear HB; revert n0_ n1_; intro HO558 HB; (try clear hb); (try clear hb2); (try clear hk); (try clear hi); (try clear ho0))))
  (try simp only [aP])
  go_cut [35] (fun v35 wc => ∃ (kq : Nat) (x35_8 : Bool), v35 = .bool x35_8 ∧ Aside0 (spec_MovesBetween.j0 kq l3 l4 x35_8 = some (r1, r2)) ∧ Aside0 (kq ≤ k) ∧ Aside0 (Below w.heap.size w wc))
  case first =>
   have H := HC9.out; clear HC9; replace H := Option.bind_eq_some_iff.mp H; obtain ⟨t559, A110, H⟩ := H; (try dsimp -simprocs only at H); have A11 := am A110; clear A110
   by_cases c12 : t559 = true
   ·subst c12
    rw [if_pos rfl] at H; replace H := Option.bind_eq_some_iff.mp H; obtain ⟨t560, A130, H⟩ := H; (try dsimp -simprocs only at H); have A13 := am A130; clear A130; have H' := am H; clear H; obtain ⟨Ao14, co14, eo14⟩ := Kd.S_slice HO558.out; subst eo14
    go_wp2_with (first | (go_at_call 89; (with_reducible refine (spec_cuPlaced.calls k _ _ t556 _ _ l3 true _ ?side1 ?side2 ?side3 ?side4 A11.out).mono ?_); (case side1 => exact Cz ((Kd.S_reads' HO558.out).2.2)); (case side2 => exact (Kd.S_reads' HO558.out).2.1); (case side3 => exact Cz (Kd.C_below HR3.out HB.out)); (case side4 => exact HC3.out); rintro e w' ⟨rfl, ⟨nd, rfl⟩⟩; (try exact yZ)) | (go_at_call 89; (with_reducible refine (spec_cuPlaced.calls k _ _ t556 _ _ l4 t560 _ ?side1 ?side2 ?side3 ?side4 A13.out).mono ?_); (case side1 => exact Cz ((Kd.S_reads' HO558.out).2.2)); (case side2 => exact (Kd.S_reads' HO558.out).2.1); (case side3 => exact Kd.C_below HR4.out (Bz HB.out)); (case side4 => exact HC4.out); rintro e w' ⟨rfl, ⟨nd, rfl⟩⟩; (try exact yZ)))
    repeat (go_quiet (first | (go_at_call 89; (with_reducible refine (spec_cuPlaced.calls k _ _ t556 _ _ l3 true _ ?side1 ?side2 ?side3 ?side4 A11.out).mono ?_); (case side1 => exact Cz ((Kd.S_reads' HO558.out).2.2)); (case side2 => exact (Kd.S_reads' HO558.out).2.1); (case side3 => exact Cz (Kd.C_below HR3.out HB.out)); (case side4 => exact HC3.out); rintro e w' ⟨rfl, ⟨nd, rfl⟩⟩; (try exact yZ)) | (go_at_call 89; (with_reducible refine (spec_cuPlaced.calls k _ _ t556 _ _ l4 t560 _ ?side1 ?side2 ?side3 ?side4 A13.out).mono ?_); (case side1 => exact Cz ((Kd.S_reads' HO558.out).2.2)); (case side2 => exact (Kd.S_reads' HO558.out).2.1); (case side3 => exact Kd.C_below HR4.out (Bz HB.out)); (case side4 => exact HC4.out); rintro e w' ⟨rfl, ⟨nd, rfl⟩⟩; (try exact yZ))); try go_wp2_with (first | (go_at_call 89; (with_reducible refine (spec_cuPlaced.calls k _ _ t556 _ _ l3 true _ ?side1 ?side2 ?side3 ?side4 A11.out).mono ?_); (case side1 => exact Cz ((Kd.S_reads' HO558.out).2.2)); (case side2 => exact (Kd.S_reads' HO558.out).2.1); (case side3 => exact Cz (Kd.C_below HR3.out HB.out)); (case side4 => exact HC3.out); rintro e w' ⟨rfl, ⟨nd, rfl⟩⟩; (try exact yZ)) | (go_at_call 89; (with_reducible refine (spec_cuPlaced.calls k _ _ t556 _ _ l4 t560 _ ?side1 ?side2 ?side3 ?side4 A13.out).mono ?_); (case side1 => exact Cz ((Kd.S_reads' HO558.out).2.2)); (case side2 => exact (Kd.S_reads' HO558.out).2.1); (case side3 => exact Kd.C_below HR4.out (Bz HB.out)); (case side4 => exact HC4.out); rintro e w' ⟨rfl, ⟨nd, rfl⟩⟩; (try exact yZ))))
    go_meet
    case rel => exact ⟨_, (!t560), wZ, H', ⟨by first | omega | exact Nat.le_refl _⟩, ⟨Bz HB.out⟩⟩
   ·replace c12 := Bool.eq_false_iff.mpr c12
    subst c12
    rw [if_neg (show ¬ (false = true) by decide)] at H; have H' := am H; clear H; obtain ⟨Ao15, co15, eo15⟩ := Kd.S_slice HO558.out; subst eo15
    go_wp2_with (first | (go_at_call 89; (with_reducible refine (spec_cuPlaced.calls k _ _ t556 _ _ l3 false _ ?side1 ?side2 ?side3 ?side4 A11.out).mono ?_); (case side1 => exact Cz ((Kd.S_reads' HO558.out).2.2)); (case side2 => exact (Kd.S_reads' HO558.out).2.1); (case side3 => exact Cz (Kd.C_below HR3.out HB.out)); (case side4 => exact HC3.out); rintro e w' ⟨rfl, ⟨nd, rfl⟩⟩; (try exact yZ)))
    repeat (go_quiet (first | (go_at_call 89; (with_reducible refine (spec_cuPlaced.calls k _ _ t556 _ _ l3 false _ ?side1 ?side2 ?side3 ?side4 A11.out).mono ?_); (case side1 => exact Cz ((Kd.S_reads' HO558.out).2.2)); (case side2 => exact (Kd.S_reads' HO558.out).2.1); (case side3 => exact Cz (Kd.C_below HR3.out HB.out)); (case side4 => exact HC3.out); rintro e w' ⟨rfl, ⟨nd, rfl⟩⟩; (try exact yZ))); try go_wp2_with (first | (go_at_call 89; (with_reducible refine (spec_cuPlaced.calls k _ _ t556 _ _ l3 false _ ?side1 ?side2 ?side3 ?side4 A11.out).mono ?_); (case side1 => exact Cz ((Kd.S_reads' HO558.out).2.2)); (case side2 => exact (Kd.S_reads' HO558.out).2.1); (case side3 => exact Cz (Kd.C_below HR3.out HB.out)); (case side4 => exact HC3.out); rintro e w' ⟨rfl, ⟨nd, rfl⟩⟩; (try exact yZ))))
    go_meet
    case rel => exact ⟨_, (true), wZ, H', ⟨by first | omega | exact Nat.le_refl _⟩, ⟨Bz HB.out⟩⟩
  case rest =>
   clear HC9
   try clear c1
   try clear c2
   try clear p2
   try clear c3
   try clear c4
   try clear c7
   try clear c12
   obtain ⟨kq, x35_8, rfl, HA, HJ8, HB⟩ := hcut; cases kq with
   | zero => exact absurd HA.out (by simp [spec_MovesBetween.j0])
   | succ kj8 =>
    have H := HA.out; clear HA
    simp only [spec_MovesBetween.j0] at H
    by_cases c16 : x35_8 = true
    ·subst c16
     rw [if_pos rfl] at H
     simp only [Option.some.injEq, Prod.mk.injEq] at H
     obtain ⟨rfl, rfl⟩ := H
     go_wp2
     repeat (go_quiet (fail); try go_wp2)
     go_ret2
     exact ⟨_, eZ, nZ, Bz HB.out⟩
    ·replace c16 := Bool.eq_false_iff.mpr c16
     subst c16
     rw [if_neg (show ¬ (false = true) by decide)] at H; replace H := Option.bind_eq_some_iff.mp H; obtain ⟨t561, A170, H⟩ := H; (try dsimp -simprocs only at H); have A17 := am A170; clear A170; have H' := am H; clear H
     go_wp2_with (first | (go_at_call 80; (with_reducible refine (spec_l1Own.calls _ _ l3 t561 _ ?side1 ?side2 A17.out).mono ?_); (case side1 => exact Cz (Kd.C_below HR3.out HB.out)); (case side2 => exact HC3.out); rintro e w18 ⟨v562, rfl, ho0, hb⟩; have n0_ := Rl ho0 HB; have n1_ := Bb HB hb; clear HB; revert n0_ n1_; intro HO563 HB; (try clear hb); (try clear hb2); (try clear hk); (try clear hi); (try clear ho0)))
     repeat (go_quiet (first | (go_at_call 80; (with_reducible refine (spec_l1Own.calls _ _ l3 t561 _ ?side1 ?side2 A17.out).mono ?_); (case side1 => exact Cz (Kd.C_below HR3.out HB.out)); (case side2 => exact HC3.out); rintro e w18 ⟨v562, rfl, ho0, hb⟩; have n0_ := Rl ho0 HB; have n1_ := Bb HB hb; clear HB; revert n0_ n1_; intro HO563 HB; (try clear hb); (try clear hb2); (try clear hk); (try clear hi); (try clear ho0))); try go_wp2_with (first | (go_at_call 80; (with_reducible refine (spec_l1Own.calls _ _ l3 t561 _ ?side1 ?side2 A17.out).mono ?_); (case side1 => exact Cz (Kd.C_below HR3.out HB.out)); (case side2 => exact HC3.out); rintro e w18 ⟨v562, rfl, ho0, hb⟩; have n0_ := Rl ho0 HB; have n1_ := Bb HB hb; clear HB; revert n0_ n1_; intro HO563 HB; (try clear hb); (try clear hb2); (try clear hk); (try clear hi); (try clear ho0))))
     (try simp only [aP])
     go_loopg [14] kj8 (fun kq v14 w' => ∃ (x13_2 : List Int) (x14_2 : List Int), Aside0 (spec_MovesBetween.l0 kq l4 x13_2 x14_2 = some (r1, r2)) ∧ Aside0 (kq ≤ kj8) ∧ Aside0 (Kd.R (Kd.int .i64) 3 w' w.heap.size (fun k_ => some k_ ≠ (v14 : Value).ownBlock) v562 x13_2) ∧ Aside0 (Kd.R (Kd.int .i64) 3 w' w.heap.size (fun k_ => some k_ ≠ (v562 : Value).ownBlock) v14 x14_2) ∧ Aside0 (Below w.heap.size w w'))
     case atStart => exact ⟨(t561), (([] : List Int)), H', ⟨Nat.le_refl _⟩, ⟨Rz (Kd.R_mono HO563.out (fun _ hk => (by simp [Value.ownBlock])))⟩, ⟨nZ⟩, ⟨Bz HB.out⟩⟩
     case round =>
      clear H'
      try clear c1
      try clear c2
      try clear p2
      try clear c3
      try clear c4
      try clear c7
      try clear c12
      try clear c16
      try clear p2
      obtain ⟨x13_2, x14_2, HA, HK2, HO_13, HO_14, HB⟩ := hrel; cases gk with
      | zero => exact absurd HA.out (by simp [spec_MovesBetween.l0])
      | succ k2 =>
       have H := HA.out; clear HA
       simp only [spec_MovesBetween.l0] at H
       replace H := Option.bind_eq_some_iff.mp H; obtain ⟨t564, A190, H⟩ := H; (try dsimp -simprocs only at H); have A19 := am A190; clear A190
       by_cases c20 : t564 = true
       ·subst c20
        rw [if_pos rfl] at H
        simp only [Option.some.injEq, Prod.mk.injEq] at H
        obtain ⟨rfl, rfl⟩ := H; obtain ⟨Ao21, co21, eo21⟩ := Kd.R_slice HO_13.out; subst eo21
        go_wp2_with (first | (go_at_call 90; (with_reducible refine (spec_l1Same.calls k2 _ _ x13_2 _ _ l4 true _ ?side1 ?side2 ?side3 ?side4 A19.out).mono ?_); (case side1 => exact Cz ((Kd.R_reads' HO_13.out).2.2)); (case side2 => exact (Kd.R_reads' HO_13.out).2.1); (case side3 => exact Cz (Kd.C_below HR4.out HB.out)); (case side4 => exact HC4.out); rintro e w' ⟨rfl, ⟨nd, rfl⟩⟩; (try exact yZ)))
        repeat (go_quiet (first | (go_at_call 90; (with_reducible refine (spec_l1Same.calls k2 _ _ x13_2 _ _ l4 true _ ?side1 ?side2 ?side3 ?side4 A19.out).mono ?_); (case side1 => exact Cz ((Kd.R_reads' HO_13.out).2.2)); (case side2 => exact (Kd.R_reads' HO_13.out).2.1); (case side3 => exact Cz (Kd.C_below HR4.out HB.out)); (case side4 => exact HC4.out); rintro e w' ⟨rfl, ⟨nd, rfl⟩⟩; (try exact yZ))); try go_wp2_with (first | (go_at_call 90; (with_reducible refine (spec_l1Same.calls k2 _ _ x13_2 _ _ l4 true _ ?side1 ?side2 ?side3 ?side4 A19.out).mono ?_); (case side1 => exact Cz ((Kd.R_reads' HO_13.out).2.2)); (case side2 => exact (Kd.R_reads' HO_13.out).2.1); (case side3 => exact Cz (Kd.C_below HR4.out HB.out)); (case side4 => exact HC4.out); rintro e w' ⟨rfl, ⟨nd, rfl⟩⟩; (try exact yZ))))
        go_ret2
        exact ⟨_, eZ, Rz (Kd.R_mono HO_14.out (fun _ hk => trivial)), Bz HB.out⟩
       ·replace c20 := Bool.eq_false_iff.mpr c20
        subst c20
        rw [if_neg (show ¬ (false = true) by decide)] at H; have H' := am H; clear H; obtain ⟨Ao22, co22, eo22⟩ := Kd.R_slice HO_13.out; subst eo22
        go_wp2_with (first | (go_at_call 90; (with_reducible refine (spec_l1Same.calls k2 _ _ x13_2 _ _ l4 false _ ?side1 ?side2 ?side3 ?side4 A19.out).mono ?_); (case side1 => exact Cz ((Kd.R_reads' HO_13.out).2.2)); (case side2 => exact (Kd.R_reads' HO_13.out).2.1); (case side3 => exact Cz (Kd.C_below HR4.out HB.out)); (case side4 => exact HC4.out); rintro e w' ⟨rfl, ⟨nd, rfl⟩⟩; (try exact yZ)))
        repeat (go_quiet (first | (go_at_call 90; (with_reducible refine (spec_l1Same.calls k2 _ _ x13_2 _ _ l4 false _ ?side1 ?side2 ?side3 ?side4 A19.out).mono ?_); (case side1 => exact Cz ((Kd.R_reads' HO_13.out).2.2)); (case side2 => exact (Kd.R_reads' HO_13.out).2.1); (case side3 => exact Cz (Kd.C_below HR4.out HB.out)); (case side4 => exact HC4.out); rintro e w' ⟨rfl, ⟨nd, rfl⟩⟩; (try exact yZ))); try go_wp2_with (first | (go_at_call 90; (with_reducible refine (spec_l1Same.calls k2 _ _ x13_2 _ _ l4 false _ ?side1 ?side2 ?side3 ?side4 A19.out).mono ?_); (case side1 => exact Cz ((Kd.R_reads' HO_13.out).2.2)); (case side2 => exact (Kd.R_reads' HO_13.out).2.1); (case side3 => exact Cz (Kd.C_below HR4.out HB.out)); (case side4 => exact HC4.out); rintro e w' ⟨rfl, ⟨nd, rfl⟩⟩; (try exact yZ))))
        (try simp only [aP])
        go_loopg [15, 44] k2 (fun kq v15 v44 w' => ∃ (x15_3 : Int) (x44_3 : Int), v15 = .int .i64 x15_3 ∧ v44 = .int .i64 x44_3 ∧ Aside0 (spec_MovesBetween.l1 kq l4 x13_2 x14_2 x15_3 (x13_2.length : Int) x44_3 = some (r1, r2)) ∧ Aside0 (kq ≤ k2) ∧ Aside0 (Kd.R (Kd.int .i64) 3 w' w.heap.size (fun k_ => some k_ ≠ (u14 : Value).ownBlock) (.slice Ao22 x13_2.length co22) x13_2) ∧ Aside0 (Kd.R (Kd.int .i64) 3 w' w.heap.size (fun k_ => some k_ ≠ ((.slice Ao22 x13_2.length co22) : Value).ownBlock) u14 x14_2) ∧ Aside0 (Below w.heap.size w w'))
        case atStart => exact ⟨((-1)), (0), wZ, wZ, H', ⟨Nat.le_refl _⟩, ⟨Rz HO_13.out⟩, ⟨Rz HO_14.out⟩, ⟨Bz HB.out⟩⟩
        case round =>
         clear H'
         try clear c1
         try clear c2
         try clear p2
         try clear c3
         try clear c4
         try clear c7
         try clear c12
         try clear c16
         try clear c20
         try clear p2
         obtain ⟨x15_3, x44_3, rfl, rfl, HA, HK3, HO_13, HO_14, HB⟩ := hrel; cases gk with
         | zero => exact absurd HA.out (by simp [spec_MovesBetween.l1])
         | succ k3 =>
          have H := HA.out; clear HA
          simp only [spec_MovesBetween.l1] at H
          by_cases c23 : x44_3 < (x13_2.length : Int)
          ·rw [if_pos c23] at H
           have c23b0 : decide (x44_3 < (x13_2.length : Int)) = true := decide_eq_true c23; clear c23
           by_cases c24 : x15_3 < 0
           ·rw [if_pos c24] at H
            have c24b0 : decide (x15_3 < 0) = true := decide_eq_true c24; clear c24
            by_cases c25 : 0 ≤ x44_3
            ·rw [if_pos c25] at H
             have c25b0 : decide (0 ≤ x44_3) = true := decide_eq_true c25; clear c25
             by_cases c26 : x44_3 < (x13_2.length : Int)
             ·rw [if_pos c26] at H
              have c26b0 : decide (x44_3 < (x13_2.length : Int)) = true := decide_eq_true c26; clear c26
              by_cases c27 : x44_3 < (l4.length : Int)
              ·rw [if_pos c27] at H
               have c27b0 : decide (x44_3 < (l4.length : Int)) = true := decide_eq_true c27; clear c27
               by_cases c28 : (rd x13_2 x44_3) = (rd l4 x44_3)
               ·rw [if_pos c28] at H
                have c28b0 : ((rd x13_2 x44_3) == (rd l4 x44_3)) = true := beq_iff_eq.mpr c28; have c28b1 : ((rd x13_2 x44_3) != (rd l4 x44_3)) = false := bne_eq_false_iff_eq.mpr c28; clear c28; have H' := am H; clear H; obtain ⟨ad565, e565, hx565_0⟩ := Kd.at_int (Kd.R_reads' HO_13.out).2.2 x44_3 dT dT; cases e565; have p565 := eT (0 ≤ (x44_3 : Int)); have q565 := eT (x44_3 < (x13_2.length : Int)); have p566 : 0 ≤ (x44_3 : Int) := dT; have q566 : x44_3 < (l4.length : Int) := dT; obtain ⟨ad566, e566, hx566_0⟩ := Kd.at_int HR4.out x44_3 p566 q566; cases e566; replace hx566_0 := (HB.out.cell (World.block_lt_of_cell? w _ hx566_0)).trans hx566_0; replace p566 := eq_true p566; replace q566 := eq_true q566
                go_wp2
                repeat (go_quiet (fail); try go_wp2)
                go_roundg k3
                case measure => have := HJ8.out; have := HK2.out; have := HK3.out; omega
                case rel => exact ⟨(x15_3), (wrap64 (x44_3 + 1)), wZ, wZ, H', ⟨by have := HJ8.out; have := HK2.out; have := HK3.out; omega⟩, ⟨Rz HO_13.out⟩, ⟨Rz HO_14.out⟩, ⟨Bz HB.out⟩⟩
               ·rw [if_neg c28] at H
                have c28b0 : ((rd x13_2 x44_3) == (rd l4 x44_3)) = false := beq_eq_false_iff_ne.mpr c28; have c28b1 : ((rd x13_2 x44_3) != (rd l4 x44_3)) = true := bne_iff_ne.mpr c28; replace H := Option.bind_eq_some_iff.mp H; obtain ⟨t568, A290, H⟩ := H; (try dsimp -simprocs only at H); have A29 := am A290; clear A290
                by_cases c30 : t568 = true
                ·subst c30
                 rw [if_pos rfl] at H; have H' := am H; clear H; obtain ⟨ad565, e565, hx565_0⟩ := Kd.at_int (Kd.R_reads' HO_13.out).2.2 x44_3 dT dT; cases e565; have p565 := eT (0 ≤ (x44_3 : Int)); have q565 := eT (x44_3 < (x13_2.length : Int)); have p566 : 0 ≤ (x44_3 : Int) := dT; have q566 : x44_3 < (l4.length : Int) := dT; obtain ⟨ad566, e566, hx566_0⟩ := Kd.at_int HR4.out x44_3 p566 q566; cases e566; replace hx566_0 := (HB.out.cell (World.block_lt_of_cell? w _ hx566_0)).trans hx566_0; replace p566 := eq_true p566; replace q566 := eq_true q566; have p567 : 0 ≤ (x44_3 : Int) := dT; have q567 : x44_3 < (l4.length : Int) := dT; obtain ⟨ad567, e567, hx567_0⟩ := Kd.at_int HR4.out x44_3 p567 q567; obtain rfl : ad566 = ad567 := (by injection e567); replace hx567_0 := (HB.out.cell (World.block_lt_of_cell? w _ hx567_0)).trans hx567_0; replace p567 := eq_true p567; replace q567 := eq_true q567
                 go_wp2_with (first | (go_at_call 82; (with_reducible refine (spec_l1Has.calls k3 _ _ x13_2 (rd l4 x44_3) true _ ?side1 ?side2 A29.out).mono ?_); (case side1 => exact Cz ((Kd.R_reads' HO_13.out).2.2)); (case side2 => exact (Kd.R_reads' HO_13.out).2.1); rintro e w' ⟨rfl, ⟨nd, rfl⟩⟩; (try exact yZ)))
                 repeat (go_quiet (first | (go_at_call 82; (with_reducible refine (spec_l1Has.calls k3 _ _ x13_2 (rd l4 x44_3) true _ ?side1 ?side2 A29.out).mono ?_); (case side1 => exact Cz ((Kd.R_reads' HO_13.out).2.2)); (case side2 => exact (Kd.R_reads' HO_13.out).2.1); rintro e w' ⟨rfl, ⟨nd, rfl⟩⟩; (try exact yZ))); try go_wp2_with (first | (go_at_call 82; (with_reducible refine (spec_l1Has.calls k3 _ _ x13_2 (rd l4 x44_3) true _ ?side1 ?side2 A29.out).mono ?_); (case side1 => exact Cz ((Kd.R_reads' HO_13.out).2.2)); (case side2 => exact (Kd.R_reads' HO_13.out).2.1); rintro e w' ⟨rfl, ⟨nd, rfl⟩⟩; (try exact yZ))))
                 go_roundg k3
                 case measure => have := HJ8.out; have := HK2.out; have := HK3.out; omega
                 case rel => exact ⟨(x15_3), (wrap64 (x44_3 + 1)), wZ, wZ, H', ⟨by have := HJ8.out; have := HK2.out; have := HK3.out; omega⟩, ⟨Rz HO_13.out⟩, ⟨Rz HO_14.out⟩, ⟨Bz HB.out⟩⟩
                ·replace c30 := Bool.eq_false_iff.mpr c30
                 subst c30
                 rw [if_neg (show ¬ (false = true) by decide)] at H; have H' := am H; clear H; obtain ⟨ad565, e565, hx565_0⟩ := Kd.at_int (Kd.R_reads' HO_13.out).2.2 x44_3 dT dT; cases e565; have p565 := eT (0 ≤ (x44_3 : Int)); have q565 := eT (x44_3 < (x13_2.length : Int)); have p566 : 0 ≤ (x44_3 : Int) := dT; have q566 : x44_3 < (l4.length : Int) := dT; obtain ⟨ad566, e566, hx566_0⟩ := Kd.at_int HR4.out x44_3 p566 q566; cases e566; replace hx566_0 := (HB.out.cell (World.block_lt_of_cell? w _ hx566_0)).trans hx566_0; replace p566 := eq_true p566; replace q566 := eq_true q566; have p567 : 0 ≤ (x44_3 : Int) := dT; have q567 : x44_3 < (l4.length : Int) := dT; obtain ⟨ad567, e567, hx567_0⟩ := Kd.at_int HR4.out x44_3 p567 q567; obtain rfl : ad566 = ad567 := (by injection e567); replace hx567_0 := (HB.out.cell (World.block_lt_of_cell? w _ hx567_0)).trans hx567_0; replace p567 := eq_true p567; replace q567 := eq_true q567
                 go_wp2_with (first | (go_at_call 82; (with_reducible refine (spec_l1Has.calls k3 _ _ x13_2 (rd l4 x44_3) false _ ?side1 ?side2 A29.out).mono ?_); (case side1 => exact Cz ((Kd.R_reads' HO_13.out).2.2)); (case side2 => exact (Kd.R_reads' HO_13.out).2.1); rintro e w' ⟨rfl, ⟨nd, rfl⟩⟩; (try exact yZ)))
                 repeat (go_quiet (first | (go_at_call 82; (with_reducible refine (spec_l1Has.calls k3 _ _ x13_2 (rd l4 x44_3) false _ ?side1 ?side2 A29.out).mono ?_); (case side1 => exact Cz ((Kd.R_reads' HO_13.out).2.2)); (case side2 => exact (Kd.R_reads' HO_13.out).2.1); rintro e w' ⟨rfl, ⟨nd, rfl⟩⟩; (try exact yZ))); try go_wp2_with (first | (go_at_call 82; (with_reducible refine (spec_l1Has.calls k3 _ _ x13_2 (rd l4 x44_3) false _ ?side1 ?side2 A29.out).mono ?_); (case side1 => exact Cz ((Kd.R_reads' HO_13.out).2.2)); (case side2 => exact (Kd.R_reads' HO_13.out).2.1); rintro e w' ⟨rfl, ⟨nd, rfl⟩⟩; (try exact yZ))))
                 go_roundg k3
                 case measure => have := HJ8.out; have := HK2.out; have := HK3.out; omega
                 case rel => exact ⟨(x44_3), (wrap64 (x44_3 + 1)), wZ, wZ, H', ⟨by have := HJ8.out; have := HK2.out; have := HK3.out; omega⟩, ⟨Rz HO_13.out⟩, ⟨Rz HO_14.out⟩, ⟨Bz HB.out⟩⟩
              ·rw [if_neg c27] at H
               exact absurd H (by simp)
             ·rw [if_neg c26] at H
              exact absurd H (by simp)
            ·rw [if_neg c25] at H
             exact absurd H (by simp)
           ·rw [if_neg c24] at H
            have c24b0 : decide (x15_3 < 0) = false := decide_eq_false c24; clear c24; have H' := am H; clear H
            go_wp2
            repeat (go_quiet (fail); try go_wp2)
            go_roundg k3
            case measure => have := HJ8.out; have := HK2.out; have := HK3.out; omega
            case rel => exact ⟨(x15_3), (wrap64 (x44_3 + 1)), wZ, wZ, H', ⟨by have := HJ8.out; have := HK2.out; have := HK3.out; omega⟩, ⟨Rz HO_13.out⟩, ⟨Rz HO_14.out⟩, ⟨Bz HB.out⟩⟩
          ·rw [if_neg c23] at H
           have c23b0 : decide (x44_3 < (x13_2.length : Int)) = false := decide_eq_false c23; clear c23
           by_cases c31 : x15_3 < 0
           ·rw [if_pos c31] at H
            have c31b0 : decide (x15_3 < 0) = true := decide_eq_true c31; clear c31
            simp only [Option.some.injEq, Prod.mk.injEq] at H
            obtain ⟨rfl, rfl⟩ := H
            go_wp2
            repeat (go_quiet (fail); try go_wp2)
            go_ret2
            exact ⟨_, eZ, nZ, Bz HB.out⟩
           ·rw [if_neg c31] at H
            have c31b0 : decide (x15_3 < 0) = false := decide_eq_false c31; clear c31
            by_cases c32 : 0 ≤ x15_3
            ·rw [if_pos c32] at H
             have c32b0 : decide (0 ≤ x15_3) = true := decide_eq_true c32; clear c32
             by_cases c33 : x15_3 < (l4.length : Int)
             ·rw [if_pos c33] at H
              have c33b0 : decide (x15_3 < (l4.length : Int)) = true := decide_eq_true c33; clear c33
              by_cases c34 : x15_3 < (x13_2.length : Int)
              ·rw [if_pos c34] at H
               have c34b0 : decide (x15_3 < (x13_2.length : Int)) = true := decide_eq_true c34; clear c34; obtain ⟨y570, hy570⟩ : ∃ y_ : List Int, y_ = (x13_2.set (x15_3 : Int).toNat (rd l4 x15_3)) := ⟨_, rfl⟩
               replace H : (if x14_2.length < 17592186044416 then (spec_MovesBetween.l0 k3 l4 y570 (x14_2 ++ [x15_3])) else (none)) = some (r1, r2) := by first | (rw [hy570]; with_reducible exact H) | (have H2_ := (Option.bind_some _ _).symm.trans H; rw [hy570]; with_reducible exact H2_) | (have H2_ := (Option.bind_some _ _).symm.trans H; with_reducible exact H2_) | with_reducible exact H | (rw [hy570]; exact H) | exact H
               have Ny570 := am hy570; clear hy570
               by_cases c36 : x14_2.length < 17592186044416
               ·rw [if_pos c36] at H
                have LMc36 := am c36; clear c36; obtain ⟨y571, hy571⟩ : ∃ y_ : List Int, y_ = (x14_2 ++ [x15_3]) := ⟨_, rfl⟩
                replace H : (spec_MovesBetween.l0 k3 l4 y570 y571) = some (r1, r2) := by first | (rw [hy571]; with_reducible exact H) | (have H2_ := (Option.bind_some _ _).symm.trans H; rw [hy571]; with_reducible exact H2_) | (have H2_ := (Option.bind_some _ _).symm.trans H; with_reducible exact H2_) | with_reducible exact H | (rw [hy571]; exact H) | exact H
                have Ny571 := am hy571; clear hy571; have H' := am H; clear H; have p569 : 0 ≤ (x15_3 : Int) := dT; have q569 : x15_3 < (l4.length : Int) := dT; obtain ⟨ad569, e569, hx569_0⟩ := Kd.at_int HR4.out x15_3 p569 q569; cases e569; replace hx569_0 := (HB.out.cell (World.block_lt_of_cell? w _ hx569_0)).trans hx569_0; replace p569 := eq_true p569; replace q569 := eq_true q569; have p35 : 0 ≤ (x15_3 : Int) := dT; have q35 : (x15_3 : Int) < ((x13_2.length : Int) : Int) := dT; obtain ⟨go35, co35, eo35, gb35, gl35, cl35, HG35⟩ := Kd.R_form HO_13.out (by omega)
                (first | cases eo35 | (injection eo35 with ea_ en_ ec_; (first | subst ea_ | (injection ea_ with ea_; subst ea_)); subst ec_; clear en_))
                have GB35 := am gb35; have GG35 := am HG35; clear gb35 gl35 HG35; obtain ⟨hx35_0, hf35_0⟩ := Kd.R_celln 0 HO_13.out (x15_3 : Int) p35 q35; replace p35 := eq_true p35; replace q35 := eq_true q35; have HP37 := Kd.R_putg HO_13.out (x15_3 : Int) (rd l4 x15_3)
                go_wp2_with (first | ((with_reducible refine gate_store (t := 3) (p := 79) rfl ?_); (try (rw [drewN_self wr]; generalize hq_ : World.drewN wr _ = wr; have n0_ := am (Kd.R_at hq_ HO_13.out); have n1_ := am (Kd.R_at hq_ HO_14.out); have n2_ := am (below_at hq_ HB.out); clear hq_ HO_13 HO_14 HB; revert n0_ n1_ n2_; intro HO_13 HO_14 HB; (try (have HP37 := Kd.R_putg HO_13.out (x15_3 : Int) (rd l4 x15_3))))); refine store_event (t := 3) (p := 79) (v := ?vo_w38) (w1 := (wr.setCell ⟨go35, (x15_3 : Int).toNat, none⟩ (.int .i64 (rd l4 x15_3)))) ?hg ?ho ?hn ?hr ?_; (case ho => rfl); (case hg => rfl); (case hn => rfl); (case hr => first | (go_simp; done) | (go_simp; rfl)); intro w38 hw; have hg : wr.grownBy w38 (some go35) := (by rw [hw]; exact HP37.2); have hp_ : Kd.R (Kd.int .i64) 3 w38 w.heap.size (fun k_ => some k_ ≠ (u14 : Value).ownBlock) (.slice (some ⟨go35, 0, none⟩) x13_2.length co22) y570 := (by rw [hw, Ny570.out]; exact HP37.1); clear HP37; have n0_ := am (hp_); have n1_ := am (Kd.R_after (v := (.slice (some ⟨go35, 0, none⟩) x13_2.length co22)) (v1 := (.slice (some ⟨go35, 0, none⟩) x13_2.length co22)) (ok := (fun _ => True)) (Rz (Kd.R_mono HO_14.out (fun _ hk => ⟨trivial, hk⟩))) hg (.inl rfl)); have n2_ := am ((by rw [hw]; exact below_set (HB.out) GB35.out : Below w.heap.size w w38)); clear HO_13 HO_14 HB; revert n0_ n1_ n2_; intro HO_13 HO_14 HB; clear hg hw hp_) | ((with_reducible refine gate_builtin (b := .append) (xs := #[.tmp 80, .tmp 82]) rfl ?_); at_builtin; refine Kd.R_append (Kd.int .i64) (w0 := w) w.heap.size rfl (.tmp 80) (.tmp 82) 31 3 (.int .i64 0) 8 rfl Try.underlying31 info3 rfl (by decide) (by omega) u14 x14_2 x15_3 [.int .i64 x15_3] (fun k_ => some k_ ≠ (.slice (some ⟨go35, 0, none⟩) x13_2.length co22 : Value).ownBlock) (fun _ => False) rfl rfl ?aP (fun _ hk => hk.elim) ?aF ?aO ?aB ?aS ?aL ?_; (case aP => exact rfl); (case aB => exact (Bz HB.out)); (case aF => exact (fun k_ hk => Kd.fresh' (Kd.R_lt (Rz HO_13.out)) k_ hk)); (case aO => exact (Rz (Kd.R_mono HO_14.out (fun _ hk => hk.2)))); (case aS => exact (below_size (Bz HB.out))); (case aL => have := LMc36.out; omega); intro v572 w39 ho hb hg hat; rw [← Ny571.out] at ho; have n0_ := am (Kd.R_after (ok := (fun _ => True)) (Rz (Kd.R_mono HO_13.out (fun _ hk => ⟨trivial, hk⟩))) hg hat); have n1_ := am (hb); have n2_ := am (ho); clear HO_13 HB HO_14; revert n0_ n1_ n2_; intro HO_13 HB HO573; clear ho hb hg hat))
                repeat (go_quiet (first | ((with_reducible refine gate_store (t := 3) (p := 79) rfl ?_); (try (rw [drewN_self wr]; generalize hq_ : World.drewN wr _ = wr; have n0_ := am (Kd.R_at hq_ HO_13.out); have n1_ := am (Kd.R_at hq_ HO_14.out); have n2_ := am (below_at hq_ HB.out); clear hq_ HO_13 HO_14 HB; revert n0_ n1_ n2_; intro HO_13 HO_14 HB; (try (have HP37 := Kd.R_putg HO_13.out (x15_3 : Int) (rd l4 x15_3))))); refine store_event (t := 3) (p := 79) (v := ?vo_w38) (w1 := (wr.setCell ⟨go35, (x15_3 : Int).toNat, none⟩ (.int .i64 (rd l4 x15_3)))) ?hg ?ho ?hn ?hr ?_; (case ho => rfl); (case hg => rfl); (case hn => rfl); (case hr => first | (go_simp; done) | (go_simp; rfl)); intro w38 hw; have hg : wr.grownBy w38 (some go35) := (by rw [hw]; exact HP37.2); have hp_ : Kd.R (Kd.int .i64) 3 w38 w.heap.size (fun k_ => some k_ ≠ (u14 : Value).ownBlock) (.slice (some ⟨go35, 0, none⟩) x13_2.length co22) y570 := (by rw [hw, Ny570.out]; exact HP37.1); clear HP37; have n0_ := am (hp_); have n1_ := am (Kd.R_after (v := (.slice (some ⟨go35, 0, none⟩) x13_2.length co22)) (v1 := (.slice (some ⟨go35, 0, none⟩) x13_2.length co22)) (ok := (fun _ => True)) (Rz (Kd.R_mono HO_14.out (fun _ hk => ⟨trivial, hk⟩))) hg (.inl rfl)); have n2_ := am ((by rw [hw]; exact below_set (HB.out) GB35.out : Below w.heap.size w w38)); clear HO_13 HO_14 HB; revert n0_ n1_ n2_; intro HO_13 HO_14 HB; clear hg hw hp_) | ((with_reducible refine gate_builtin (b := .append) (xs := #[.tmp 80, .tmp 82]) rfl ?_); at_builtin; refine Kd.R_append (Kd.int .i64) (w0 := w) w.heap.size rfl (.tmp 80) (.tmp 82) 31 3 (.int .i64 0) 8 rfl Try.underlying31 info3 rfl (by decide) (by omega) u14 x14_2 x15_3 [.int .i64 x15_3] (fun k_ => some k_ ≠ (.slice (some ⟨go35, 0, none⟩) x13_2.length co22 : Value).ownBlock) (fun _ => False) rfl rfl ?aP (fun _ hk => hk.elim) ?aF ?aO ?aB ?aS ?aL ?_; (case aP => exact rfl); (case aB => exact (Bz HB.out)); (case aF => exact (fun k_ hk => Kd.fresh' (Kd.R_lt (Rz HO_13.out)) k_ hk)); (case aO => exact (Rz (Kd.R_mono HO_14.out (fun _ hk => hk.2)))); (case aS => exact (below_size (Bz HB.out))); (case aL => have := LMc36.out; omega); intro v572 w39 ho hb hg hat; rw [← Ny571.out] at ho; have n0_ := am (Kd.R_after (ok := (fun _ => True)) (Rz (Kd.R_mono HO_13.out (fun _ hk => ⟨trivial, hk⟩))) hg hat); have n1_ := am (hb); have n2_ := am (ho); clear HO_13 HB HO_14; revert n0_ n1_ n2_; intro HO_13 HB HO573; clear ho hb hg hat)); try go_wp2_with (first | ((with_reducible refine gate_store (t := 3) (p := 79) rfl ?_); (try (rw [drewN_self wr]; generalize hq_ : World.drewN wr _ = wr; have n0_ := am (Kd.R_at hq_ HO_13.out); have n1_ := am (Kd.R_at hq_ HO_14.out); have n2_ := am (below_at hq_ HB.out); clear hq_ HO_13 HO_14 HB; revert n0_ n1_ n2_; intro HO_13 HO_14 HB; (try (have HP37 := Kd.R_putg HO_13.out (x15_3 : Int) (rd l4 x15_3))))); refine store_event (t := 3) (p := 79) (v := ?vo_w38) (w1 := (wr.setCell ⟨go35, (x15_3 : Int).toNat, none⟩ (.int .i64 (rd l4 x15_3)))) ?hg ?ho ?hn ?hr ?_; (case ho => rfl); (case hg => rfl); (case hn => rfl); (case hr => first | (go_simp; done) | (go_simp; rfl)); intro w38 hw; have hg : wr.grownBy w38 (some go35) := (by rw [hw]; exact HP37.2); have hp_ : Kd.R (Kd.int .i64) 3 w38 w.heap.size (fun k_ => some k_ ≠ (u14 : Value).ownBlock) (.slice (some ⟨go35, 0, none⟩) x13_2.length co22) y570 := (by rw [hw, Ny570.out]; exact HP37.1); clear HP37; have n0_ := am (hp_); have n1_ := am (Kd.R_after (v := (.slice (some ⟨go35, 0, none⟩) x13_2.length co22)) (v1 := (.slice (some ⟨go35, 0, none⟩) x13_2.length co22)) (ok := (fun _ => True)) (Rz (Kd.R_mono HO_14.out (fun _ hk => ⟨trivial, hk⟩))) hg (.inl rfl)); have n2_ := am ((by rw [hw]; exact below_set (HB.out) GB35.out : Below w.heap.size w w38)); clear HO_13 HO_14 HB; revert n0_ n1_ n2_; intro HO_13 HO_14 HB; clear hg hw hp_) | ((with_reducible refine gate_builtin (b := .append) (xs := #[.tmp 80, .tmp 82]) rfl ?_); at_builtin; refine Kd.R_append (Kd.int .i64) (w0 := w) w.heap.size rfl (.tmp 80) (.tmp 82) 31 3 (.int .i64 0) 8 rfl Try.underlying31 info3 rfl (by decide) (by omega) u14 x14_2 x15_3 [.int .i64 x15_3] (fun k_ => some k_ ≠ (.slice (some ⟨go35, 0, none⟩) x13_2.length co22 : Value).ownBlock) (fun _ => False) rfl rfl ?aP (fun _ hk => hk.elim) ?aF ?aO ?aB ?aS ?aL ?_; (case aP => exact rfl); (case aB => exact (Bz HB.out)); (case aF => exact (fun k_ hk => Kd.fresh' (Kd.R_lt (Rz HO_13.out)) k_ hk)); (case aO => exact (Rz (Kd.R_mono HO_14.out (fun _ hk => hk.2)))); (case aS => exact (below_size (Bz HB.out))); (case aL => have := LMc36.out; omega); intro v572 w39 ho hb hg hat; rw [← Ny571.out] at ho; have n0_ := am (Kd.R_after (ok := (fun _ => True)) (Rz (Kd.R_mono HO_13.out (fun _ hk => ⟨trivial, hk⟩))) hg hat); have n1_ := am (hb); have n2_ := am (ho); clear HO_13 HB HO_14; revert n0_ n1_ n2_; intro HO_13 HB HO573; clear ho hb hg hat)))
                go_roundg k3
                case measure => have := HJ8.out; have := HK2.out; have := HK3.out; omega
                case rel => exact ⟨(y570), (y571), H', ⟨by have := HJ8.out; have := HK2.out; have := HK3.out; omega⟩, ⟨Rz (Kd.R_mono HO_13.out (fun _ hk => hk.2))⟩, ⟨Rz HO573.out⟩, ⟨Bz HB.out⟩⟩
               ·rw [if_neg c36] at H
                exact absurd H (by simp)
              ·rw [if_neg c34] at H
               exact absurd H (by simp)
             ·rw [if_neg c33] at H
              exact absurd H (by simp)
            ·rw [if_neg c32] at H
             exact absurd H (by simp)
 ·replace c7 := Bool.eq_false_iff.mpr c7
  subst c7
  rw [if_neg (show ¬ (false = true) by decide)] at H
  simp only [Option.some.injEq, Prod.mk.injEq] at H
  obtain ⟨rfl, rfl⟩ := H
  go_enter Try.func29, Try.ntmps29
  go_wp2_with (first | (go_at_call 62; (with_reducible refine (spec_cuKeyed.calls k a0 _ _ l1 a2 false _ ?side1 ?side2 A6.out).mono ?_); (case side1 => exact Cz HR1.out); (case side2 => exact HC1.out); rintro e w' ⟨rfl, ⟨nd, rfl⟩⟩; (try exact yZ)))
  repeat (go_quiet (first | (go_at_call 62; (with_reducible refine (spec_cuKeyed.calls k a0 _ _ l1 a2 false _ ?side1 ?side2 A6.out).mono ?_); (case side1 => exact Cz HR1.out); (case side2 => exact HC1.out); rintro e w' ⟨rfl, ⟨nd, rfl⟩⟩; (try exact yZ))); try go_wp2_with (first | (go_at_call 62; (with_reducible refine (spec_cuKeyed.calls k a0 _ _ l1 a2 false _ ?side1 ?side2 A6.out).mono ?_); (case side1 => exact Cz HR1.out); (case side2 => exact HC1.out); rintro e w' ⟨rfl, ⟨nd, rfl⟩⟩; (try exact yZ))))
  go_ret2
  exact ⟨_, eZ, nZ, Bz HB.out⟩

def laws_pSameInts.l0 : Nat → List Int → List Int → Int → Int → Option (Bool)
 | 0, _, _, _, _ => none
 | k + 1, x0, x1, x12, x13 => if x13 < x12 then (if 0 ≤ x13 then (if x13 < (x0.length : Int) then (if x13 < (x1.length : Int) then (if (rd x0 x13) = (rd x1 x13) then (laws_pSameInts.l0 k x0 x1 x12 (wrap64 (x13 + 1))) else (some false)) else (none)) else (none)) else (none)) else (some true)
def laws_pSameInts.f (k : Nat) (l0 : List Int) (l1 : List Int) : Option (Bool) := if (l0.length : Int) = (l1.length : Int) then (laws_pSameInts.l0 k l0 l1 (l0.length : Int) 0) else (some false)
theorem laws_pSameInts.calls (k : Nat) (A0 : Option Addr) (c0 : Nat) (l0 : List Int) (A1 : Option Addr) (c1 : Nat) (l1 : List Int) (r : Bool) (w : World) (hr0 : Kd.C (Kd.int .i64) w A0 l0.length l0) (hc0 : l0.length ≤ c0) (hr1 : Kd.C (Kd.int .i64) w A1 l1.length l1) (hc1 : l1.length ≤ c1) (h : laws_pSameInts.f k l0 l1 = some r) :
  Calls Try.prog 30 #[.slice A0 l0.length c0, .slice A1 l1.length c1] w fun e w' => e = .returned (.bool r) ∧ Drawn0 w w' := by
 have HR0 := am hr0; have HC0 := am hc0; clear hr0 hc0; have HR1 := am hr1; have HC1 := am hc1; clear hr1 hc1; have H : (if (l0.length : Int) = (l1.length : Int) then (laws_pSameInts.l0 k l0 l1 (l0.length : Int) 0) else (some false)) = some r := h; clear h
 by_cases c3 : (l0.length : Int) = (l1.length : Int)
 ·rw [if_pos c3] at H
  have c3b0 : ((l0.length : Int) == (l1.length : Int)) = true := beq_iff_eq.mpr c3; have c3b1 : ((l0.length : Int) != (l1.length : Int)) = false := bne_eq_false_iff_eq.mpr c3
  have c3b2 : (l0.length == l1.length) = true := by first | simpa using c3 | (simp at c3 ⊢; omega)
  clear c3; have H' := am H; clear H
  go_enter Try.func30, Try.ntmps30
  go_wp2
  repeat (go_quiet (fail); try go_wp2)
  go_loopg [13] k (fun kq v13 w' => ∃ (x13_1 : Int), v13 = .int .i64 x13_1 ∧ Aside0 (laws_pSameInts.l0 kq l0 l1 (l0.length : Int) x13_1 = some r) ∧ Aside0 (kq ≤ k) ∧ Drawn0 w w')
  case atStart => exact ⟨(0), wZ, H', ⟨Nat.le_refl _⟩, by repeat (first | exact Drawn0.refl _ | apply Drawn0.step)⟩
  case round =>
   clear H'
   try clear c1
   try clear p2
   try clear c3
   try clear c3b0
   try clear c3b1
   try clear c3b2
   obtain ⟨x13_1, rfl, HA, HK1, ⟨m1, rfl⟩⟩ := hrel; cases gk with
   | zero => exact absurd HA.out (by simp [laws_pSameInts.l0])
   | succ k1 =>
    have H := HA.out; clear HA
    simp only [laws_pSameInts.l0] at H
    by_cases c4 : x13_1 < (l0.length : Int)
    ·rw [if_pos c4] at H
     have c4b0 : decide (x13_1 < (l0.length : Int)) = true := decide_eq_true c4; clear c4
     by_cases c5 : 0 ≤ x13_1
     ·rw [if_pos c5] at H
      have c5b0 : decide (0 ≤ x13_1) = true := decide_eq_true c5; clear c5
      by_cases c6 : x13_1 < (l0.length : Int)
      ·rw [if_pos c6] at H
       have c6b0 : decide (x13_1 < (l0.length : Int)) = true := decide_eq_true c6; clear c6
       by_cases c7 : x13_1 < (l1.length : Int)
       ·rw [if_pos c7] at H
        have c7b0 : decide (x13_1 < (l1.length : Int)) = true := decide_eq_true c7; clear c7
        by_cases c8 : (rd l0 x13_1) = (rd l1 x13_1)
        ·rw [if_pos c8] at H
         have c8b0 : ((rd l0 x13_1) == (rd l1 x13_1)) = true := beq_iff_eq.mpr c8; have c8b1 : ((rd l0 x13_1) != (rd l1 x13_1)) = false := bne_eq_false_iff_eq.mpr c8; clear c8; have H' := am H; clear H; obtain ⟨ad574, e574, hx574_0⟩ := Kd.at_int HR0.out x13_1 dT dT; cases e574; have p574 := eT (0 ≤ (x13_1 : Int)); have q574 := eT (x13_1 < (l0.length : Int)); obtain ⟨ad575, e575, hx575_0⟩ := Kd.at_int HR1.out x13_1 dT dT; cases e575; have p575 := eT (0 ≤ (x13_1 : Int)); have q575 := eT (x13_1 < (l1.length : Int))
         go_wp2
         repeat (go_quiet (fail); try go_wp2)
         go_roundg k1
         case measure => have := HK1.out; omega
         case rel => exact ⟨(wrap64 (x13_1 + 1)), wZ, H', ⟨by have := HK1.out; omega⟩, by repeat (first | exact Drawn0.refl _ | apply Drawn0.step)⟩
        ·rw [if_neg c8] at H
         have c8b0 : ((rd l0 x13_1) == (rd l1 x13_1)) = false := beq_eq_false_iff_ne.mpr c8; have c8b1 : ((rd l0 x13_1) != (rd l1 x13_1)) = true := bne_iff_ne.mpr c8; obtain rfl := Option.some.inj H; obtain ⟨ad574, e574, hx574_0⟩ := Kd.at_int HR0.out x13_1 dT dT; cases e574; have p574 := eT (0 ≤ (x13_1 : Int)); have q574 := eT (x13_1 < (l0.length : Int)); obtain ⟨ad575, e575, hx575_0⟩ := Kd.at_int HR1.out x13_1 dT dT; cases e575; have p575 := eT (0 ≤ (x13_1 : Int)); have q575 := eT (x13_1 < (l1.length : Int))
         go_wp2
         repeat (go_quiet (fail); try go_wp2)
         go_ret
         exact ⟨by first | rfl | (simp; done) | (simp [*]; done), by repeat (first | exact Drawn0.refl _ | apply Drawn0.step)⟩
       ·rw [if_neg c7] at H
        exact absurd H (by simp)
      ·rw [if_neg c6] at H
       exact absurd H (by simp)
     ·rw [if_neg c5] at H
      exact absurd H (by simp)
    ·rw [if_neg c4] at H
     have c4b0 : decide (x13_1 < (l0.length : Int)) = false := decide_eq_false c4; clear c4; obtain rfl := Option.some.inj H
     go_wp2
     repeat (go_quiet (fail); try go_wp2)
     go_ret
     exact ⟨by first | rfl | (simp; done) | (simp [*]; done), by repeat (first | exact Drawn0.refl _ | apply Drawn0.step)⟩
 ·rw [if_neg c3] at H
  have c3b0 : ((l0.length : Int) == (l1.length : Int)) = false := beq_eq_false_iff_ne.mpr c3; have c3b1 : ((l0.length : Int) != (l1.length : Int)) = true := bne_iff_ne.mpr c3
  have c3b2 : (l0.length == l1.length) = false := by first | simpa using c3 | (simp at c3 ⊢; omega)
  obtain rfl := Option.some.inj H
  go_enter Try.func30, Try.ntmps30
  go_wp2
  repeat (go_quiet (fail); try go_wp2)
  go_ret
  exact ⟨by first | rfl | (simp; done) | (simp [*]; done), by repeat (first | exact Drawn0.refl _ | apply Drawn0.step)⟩

def impl_IsPlacement.f (k : Nat) (a0 : Int) (l1 : List ByteArray) (a2 : Int) (l3 : List Int) : Option (Bool × Bool) := (impl_pairs.f k a0 l1 a2).bind fun bt576 => (if bt576.2 = true then ((impl_isPlacement.f k bt576.1 l3).bind fun t580 => (some (t580, true))) else (some (false, false)))
theorem impl_IsPlacement.calls (k : Nat) (a0 : Int) (A1 : Option Addr) (c1 : Nat) (l1 : List ByteArray) (a2 : Int) (A3 : Option Addr) (c3 : Nat) (l3 : List Int) (r1 : Bool) (r2 : Bool) (w : World) (hr1 : Kd.C Kd.string w A1 l1.length l1) (hc1 : l1.length ≤ c1) (hr3 : Kd.C (Kd.int .i64) w A3 l3.length l3) (hc3 : l3.length ≤ c3) (h : impl_IsPlacement.f k a0 l1 a2 l3 = some (r1, r2)) :
  Calls Try.prog 31 #[.int .i64 a0, .slice A1 l1.length c1, .int .i64 a2, .slice A3 l3.length c3] w fun e w' => e = .returned (.tuple #[.bool r1, .bool r2]) ∧ Below w.heap.size w w' := by
 have HR1 := am hr1; have HC1 := am hc1; clear hr1 hc1; have HR3 := am hr3; have HC3 := am hc3; clear hr3 hc3; have HB := am (Below.refl w.heap.size w); have H : ((impl_pairs.f k a0 l1 a2).bind fun bt576 => (if bt576.2 = true then ((impl_isPlacement.f k bt576.1 l3).bind fun t580 => (some (t580, true))) else (some (false, false)))) = some (r1, r2) := h; clear h; replace H := Option.bind_eq_some_iff.mp H; obtain ⟨⟨t576, t577⟩, A50, H⟩ := H; (try dsimp -simprocs only at H); have A5 := am A50; clear A50
 by_cases c6 : t577 = true
 ·subst c6
  rw [if_pos rfl] at H; replace H := Option.bind_eq_some_iff.mp H; obtain ⟨t580, A70, H⟩ := H; (try dsimp -simprocs only at H); have A7 := am A70; clear A70
  simp only [Option.some.injEq, Prod.mk.injEq] at H
  obtain ⟨rfl, rfl⟩ := H
  go_enter Try.func31, Try.ntmps31
  go_wp2_with (first | ((with_reducible refine gate_callee (f := 60) rfl ?_); refine gL (some 16) Try.func60 #[.int .i64 a0, .slice A1 l1.length c1, .int .i64 a2] ?_; (with_reducible refine (impl_pairs.calls k a0 _ _ l1 a2 t576 true _ ?side1 ?side2 A5.out).mono ?_); (case side1 => exact Cz HR1.out); (case side2 => exact HC1.out); rintro e w8 ⟨v578, rfl, ho0, hb⟩; refine ⟨_, rfl, ?_⟩; have n0_ := am (Kd.S_lower ho0 (below_size (Bz HB.out))); have n1_ := Bb HB hb; clear HB; revert n0_ n1_; intro HO579 HB; (try clear hb); (try clear hb2); (try clear hk); (try clear hi); (try clear ho0); obtain ⟨Ao9, co9, eo9⟩ := Kd.S_slice HO579.out; subst eo9) | ((with_reducible refine gate_callee (f := 85) rfl ?_); refine gL (some 23) Try.func85 #[.slice Ao9 t576.length co9, .slice A3 l3.length c3] ?_; (with_reducible refine (impl_isPlacement.calls k _ _ t576 _ _ l3 t580 _ ?side1 ?side2 ?side3 ?side4 A7.out).mono ?_); (case side1 => exact Cz ((Kd.S_reads' HO579.out).2.2)); (case side2 => exact (Kd.S_reads' HO579.out).2.1); (case side3 => exact Cz (Kd.C_below HR3.out HB.out)); (case side4 => exact HC3.out); rintro e w10 ⟨rfl, hb⟩; refine ⟨_, rfl, ?_⟩; have n0_ := am (Kd.S_below (by (with_reducible repeat (first | apply Kd.S_alloc | apply Kd.S_drewN | apply Kd.S_drew)); exact HO579.out) hb); have n1_ := Bb HB hb; clear HO579 HB; revert n0_ n1_; intro HO579 HB; (try clear hb); (try clear hb2); (try clear hk); (try clear hi)))
  go_ret2
  exact ⟨eZ, Bz HB.out⟩
 ·replace c6 := Bool.eq_false_iff.mpr c6
  subst c6
  rw [if_neg (show ¬ (false = true) by decide)] at H
  simp only [Option.some.injEq, Prod.mk.injEq] at H
  obtain ⟨rfl, rfl⟩ := H
  go_enter Try.func31, Try.ntmps31
  go_wp2_with (first | ((with_reducible refine gate_callee (f := 60) rfl ?_); refine gL (some 16) Try.func60 #[.int .i64 a0, .slice A1 l1.length c1, .int .i64 a2] ?_; (with_reducible refine (impl_pairs.calls k a0 _ _ l1 a2 t576 false _ ?side1 ?side2 A5.out).mono ?_); (case side1 => exact Cz HR1.out); (case side2 => exact HC1.out); rintro e w11 ⟨v578, rfl, ho0, hb⟩; refine ⟨_, rfl, ?_⟩; have n0_ := am (Kd.S_lower ho0 (below_size (Bz HB.out))); have n1_ := Bb HB hb; clear HB; revert n0_ n1_; intro HO579 HB; (try clear hb); (try clear hb2); (try clear hk); (try clear hi); (try clear ho0)))
  go_ret2
  exact ⟨eZ, Bz HB.out⟩

mutual
def laws_FnMovesKeepPlacements.j0 : Nat → Int → List ByteArray → Int → List Int → List Int → List Int → Bool → Bool → Option (Bool)
 | 0, _, _, _, _, _, _, _, _ => none
 | k + 1, x5, x6, x7, x8, x9, x10, x11, x56 => if x56 = true then (some false) else (if x11 = true then ((some (([] : List Int) : List Int)).bind fun y602 => (if y602.length + x8.length < 17592186044416 then (laws_FnMovesKeepPlacements.l0 k x5 x6 x7 x9 x10 (y602 ++ x8) x10 (x10.length : Int) 0) else (none))) else (some true))
def laws_FnMovesKeepPlacements.l0 : Nat → Int → List ByteArray → Int → List Int → List Int → List Int → List Int → Int → Int → Option (Bool)
 | 0, _, _, _, _, _, _, _, _, _ => none
 | k + 1, x5, x6, x7, x9, x10, x14, x62, x63, x64 => if x64 < x63 then (if 0 ≤ x64 then (if x64 < (x62.length : Int) then (if (rd x62 x64) < 0 then (laws_FnMovesKeepPlacements.j2 k x5 x6 x7 x9 x10 x14 (rd x62 x64) x62 x63 x64 true) else (if (rd x62 x64) ≥ (x14.length : Int) then (laws_FnMovesKeepPlacements.j2 k x5 x6 x7 x9 x10 x14 (rd x62 x64) x62 x63 x64 true) else (if x64 ≤ (x10.length : Int) then ((laws_pHas.f k (x10.take (x64 : Int).toNat) (rd x62 x64)).bind fun t614 => (if t614 = true then (laws_FnMovesKeepPlacements.j2 k x5 x6 x7 x9 x10 x14 (rd x62 x64) x62 x63 x64 true) else (if 0 ≤ (rd x62 x64) then (if (rd x62 x64) < (x9.length : Int) then ((laws_pHas.f k x14 (rd x9 (rd x62 x64))).bind fun t616 => (laws_FnMovesKeepPlacements.j2 k x5 x6 x7 x9 x10 x14 (rd x62 x64) x62 x63 x64 t616)) else (none)) else (none)))) else (none)))) else (none)) else (none)) else ((laws_pSameInts.f k x14 x9).bind fun t608 => (some t608))
def laws_FnMovesKeepPlacements.j2 : Nat → Int → List ByteArray → Int → List Int → List Int → List Int → Int → List Int → Int → Int → Bool → Option (Bool)
 | 0, _, _, _, _, _, _, _, _, _, _, _ => none
 | k + 1, x5, x6, x7, x9, x10, x14, x16, x62, x63, x64, x91 => if x91 = true then (some false) else (if 0 ≤ x16 then (if x16 < (x9.length : Int) then (if x16 < (x14.length : Int) then ((some (x14.set (x16 : Int).toNat (rd x9 x16) : List Int)).bind fun y618 => ((impl_IsPlacement.f k x5 x6 x7 y618).bind fun bt619 => (if bt619.2 = true then (if bt619.1 = true then (laws_FnMovesKeepPlacements.l0 k x5 x6 x7 x9 x10 y618 x62 x63 (wrap64 (x64 + 1))) else (some false)) else (some false)))) else (none)) else (none)) else (none))
end
def laws_FnMovesKeepPlacements.f (k : Nat) (l0 : List Int) (l1 : List Int) : Option (Bool) := (laws_big.f l0 l1).bind fun t581 => (if t581 = true then (some true) else ((spec_DrawMovesBetween.f k l0).bind fun bt582 => ((impl_MovesBetween.f k bt582.1 bt582.2.1 bt582.2.2.1 bt582.2.2.2.1 bt582.2.2.2.2).bind fun bt593 => ((spec_MovesBetween.f k bt582.1 bt582.2.1 bt582.2.2.1 bt582.2.2.2.1 bt582.2.2.2.2).bind fun bt597 => (if (bt593.2 != bt597.2) = true then (laws_FnMovesKeepPlacements.j0 k bt582.1 bt582.2.1 bt582.2.2.1 bt582.2.2.2.1 bt582.2.2.2.2 bt593.1 bt593.2 true) else ((laws_pSameInts.f k bt593.1 bt597.1).bind fun t601 => (laws_FnMovesKeepPlacements.j0 k bt582.1 bt582.2.1 bt582.2.2.1 bt582.2.2.2.1 bt582.2.2.2.2 bt593.1 bt593.2 (!t601))))))))
theorem laws_FnMovesKeepPlacements.j0.dead (k : Nat) (y0 : Int) (y1 : List ByteArray) (y2 : Int) (y3 : List Int) (y4 : List Int) (y5 : List Int) (y6 : Bool) : laws_FnMovesKeepPlacements.j0 k y0 y1 y2 y3 y4 y5 y6 true ≠ some true := by cases k <;> simp [laws_FnMovesKeepPlacements.j0]
theorem laws_FnMovesKeepPlacements.j2.dead (k : Nat) (y0 : Int) (y1 : List ByteArray) (y2 : Int) (y3 : List Int) (y4 : List Int) (y5 : List Int) (y6 : Int) (y7 : List Int) (y8 : Int) (y9 : Int) : laws_FnMovesKeepPlacements.j2 k y0 y1 y2 y3 y4 y5 y6 y7 y8 y9 true ≠ some true := by cases k <;> simp [laws_FnMovesKeepPlacements.j2]
theorem laws_FnMovesKeepPlacements.calls (k : Nat) (A0 : Option Addr) (c0 : Nat) (l0 : List Int) (A1 : Option Addr) (c1 : Nat) (l1 : List Int) (r : Bool) (w : World) (hr0 : Kd.C (Kd.int .u8) w A0 l0.length l0) (hc0 : l0.length ≤ c0) (hr1 : Kd.C (Kd.int .u8) w A1 l1.length l1) (hc1 : l1.length ≤ c1) (h : laws_FnMovesKeepPlacements.f k l0 l1 = some r) (hT_ : r = true) :
  Calls Try.prog 5 #[.slice A0 l0.length c0, .slice A1 l1.length c1] w fun e w' => e = .returned (.bool r) ∧ Below w.heap.size w w' := by
 have HR0 := am hr0; have HC0 := am hc0; clear hr0 hc0; have HR1 := am hr1; have HC1 := am hc1; clear hr1 hc1; have HB := am (Below.refl w.heap.size w); have H : ((laws_big.f l0 l1).bind fun t581 => (if t581 = true then (some true) else ((spec_DrawMovesBetween.f k l0).bind fun bt582 => ((impl_MovesBetween.f k bt582.1 bt582.2.1 bt582.2.2.1 bt582.2.2.2.1 bt582.2.2.2.2).bind fun bt593 => ((spec_MovesBetween.f k bt582.1 bt582.2.1 bt582.2.2.1 bt582.2.2.2.1 bt582.2.2.2.2).bind fun bt597 => (if (bt593.2 != bt597.2) = true then (laws_FnMovesKeepPlacements.j0 k bt582.1 bt582.2.1 bt582.2.2.1 bt582.2.2.2.1 bt582.2.2.2.2 bt593.1 bt593.2 true) else ((laws_pSameInts.f k bt593.1 bt597.1).bind fun t601 => (laws_FnMovesKeepPlacements.j0 k bt582.1 bt582.2.1 bt582.2.2.1 bt582.2.2.2.1 bt582.2.2.2.2 bt593.1 bt593.2 (!t601))))))))) = some r := h; clear h; have HQT_ := am hT_; clear hT_; replace H := Option.bind_eq_some_iff.mp H; obtain ⟨t581, A30, H⟩ := H; (try dsimp -simprocs only at H); have A3 := am A30; clear A30
 by_cases c4 : t581 = true
 ·subst c4
  rw [if_pos rfl] at H; obtain rfl := Option.some.inj H
  go_enter Try.func5, Try.ntmps5
  go_wp2_with (first | ((with_reducible refine gate_callee (f := 11) rfl ?_); refine gL (some 21) Try.func11 #[.slice A0 l0.length c0, .slice A1 l1.length c1] ?_; (with_reducible refine (laws_big.calls _ _ l0 _ _ l1 true _ ?side1 ?side2 ?side3 ?side4 A3.out).mono ?_); (case side1 => exact Cz HR0.out); (case side2 => exact HC0.out); (case side3 => exact Cz HR1.out); (case side4 => exact HC1.out); rintro e w' ⟨rfl, ⟨nd, rfl⟩⟩; refine ⟨_, rfl, ?_⟩))
  go_ret
  exact ⟨eZ, Bz HB.out⟩
 ·replace c4 := Bool.eq_false_iff.mpr c4
  subst c4
  rw [if_neg (show ¬ (false = true) by decide)] at H; replace H := Option.bind_eq_some_iff.mp H; obtain ⟨⟨t582, t583, t584, t585, t586⟩, A50, H⟩ := H; (try dsimp -simprocs only at H); have A5 := am A50; clear A50; replace H := Option.bind_eq_some_iff.mp H; obtain ⟨⟨t593, t594⟩, A60, H⟩ := H; (try dsimp -simprocs only at H); have A6 := am A60; clear A60; replace H := Option.bind_eq_some_iff.mp H; obtain ⟨⟨t597, t598⟩, A70, H⟩ := H; (try dsimp -simprocs only at H); have A7 := am A70; clear A70; have HC8 := am H; clear H
  go_enter Try.func5, Try.ntmps5
  go_upto_region 6 with (first | ((with_reducible refine gate_callee (f := 11) rfl ?_); refine gL (some 21) Try.func11 #[.slice A0 l0.length c0, .slice A1 l1.length c1] ?_; (with_reducible refine (laws_big.calls _ _ l0 _ _ l1 false _ ?side1 ?side2 ?side3 ?side4 A3.out).mono ?_); (case side1 => exact Cz HR0.out); (case side2 => exact HC0.out); (case side3 => exact Cz HR1.out); (case side4 => exact HC1.out); rintro e w' ⟨rfl, ⟨nd, rfl⟩⟩; refine ⟨_, rfl, ?_⟩) | ((with_reducible refine gate_callee (f := 27) rfl ?_); refine gL (some 24) Try.func27 #[.slice A0 l0.length c0] ?_; (with_reducible refine (spec_DrawMovesBetween.calls k _ _ l0 t582 t583 t584 t585 t586 _ ?side1 ?side2 A5.out).mono ?_); (case side1 => exact Cz HR0.out); (case side2 => exact HC0.out); rintro e w9 ⟨v587, v589, v591, rfl, ho0, ho1, ho2, hb⟩; refine ⟨_, rfl, ?_⟩; have n0_ := Rl ho0 HB; have n1_ := Rl ho1 HB; have n2_ := Rl ho2 HB; have n3_ := Bb HB hb; clear HB; revert n0_ n1_ n2_ n3_; intro HO588 HO590 HO592 HB; (try clear hb); (try clear hb2); (try clear hk); (try clear hi); (try clear ho0); (try clear ho1); (try clear ho2); obtain ⟨Ao10, co10, eo10⟩ := Kd.R_slice HO588.out; subst eo10; obtain ⟨Ao11, co11, eo11⟩ := Kd.R_slice HO590.out; subst eo11; obtain ⟨Ao12, co12, eo12⟩ := Kd.R_slice HO592.out; subst eo12) | ((with_reducible refine gate_callee (f := 28) rfl ?_); refine gL (some 36) Try.func28 #[.int .i64 t582, .slice Ao10 t583.length co10, .int .i64 t584, .slice Ao11 t585.length co11, .slice Ao12 t586.length co12] ?_; (with_reducible refine (impl_MovesBetween.calls k t582 _ _ t583 t584 _ _ t585 _ _ t586 t593 t594 _ ?side1 ?side2 ?side3 ?side4 ?side5 ?side6 A6.out).mono ?_); (case side1 => exact Cz ((Kd.R_reads' HO588.out).2.2)); (case side2 => exact (Kd.R_reads' HO588.out).2.1); (case side3 => exact Cz ((Kd.R_reads' HO590.out).2.2)); (case side4 => exact (Kd.R_reads' HO590.out).2.1); (case side5 => exact Cz ((Kd.R_reads' HO592.out).2.2)); (case side6 => exact (Kd.R_reads' HO592.out).2.1); rintro e w13 ⟨v595, rfl, ho0, hb⟩; refine ⟨_, rfl, ?_⟩; have n0_ := Rb HO588 hb; have n1_ := Re HO590 (Kd.R_base ho0) hb; have n2_ := Re HO592 (Kd.R_base ho0) hb; have n3_ := Rl (Kd.R_new' (Kd.R_new' ho0 (Kd.R_lt (Rz HO590.out))) (Kd.R_lt (Rz HO592.out))) HB; have n4_ := Bb HB hb; clear HO588 HO590 HO592 HB; revert n0_ n1_ n2_ n3_ n4_; intro HO588 HO590 HO592 HO596 HB; (try clear hb); (try clear hb2); (try clear hk); (try clear hi); (try clear ho0)) | ((with_reducible refine gate_callee (f := 29) rfl ?_); refine gL (some 45) Try.func29 #[.int .i64 t582, .slice Ao10 t583.length co10, .int .i64 t584, .slice Ao11 t585.length co11, .slice Ao12 t586.length co12] ?_; (with_reducible refine (spec_MovesBetween.calls k t582 _ _ t583 t584 _ _ t585 _ _ t586 t597 t598 _ ?side1 ?side2 ?side3 ?side4 ?side5 ?side6 A7.out).mono ?_); (case side1 => exact Cz ((Kd.R_reads' HO588.out).2.2)); (case side2 => exact (Kd.R_reads' HO588.out).2.1); (case side3 => exact Cz ((Kd.R_reads' HO590.out).2.2)); (case side4 => exact (Kd.R_reads' HO590.out).2.1); (case side5 => exact Cz ((Kd.R_reads' HO592.out).2.2)); (case side6 => exact (Kd.R_reads' HO592.out).2.1); rintro e w14 ⟨v599, rfl, ho0, hb⟩; refine ⟨_, rfl, ?_⟩; have n0_ := Rb HO588 hb; have n1_ := Re HO590 (Kd.R_base ho0) hb; have n2_ := Re HO592 (Kd.R_base ho0) hb; have n3_ := Re HO596 (Kd.R_base ho0) hb; have n4_ := am (Kd.R_lower (Kd.R_new' (Kd.R_new' (Kd.R_new' ho0 (Kd.R_lt (Rz HO590.out))) (Kd.R_lt (Rz HO592.out))) (Kd.R_lt (Rz HO596.out))) (below_size (Bz HB.out))); have n5_ := Bb HB hb; clear HO588 HO590 HO592 HO596 HB; revert n0_ n1_ n2_ n3_ n4_ n5_; intro HO588 HO590 HO592 HO596 HO600 HB; (try clear hb); (try clear hb2); (try clear hk); (try clear hi); (try clear ho0)))
  (try simp only [aP])
  go_cut [56] (fun v56 wc => ∃ (kq : Nat) (x56_7 : Bool), v56 = .bool x56_7 ∧ Aside0 (laws_FnMovesKeepPlacements.j0 kq t582 t583 t584 t585 t586 t593 t594 x56_7 = some r) ∧ Aside0 (kq ≤ k) ∧ Aside0 (Kd.R Kd.string 9 wc w.heap.size (fun _ => True) (.slice Ao10 t583.length co10) t583) ∧ Aside0 (Kd.R (Kd.int .i64) 3 wc w.heap.size (fun k_ => some k_ ≠ ((.slice Ao12 t586.length co12) : Value).ownBlock ∧ some k_ ≠ (v595 : Value).ownBlock) (.slice Ao11 t585.length co11) t585) ∧ Aside0 (Kd.R (Kd.int .i64) 3 wc w.heap.size (fun k_ => some k_ ≠ ((.slice Ao11 t585.length co11) : Value).ownBlock ∧ some k_ ≠ (v595 : Value).ownBlock) (.slice Ao12 t586.length co12) t586) ∧ Aside0 (Kd.R (Kd.int .i64) 3 wc w.heap.size (fun k_ => some k_ ≠ ((.slice Ao11 t585.length co11) : Value).ownBlock ∧ some k_ ≠ ((.slice Ao12 t586.length co12) : Value).ownBlock) v595 t593) ∧ Aside0 (Below w.heap.size w wc))
  case first =>
   have H := HC8.out; clear HC8
   by_cases c15 : (t594 != t598) = true
   ·rw [if_pos c15] at H
    have c15b0 : (t594 != t598) = true := c15
    (try (have c15b1 : decide (t594 = t598) = false := by simpa using c15))
    (try (have c15b2 : (t594 == t598) = false := by simpa using c15))
    (try (have c15b3 : ¬ (t594 = t598) := by simpa using c15))
    (try (have c15b4 : (!(t594 == t598)) = true := c15b0))
    clear c15
    (first | rw [c15b0] | (simp only [i64_w, i32_w]; rw [c15b0]) | skip)
    exact absurd (H.trans (congrArg some HQT_.out)) (laws_FnMovesKeepPlacements.j0.dead _ _ _ _ _ _ _ _)
   ·rw [if_neg c15] at H
    have c15b0 : (t594 != t598) = false := by simpa using c15
    (try (have c15b1 : decide (t594 = t598) = true := by simpa using c15))
    (try (have c15b2 : (t594 == t598) = true := by simpa using c15))
    (try (have c15b3 : (!(t594 == t598)) = false := c15b0))
    clear c15
    (first | rw [c15b0] | (simp only [i64_w, i32_w]; rw [c15b0]) | skip)
    replace H := Option.bind_eq_some_iff.mp H; obtain ⟨t601, A160, H⟩ := H; (try dsimp -simprocs only at H); have A16 := am A160; clear A160; have H' := am H; clear H; obtain ⟨Ao17, co17, eo17⟩ := Kd.R_slice HO596.out; subst eo17; obtain ⟨Ao18, co18, eo18⟩ := Kd.R_slice HO600.out; subst eo18
    go_wp2_with (first | (go_at_call 30; (with_reducible refine (laws_pSameInts.calls k _ _ t593 _ _ t597 t601 _ ?side1 ?side2 ?side3 ?side4 A16.out).mono ?_); (case side1 => exact Cz ((Kd.R_reads' HO596.out).2.2)); (case side2 => exact (Kd.R_reads' HO596.out).2.1); (case side3 => exact Cz ((Kd.R_reads' HO600.out).2.2)); (case side4 => exact (Kd.R_reads' HO600.out).2.1); rintro e w' ⟨rfl, ⟨nd, rfl⟩⟩))
    go_meet
    case rel => exact ⟨_, (!t601), wZ, H', ⟨by first | omega | exact Nat.le_refl _⟩, ⟨Rz HO588.out⟩, ⟨Rz (Kd.R_mono HO590.out (fun _ hk => ⟨hk.1.1, hk.1.2⟩))⟩, ⟨Rz (Kd.R_mono HO592.out (fun _ hk => ⟨hk.1.1, hk.1.2⟩))⟩, ⟨Rz (Kd.R_mono HO596.out (fun _ hk => ⟨hk.1.1.2, hk.1.2⟩))⟩, ⟨Bz HB.out⟩⟩
  case rest =>
   clear HC8
   try clear c1
   try clear c2
   try clear p2
   try clear c4
   try clear c5
   try clear c11
   try clear c15
   try clear c15b0
   try clear c15b1
   try clear c15b2
   obtain ⟨kq, x56_7, rfl, HA, HJ7, HO_6, HO_8, HO_9, HO_10, HB⟩ := hcut; cases kq with
   | zero => exact absurd HA.out (by simp [laws_FnMovesKeepPlacements.j0])
   | succ kj7 =>
    have H := HA.out; clear HA
    simp only [laws_FnMovesKeepPlacements.j0] at H
    by_cases c19 : x56_7 = true
    ·subst c19
     rw [if_pos rfl] at H; exact absurd (Option.some.inj H) (by rw [HQT_.out]; decide)
    ·replace c19 := Bool.eq_false_iff.mpr c19
     subst c19
     rw [if_neg (show ¬ (false = true) by decide)] at H
     by_cases c20 : t594 = true
     ·subst c20
      rw [if_pos rfl] at H; obtain ⟨y602, hy602⟩ : ∃ y_ : List Int, y_ = (([] : List Int)) := ⟨_, rfl⟩
      replace H : (if y602.length + t585.length < 17592186044416 then (laws_FnMovesKeepPlacements.l0 kj7 t582 t583 t584 t586 t593 (y602 ++ t585) t593 (t593.length : Int) 0) else (none)) = some r := by first | (rw [hy602]; with_reducible exact H) | (have H2_ := (Option.bind_some _ _).symm.trans H; rw [hy602]; with_reducible exact H2_) | (have H2_ := (Option.bind_some _ _).symm.trans H; with_reducible exact H2_) | with_reducible exact H | (rw [hy602]; exact H) | exact H
      have Ny602 := am hy602; clear hy602
      by_cases c21 : y602.length + t585.length < 17592186044416
      ·rw [if_pos c21] at H
       have LMc21 := am c21; clear c21; obtain ⟨y605, hy605⟩ : ∃ y_ : List Int, y_ = (y602 ++ t585) := ⟨_, rfl⟩
       replace H : (laws_FnMovesKeepPlacements.l0 kj7 t582 t583 t584 t586 t593 y605 t593 (t593.length : Int) 0) = some r := by first | (rw [hy605]; with_reducible exact H) | (have H2_ := (Option.bind_some _ _).symm.trans H; rw [hy605]; with_reducible exact H2_) | (have H2_ := (Option.bind_some _ _).symm.trans H; with_reducible exact H2_) | with_reducible exact H | (rw [hy605]; exact H) | exact H
       have Ny605 := am hy605; clear hy605; have H' := am H; clear H
       go_wp2_with (first | ((with_reducible refine gate_dst (N := 59) rfl ?_); (try (refine gate_guard (by rfl) ?_; dsimp only)); refine Kd.R_lit (Kd.int .i64) _ 3 ?hg (N := 59) ?hd (xs := ([] : List Int)) (inner := []) (ok := fun _ => True) (okp := fun _ => True) ?hr ?hp (fun _ hk => hk) trivial (Below.refl _ _) (Nat.le_refl _) (by simp) ?_; (case hd => rfl); (case hg => rfl); (case hr => first | (go_simp; done) | (go_simp; rfl)); (case hp => exact (Reps.none _ _)); intro v603 w22 ho23 hb hg_ hnew_; clear hg_ hnew_; (first | rw [← Ny602.out] at ho23 | (simp only [Int.reduceToNat] at ho23; rw [← Ny602.out] at ho23)); have n0_ := Rb HO_6 hb; have n1_ := Re HO_8 (Kd.R_base ho23) hb; have n2_ := Re HO_9 (Kd.R_base ho23) hb; have n3_ := Re HO_10 (Kd.R_base ho23) hb; have n4_ := am (Kd.R_lower (Kd.R_new' (Kd.R_new' (Kd.R_new' ho23 (Kd.R_lt (Rz HO_8.out))) (Kd.R_lt (Rz HO_9.out))) (Kd.R_lt (Rz HO_10.out))) (below_size (Bz HB.out))); have n5_ := Bb HB hb; clear HO_6 HO_8 HO_9 HO_10 HB; revert n0_ n1_ n2_ n3_ n4_ n5_; intro HO_6 HO_8 HO_9 HO_10 HO604 HB; clear hb ho23) | ((with_reducible refine gate_builtin (b := .append) (xs := #[.tmp 59, .tmp 60]) rfl ?_); (try (refine gate_guard (by rfl) ?_; dsimp only)); at_builtin; refine Kd.R_append_rows (Kd.int .i64) (w0 := w) w.heap.size rfl (.tmp 59) (.tmp 60) 31 3 (.int .i64 0) 8 rfl Try.underlying31 info3 rfl (by decide) (by omega) v603 y602 t585 _ _ _ (fun k_ => some k_ ≠ (.slice Ao11 t585.length co11 : Value).ownBlock ∧ some k_ ≠ (.slice Ao12 t586.length co12 : Value).ownBlock ∧ some k_ ≠ (v595 : Value).ownBlock) (fun _ => False) rfl rfl ?aO ?aR (fun _ _ h => h) (fun _ h => h.elim) ?aF ?aB ?aS ?aL ?_; (case aR => repeat (first | exact (Kd.R_reads' HO_8.out).2.2 | (with_reducible refine Kd.C_alloc ?_ _) | (with_reducible refine Kd.C_drewN ?_ _) | (with_reducible refine Kd.C_drew ?_))); (case aB => exact (Bz HB.out)); (case aF => exact (fun k_ hk => ⟨Kd.fresh' (Kd.R_lt (Rz HO_8.out)) k_ hk, Kd.fresh' (Kd.R_lt (Rz HO_9.out)) k_ hk, Kd.fresh' (Kd.R_lt (Rz HO_10.out)) k_ hk⟩)); (case aO => exact (Rz (Kd.R_mono HO604.out (fun _ hk => ⟨hk.1.1.2, ⟨hk.1.2, hk.2⟩⟩)))); (case aS => exact (below_size (Bz HB.out))); (case aL => have := LMc21.out; omega); intro v606 w24 ho hb hg hat; rw [← Ny605.out] at ho; have n0_ := am (Kd.R_over' (Rz HO_6.out) (Kd.R_typed (Rz HO604.out)) (by decide) hg); have n1_ := am (Kd.R_after (ok := (fun k_ => some k_ ≠ (.slice Ao12 t586.length co12 : Value).ownBlock ∧ some k_ ≠ (v595 : Value).ownBlock)) (Rz HO_8.out) hg hat); have n2_ := am (Kd.R_after (ok := (fun k_ => some k_ ≠ (.slice Ao11 t585.length co11 : Value).ownBlock ∧ some k_ ≠ (v595 : Value).ownBlock)) (Rz HO_9.out) hg hat); have n3_ := am (Kd.R_after (ok := (fun k_ => some k_ ≠ (.slice Ao11 t585.length co11 : Value).ownBlock ∧ some k_ ≠ (.slice Ao12 t586.length co12 : Value).ownBlock)) (Rz HO_10.out) hg hat); have n4_ := am (hb); have n5_ := am (ho); clear HO_6 HO_8 HO_9 HO_10 HB HO604; revert n0_ n1_ n2_ n3_ n4_ n5_; intro HO_6 HO_8 HO_9 HO_10 HB HO607; clear ho hb hg hat; obtain ⟨Ao25, co25, eo25⟩ := Kd.R_slice HO_10.out; subst eo25))
       (try simp only [aP])
       go_loopg [64] kj7 (fun kq v64 w' => ∃ (x14_2 : List Int) (x64_2 : Int), v64 = .int .i64 x64_2 ∧ Aside0 (laws_FnMovesKeepPlacements.l0 kq t582 t583 t584 t586 t593 x14_2 t593 (t593.length : Int) x64_2 = some r) ∧ Aside0 (kq ≤ kj7) ∧ Aside0 (Kd.R Kd.string 9 w' w.heap.size (fun _ => True) (.slice Ao10 t583.length co10) t583) ∧ Aside0 (Kd.R (Kd.int .i64) 3 w' w.heap.size (fun k_ => some k_ ≠ ((.slice Ao25 t593.length co25) : Value).ownBlock ∧ some k_ ≠ (v606 : Value).ownBlock ∧ some k_ ≠ ((.slice Ao25 t593.length co25) : Value).ownBlock) (.slice Ao12 t586.length co12) t586) ∧ Aside0 (Kd.R (Kd.int .i64) 3 w' w.heap.size (fun k_ => some k_ ≠ ((.slice Ao12 t586.length co12) : Value).ownBlock ∧ some k_ ≠ (v606 : Value).ownBlock) (.slice Ao25 t593.length co25) t593) ∧ Aside0 (Kd.R (Kd.int .i64) 3 w' w.heap.size (fun k_ => some k_ ≠ ((.slice Ao12 t586.length co12) : Value).ownBlock ∧ some k_ ≠ ((.slice Ao25 t593.length co25) : Value).ownBlock ∧ some k_ ≠ ((.slice Ao25 t593.length co25) : Value).ownBlock) v606 x14_2) ∧ Aside0 (Kd.R (Kd.int .i64) 3 w' w.heap.size (fun k_ => some k_ ≠ ((.slice Ao12 t586.length co12) : Value).ownBlock ∧ some k_ ≠ (v606 : Value).ownBlock) (.slice Ao25 t593.length co25) t593) ∧ Aside0 (Below w.heap.size w w'))
       case atStart => exact ⟨(y605), (0), wZ, H', ⟨Nat.le_refl _⟩, ⟨Rz HO_6.out⟩, ⟨Rz (Kd.R_mono HO_9.out (fun _ hk => ⟨hk.1.2, ⟨hk.2, hk.1.2⟩⟩))⟩, ⟨Rz (Kd.R_mono HO_10.out (fun _ hk => ⟨hk.1.2, hk.2⟩))⟩, ⟨Rz (Kd.R_mono HO607.out (fun _ hk => ⟨hk.2.1, ⟨hk.2.2, hk.2.2⟩⟩))⟩, ⟨Rz (Kd.R_mono HO_10.out (fun _ hk => ⟨hk.1.2, hk.2⟩))⟩, ⟨Bz HB.out⟩⟩
       case round =>
        clear H'
        try clear c1
        try clear c2
        try clear p2
        try clear c4
        try clear c5
        try clear c11
        try clear c15
        try clear c15b0
        try clear c15b1
        try clear c15b2
        try clear c19
        try clear c20
        try clear c21
        try clear p2
        obtain ⟨x14_2, x64_2, rfl, HA, HK2, HO_6, HO_9, HO_10, HO_14, HO_62, HB⟩ := hrel; cases gk with
        | zero => exact absurd HA.out (by simp [laws_FnMovesKeepPlacements.l0])
        | succ k2 =>
         have H := HA.out; clear HA
         simp only [laws_FnMovesKeepPlacements.l0] at H
         by_cases c26 : x64_2 < (t593.length : Int)
         ·rw [if_pos c26] at H
          have c26b0 : decide (x64_2 < (t593.length : Int)) = true := decide_eq_true c26; clear c26
          by_cases c27 : 0 ≤ x64_2
          ·rw [if_pos c27] at H
           have c27b0 : decide (0 ≤ x64_2) = true := decide_eq_true c27; clear c27
           by_cases c28 : x64_2 < (t593.length : Int)
           ·rw [if_pos c28] at H
            have c28b0 : decide (x64_2 < (t593.length : Int)) = true := decide_eq_true c28; clear c28; have HC29 := am H; clear H; obtain ⟨ad609, e609, hx609_0⟩ := Kd.at_int (Kd.R_reads' HO_62.out).2.2 x64_2 dT dT; cases e609; have p609 := eT (0 ≤ (x64_2 : Int)); have q609 := eT (x64_2 < (t593.length : Int))
            go_upto_region 14 with (fail)
            go_cut [91] (fun v91 wc => ∃ (kq : Nat) (x91_28 : Bool), v91 = .bool x91_28 ∧ Aside0 (laws_FnMovesKeepPlacements.j2 kq t582 t583 t584 t586 t593 x14_2 (rd t593 x64_2) t593 (t593.length : Int) x64_2 x91_28 = some r) ∧ Aside0 (kq ≤ k2) ∧ Aside0 (Kd.R Kd.string 9 wc w.heap.size (fun _ => True) (.slice Ao10 t583.length co10) t583) ∧ Aside0 (Kd.R (Kd.int .i64) 3 wc w.heap.size (fun k_ => some k_ ≠ ((.slice (some ad609) t593.length co25) : Value).ownBlock ∧ some k_ ≠ (v606 : Value).ownBlock ∧ some k_ ≠ ((.slice (some ad609) t593.length co25) : Value).ownBlock) (.slice Ao12 t586.length co12) t586) ∧ Aside0 (Kd.R (Kd.int .i64) 3 wc w.heap.size (fun k_ => some k_ ≠ ((.slice Ao12 t586.length co12) : Value).ownBlock ∧ some k_ ≠ (v606 : Value).ownBlock) (.slice (some ad609) t593.length co25) t593) ∧ Aside0 (Kd.R (Kd.int .i64) 3 wc w.heap.size (fun k_ => some k_ ≠ ((.slice Ao12 t586.length co12) : Value).ownBlock ∧ some k_ ≠ ((.slice (some ad609) t593.length co25) : Value).ownBlock ∧ some k_ ≠ ((.slice (some ad609) t593.length co25) : Value).ownBlock) v606 x14_2) ∧ Aside0 (Kd.R (Kd.int .i64) 3 wc w.heap.size (fun k_ => some k_ ≠ ((.slice Ao12 t586.length co12) : Value).ownBlock ∧ some k_ ≠ (v606 : Value).ownBlock) (.slice (some ad609) t593.length co25) t593) ∧ Aside0 (Below w.heap.size w wc))
            case first =>
             have H := HC29.out; clear HC29
             by_cases c30 : (rd t593 x64_2) < 0
             ·rw [if_pos c30] at H
              have c30b0 : decide ((rd t593 x64_2) < 0) = true := decide_eq_true c30; clear c30
              (first | rw [c30b0] | (simp only [i64_w, i32_w]; rw [c30b0]) | skip)
              exact absurd (H.trans (congrArg some HQT_.out)) (laws_FnMovesKeepPlacements.j2.dead _ _ _ _ _ _ _ _ _ _ _)
             ·rw [if_neg c30] at H
              have c30b0 : decide ((rd t593 x64_2) < 0) = false := decide_eq_false c30; clear c30
              (first | rw [c30b0] | (simp only [i64_w, i32_w]; rw [c30b0]) | skip)
              by_cases c31 : (rd t593 x64_2) ≥ (x14_2.length : Int)
              ·rw [if_pos c31] at H
               have c31b0 : decide ((x14_2.length : Int) ≤ (rd t593 x64_2)) = true := decide_eq_true c31; clear c31; exact absurd (H.trans (congrArg some HQT_.out)) (laws_FnMovesKeepPlacements.j2.dead _ _ _ _ _ _ _ _ _ _ _)
              ·rw [if_neg c31] at H
               have c31b0 : decide ((x14_2.length : Int) ≤ (rd t593 x64_2)) = false := decide_eq_false c31; clear c31; have c32b0 := eq_true (dT : 0 ≤ x64_2)
               by_cases c33 : x64_2 ≤ (t593.length : Int)
               ·rw [if_pos c33] at H
                have c33b0 := eq_true c33; have c33b1 : decide (x64_2 ≤ (t593.length : Int)) = true := decide_eq_true c33; clear c33; obtain ⟨y610, hy610⟩ : ∃ y_ : List Int, y_ = (t593.take (x64_2 : Int).toNat) := ⟨_, rfl⟩
                replace H : ((laws_pHas.f k2 y610 (rd t593 x64_2)).bind fun t614 => (if t614 = true then (laws_FnMovesKeepPlacements.j2 k2 t582 t583 t584 t586 t593 x14_2 (rd t593 x64_2) t593 (t593.length : Int) x64_2 true) else (if 0 ≤ (rd t593 x64_2) then (if (rd t593 x64_2) < (t586.length : Int) then ((laws_pHas.f k2 x14_2 (rd t586 (rd t593 x64_2))).bind fun t616 => (laws_FnMovesKeepPlacements.j2 k2 t582 t583 t584 t586 t593 x14_2 (rd t593 x64_2) t593 (t593.length : Int) x64_2 t616)) else (none)) else (none)))) = some r := by first | (rw [hy610]; with_reducible exact H) | (have H2_ := (Option.bind_some _ _).symm.trans H; rw [hy610]; with_reducible exact H2_) | (have H2_ := (Option.bind_some _ _).symm.trans H; with_reducible exact H2_) | with_reducible exact H | (rw [hy610]; exact H) | exact H
                have Ny610 := am hy610; clear hy610; replace H := Option.bind_eq_some_iff.mp H; obtain ⟨t614, A340, H⟩ := H; (try dsimp -simprocs only at H); have A34 := am A340; clear A340
                by_cases c35 : t614 = true
                ·subst c35
                 rw [if_pos rfl] at H; exact absurd (H.trans (congrArg some HQT_.out)) (laws_FnMovesKeepPlacements.j2.dead _ _ _ _ _ _ _ _ _ _ _)
                ·replace c35 := Bool.eq_false_iff.mpr c35
                 subst c35
                 rw [if_neg (show ¬ (false = true) by decide)] at H
                 by_cases c36 : 0 ≤ (rd t593 x64_2)
                 ·rw [if_pos c36] at H
                  have c36b0 : decide (0 ≤ (rd t593 x64_2)) = true := decide_eq_true c36; clear c36
                  by_cases c37 : (rd t593 x64_2) < (t586.length : Int)
                  ·rw [if_pos c37] at H
                   have c37b0 : decide ((rd t593 x64_2) < (t586.length : Int)) = true := decide_eq_true c37; clear c37; replace H := Option.bind_eq_some_iff.mp H; obtain ⟨t616, A380, H⟩ := H; (try dsimp -simprocs only at H); have A38 := am A380; clear A380; have H' := am H; clear H; obtain ⟨Ao39, co39, eo39⟩ := Kd.R_slice HO_14.out; subst eo39; have q40 : (x64_2 : Int) ≤ ((t593.length : Int) : Int) := dT; obtain ⟨i040, hi040, _, hsz40, _⟩ := info_parts info3; have hroom40 : t593.length ≤ co25 := (Kd.R_reads' HO_10.out).2.1; have hC40 : Kd.C (Kd.int .i64) _ (some ad609) t593.length t593 := (Kd.R_reads' HO_10.out).2.2; have hcut40 := cut_to (P := Try.prog) 31 3 .i64 Try.underlying31 hi040 (some ad609) t593.length co25 x64_2 (dT) q40 hroom40; have hr40 := Kd.C_take (m := (x64_2 : Int).toNat) hC40 (by omega); have hy40 : y610.length = (x64_2 : Int).toNat := (by rw [Ny610.out, List.length_take]; omega); rw [← Ny610.out] at hr40; rw [← hy40] at hcut40; have HR613 := am hr40; have HC613 := am (show y610.length ≤ co25 from by omega); clear hr40 hC40 hroom40 hi040 hsz40; have KY40 := am hy40; clear hy40; have KL40 := am (show (x64_2 : Int).toNat ≤ t593.length from by omega); replace q40 := eq_true q40
                   go_wp2_with (first | (go_at_call 16; (with_reducible refine (laws_pHas.calls k2 _ _ y610 (rd t593 x64_2) false _ ?side1 ?side2 A34.out).mono ?_); (case side1 => repeat (first | exact (by repeat (first | (with_reducible exact HR613.out) | (with_reducible refine Kd.C_alloc ?_ _) | (with_reducible refine Kd.C_drewN ?_ _) | (with_reducible refine Kd.C_drew ?_) | exact HR613.out)) | (with_reducible refine Kd.C_alloc ?_ _) | (with_reducible refine Kd.C_drewN ?_ _) | (with_reducible refine Kd.C_drew ?_))); (case side2 => exact HC613.out); rintro e w' ⟨rfl, ⟨nd, rfl⟩⟩; obtain ⟨ad615, e615, hx615_0⟩ := Kd.at_int (Kd.R_reads' HO_9.out).2.2 (rd t593 x64_2) dT dT; cases e615; have p615 := eT (0 ≤ ((rd t593 x64_2) : Int)); have q615 := eT ((rd t593 x64_2) < (t586.length : Int))) | (go_at_call 16; (with_reducible refine (laws_pHas.calls k2 _ _ x14_2 (rd t586 (rd t593 x64_2)) t616 _ ?side1 ?side2 A38.out).mono ?_); (case side1 => exact Cz ((Kd.R_reads' HO_14.out).2.2)); (case side2 => exact (Kd.R_reads' HO_14.out).2.1); rintro e w' ⟨rfl, ⟨nd, rfl⟩⟩))
                   go_meet
                   case rel => exact ⟨_, (t616), wZ, H', ⟨by have := HJ7.out; have := HK2.out; first | omega | exact Nat.le_refl _⟩, ⟨Rz HO_6.out⟩, ⟨Rz HO_9.out⟩, ⟨Rz HO_10.out⟩, ⟨Rz HO_14.out⟩, ⟨Rz HO_62.out⟩, ⟨Bz HB.out⟩⟩
                  ·rw [if_neg c37] at H
                   exact absurd H (by simp)
                 ·rw [if_neg c36] at H
                  exact absurd H (by simp)
               ·rw [if_neg c33] at H
                exact absurd H (by simp)
            case rest =>
             clear HC29
             try clear c1
             try clear c2
             try clear p2
             try clear c3
             try clear c4
             try clear q4
             try clear c5
             try clear p6
             try clear q6
             try clear hx6
             try clear c11
             try clear c15
             try clear c15b0
             try clear c15b1
             try clear c15b2
             try clear c19
             try clear c20
             try clear c21
             try clear c26
             try clear c26b0
             try clear c27
             try clear c27b0
             try clear c28
             try clear c28b0
             try clear c29
             try clear c30
             try clear c30b0
             try clear c31
             try clear c31b0
             try clear c32
             try clear c32b0
             try clear c33
             try clear c33b0
             try clear c33b1
             try clear c35
             try clear c36
             try clear c36b0
             try clear c37
             try clear c37b0
             try clear q40
             try clear hx609_0
             try clear hx615_0
             try clear p2
             try clear p609
             try clear p615
             try clear q40
             try clear q609
             try clear q615
             obtain ⟨kq, x91_28, rfl, HA, HJ28, HO_6, HO_9, HO_10, HO_14, HO_62, HB⟩ := hcut; cases kq with
             | zero => exact absurd HA.out (by simp [laws_FnMovesKeepPlacements.j2])
             | succ kj28 =>
              have H := HA.out; clear HA
              simp only [laws_FnMovesKeepPlacements.j2] at H
              by_cases c41 : x91_28 = true
              ·subst c41
               rw [if_pos rfl] at H; exact absurd (Option.some.inj H) (by rw [HQT_.out]; decide)
              ·replace c41 := Bool.eq_false_iff.mpr c41
               subst c41
               rw [if_neg (show ¬ (false = true) by decide)] at H
               by_cases c42 : 0 ≤ (rd t593 x64_2)
               ·rw [if_pos c42] at H
                have c42b0 : decide (0 ≤ (rd t593 x64_2)) = true := decide_eq_true c42; clear c42
                by_cases c43 : (rd t593 x64_2) < (t586.length : Int)
                ·rw [if_pos c43] at H
                 have c43b0 : decide ((rd t593 x64_2) < (t586.length : Int)) = true := decide_eq_true c43; clear c43
                 by_cases c44 : (rd t593 x64_2) < (x14_2.length : Int)
                 ·rw [if_pos c44] at H
                  have c44b0 : decide ((rd t593 x64_2) < (x14_2.length : Int)) = true := decide_eq_true c44; clear c44; obtain ⟨y618, hy618⟩ : ∃ y_ : List Int, y_ = (x14_2.set ((rd t593 x64_2) : Int).toNat (rd t586 (rd t593 x64_2))) := ⟨_, rfl⟩
                  replace H : ((impl_IsPlacement.f kj28 t582 t583 t584 y618).bind fun bt619 => (if bt619.2 = true then (if bt619.1 = true then (laws_FnMovesKeepPlacements.l0 kj28 t582 t583 t584 t586 t593 y618 t593 (t593.length : Int) (wrap64 (x64_2 + 1))) else (some false)) else (some false))) = some r := by first | (rw [hy618]; with_reducible exact H) | (have H2_ := (Option.bind_some _ _).symm.trans H; rw [hy618]; with_reducible exact H2_) | (have H2_ := (Option.bind_some _ _).symm.trans H; with_reducible exact H2_) | with_reducible exact H | (rw [hy618]; exact H) | exact H
                  have Ny618 := am hy618; clear hy618; replace H := Option.bind_eq_some_iff.mp H; obtain ⟨⟨t619, t620⟩, A460, H⟩ := H; (try dsimp -simprocs only at H); have A46 := am A460; clear A460
                  by_cases c47 : t620 = true
                  ·subst c47
                   rw [if_pos rfl] at H
                   by_cases c48 : t619 = true
                   ·subst c48
                    rw [if_pos rfl] at H; have H' := am H; clear H; obtain ⟨ad617, e617, hx617_0⟩ := Kd.at_int (Kd.R_reads' HO_9.out).2.2 (rd t593 x64_2) dT dT; cases e617; have p617 := eT (0 ≤ ((rd t593 x64_2) : Int)); have q617 := eT ((rd t593 x64_2) < (t586.length : Int)); have p45 : 0 ≤ ((rd t593 x64_2) : Int) := dT; have q45 : ((rd t593 x64_2) : Int) < ((x14_2.length : Int) : Int) := dT; obtain ⟨go45, co45, eo45, gb45, gl45, cl45, HG45⟩ := Kd.R_form HO_14.out (by omega)
                    (first | cases eo45 | (injection eo45 with ea_ en_ ec_; (first | subst ea_ | (injection ea_ with ea_; subst ea_)); subst ec_; clear en_))
                    have GB45 := am gb45; have GG45 := am HG45; clear gb45 gl45 HG45; obtain ⟨hx45_0, hf45_0⟩ := Kd.R_celln 0 HO_14.out ((rd t593 x64_2) : Int) p45 q45; replace p45 := eq_true p45; replace q45 := eq_true q45; have HP49 := Kd.R_putg HO_14.out ((rd t593 x64_2) : Int) (rd t586 (rd t593 x64_2))
                    go_wp2_with (first | ((with_reducible refine gate_store (t := 3) (p := 98) rfl ?_); refine store_event (t := 3) (p := 98) (v := ?vo_w50) (w1 := (wc.setCell ⟨go45, ((rd t593 x64_2) : Int).toNat, none⟩ (.int .i64 (rd t586 (rd t593 x64_2))))) ?hg ?ho ?hn ?hr ?_; (case ho => rfl); (case hg => rfl); (case hn => rfl); (case hr => first | (go_simp; done) | (go_simp; rfl)); intro w50 hw; have hg : wc.grownBy w50 (some go45) := (by rw [hw]; exact HP49.2); have hp_ : Kd.R (Kd.int .i64) 3 w50 w.heap.size (fun k_ => some k_ ≠ (.slice (some ad617) t586.length co12 : Value).ownBlock ∧ some k_ ≠ (.slice (some ad609) t593.length co25 : Value).ownBlock ∧ some k_ ≠ (.slice (some ad609) t593.length co25 : Value).ownBlock) (.slice (some ⟨go45, 0, none⟩) x14_2.length co45) y618 := (by rw [hw, Ny618.out]; exact HP49.1); clear HP49; have n0_ := am (Kd.R_over' (v := (.slice (some ⟨go45, 0, none⟩) x14_2.length co45)) (Rz HO_6.out) (Kd.R_typed HO_14.out) (by decide) hg); have n1_ := am (Kd.R_after (v := (.slice (some ⟨go45, 0, none⟩) x14_2.length co45)) (v1 := (.slice (some ⟨go45, 0, none⟩) x14_2.length co45)) (ok := (fun k_ => some k_ ≠ (.slice (some ad609) t593.length co25 : Value).ownBlock ∧ some k_ ≠ (.slice (some ad609) t593.length co25 : Value).ownBlock)) (Rz (Kd.R_mono HO_9.out (fun _ hk => ⟨⟨hk.1, hk.2.2⟩, hk.2.1⟩))) hg (.inl rfl)); have n2_ := am (Kd.R_after (v := (.slice (some ⟨go45, 0, none⟩) x14_2.length co45)) (v1 := (.slice (some ⟨go45, 0, none⟩) x14_2.length co45)) (ok := (fun k_ => some k_ ≠ (.slice (some ad617) t586.length co12 : Value).ownBlock)) (Rz HO_10.out) hg (.inl rfl)); have n3_ := am (hp_); have n4_ := am (Kd.R_after (v := (.slice (some ⟨go45, 0, none⟩) x14_2.length co45)) (v1 := (.slice (some ⟨go45, 0, none⟩) x14_2.length co45)) (ok := (fun k_ => some k_ ≠ (.slice (some ad617) t586.length co12 : Value).ownBlock)) (Rz HO_62.out) hg (.inl rfl)); have n5_ := am ((by rw [hw]; exact below_set (HB.out) GB45.out : Below w.heap.size w w50)); clear HO_6 HO_9 HO_10 HO_14 HO_62 HB; revert n0_ n1_ n2_ n3_ n4_ n5_; intro HO_6 HO_9 HO_10 HO_14 HO_62 HB; clear hg hw hp_) | ((with_reducible refine gate_callee (f := 31) rfl ?_); refine goesL_ (some 104) rfl rfl Try.func31 (by kernel_rfl) rfl #[.int .i64 t582, .slice Ao10 t583.length co10, .int .i64 t584, .slice (some ⟨go45, 0, none⟩) y618.length co45] rfl (by (try simp only [List.map_toArray, List.map_cons, List.map_nil]); first | done | (rw [show y618.length = x14_2.length from (Kd.R_reads' HO_14.out).1.symm] <;> rfl) | rfl | (simp only [List.length_drop, List.length_take]; rfl)) ?_; (with_reducible refine (impl_IsPlacement.calls kj28 t582 _ _ t583 t584 _ _ y618 true true _ ?side1 ?side2 ?side3 ?side4 A46.out).mono ?_); (case side1 => exact Cz ((Kd.R_reads' HO_6.out).2.2)); (case side2 => exact (Kd.R_reads' HO_6.out).2.1); (case side3 => exact Cz ((Kd.R_reads' HO_14.out).2.2)); (case side4 => rw [show y618.length = x14_2.length from (Kd.R_reads' HO_14.out).1.symm]; exact (Kd.R_reads' HO_14.out).2.1); rintro e w51 ⟨rfl, hb⟩; refine ⟨_, rfl, ?_⟩; have n0_ := Rb HO_6 hb; have n1_ := Rb HO_9 hb; have n2_ := Rb HO_10 hb; have n3_ := Rb HO_14 hb; have n4_ := Rb HO_62 hb; have n5_ := Bb HB hb; clear HO_6 HO_9 HO_10 HO_14 HO_62 HB; revert n0_ n1_ n2_ n3_ n4_ n5_; intro HO_6 HO_9 HO_10 HO_14 HO_62 HB; (try clear hb); (try clear hb2); (try clear hk); (try clear hi)))
                    go_roundg kj28
                    case measure => have := HJ7.out; have := HK2.out; have := HJ28.out; omega
                    case rel => exact ⟨(y618), (wrap64 (x64_2 + 1)), wZ, H', ⟨by have := HJ7.out; have := HK2.out; have := HJ28.out; omega⟩, ⟨Rz HO_6.out⟩, ⟨Rz (Kd.R_mono HO_9.out (fun _ hk => ⟨hk.1.1, ⟨hk.2, hk.1.2⟩⟩))⟩, ⟨Rz HO_10.out⟩, ⟨Rz HO_14.out⟩, ⟨Rz HO_62.out⟩, ⟨Bz HB.out⟩⟩
                   ·replace c48 := Bool.eq_false_iff.mpr c48
                    subst c48
                    rw [if_neg (show ¬ (false = true) by decide)] at H; exact absurd (Option.some.inj H) (by rw [HQT_.out]; decide)
                  ·replace c47 := Bool.eq_false_iff.mpr c47
                   subst c47
                   rw [if_neg (show ¬ (false = true) by decide)] at H; exact absurd (Option.some.inj H) (by rw [HQT_.out]; decide)
                 ·rw [if_neg c44] at H
                  exact absurd H (by simp)
                ·rw [if_neg c43] at H
                 exact absurd H (by simp)
               ·rw [if_neg c42] at H
                exact absurd H (by simp)
           ·rw [if_neg c28] at H
            exact absurd H (by simp)
          ·rw [if_neg c27] at H
           exact absurd H (by simp)
         ·rw [if_neg c26] at H
          have c26b0 : decide (x64_2 < (t593.length : Int)) = false := decide_eq_false c26; clear c26; replace H := Option.bind_eq_some_iff.mp H; obtain ⟨t608, A520, H⟩ := H; (try dsimp -simprocs only at H); have A52 := am A520; clear A520; obtain rfl := Option.some.inj H; obtain ⟨Ao53, co53, eo53⟩ := Kd.R_slice HO_14.out; subst eo53
          go_wp2_with (first | ((with_reducible refine gate_callee (f := 30) rfl ?_); refine gL (some 116) Try.func30 #[.slice Ao53 x14_2.length co53, .slice Ao12 t586.length co12] ?_; (with_reducible refine (laws_pSameInts.calls k2 _ _ x14_2 _ _ t586 t608 _ ?side1 ?side2 ?side3 ?side4 A52.out).mono ?_); (case side1 => exact Cz ((Kd.R_reads' HO_14.out).2.2)); (case side2 => exact (Kd.R_reads' HO_14.out).2.1); (case side3 => exact Cz ((Kd.R_reads' HO_9.out).2.2)); (case side4 => exact (Kd.R_reads' HO_9.out).2.1); rintro e w' ⟨rfl, ⟨nd, rfl⟩⟩; refine ⟨_, rfl, ?_⟩))
          go_ret
          exact ⟨eZ, Bz HB.out⟩
      ·rw [if_neg c21] at H
       exact absurd H (by simp)
     ·replace c20 := Bool.eq_false_iff.mpr c20
      subst c20
      rw [if_neg (show ¬ (false = true) by decide)] at H; obtain rfl := Option.some.inj H
      go_wp2
      go_ret
      exact ⟨eZ, Bz HB.out⟩

def laws_FnMovesKeepPlacements.Pure : Prop := ∀ (l0 : List Int) (l1 : List Int), l0.length ≤ maxLen → l0.length * 1 ≤ 140737488351232 → (∀ x ∈ l0, (Lit.int .u8 x).wf = true) → l1.length ≤ maxLen → l1.length * 1 ≤ 140737488351232 → (∀ x ∈ l1, (Lit.int .u8 x).wf = true) → ∃ k, laws_FnMovesKeepPlacements.f k l0 l1 = some true
theorem laws_FnMovesKeepPlacements.walk (P : laws_FnMovesKeepPlacements.Pure) (a0 : Option Addr) (len0 cap0 : Nat) (z0 : List Int) (a1 : Option Addr) (len1 cap1 : Nat) (z1 : List Int) (w : World) (w0 : (a0 = none ∧ len0 = 0 ∧ cap0 = 0 ∧ z0 = []) ∨ ∃ x, a0 = some x ∧ len0 ≤ cap0 ∧ cap0 ≤ maxLen ∧ z0.length = cap0 ∧ (∀ i, i < z0.length → w.cell? (x.add i) = some (.int .u8 (z0.getD i 0))) ∧ ∀ n ∈ z0, (Lit.int .u8 n).wf = true) (y0 : len0 * 1 ≤ 140737488351232) (w1 : (a1 = none ∧ len1 = 0 ∧ cap1 = 0 ∧ z1 = []) ∨ ∃ x, a1 = some x ∧ len1 ≤ cap1 ∧ cap1 ≤ maxLen ∧ z1.length = cap1 ∧ (∀ i, i < z1.length → w.cell? (x.add i) = some (.int .u8 (z1.getD i 0))) ∧ ∀ n ∈ z1, (Lit.int .u8 n).wf = true) (y1 : len1 * 1 ≤ 140737488351232) :
  Calls Try.prog 5 #[.slice a0 len0 cap0, .slice a1 len1 cap1] w fun e w' => e = .returned (.bool true) ∧ Below w.heap.size w w' := by
 obtain ⟨l0, rfl, hr0, hm0, hw0, hc0⟩ := ReadsInt.ofRowC w0; obtain ⟨l1, rfl, hr1, hm1, hw1, hc1⟩ := ReadsInt.ofRowC w1; obtain ⟨k, h⟩ := P l0 l1 hm0 y0 hw0 hm1 y1 hw1; refine (laws_FnMovesKeepPlacements.calls k _ _ l0 _ _ l1 true w (Kd.C_of_reads (d := (0 : Int)) (h1 := fun _ => rfl) hr0) hc0 (Kd.C_of_reads (d := (0 : Int)) (h1 := fun _ => rfl) hr1) hc1 h rfl).mono ?_; rintro e w' ⟨rfl, hd⟩; exact ⟨rfl, hd⟩

end Go.Proofs.Ytephjmmkggcmeaa.PM
namespace Go.Proofs.YtephjmmkggcmeaaQ
open Go Go.RowKit Go.Proofs.YtephjmmkggcmeaaW.PrintWords Go.Proofs.YtephjmmkggcmeaaGp

theorem ev_succ {α : Type} {g : Nat → Option α} {r : α} (h : Ev (fun k => g (k + 1)) r) : Ev g r := Ev.step (f := fun k => g (k + 1)) (fun _ => rfl) h
theorem ev_some {α : Type} {a r : α} (h : a = r) : Ev (fun _ => some a) r := h ▸ Ev.now a
theorem ev_pos {α : Type} {c : Prop} [Decidable c] {f g : Nat → Option α} {r : α} (h : c) (k : Ev f r) : Ev (fun n => if c then f n else g n) r := by simpa only [if_pos h] using k
theorem ev_neg {α : Type} {c : Prop} [Decidable c] {f g : Nat → Option α} {r : α} (h : ¬ c) (k : Ev g r) : Ev (fun n => if c then f n else g n) r := by simpa only [if_neg h] using k
theorem ev_bind {α β : Type} {g : Nat → Option α} {f : Nat → α → Option β} {r : β} (a : α) (h : Ev g a) (k : Ev (fun n => f n a) r) : Ev (fun n => (g n).bind (f n)) r := Ev.bind h k
theorem w64 {x : Int} (h0 : -9223372036854775808 ≤ x) (h1 : x ≤ 9223372036854775807) : wrap64 x = x := by unfold wrap64; omega
theorem winc {i : Nat} (h : (i : Int) < 9223372036854775807) : wrap64 ((i : Int) + 1) = ((i + 1 : Nat) : Int) := by unfold wrap64; omega
theorem wdec {i : Nat} (h : (i : Int) < 9223372036854775807) : wrap64 (((i + 1 : Nat) : Int) - 1) = (i : Int) := by unfold wrap64; omega
theorem maxLen_eq : maxLen = 9223372036854775807 := by unfold maxLen; rfl
section
variable {α : Type} {d : α} {pre t : List α} {s : α}
theorem rdOf_mid : rdOf d (pre ++ s :: t) ((pre.length : Nat) : Int) = s := by simp [rdOf]
theorem rdOf_last {p : α} : rdOf d ((pre ++ [p]) ++ s :: t) ((pre.length : Nat) : Int) = p := by simp [rdOf]
theorem lt_mid : ((pre.length : Nat) : Int) < ((pre ++ s :: t).length : Int) := by simp; omega
theorem not_lt_end : ¬ ((pre.length : Nat) : Int) < ((pre ++ ([] : List α)).length : Int) := by simp
theorem len_one : ((pre ++ [s]).length : Int) = ((pre.length + 1 : Nat) : Int) := by simp
end
theorem rd_mid {pre t : List Int} {s : Int} : rd (pre ++ s :: t) ((pre.length : Nat) : Int) = s := by simp [rd]
theorem rd_get {xs : List Int} {i : Nat} (h : i < xs.length) : rd xs (i : Int) = xs[i] := by simp [rd, h]

theorem tl (s : ByteArray) : s.toList = s.data.toList := Lib.toList_data s
theorem tl_inj {x y : ByteArray} : x.toList = y.toList ↔ x = y := by
  rw [tl, tl]
  exact ⟨fun h => ByteArray.ext (Array.toList_inj.1 h), fun h => h ▸ rfl⟩
theorem size_len (s : ByteArray) : s.size = s.data.toList.length := (data_length s).symm
theorem bt_mid {s : ByteArray} {pre t : List UInt8} {c : UInt8} (h : s.data.toList = pre ++ c :: t) : bt s ((pre.length : Nat) : Int) = (c.toNat : Int) := by
  have hs : pre.length < s.size := by rw [size_len, h]; simp
  have hg : s[pre.length]'hs = c := by
    have : s.data.toList[pre.length]'(by rw [h]; simp) = c := by simp [h]
    rw [← this]; rfl
  unfold bt
  rw [dif_pos (by simpa using hs)]
  simp only [Int.toNat_natCast, hg]
theorem lt_size {s : ByteArray} {pre t : List UInt8} {c : UInt8} (h : s.data.toList = pre ++ c :: t) : ((pre.length : Nat) : Int) < (s.size : Int) := by rw [size_len, h]; simp; omega
theorem not_lt_size {s : ByteArray} {pre : List UInt8} (h : s.data.toList = pre ++ []) : ¬ ((pre.length : Nat) : Int) < (s.size : Int) := by rw [size_len, h]; simp
def lessS (a b : ByteArray) : Bool := Op.bytesLess a.toList b.toList
end Go.Proofs.YtephjmmkggcmeaaQ
namespace Go.Proofs.YtephjmmkggcmeaaQ
open Go Go.RowKit Go.Proofs.YtephjmmkggcmeaaW.PrintWords Go.Proofs.YtephjmmkggcmeaaGp Go.Proofs.Ytephjmmkggcmeaa.PM

theorem spec_in (n a b : Int) : spec_l1In.f n a b = some (decide (a ≤ n ∧ n ≤ b)) := by
  unfold spec_l1In.f
  by_cases h : a ≤ n <;> by_cases h' : n ≤ b <;> simp [h, h']
theorem impl_in (n a b : Int) : impl_in.f n a b = some (decide (a ≤ n ∧ n ≤ b)) := by
  unfold impl_in.f
  by_cases h : a ≤ n <;> by_cases h' : n ≤ b <;> simp [h, h']

def byteOk (c : UInt8) : Bool := decide (33 ≤ (c.toNat : Int) ∧ (c.toNat : Int) ≤ 125)
def isKeyB (s : ByteArray) : Bool := s.data.toList.all byteOk && decide (1 ≤ (s.size : Int) ∧ (s.size : Int) ≤ 12)
theorem spec_IsKey_l0 (x0 : ByteArray) (hz : (x0.size : Int) ≤ 9223372036854775806) : ∀ (t pre : List UInt8), x0.data.toList = pre ++ t →
    Ev (fun k => spec_IsKey.l0 k x0 (pre.length : Int)) (t.all byteOk && decide (1 ≤ (x0.size : Int) ∧ (x0.size : Int) ≤ 12)) := by
  intro t
  induction t with
  | nil =>
    intro pre h
    refine ev_succ ?_
    simp only [spec_IsKey.l0, spec_in, Option.bind_some]
    exact ev_neg (not_lt_size h) (ev_some (by simp))
  | cons c t ih =>
    intro pre h
    have hm := lt_size h
    refine ev_succ ?_
    simp only [spec_IsKey.l0, bt_mid h]
    refine ev_pos hm (ev_pos (by omega) ?_)
    by_cases c1 : (c.toNat : Int) < 33
    · exact ev_pos c1 (ev_some (by simp [byteOk]; omega))
    · refine ev_neg c1 ?_
      by_cases c2 : (c.toNat : Int) > 125
      · exact ev_pos c2 (ev_some (by simp [byteOk]; omega))
      · refine ev_neg c2 ?_
        rw [winc (by omega)]
        have := ih (pre ++ [c]) (by rw [h]; simp)
        rw [len_one] at this
        have hb : byteOk c = true := by simp [byteOk]; omega
        simpa [hb] using this
theorem spec_IsKey_f (s : ByteArray) (hz : (s.size : Int) ≤ 9223372036854775806) : Ev (fun k => spec_IsKey.f k s) (isKeyB s) := by
  unfold spec_IsKey.f
  exact spec_IsKey_l0 s hz s.data.toList [] rfl
theorem impl_IsKey_l0 (x0 : ByteArray) (hz : (x0.size : Int) ≤ 9223372036854775806) : ∀ (t pre : List UInt8), x0.data.toList = pre ++ t →
    Ev (fun k => impl_IsKey.l0 k x0 (x0.size : Int) (pre.length : Int)) (t.all byteOk && decide (1 ≤ (x0.size : Int) ∧ (x0.size : Int) ≤ 12)) := by
  intro t
  induction t with
  | nil =>
    intro pre h
    refine ev_succ ?_
    simp only [impl_IsKey.l0, impl_in, Option.bind_some]
    exact ev_neg (not_lt_size h) (ev_some (by simp))
  | cons c t ih =>
    intro pre h
    have hm := lt_size h
    refine ev_succ ?_
    simp only [impl_IsKey.l0, bt_mid h]
    refine ev_pos hm (ev_pos (by omega) (ev_pos hm ?_))
    by_cases c1 : (c.toNat : Int) < 33
    · exact ev_pos c1 (ev_some (by simp [byteOk]; omega))
    · refine ev_neg c1 ?_
      by_cases c2 : (c.toNat : Int) > 125
      · exact ev_pos c2 (ev_some (by simp [byteOk]; omega))
      · refine ev_neg c2 ?_
        rw [winc (by omega)]
        have := ih (pre ++ [c]) (by rw [h]; simp)
        rw [len_one] at this
        have hb : byteOk c = true := by simp [byteOk]; omega
        simpa [hb] using this
theorem impl_IsKey_f (s : ByteArray) (hz : (s.size : Int) ≤ 9223372036854775806) : Ev (fun k => impl_IsKey.f k s) (isKeyB s) := by
  unfold impl_IsKey.f
  exact impl_IsKey_l0 s hz s.data.toList [] rfl
theorem isKeyB_size {s : ByteArray} (h : isKeyB s = true) : 1 ≤ s.size ∧ s.size ≤ 12 := by
  simp [isKeyB] at h
  omega

def keysFrom : Option ByteArray → List ByteArray → Bool
  | _, [] => true
  | p, s :: t => isKeyB s && (match p with | none => true | some q => lessS q s) && keysFrom (some s) t
def areKeysB (l : List ByteArray) : Bool := keysFrom none l && decide ((l.length : Int) ≤ 40)
def lastOf (pre : List ByteArray) : Option ByteArray := pre.getLast?
theorem lastOf_one (pre : List ByteArray) (s : ByteArray) : lastOf (pre ++ [s]) = some s := by simp [lastOf]
theorem lastOf_nil : lastOf [] = none := rfl
theorem last_split {pre : List ByteArray} (h : 0 < pre.length) : ∃ q p, pre = q ++ [p] := by
  obtain ⟨x, hx⟩ : ∃ x, pre.getLast? = some x := by
    cases hp : pre.getLast? with
    | none => rw [List.getLast?_eq_none_iff] at hp; subst hp; simp at h
    | some x => exact ⟨x, rfl⟩
  obtain ⟨q, hq⟩ := List.getLast?_eq_some_iff.1 hx
  exact ⟨q, x, hq⟩

theorem spec_biKeys_l0 (x0 : List ByteArray) (hl : (x0.length : Int) ≤ 9223372036854775806) : ∀ (t pre : List ByteArray), x0 = pre ++ t → (∀ s ∈ t, (s.size : Int) ≤ 9223372036854775806) →
    Ev (fun k => spec_biKeys.l0 k x0 x0 (x0.length : Int) (pre.length : Int)) (keysFrom (lastOf pre) t && decide ((x0.length : Int) ≤ 40)) := by
  intro t
  induction t with
  | nil =>
    intro pre h hs
    refine ev_succ ?_
    simp only [spec_biKeys.l0]
    exact ev_neg (by rw [h]; exact not_lt_end) (ev_some (by simp [keysFrom]))
  | cons s t ih =>
    intro pre h hs
    have hm : ((pre.length : Nat) : Int) < (x0.length : Int) := by rw [h]; exact lt_mid
    have hg : rdOf ByteArray.empty x0 (pre.length : Int) = s := by rw [h]; exact rdOf_mid
    have next := ih (pre ++ [s]) (by rw [h]; simp) (fun x hx => hs x (by simp [hx]))
    rw [len_one, lastOf_one] at next
    refine ev_succ ?_
    simp only [spec_biKeys.l0, hg]
    refine ev_pos hm (ev_pos (by omega) (ev_pos hm (ev_bind _ (spec_IsKey_f s (hs s (by simp))) ?_)))
    cases hk : isKeyB s with
    | false => exact ev_neg (by simp) (ev_some (by simp [keysFrom, hk]))
    | true =>
      refine ev_pos rfl ?_
      by_cases c : 0 < pre.length
      · obtain ⟨q, p, rfl⟩ := last_split c
        have hp : rdOf ByteArray.empty x0 ((q.length : Nat) : Int) = p := by rw [h]; exact rdOf_last
        have hw : wrap64 (((q ++ [p]).length : Int) - 1) = (q.length : Int) := by rw [len_one]; exact wdec (by simp at hm; omega)
        simp only [hw, hp, lastOf_one, keysFrom, hk, Bool.true_and]
        refine ev_pos (by omega) (ev_pos (by omega) (ev_pos (by simp at hm; omega) ?_))
        by_cases c2 : lessS p s = true
        · refine ev_pos c2 ?_
          rw [winc (by omega), c2, Bool.true_and]
          exact next
        · refine ev_neg c2 (ev_some ?_)
          simp only [Bool.not_eq_true] at c2
          simp [c2]
      · obtain rfl := List.length_eq_zero_iff.1 (show pre.length = 0 by omega)
        refine ev_neg (by simp) ?_
        rw [winc (by omega)]
        simp only [lastOf_nil, keysFrom, hk, Bool.true_and]
        exact next
theorem spec_biKeys_f (l : List ByteArray) (hl : (l.length : Int) ≤ 9223372036854775806) (hs : ∀ s ∈ l, (s.size : Int) ≤ 9223372036854775806) : Ev (fun k => spec_biKeys.f k l) (areKeysB l) := by
  unfold spec_biKeys.f
  exact spec_biKeys_l0 l hl l [] rfl hs
theorem impl_AreKeys_l0 (x0 : List ByteArray) (hl : (x0.length : Int) ≤ 9223372036854775806) : ∀ (t pre : List ByteArray), x0 = pre ++ t → (∀ s ∈ t, (s.size : Int) ≤ 9223372036854775806) →
    Ev (fun k => impl_AreKeys.l0 k x0 x0 (x0.length : Int) (pre.length : Int)) (keysFrom (lastOf pre) t && decide ((x0.length : Int) ≤ 40)) := by
  intro t
  induction t with
  | nil =>
    intro pre h hs
    refine ev_succ ?_
    simp only [impl_AreKeys.l0]
    exact ev_neg (by rw [h]; exact not_lt_end) (ev_some (by simp [keysFrom]))
  | cons s t ih =>
    intro pre h hs
    have hm : ((pre.length : Nat) : Int) < (x0.length : Int) := by rw [h]; exact lt_mid
    have hg : rdOf ByteArray.empty x0 (pre.length : Int) = s := by rw [h]; exact rdOf_mid
    have next := ih (pre ++ [s]) (by rw [h]; simp) (fun x hx => hs x (by simp [hx]))
    rw [len_one, lastOf_one] at next
    refine ev_succ ?_
    simp only [impl_AreKeys.l0, hg]
    refine ev_pos hm (ev_pos (by omega) (ev_pos hm (ev_bind _ (impl_IsKey_f s (hs s (by simp))) ?_)))
    cases hk : isKeyB s with
    | false => exact ev_neg (by simp) (ev_some (by simp [keysFrom, hk]))
    | true =>
      refine ev_pos rfl ?_
      by_cases c : 0 < pre.length
      · obtain ⟨q, p, rfl⟩ := last_split c
        have hp : rdOf ByteArray.empty x0 ((q.length : Nat) : Int) = p := by rw [h]; exact rdOf_last
        have hw : wrap64 (((q ++ [p]).length : Int) - 1) = (q.length : Int) := by rw [len_one]; exact wdec (by simp at hm; omega)
        simp only [hw, hp, lastOf_one, keysFrom, hk, Bool.true_and]
        refine ev_pos (by omega) (ev_pos (by omega) (ev_pos (by simp at hm; omega) ?_))
        by_cases c2 : lessS p s = true
        · refine ev_pos c2 ?_
          rw [winc (by omega), c2, Bool.true_and]
          exact next
        · refine ev_neg c2 (ev_some ?_)
          simp only [Bool.not_eq_true] at c2
          simp [c2]
      · obtain rfl := List.length_eq_zero_iff.1 (show pre.length = 0 by omega)
        refine ev_neg (by simp) ?_
        rw [winc (by omega)]
        simp only [lastOf_nil, keysFrom, hk, Bool.true_and]
        exact next
theorem impl_AreKeys_f (l : List ByteArray) (hl : (l.length : Int) ≤ 9223372036854775806) (hs : ∀ s ∈ l, (s.size : Int) ≤ 9223372036854775806) : Ev (fun k => impl_AreKeys.f k l) (areKeysB l) := by
  unfold impl_AreKeys.f
  exact impl_AreKeys_l0 l hl l [] rfl hs
theorem areKeysB_len {l : List ByteArray} (h : areKeysB l = true) : l.length ≤ 40 := by
  simp [areKeysB] at h
  omega
theorem keysFrom_all : ∀ (p : Option ByteArray) (l : List ByteArray), keysFrom p l = true → ∀ s ∈ l, isKeyB s = true
  | _, [], _, s, h => by simp at h
  | p, x :: t, hk, s, h => by
    simp only [keysFrom, Bool.and_eq_true] at hk
    rcases List.mem_cons.1 h with rfl | h
    · exact hk.1.1
    · exact keysFrom_all _ t hk.2 s h
theorem areKeysB_all {l : List ByteArray} (h : areKeysB l = true) : ∀ s ∈ l, isKeyB s = true := by
  simp only [areKeysB, Bool.and_eq_true] at h
  exact keysFrom_all _ _ h.1
end Go.Proofs.YtephjmmkggcmeaaQ
namespace Go.Proofs.YtephjmmkggcmeaaQ
open Go Go.RowKit Go.Proofs.YtephjmmkggcmeaaW.PrintWords Go.Proofs.YtephjmmkggcmeaaGp Go.Proofs.Ytephjmmkggcmeaa.PM

def mm (x y : Int) : Int := Int.tmod (wrap64 (x * y)) 65521
theorem mul_range {x y : Int} (hx : 0 ≤ x) (hx1 : x ≤ 65520) (hy : 0 ≤ y) (hy1 : y ≤ 65520) : 0 ≤ x * y ∧ x * y ≤ 4292870400 :=
  ⟨Int.mul_nonneg hx hy, by have := Int.mul_le_mul hx1 hy1 hy (by omega); omega⟩
theorem emod_range (x : Int) : 0 ≤ x % 65521 ∧ x % 65521 ≤ 65520 := by omega
theorem mm_eq {x y : Int} (hx : 0 ≤ x) (hx1 : x ≤ 65520) (hy : 0 ≤ y) (hy1 : y ≤ 65520) : mm x y = x * y % 65521 := by
  obtain ⟨h0, h1⟩ := mul_range hx hx1 hy hy1
  unfold mm
  rw [w64 (by omega) (by omega)]
  exact Int.tmod_eq_emod_of_nonneg h0
theorem mm_mod (a b : Int) : mm (a % 65521) (b % 65521) = a * b % 65521 := by
  rw [mm_eq (emod_range a).1 (emod_range a).2 (emod_range b).1 (emod_range b).2]
  exact (Int.mul_emod a b 65521).symm
def pw (h : Int) : Nat → Int
  | 0 => 1
  | n + 1 => pw h n * h
theorem self_mod {h : Int} (h0 : 0 ≤ h) (h1 : h ≤ 65520) : h = h % 65521 := by omega
theorem mm11 {h : Int} (h0 : 0 ≤ h) (h1 : h ≤ 65520) : mm (mm (mm (mm (mm h h) (mm h h)) h) (mm (mm (mm h h) (mm h h)) h)) h = pw h 11 % 65521 := by
  have e := self_mod h0 h1
  have a2 : mm h h = h * h % 65521 := mm_eq h0 h1 h0 h1
  have a4 : mm (mm h h) (mm h h) = (h * h) * (h * h) % 65521 := by rw [a2, mm_mod]
  have a5 : mm (mm (mm h h) (mm h h)) h = (h * h) * (h * h) * h % 65521 := by
    rw [a4]; conv => lhs; arg 2; rw [e]
    rw [mm_mod]
  rw [a5, mm_mod]
  conv => lhs; arg 2; rw [e]
  rw [mm_mod]
  congr 1
  simp only [pw, Int.one_mul, Int.mul_assoc]
theorem mm_pw {h : Int} (h0 : 0 ≤ h) (h1 : h ≤ 65520) (n : Nat) : mm (pw h n % 65521) h = pw h (n + 1) % 65521 := by
  conv => lhs; arg 2; rw [self_mod h0 h1]
  rw [mm_mod]
  rfl

def hstep (h : Int) (c : UInt8) : Int := Int.tmod (wrap64 ((wrap64 (263 * h)) + (wrap64 (c.toNat : Int)))) 65521
def hfold (h : Int) (l : List UInt8) : Int := l.foldl hstep h
theorem hstep_range {h : Int} {c : UInt8} (h0 : 0 ≤ h) (h1 : h ≤ 65520) : 0 ≤ hstep h c ∧ hstep h c ≤ 65520 := by
  have hc : c.toNat < 256 := c.toNat_lt
  unfold hstep
  rw [w64 (x := 263 * h) (by omega) (by omega), w64 (x := (c.toNat : Int)) (by omega) (by omega), w64 (by omega) (by omega), Int.tmod_eq_emod_of_nonneg (by omega)]
  omega
def hstart (a0 a1 : Int) : Int := Int.tmod (wrap64 ((wrap64 ((wrap64 (31 * a0)) + (wrap64 (977 * a1)))) + 7)) 65521
theorem hstart_range {a0 a1 : Int} (h0 : 0 ≤ a0) (h0' : a0 ≤ 1000000) (h1 : 0 ≤ a1) (h1' : a1 ≤ 1000000) : 0 ≤ hstart a0 a1 ∧ hstart a0 a1 ≤ 65520 := by
  unfold hstart
  rw [w64 (x := 31 * a0) (by omega) (by omega), w64 (x := 977 * a1) (by omega) (by omega), w64 (x := 31 * a0 + 977 * a1) (by omega) (by omega), w64 (by omega) (by omega), Int.tmod_eq_emod_of_nonneg (by omega)]
  omega
def hashV (a0 a1 : Int) (s : ByteArray) : Int := pw (hfold (hstart a0 a1) s.data.toList) 11 % 65521
theorem hashV_range (a0 a1 : Int) (s : ByteArray) : 0 ≤ hashV a0 a1 s ∧ hashV a0 a1 s ≤ 65520 := emod_range _
theorem spec_biHash_l0 (x2 : ByteArray) (hz : (x2.size : Int) ≤ 9223372036854775806) : ∀ (t pre : List UInt8) (h : Int), x2.data.toList = pre ++ t → 0 ≤ h → h ≤ 65520 →
    Ev (fun k => spec_biHash.l0 k x2 h (pre.length : Int)) (pw (hfold h t) 11 % 65521) := by
  intro t
  induction t with
  | nil =>
    intro pre h e h0 h1
    refine ev_succ ?_
    simp only [spec_biHash.l0]
    refine ev_neg (not_lt_size e) (ev_some ?_)
    exact mm11 h0 h1
  | cons c t ih =>
    intro pre h e h0 h1
    have hm := lt_size e
    refine ev_succ ?_
    simp only [spec_biHash.l0, bt_mid e]
    refine ev_pos hm (ev_pos (by omega) ?_)
    rw [winc (by omega)]
    have := ih (pre ++ [c]) (hstep h c) (by rw [e]; simp) (hstep_range h0 h1).1 (hstep_range h0 h1).2
    rw [len_one] at this
    exact this
theorem spec_biHash_f (a0 a1 : Int) (s : ByteArray) (hz : (s.size : Int) ≤ 9223372036854775806) (h0 : 0 ≤ a0) (h0' : a0 ≤ 1000000) (h1 : 0 ≤ a1) (h1' : a1 ≤ 1000000) :
    Ev (fun k => spec_biHash.f k a0 a1 s) (hashV a0 a1 s) := by
  unfold spec_biHash.f
  exact spec_biHash_l0 s hz s.data.toList [] _ rfl (hstart_range h0 h0' h1 h1').1 (hstart_range h0 h0' h1 h1').2
theorem impl_hash_l1 {h : Int} (h0 : 0 ≤ h) (h1 : h ≤ 65520) : ∀ (m i : Nat), i + m = 11 → Ev (fun k => impl_hash.l1 k h (pw h i % 65521) (i : Int)) (pw h 11 % 65521) := by
  intro m
  induction m with
  | zero =>
    intro i e
    obtain rfl : i = 11 := by omega
    refine ev_succ ?_
    simp only [impl_hash.l1]
    exact ev_neg (by omega) (ev_some rfl)
  | succ m ih =>
    intro i e
    refine ev_succ ?_
    simp only [impl_hash.l1]
    refine ev_pos (by omega) ?_
    rw [winc (by omega)]
    have := ih (i + 1) (by omega)
    rw [← mm_pw h0 h1 i] at this
    exact this
theorem impl_hash_l0 (x2 : ByteArray) (hz : (x2.size : Int) ≤ 9223372036854775806) : ∀ (t pre : List UInt8) (h : Int), x2.data.toList = pre ++ t → 0 ≤ h → h ≤ 65520 →
    Ev (fun k => impl_hash.l0 k x2 h (x2.size : Int) (pre.length : Int)) (pw (hfold h t) 11 % 65521) := by
  intro t
  induction t with
  | nil =>
    intro pre h e h0 h1
    refine ev_succ ?_
    simp only [impl_hash.l0]
    exact ev_neg (not_lt_size e) (impl_hash_l1 h0 h1 11 0 rfl)
  | cons c t ih =>
    intro pre h e h0 h1
    have hm := lt_size e
    refine ev_succ ?_
    simp only [impl_hash.l0, bt_mid e]
    refine ev_pos hm (ev_pos (by omega) (ev_pos hm ?_))
    rw [winc (by omega)]
    have := ih (pre ++ [c]) (hstep h c) (by rw [e]; simp) (hstep_range h0 h1).1 (hstep_range h0 h1).2
    rw [len_one] at this
    exact this
theorem impl_hash_f (a0 a1 : Int) (s : ByteArray) (hz : (s.size : Int) ≤ 9223372036854775806) (h0 : 0 ≤ a0) (h0' : a0 ≤ 1000000) (h1 : 0 ≤ a1) (h1' : a1 ≤ 1000000) :
    Ev (fun k => impl_hash.f k a0 a1 s) (hashV a0 a1 s) := by
  unfold impl_hash.f
  exact impl_hash_l0 s hz s.data.toList [] _ rfl (hstart_range h0 h0' h1 h1').1 (hstart_range h0 h0' h1 h1').2

def placeV (a0 a1 : Int) (s : ByteArray) (n : Int) : Int := wrap64 (Int.tdiv (wrap64 (hashV a0 a1 s * n)) 65521)
theorem placeV_range (a0 a1 : Int) (s : ByteArray) {n : Int} (h0 : 1 ≤ n) (h1 : n ≤ 1000000) : 0 ≤ placeV a0 a1 s n ∧ placeV a0 a1 s n < n := by
  obtain ⟨a, b⟩ := hashV_range a0 a1 s
  have c := Int.mul_nonneg a (show (0 : Int) ≤ n by omega)
  have d := Int.mul_le_mul_of_nonneg_right b (show (0 : Int) ≤ n by omega)
  unfold placeV
  generalize hashV a0 a1 s * n = y at *
  rw [w64 (x := y) (by omega) (by omega), Int.tdiv_eq_ediv_of_nonneg (by omega), w64 (by omega) (by omega)]
  omega
theorem spec_biPlace_f (a0 a1 : Int) (s : ByteArray) (n : Int) (hz : (s.size : Int) ≤ 9223372036854775806) (h0 : 0 ≤ a0) (h0' : a0 ≤ 1000000) (h1 : 0 ≤ a1) (h1' : a1 ≤ 1000000) :
    Ev (fun k => spec_biPlace.f k a0 a1 s n) (placeV a0 a1 s n) := by
  unfold spec_biPlace.f
  exact ev_bind _ (spec_biHash_f a0 a1 s hz h0 h0' h1 h1') (Ev.now _)
theorem impl_place_f (a0 a1 : Int) (s : ByteArray) (n : Int) (hz : (s.size : Int) ≤ 9223372036854775806) (h0 : 0 ≤ a0) (h0' : a0 ≤ 1000000) (h1 : 0 ≤ a1) (h1' : a1 ≤ 1000000) :
    Ev (fun k => impl_place.f k a0 a1 s n) (placeV a0 a1 s n) := by
  unfold impl_place.f
  exact ev_bind _ (impl_hash_f a0 a1 s hz h0 h0' h1 h1') (Ev.now _)
end Go.Proofs.YtephjmmkggcmeaaQ
namespace Go.Proofs.YtephjmmkggcmeaaQ
open Go Go.RowKit Go.Proofs.YtephjmmkggcmeaaW.PrintWords Go.Proofs.YtephjmmkggcmeaaGp Go.Proofs.Ytephjmmkggcmeaa.PM

structure Bys (s : List Int) : Prop where
  len : (s.length : Int) ≤ 1048576
  all : ∀ x ∈ s, 0 ≤ x ∧ x ≤ 255
theorem and255 (x : Int) : 0 ≤ Go.bits .and .u64 x 255 ∧ Go.bits .and .u64 x 255 ≤ 255 := by
  have e : Go.bits .and .u64 x 255 = IntKind.u64.wrap (((BitVec.ofInt 64 x &&& BitVec.ofInt 64 255 : BitVec 64)).toNat : Int) := by unfold Go.bits; rfl
  have h : ((BitVec.ofInt 64 x &&& BitVec.ofInt 64 255 : BitVec 64)).toNat ≤ 255 := by
    rw [BitVec.toNat_and]
    exact Nat.and_le_right
  rw [e]
  unfold IntKind.wrap
  simp only [IntKind.bits, IntKind.signed]
  generalize (BitVec.ofInt 64 x &&& BitVec.ofInt 64 255 : BitVec 64).toNat = m at h
  simp
  omega
theorem rd_by {s : List Int} (hs : Bys s) (i : Int) : 0 ≤ rd s i ∧ rd s i ≤ 255 := by
  unfold rd
  by_cases c : i.toNat < s.length
  · rw [List.getD_eq_getElem?_getD, List.getElem?_eq_getElem c]
    exact hs.all _ (List.getElem_mem c)
  · rw [List.getD_eq_getElem?_getD, List.getElem?_eq_none (by omega)]
    simp
theorem next_ok {s : List Int} (hs : Bys s) {p : Int} (sd : Int) (h0 : 0 ≤ p) (h1 : p ≤ 4000000000000000000) :
    ∃ v p' sd', spec_l1Cur_next.f s p sd = some (v, p', sd') ∧ (0 ≤ v ∧ v ≤ 255) ∧ 0 ≤ p' ∧ p' ≤ p + 1 := by
  have hb := rd_by hs p
  have w1 : wrap64 (p + 1) = p + 1 := w64 (by omega) (by omega)
  have w2 : wrap64 (rd s p) = rd s p := w64 (by omega) (by omega)
  unfold spec_l1Cur_next.f
  rw [w1, w2]
  by_cases c : p < (s.length : Int)
  · rw [if_pos c, if_pos h0]
    split
    · exact ⟨_, _, _, rfl, hb, by omega, by omega⟩
    · omega
  · rw [if_neg c, if_neg (by omega)]
    refine ⟨_, _, _, rfl, ?_, by omega, by omega⟩
    have := and255 ((IntKind.u64.wrap ((IntKind.u64.wrap (IntKind.u64.wrap (sd * 6364136223846793005))) + 1442695040888963407)) / 1099511627776)
    rw [w64 (by omega) (by omega)]
    exact this
theorem pick_ok {s : List Int} (hs : Bys s) {p : Int} (sd : Int) {n : Int} (h0 : 0 ≤ p) (h1 : p ≤ 3000000000000000000) :
    ∃ v p' sd', spec_l1Cur_pick.f s p sd n = some (v, p', sd') ∧ (0 ≤ v ∧ (v < n ∨ v = 0)) ∧ 0 ≤ p' ∧ p' ≤ p + 2 := by
  unfold spec_l1Cur_pick.f
  by_cases c : n ≤ 1
  · rw [if_pos c]; exact ⟨_, _, _, rfl, ⟨by omega, .inr rfl⟩, h0, by omega⟩
  obtain ⟨v, p', sd', e, hv, q0, q1⟩ := next_ok hs sd h0 (by omega)
  have hn : ¬ n = 0 := by omega
  rw [if_neg c, e]
  simp only [Option.bind_some, if_neg hn]
  by_cases d : n > 200
  · obtain ⟨u, p2, sd2, e2, hu, r0, r1⟩ := next_ok hs sd' q0 (by omega)
    rw [if_pos d, e2]
    simp only [Option.bind_some]
    refine ⟨_, _, _, rfl, ?_, r0, by omega⟩
    rw [w64 (x := v * 256) (by omega) (by omega), w64 (x := v * 256 + u) (by omega) (by omega), Int.tmod_eq_emod_of_nonneg (by omega)]
    exact ⟨Int.emod_nonneg _ hn, .inl (Int.emod_lt_of_pos _ (by omega))⟩
  · rw [if_neg d]
    refine ⟨_, _, _, rfl, ?_, q0, by omega⟩
    rw [Int.tmod_eq_emod_of_nonneg hv.1]
    exact ⟨Int.emod_nonneg _ hn, .inl (Int.emod_lt_of_pos _ (by omega))⟩
theorem one_ok {s : List Int} (hs : Bys s) {p : Int} (sd : Int) (n : Int) (h0 : 0 ≤ p) (h1 : p ≤ 3000000000000000000) :
    ∃ v p' sd', spec_l1Cur_one.f s p sd n = some (v, p', sd') ∧ 0 ≤ p' ∧ p' ≤ p + 2 := by
  obtain ⟨v, p', sd', e, _, q0, q1⟩ := pick_ok hs sd (n := n) h0 h1
  unfold spec_l1Cur_one.f
  rw [e]
  exact ⟨_, _, _, rfl, q0, q1⟩
theorem among_ok {s : List Int} (hs : Bys s) {p : Int} (sd : Int) {l : List Int} (hl : 0 < l.length) (h0 : 0 ≤ p) (h1 : p ≤ 3000000000000000000) :
    ∃ v p' sd', spec_l1Cur_among.f s p sd l = some (v, p', sd') ∧ v ∈ l ∧ 0 ≤ p' ∧ p' ≤ p + 2 := by
  obtain ⟨v, p', sd', e, hv, q0, q1⟩ := pick_ok hs sd (n := (l.length : Int)) h0 h1
  have hm : rd l v ∈ l := by
    unfold rd
    have : v.toNat < l.length := by omega
    rw [List.getD_eq_getElem?_getD, List.getElem?_eq_getElem this]
    exact List.getElem_mem this
  unfold spec_l1Cur_among.f
  rw [e]
  simp only [Option.bind_some]
  rw [if_pos (by omega), if_pos (by omega)]
  exact ⟨_, _, _, rfl, hm, q0, q1⟩
theorem strOf_size (l : List Int) : (strOfNums l).size = l.length := by simp [strOfNums, ByteArray.size]

def Dr {α : Type} (g : Nat → Option (α × Int × Int)) (p c : Int) (P : α → Prop) : Prop := ∃ v p' sd', Ev g (v, p', sd') ∧ P v ∧ 0 ≤ p' ∧ p' ≤ p + c
theorem key_l1 (s : List Int) (p sd : Int) : ∀ (d : Nat) (x : List Int), 12 - x.length ≤ d → x.length ≤ 12 →
    ∃ v, Ev (fun k => spec_l1Cur_key.l1 k x s p sd) (v, p, sd) ∧ v.size ≤ 12 := by
  intro d
  induction d with
  | zero =>
    intro x h1 h2
    refine ⟨strOfNums x, ev_succ ?_, by rw [strOf_size]; omega⟩
    simp only [spec_l1Cur_key.l1]
    exact ev_neg (by omega) (Ev.now _)
  | succ d ih =>
    intro x h1 h2
    by_cases c : (x.length : Int) < 12
    · obtain ⟨v, e, hv⟩ := ih (x ++ [97]) (by simp; omega) (by simp; omega)
      refine ⟨v, ev_succ ?_, hv⟩
      simp only [spec_l1Cur_key.l1]
      exact ev_pos c (ev_pos (by omega) e)
    · refine ⟨strOfNums x, ev_succ ?_, by rw [strOf_size]; omega⟩
      simp only [spec_l1Cur_key.l1]
      exact ev_neg c (Ev.now _)
theorem key_l0 {s : List Int} (hs : Bys s) : ∀ (n : Nat) (x : List Int) (p sd : Int), x.length + n ≤ 12 → 0 ≤ p → p + 2 * (n : Int) ≤ 2000000000000000000 →
    Dr (fun k => spec_l1Cur_key.l0 k x (n : Int) s p sd) p (2 * (n : Int) + 2) (fun v => v.size ≤ 12) := by
  intro n
  induction n with
  | zero =>
    intro x p sd hx h0 h1
    obtain ⟨v, p', sd', e, q0, q1⟩ := one_ok hs sd 12 h0 (by omega)
    by_cases c : v = true
    · obtain ⟨u, eu, hu⟩ := key_l1 s p' sd' 12 x (by omega) (by omega)
      refine ⟨u, p', sd', ev_succ ?_, hu, q0, by omega⟩
      simp only [spec_l1Cur_key.l0, e]
      exact ev_neg (by omega) (ev_bind _ (Ev.now _) (ev_pos c eu))
    · refine ⟨strOfNums x, p', sd', ev_succ ?_, (by rw [strOf_size]; omega : (strOfNums x).size ≤ 12), q0, by omega⟩
      simp only [spec_l1Cur_key.l0, e]
      exact ev_neg (by omega) (ev_bind _ (Ev.now _) (ev_neg c (Ev.now _)))
  | succ n ih =>
    intro x p sd hx h0 h1
    obtain ⟨v, p', sd', e, hv, q0, q1⟩ := pick_ok hs sd (n := 11) h0 (by omega)
    obtain ⟨u, p2, sd2, eu, hu, r0, r1⟩ := ih (x ++ [bt (⟨#[97, 97, 98, 98, 99, 120, 121, 122, 33, 125, 48]⟩ : ByteArray) v]) p' sd' (by simp; omega) q0 (by omega)
    refine ⟨u, p2, sd2, ev_succ ?_, hu, r0, by omega⟩
    simp only [spec_l1Cur_key.l0, e]
    refine ev_pos (by omega) (ev_bind _ (Ev.now _) (ev_pos hv.1 (ev_pos (by omega) (ev_pos (by omega) ?_))))
    rw [wdec (by omega)]
    exact eu
theorem key_ok {s : List Int} (hs : Bys s) {p : Int} (sd : Int) (h0 : 0 ≤ p) (h1 : p ≤ 1000000000000000000) : Dr (fun k => spec_l1Cur_key.f k s p sd) p 12 (fun v => v.size ≤ 12) := by
  obtain ⟨v, p', sd', e, hv, q0, q1⟩ := pick_ok hs sd (n := 4) h0 (by omega)
  obtain ⟨u, p2, sd2, eu, hu, r0, r1⟩ := key_l0 hs (v.toNat + 1) [] p' sd' (by simp; omega) q0 (by omega)
  refine ⟨u, p2, sd2, ?_, hu, r0, by omega⟩
  unfold spec_l1Cur_key.f
  rw [e]
  refine ev_bind _ (Ev.now _) ?_
  rw [w64 (by omega) (by omega), show 1 + v = ((v.toNat + 1 : Nat) : Int) from by omega]
  exact eu
def insK (s : ByteArray) : List ByteArray → List ByteArray
  | [] => [s]
  | q :: t => if lessS q s = true then q :: insK s t else if q = s then q :: t else s :: q :: t
theorem insK_len (s : ByteArray) : ∀ l, (insK s l).length ≤ l.length + 1
  | [] => by simp [insK]
  | q :: t => by
    have := insK_len s t
    unfold insK
    split
    · simp; omega
    · split <;> simp
theorem insK_mem (s : ByteArray) : ∀ l, ∀ x ∈ insK s l, x = s ∨ x ∈ l
  | [], x, h => by simp [insK] at h; exact .inl h
  | q :: t, x, h => by
    unfold insK at h
    split at h
    · rcases List.mem_cons.1 h with e | e
      · exact .inr (by simp [e])
      · rcases insK_mem s t x e with e | e
        · exact .inl e
        · exact .inr (by simp [e])
    · split at h
      · exact .inr h
      · rcases List.mem_cons.1 h with e | e
        · exact .inl e
        · exact .inr e
theorem putS_l0 (x0 : List ByteArray) (s : ByteArray) (hx : x0.length ≤ 1000000) : ∀ (t pre : List ByteArray), x0 = pre ++ t →
    Ev (fun k => spec_l1PutS.l0 k x0 s (pre.length : Int)) (pre ++ insK s t) := by
  intro t
  induction t with
  | nil =>
    intro pre h
    have hp : x0 = pre := by rw [h, List.append_nil]
    subst hp
    refine ev_succ ?_
    simp only [spec_l1PutS.l0]
    refine ev_neg (by omega) (ev_bind _ (Ev.now _) (ev_pos (by omega) (ev_pos (by omega) (ev_bind _ (Ev.now _) ?_))))
    rw [Int.toNat_natCast, List.take_length, List.nil_append]
    refine ev_pos (by simp; omega) (ev_bind _ (Ev.now _) (ev_pos (by omega) (ev_bind _ (Ev.now _) (ev_bind _ (Ev.now _) (ev_pos (by simp; omega) (ev_some ?_))))))
    simp [insK]
  | cons q t ih =>
    intro pre h
    have hm : ((pre.length : Nat) : Int) < (x0.length : Int) := by rw [h]; exact lt_mid
    have hg : rdOf ByteArray.empty x0 (pre.length : Int) = q := by rw [h]; exact rdOf_mid
    refine ev_succ ?_
    simp only [spec_l1PutS.l0, hg]
    refine ev_pos hm (ev_pos (by omega) ?_)
    unfold insK
    by_cases c : lessS q s = true
    · refine ev_pos c ?_
      rw [winc (by omega), if_pos c]
      have := ih (pre ++ [q]) (by rw [h]; simp)
      rw [len_one] at this
      simpa using this
    · refine ev_neg c ?_
      rw [if_neg c]
      by_cases d : q = s
      · refine ev_pos (tl_inj.2 d) (ev_some ?_)
        rw [if_pos d, h]
      · refine ev_neg (fun e => d (tl_inj.1 e)) (ev_bind _ (Ev.now _) (ev_pos (by omega) (ev_bind _ (Ev.now _) ?_)))
        have et : x0.take pre.length = pre := by rw [h]; simp
        have ed : x0.drop pre.length = q :: t := by rw [h]; simp
        have hl : x0.length = pre.length + (t.length + 1) := by rw [h]; simp
        rw [Int.toNat_natCast, et, ed, List.nil_append, if_neg d]
        refine ev_pos (by simp; omega) (ev_bind _ (Ev.now _) (ev_pos (by omega) (ev_bind _ (Ev.now _) (ev_bind _ (Ev.now _) (ev_pos (by simp; omega) (ev_some ?_))))))
        simp
theorem putS_f (l : List ByteArray) (s : ByteArray) (h : l.length ≤ 1000000) : Ev (fun k => spec_l1PutS.f k l s) (insK s l) := putS_l0 l s h l [] rfl
def Kys (m : Nat) (l : List ByteArray) : Prop := l.length ≤ m ∧ ∀ s ∈ l, s.size ≤ 13
theorem Kys.ins {m : Nat} {l : List ByteArray} (h : Kys m l) {s : ByteArray} (hs : s.size ≤ 13) : Kys (m + 1) (insK s l) :=
  ⟨by have := insK_len s l; have := h.1; omega, fun x hx => by exact (insK_mem s l x hx).elim (fun e => e ▸ hs) (h.2 x)⟩
theorem Kys.one {m : Nat} {l : List ByteArray} (h : Kys m l) {s : ByteArray} (hs : s.size ≤ 13) : Kys (m + 1) (l ++ [s]) :=
  ⟨by have := h.1; simp; omega, fun x hx => by exact (List.mem_append.1 hx).elim (h.2 x) (fun e => List.mem_singleton.1 e ▸ hs)⟩
theorem Kys.mono {m m' : Nat} {l : List ByteArray} (h : Kys m l) (hm : m ≤ m') : Kys m' l := ⟨Nat.le_trans h.1 hm, h.2⟩
theorem keys_l0 {s : List Int} (hs : Bys s) : ∀ (n m : Nat) (x : List ByteArray) (p sd : Int), Kys m x → m + n ≤ 1000 → 0 ≤ p → p + 12 * (n : Int) ≤ 500000000000000000 →
    Dr (fun k => spec_l1Cur_keys.l0 k x (n : Int) s p sd) p (12 * (n : Int)) (Kys (m + n)) := by
  intro n
  induction n with
  | zero =>
    intro m x p sd hx hm h0 h1
    refine ⟨x, p, sd, ev_succ ?_, hx, h0, by omega⟩
    simp only [spec_l1Cur_keys.l0]
    exact ev_neg (by omega) (Ev.now _)
  | succ n ih =>
    intro m x p sd hx hm h0 h1
    obtain ⟨v, p', sd', e, hv, q0, q1⟩ := key_ok hs sd h0 (by omega)
    have hl := hx.1
    obtain ⟨u, p2, sd2, eu, hu, r0, r1⟩ := ih (m + 1) (insK v x) p' sd' (hx.ins (by omega)) (by omega) q0 (by omega)
    refine ⟨u, p2, sd2, ev_succ ?_, hu.mono (by omega), r0, by omega⟩
    simp only [spec_l1Cur_keys.l0]
    refine ev_pos (by omega) (ev_bind _ e (ev_bind _ (putS_f x v (by omega)) ?_))
    rw [wdec (by omega)]
    exact eu
theorem keys_ok {s : List Int} (hs : Bys s) {p : Int} (sd : Int) {n : Nat} (hn : n ≤ 100) (h0 : 0 ≤ p) (h1 : p ≤ 400000000000000000) : Dr (fun k => spec_l1Cur_keys.f k s p sd (n : Int)) p (12 * (n : Int) + 2) (Kys n) := by
  obtain ⟨v, p', sd', e, hv, q0, q1⟩ := pick_ok hs sd (n := (n : Int) + 1) h0 (by omega)
  obtain ⟨u, p2, sd2, eu, hu, r0, r1⟩ := keys_l0 hs v.toNat 0 [] p' sd' ⟨by simp, by simp⟩ (by omega) q0 (by omega)
  refine ⟨u, p2, sd2, ?_, hu.mono (by omega), r0, by omega⟩
  unfold spec_l1Cur_keys.f
  rw [w64 (x := (n : Int) + 1) (by omega) (by omega), e]
  refine ev_bind _ (Ev.now _) ?_
  rw [show ((v.toNat : Nat) : Int) = v from by omega] at eu
  exact eu
end Go.Proofs.YtephjmmkggcmeaaQ
namespace Go.Proofs.YtephjmmkggcmeaaQ
open Go Go.RowKit Go.Proofs.YtephjmmkggcmeaaW.PrintWords Go.Proofs.YtephjmmkggcmeaaGp Go.Proofs.Ytephjmmkggcmeaa.PM

theorem Dr.mono {α : Type} {g : Nat → Option (α × Int × Int)} {p c c' : Int} {P P' : α → Prop} (h : Dr g p c P) (hc : c ≤ c') (hP : ∀ x, P x → P' x) : Dr g p c' P' := by
  obtain ⟨v, p', sd', e, hv, q0, q1⟩ := h
  exact ⟨v, p', sd', e, hP v hv, q0, by omega⟩
theorem seed9_ok {s : List Int} (hs : Bys s) {p : Int} (sd : Int) (h0 : 0 ≤ p) (h1 : p ≤ 1000000000000000000) :
    ∃ v p' sd', spec_l1Cur_seed9.f s p sd = some (v, p', sd') ∧ (-1 ≤ v ∧ v ≤ 10000) ∧ 0 ≤ p' ∧ p' ≤ p + 4 := by
  obtain ⟨v, p', sd', e, hv, q0, q1⟩ := pick_ok hs sd (n := 12) h0 (by omega)
  unfold spec_l1Cur_seed9.f
  rw [e]
  simp only [Option.bind_some]
  by_cases c : v = 0
  · obtain ⟨u, p2, sd2, eu, hu, r0, r1⟩ := among_ok hs sd' (l := [(-1), 9999, 10000]) (by simp) q0 (by omega)
    rw [if_pos c, eu]
    refine ⟨u, p2, sd2, rfl, ?_, r0, by omega⟩
    simp only [List.mem_cons, List.not_mem_nil, or_false] at hu
    omega
  · rw [if_neg c]
    by_cases d : v = 1
    · obtain ⟨u, p2, sd2, eu, hu, r0, r1⟩ := pick_ok hs sd' (n := 10000) q0 (by omega)
      rw [if_pos d, eu]
      exact ⟨u, p2, sd2, rfl, by omega, r0, by omega⟩
    · obtain ⟨u, p2, sd2, eu, hu, r0, r1⟩ := pick_ok hs sd' (n := 20) q0 (by omega)
      rw [if_neg d, eu]
      exact ⟨u, p2, sd2, rfl, by omega, r0, by omega⟩
theorem of_ok {s : List Int} (hs : Bys s) {p : Int} (sd : Int) {l : List ByteArray} (hl : 0 < l.length) (h0 : 0 ≤ p) (h1 : p ≤ 3000000000000000000) :
    ∃ v p' sd', spec_l1Cur_of.f s p sd l = some (v, p', sd') ∧ v ∈ l ∧ 0 ≤ p' ∧ p' ≤ p + 2 := by
  obtain ⟨v, p', sd', e, hv, q0, q1⟩ := pick_ok hs sd (n := (l.length : Int)) h0 h1
  have hm : rdOf ByteArray.empty l v ∈ l := by
    unfold rdOf
    have : v.toNat < l.length := by omega
    rw [List.getD_eq_getElem?_getD, List.getElem?_eq_getElem this]
    exact List.getElem_mem this
  unfold spec_l1Cur_of.f
  rw [e]
  simp only [Option.bind_some]
  rw [if_pos (by omega), if_pos (by omega)]
  exact ⟨_, _, _, rfl, hm, q0, q1⟩
theorem text_ok {s : List Int} (hs : Bys s) {p : Int} (sd : Int) (h0 : 0 ≤ p) (h1 : p ≤ 500000000000000000) : Dr (fun k => spec_l1Cur_text.f k s p sd) p 14 (fun v => v.size ≤ 13) := by
  obtain ⟨v, p', sd', e, hv, q0, q1⟩ := pick_ok hs sd (n := 16) h0 (by omega)
  obtain ⟨u, p2, sd2, eu, hu, r0, r1⟩ := key_ok hs sd' q0 (by omega)
  unfold spec_l1Cur_text.f
  rw [e]
  simp only [Option.bind_some]
  by_cases c0 : v = 0
  · exact ⟨_, p', sd', ev_pos c0 (Ev.now _), by decide, q0, by omega⟩
  · by_cases c1 : v = 1
    · have h1 : (⟨#[32]⟩ : ByteArray).size = 1 := rfl
      refine ⟨u ++ ⟨#[32]⟩, p2, sd2, ev_neg c0 (ev_pos c1 (ev_bind _ eu (ev_pos (by simp only []; omega) (Ev.now _)))), ?_, r0, by omega⟩
      show (u ++ ⟨#[32]⟩ : ByteArray).size ≤ 13
      rw [ByteArray.size_append]
      omega
    · by_cases c2 : v = 2
      · exact ⟨_, p', sd', ev_neg c0 (ev_neg c1 (ev_pos c2 (Ev.now _))), by decide, q0, by omega⟩
      · by_cases c3 : v = 3
        · obtain ⟨x, p3, sd3, ex, hx, t0, t1⟩ := of_ok hs sd' (l := [(⟨#[126]⟩ : ByteArray), (⟨#[125]⟩ : ByteArray), (⟨#[97, 126]⟩ : ByteArray), (⟨#[127]⟩ : ByteArray)]) (by simp) q0 (by omega)
          refine ⟨x, p3, sd3, ev_neg c0 (ev_neg c1 (ev_neg c2 (ev_pos c3 ?_))), ?_, t0, by omega⟩
          · rw [ex]; exact ev_bind _ (Ev.now _) (Ev.now _)
          · simp only [List.mem_cons, List.not_mem_nil, or_false] at hx
            rcases hx with rfl | rfl | rfl | rfl <;> decide
        · exact ⟨u, p2, sd2, ev_neg c0 (ev_neg c1 (ev_neg c2 (ev_neg c3 (ev_bind _ eu (Ev.now _))))), by omega, r0, by omega⟩
theorem many_l0 (s : List Int) (p sd : Int) : ∀ (d i m : Nat) (x : List ByteArray), Kys m x → m + d ≤ 1000 → i + d ≤ 1000 →
    ∃ v, Ev (fun k => spec_l1Cur_many.l0 k ((i + d : Nat) : Int) x (i : Int) s p sd) (v, p, sd) ∧ Kys (m + d) v := by
  intro d
  induction d with
  | zero =>
    intro i m x hx hm hi
    refine ⟨x, ev_succ ?_, hx⟩
    simp only [spec_l1Cur_many.l0]
    exact ev_neg (by omega) (Ev.now _)
  | succ d ih =>
    intro i m x hx hm hi
    have hl := hx.1
    have hz : (strOfNums [(wrap64 (97 + (wrap64 (Int.tdiv (i : Int) 10)))) % 256, (wrap64 (48 + (Int.tmod (i : Int) 10))) % 256]).size ≤ 13 := by rw [strOf_size]; simp
    obtain ⟨v, e, hv⟩ := ih (i + 1) (m + 1) (insK (strOfNums [(wrap64 (97 + (wrap64 (Int.tdiv (i : Int) 10)))) % 256, (wrap64 (48 + (Int.tmod (i : Int) 10))) % 256]) x) (hx.ins hz) (by omega) (by omega)
    refine ⟨v, ev_succ ?_, hv.mono (by omega)⟩
    simp only [spec_l1Cur_many.l0]
    refine ev_pos (by omega) (ev_bind _ (putS_f x _ (by omega)) ?_)
    rw [winc (by omega), show i + (d + 1) = i + 1 + d from by omega]
    exact e
theorem anyKeys_ok {s : List Int} (hs : Bys s) {p : Int} (sd : Int) {n : Nat} (hn : n ≤ 40) (h0 : 0 ≤ p) (h1 : p ≤ 100000000000000000) : Dr (fun k => spec_l1Cur_anyKeys.f k s p sd (n : Int)) p 600 (Kys 42) := by
  obtain ⟨ks, p', sd', e, hv, q0, q1⟩ := keys_ok hs sd (by omega : n ≤ 100) h0 (by omega)
  obtain ⟨v, p2, sd2, e2, hv2, r0, r1⟩ := pick_ok hs sd' (n := 14) q0 (by omega)
  have hl := hv.1
  unfold spec_l1Cur_anyKeys.f
  by_cases c0 : v = 0
  · obtain ⟨u, p3, sd3, eu, hu, t0, t1⟩ := text_ok hs sd2 r0 (by omega)
    refine ⟨ks ++ [u], p3, sd3, ev_bind _ e ?_, (hv.one hu).mono (by omega), t0, by omega⟩
    simp only [e2]
    exact ev_bind _ (Ev.now _) (ev_pos c0 (ev_bind _ eu (ev_pos (by omega) (Ev.now _))))
  · by_cases c1 : v = 1
    · by_cases c : (ks.length : Int) > 0
      · obtain ⟨u, p3, sd3, eu, hu, t0, t1⟩ := pick_ok hs sd2 (n := (ks.length : Int)) r0 (by omega)
        have hm : rdOf ByteArray.empty ks u ∈ ks := by
          unfold rdOf
          have : u.toNat < ks.length := by omega
          rw [List.getD_eq_getElem?_getD, List.getElem?_eq_getElem this]
          exact List.getElem_mem this
        refine ⟨ks ++ [rdOf ByteArray.empty ks u], p3, sd3, ev_bind _ e ?_, (hv.one (hv.2 _ hm)).mono (by omega), t0, by omega⟩
        simp only [e2]
        refine ev_bind _ (Ev.now _) (ev_neg c0 (ev_pos c1 (ev_pos c ?_)))
        simp only [eu]
        exact ev_bind _ (Ev.now _) (ev_pos (by omega) (ev_pos (by omega) (ev_pos (by omega) (Ev.now _))))
      · refine ⟨ks, p2, sd2, ev_bind _ e ?_, hv.mono (by omega), r0, by omega⟩
        simp only [e2]
        exact ev_bind _ (Ev.now _) (ev_neg c0 (ev_pos c1 (ev_neg c (Ev.now _))))
    · by_cases c2 : v = 2
      · obtain ⟨u, p3, sd3, eu, hu, t0, t1⟩ := pick_ok hs sd2 (n := 2) r0 (by omega)
        obtain ⟨y, ey, hy⟩ := many_l0 s p3 sd3 (40 + u.toNat) 0 0 [] ⟨by simp, by simp⟩ (by omega) (by omega)
        refine ⟨y, p3, sd3, ev_bind _ e ?_, hy.mono (by omega), t0, by omega⟩
        simp only [e2]
        refine ev_bind _ (Ev.now _) (ev_neg c0 (ev_neg c1 (ev_pos c2 ?_)))
        simp only [eu]
        refine ev_bind _ (Ev.now _) (ev_bind (y, p3, sd3) ?_ (Ev.now _))
        unfold spec_l1Cur_many.f
        simp only []
        rw [w64 (by omega) (by omega), show 40 + u = ((0 + (40 + u.toNat) : Nat) : Int) from by omega]
        exact ey
      · refine ⟨ks, p2, sd2, ev_bind _ e ?_, hv.mono (by omega), r0, by omega⟩
        simp only [e2]
        exact ev_bind _ (Ev.now _) (ev_neg c0 (ev_neg c1 (ev_neg c2 (Ev.now _))))
theorem big_f {l0 l1 : List Int} (h0 : l0.length ≤ maxLen) (h1 : l1.length ≤ maxLen) : ∃ b, laws_big.f l0 l1 = some b ∧ (b = false → (l0.length : Int) ≤ 1048576 ∧ (l1.length : Int) ≤ 1048576) := by
  rw [maxLen_eq] at h0 h1
  unfold laws_big.f
  by_cases c : (l0.length : Int) > 1048576
  · exact ⟨true, if_pos c, by simp⟩
  · refine ⟨_, if_neg c, fun h => ?_⟩
    rw [decide_eq_false_iff_not, w64 (by omega) (by omega)] at h
    omega
theorem bys {l : List Int} (h : (l.length : Int) ≤ 1048576) (hw : ∀ x ∈ l, (Lit.int .u8 x).wf = true) : Bys l := by
  refine ⟨h, fun x hx => ?_⟩
  have := hw x hx
  simp only [Lit.wf, Bool.and_eq_true, decide_eq_true_eq] at this
  exact this
end Go.Proofs.YtephjmmkggcmeaaQ
namespace Go.Proofs.YtephjmmkggcmeaaQ
open Go Go.RowKit Go.Proofs.YtephjmmkggcmeaaW.PrintWords Go.Proofs.YtephjmmkggcmeaaGp Go.Proofs.Ytephjmmkggcmeaa.PM

theorem spec_l1Has_l0 (x0 : List Int) (a : Int) (hl : (x0.length : Int) ≤ 9223372036854775806) : ∀ (t pre : List Int), x0 = pre ++ t →
    Ev (fun k => spec_l1Has.l0 k a x0 (x0.length : Int) (pre.length : Int)) (t.contains a) := by
  intro t
  induction t with
  | nil =>
    intro pre h
    refine ev_succ ?_
    simp only [spec_l1Has.l0]
    exact ev_neg (by rw [h]; exact not_lt_end) (ev_some (by simp))
  | cons x t ih =>
    intro pre h
    have hm : ((pre.length : Nat) : Int) < (x0.length : Int) := by rw [h]; exact lt_mid
    have hg : rd x0 (pre.length : Int) = x := by rw [h]; exact rd_mid
    refine ev_succ ?_
    simp only [spec_l1Has.l0, hg]
    refine ev_pos hm (ev_pos (by omega) (ev_pos hm ?_))
    by_cases c : x = a
    · exact ev_pos c (ev_some (by simp [c]))
    · refine ev_neg c ?_
      rw [winc (by omega)]
      have := ih (pre ++ [x]) (by rw [h]; simp)
      rw [len_one] at this
      have e : (x :: t).contains a = t.contains a := by simp [Ne.symm c]
      rw [e]
      exact this
theorem spec_l1Has_f (l : List Int) (a : Int) (hl : (l.length : Int) ≤ 9223372036854775806) : Ev (fun k => spec_l1Has.f k l a) (l.contains a) := by
  unfold spec_l1Has.f
  exact spec_l1Has_l0 l a hl l [] rfl
end Go.Proofs.YtephjmmkggcmeaaQ
