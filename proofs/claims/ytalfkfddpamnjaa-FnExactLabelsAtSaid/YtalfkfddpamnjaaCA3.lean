import Derived.Test.YtalfkfddpamnjaaCA2
-- printed by a program of this session (wip/gp) out of the translation; Lean checks it
namespace Go.Proofs.Ytalfkfddpamnjaa.PA
open Go.RowKit Go.Proofs.YtalfkfddpamnjaaW.PrintWords Go.Proofs.YtalfkfddpamnjaaW.PrintLast Go.Proofs.YtalfkfddpamnjaaW.PrintMore Go.Proofs.YtalfkfddpamnjaaSq
attribute [local go_sem] max2_int min2_int max_two min_two max_three min_three max_four min_four   -- for this text's walks alone
attribute [local go_sem] Go.Proofs.YtalfkfddpamnjaaGp.str_geq Go.Proofs.YtalfkfddpamnjaaGp.str_gtr Go.Proofs.YtalfkfddpamnjaaGp.str_leq
set_option linter.unusedVariables false
set_option linter.unusedSimpArgs false

set_option maxHeartbeats 8000000
set_option maxRecDepth 100000
def spec_l1In.f (a0 : Int) (a1 : Int) (a2 : Int) : Option (Bool) := if a0 ≥ a1 then (some (decide (a0 ≤ a2))) else (some false)
theorem spec_l1In.calls (a0 : Int) (a1 : Int) (a2 : Int) (r : Bool) (w : World) (h : spec_l1In.f a0 a1 a2 = some r) :
  Calls Try.prog 46 #[.int .i64 a0, .int .i64 a1, .int .i64 a2] w fun e w' => e = .returned (.bool r) ∧ Drawn0 w w' := by
 have H : (if a0 ≥ a1 then (some (decide (a0 ≤ a2))) else (some false)) = some r := h; clear h
 by_cases c4 : a0 ≥ a1
 ·rw [if_pos c4] at H
  have c4b0 : decide (a1 ≤ a0) = true := decide_eq_true c4; clear c4; obtain rfl := Option.some.inj H
  go_enter Try.func46, Try.ntmps46
  go_wp2
  go_ret
  exact ⟨by first | rfl | (simp; done) | (simp [*]; done), by repeat (first | exact Drawn0.refl _ | apply Drawn0.step)⟩
 ·rw [if_neg c4] at H
  have c4b0 : decide (a1 ≤ a0) = false := decide_eq_false c4; clear c4; obtain rfl := Option.some.inj H
  go_enter Try.func46, Try.ntmps46
  go_wp2
  go_ret
  exact ⟨by first | rfl | (simp; done) | (simp [*]; done), by repeat (first | exact Drawn0.refl _ | apply Drawn0.step)⟩

def spec_IsKey.l0 : Nat → ByteArray → Int → Option (Bool)
 | 0, _, _ => none
 | k + 1, x0, x3 => if x3 < (x0.size : Int) then (if 0 ≤ x3 then (if (bt x0 x3) < 33 then (some false) else (if (bt x0 x3) > 125 then (some false) else (spec_IsKey.l0 k x0 (wrap64 (x3 + 1))))) else (none)) else ((spec_l1In.f (x0.size : Int) 1 12).bind fun t106 => (some t106))
def spec_IsKey.f (k : Nat) (a0 : ByteArray) : Option (Bool) := spec_IsKey.l0 k a0 0
theorem spec_IsKey.mono_l : ∀ k, (∀ y0 y1, LeO (spec_IsKey.l0 k y0 y1) (spec_IsKey.l0 (k + 1) y0 y1))
 | 0 => fun _ _ r h => by simp [spec_IsKey.l0] at h
 | k + 1 => by
  have ih0 := spec_IsKey.mono_l k
  ·intro y0 y1
   unfold spec_IsKey.l0
   repeat' first | (with_reducible first | exact ih0 _ _ | exact LeO.refl _ | exact LeO.none _ | refine LeO.ite ?_ ?_ | refine LeO.bind ?_ (fun _ => ?_)) | exact LeO.none _ | refine LeO.ite ?_ ?_ | refine LeO.bind ?_ (fun _ => ?_)
theorem spec_IsKey.mono : ∀ a0 k, LeO (spec_IsKey.f k a0) (spec_IsKey.f (k + 1) a0) := by
 intro a0 k; have ih0 := spec_IsKey.mono_l k
 unfold spec_IsKey.f
 repeat' first | (with_reducible first | exact ih0 _ _ | exact LeO.refl _ | exact LeO.none _ | refine LeO.ite ?_ ?_ | refine LeO.bind ?_ (fun _ => ?_)) | exact LeO.none _ | refine LeO.ite ?_ ?_ | refine LeO.bind ?_ (fun _ => ?_)
theorem spec_IsKey.calls (k : Nat) (a0 : ByteArray) (r : Bool) (w : World) (h : spec_IsKey.f k a0 = some r) :
  Calls Try.prog 76 #[.string a0] w fun e w' => e = .returned (.bool r) ∧ Drawn0 w w' := by
 have H : (spec_IsKey.l0 k a0 0) = some r := h; clear h; have H' := am H; clear H
 go_enter Try.func76, Try.ntmps76
 go_wp2
 go_loopg [3] k (fun kq v3 w' => ∃ (x3_1 : Int), v3 = .int .i64 x3_1 ∧ Aside0 (spec_IsKey.l0 kq a0 x3_1 = some r) ∧ Aside0 (kq ≤ k) ∧ Drawn0 w w')
 case atStart => exact ⟨(0), wZ, H', ⟨Nat.le_refl _⟩, by repeat (first | exact Drawn0.refl _ | apply Drawn0.step)⟩
 case round =>
  clear H'; obtain ⟨x3_1, rfl, HA, HK1, ⟨m1, rfl⟩⟩ := hrel; cases gk with
  | zero => exact absurd HA.out (by simp [spec_IsKey.l0])
  | succ k1 =>
   have H := HA.out; clear HA
   simp only [spec_IsKey.l0] at H
   by_cases c2 : x3_1 < (a0.size : Int)
   ·rw [if_pos c2] at H
    have c2b0 : decide (x3_1 < (a0.size : Int)) = true := decide_eq_true c2; clear c2
    by_cases c3 : 0 ≤ x3_1
    ·rw [if_pos c3] at H
     have c3b0 : decide (0 ≤ x3_1) = true := decide_eq_true c3; clear c3
     by_cases c5 : (bt a0 x3_1) < 33
     ·rw [if_pos c5] at H
      have c5b0 : decide ((bt a0 x3_1) < 33) = true := decide_eq_true c5; clear c5; obtain rfl := Option.some.inj H; have p4 : 0 ≤ (x3_1 : Int) := dT; have q4 : x3_1 < (a0.size : Int) := dT; have hx4 := bt_at a0 x3_1; replace p4 := eq_true p4; replace q4 := eq_true q4
      go_wp2
      go_ret
      exact ⟨by first | rfl | (simp; done) | (simp [*]; done), by repeat (first | exact Drawn0.refl _ | apply Drawn0.step)⟩
     ·rw [if_neg c5] at H
      have c5b0 : decide ((bt a0 x3_1) < 33) = false := decide_eq_false c5; clear c5
      by_cases c7 : (bt a0 x3_1) > 125
      ·rw [if_pos c7] at H
       have c7b0 : decide (125 < (bt a0 x3_1)) = true := decide_eq_true c7; clear c7; obtain rfl := Option.some.inj H; have p4 : 0 ≤ (x3_1 : Int) := dT; have q4 : x3_1 < (a0.size : Int) := dT; have hx4 := bt_at a0 x3_1; replace p4 := eq_true p4; replace q4 := eq_true q4; have p6 : 0 ≤ (x3_1 : Int) := dT; have q6 : x3_1 < (a0.size : Int) := dT; have hx6 := bt_at a0 x3_1; replace p6 := eq_true p6; replace q6 := eq_true q6
       go_wp2
       go_ret
       exact ⟨by first | rfl | (simp; done) | (simp [*]; done), by repeat (first | exact Drawn0.refl _ | apply Drawn0.step)⟩
      ·rw [if_neg c7] at H
       have c7b0 : decide (125 < (bt a0 x3_1)) = false := decide_eq_false c7; clear c7; have H' := am H; clear H; have p4 : 0 ≤ (x3_1 : Int) := dT; have q4 : x3_1 < (a0.size : Int) := dT; have hx4 := bt_at a0 x3_1; replace p4 := eq_true p4; replace q4 := eq_true q4; have p6 : 0 ≤ (x3_1 : Int) := dT; have q6 : x3_1 < (a0.size : Int) := dT; have hx6 := bt_at a0 x3_1; replace p6 := eq_true p6; replace q6 := eq_true q6
       go_wp2
       go_roundg k1
       case measure => have := HK1.out; omega
       case rel => exact ⟨(wrap64 (x3_1 + 1)), wZ, H', ⟨by have := HK1.out; omega⟩, by repeat (first | exact Drawn0.refl _ | apply Drawn0.step)⟩
    ·rw [if_neg c3] at H
     exact absurd H (by simp)
   ·rw [if_neg c2] at H
    have c2b0 : decide (x3_1 < (a0.size : Int)) = false := decide_eq_false c2; clear c2; replace H := Option.bind_eq_some_iff.mp H; obtain ⟨t106, A80, H⟩ := H; (try dsimp -simprocs only at H); have A8 := am A80; clear A80; obtain rfl := Option.some.inj H
    go_wp2_with (first | ((with_reducible refine gate_callee (f := 46) rfl ?_); refine gL (some 22) Try.func46 #[.int .i64 (a0.size : Int), .int .i64 1, .int .i64 12] ?_; (with_reducible refine (spec_l1In.calls (a0.size : Int) 1 12 t106 _ A8.out).mono ?_); rintro e w' ⟨rfl, ⟨nd, rfl⟩⟩; refine ⟨_, rfl, ?_⟩))
    go_ret
    exact ⟨by first | rfl | (simp; done) | (simp [*]; done), by repeat (first | exact Drawn0.refl _ | apply Drawn0.step)⟩

def spec_biKeys.l0 : Nat → List ByteArray → List ByteArray → Int → Int → Option (Bool)
 | 0, _, _, _, _ => none
 | k + 1, x0, x5, x6, x7 => if x7 < x6 then (if 0 ≤ x7 then (if x7 < (x5.length : Int) then ((spec_IsKey.f k (rdOf ByteArray.empty x5 x7)).bind fun t108 => (if t108 = true then (if x7 > 0 then (if 0 ≤ (wrap64 (x7 - 1)) then (if (wrap64 (x7 - 1)) < (x0.length : Int) then (if ((Op.bytesLess ((rdOf ByteArray.empty x0 (wrap64 (x7 - 1))).toList) ((rdOf ByteArray.empty x5 x7).toList)) = true) then (spec_biKeys.l0 k x0 x5 x6 (wrap64 (x7 + 1))) else (some false)) else (none)) else (none)) else (spec_biKeys.l0 k x0 x5 x6 (wrap64 (x7 + 1)))) else (some false))) else (none)) else (none)) else (some (decide ((x0.length : Int) ≤ 40)))
def spec_biKeys.f (k : Nat) (l0 : List ByteArray) : Option (Bool) := spec_biKeys.l0 k l0 l0 (l0.length : Int) 0
theorem spec_biKeys.mono_l : ∀ k, (∀ y0 y1 y2 y3, LeO (spec_biKeys.l0 k y0 y1 y2 y3) (spec_biKeys.l0 (k + 1) y0 y1 y2 y3))
 | 0 => fun _ _ _ _ r h => by simp [spec_biKeys.l0] at h
 | k + 1 => by
  have ih0 := spec_biKeys.mono_l k
  ·intro y0 y1 y2 y3
   unfold spec_biKeys.l0
   repeat' first | (with_reducible first | exact ih0 _ _ _ _ | exact spec_IsKey.mono _ _ | exact LeO.refl _ | exact LeO.none _ | refine LeO.ite ?_ ?_ | refine LeO.bind ?_ (fun _ => ?_)) | exact LeO.none _ | refine LeO.ite ?_ ?_ | refine LeO.bind ?_ (fun _ => ?_)
theorem spec_biKeys.mono : ∀ a0 k, LeO (spec_biKeys.f k a0) (spec_biKeys.f (k + 1) a0) := by
 intro a0 k; have ih0 := spec_biKeys.mono_l k
 unfold spec_biKeys.f
 repeat' first | (with_reducible first | exact ih0 _ _ _ _ | exact spec_IsKey.mono _ _ | exact LeO.refl _ | exact LeO.none _ | refine LeO.ite ?_ ?_ | refine LeO.bind ?_ (fun _ => ?_)) | exact LeO.none _ | refine LeO.ite ?_ ?_ | refine LeO.bind ?_ (fun _ => ?_)
theorem spec_biKeys.calls (k : Nat) (A0 : Option Addr) (c0 : Nat) (l0 : List ByteArray) (r : Bool) (w : World) (hr0 : Kd.C Kd.string w A0 l0.length l0) (hc0 : l0.length ≤ c0) (h : spec_biKeys.f k l0 = some r) :
  Calls Try.prog 53 #[.slice A0 l0.length c0] w fun e w' => e = .returned (.bool r) ∧ Drawn0 w w' := by
 have HR0 := am hr0; have HC0 := am hc0; clear hr0 hc0; have H : (spec_biKeys.l0 k l0 l0 (l0.length : Int) 0) = some r := h; clear h; have H' := am H; clear H
 go_enter Try.func53, Try.ntmps53
 go_wp2
 go_loopg [7] k (fun kq v7 w' => ∃ (x7_1 : Int), v7 = .int .i64 x7_1 ∧ Aside0 (spec_biKeys.l0 kq l0 l0 (l0.length : Int) x7_1 = some r) ∧ Aside0 (kq ≤ k) ∧ Drawn0 w w')
 case atStart => exact ⟨(0), wZ, H', ⟨Nat.le_refl _⟩, by repeat (first | exact Drawn0.refl _ | apply Drawn0.step)⟩
 case round =>
  clear H'; obtain ⟨x7_1, rfl, HA, HK1, ⟨m1, rfl⟩⟩ := hrel; cases gk with
  | zero => exact absurd HA.out (by simp [spec_biKeys.l0])
  | succ k1 =>
   have H := HA.out; clear HA
   simp only [spec_biKeys.l0] at H
   by_cases c2 : x7_1 < (l0.length : Int)
   ·rw [if_pos c2] at H
    have c2b0 : decide (x7_1 < (l0.length : Int)) = true := decide_eq_true c2; clear c2
    by_cases c3 : 0 ≤ x7_1
    ·rw [if_pos c3] at H
     have c3b0 : decide (0 ≤ x7_1) = true := decide_eq_true c3; clear c3
     by_cases c4 : x7_1 < (l0.length : Int)
     ·rw [if_pos c4] at H
      have c4b0 : decide (x7_1 < (l0.length : Int)) = true := decide_eq_true c4; clear c4; replace H := Option.bind_eq_some_iff.mp H; obtain ⟨t108, A50, H⟩ := H; (try dsimp -simprocs only at H); have A5 := am A50; clear A50
      by_cases c6 : t108 = true
      ·subst c6
       rw [if_pos rfl] at H
       by_cases c7 : x7_1 > 0
       ·rw [if_pos c7] at H
        have c7b0 : decide (0 < x7_1) = true := decide_eq_true c7; clear c7; obtain ⟨ji8, hji8⟩ : ∃ j_ : Int, (wrap64 (x7_1 - 1)) = j_ := ⟨_, rfl⟩
        replace H : (if 0 ≤ (ji8) then (if (ji8) < (l0.length : Int) then (if ((Op.bytesLess ((rdOf ByteArray.empty l0 (ji8)).toList) ((rdOf ByteArray.empty l0 x7_1).toList)) = true) then (spec_biKeys.l0 k1 l0 l0 (l0.length : Int) (wrap64 (x7_1 + 1))) else (some false)) else (none)) else (none)) = some r := by first | (rw [hji8] at H; exact H) | (simp only [hji8] at H ⊢; exact H)
        (try rw [hji8] at A5)
        have hji8w : (IntKind.i64.wrap (x7_1 - 1)) = ji8 := (i64_w _).trans hji8
        by_cases c9 : 0 ≤ (ji8)
        ·rw [if_pos c9] at H
         have c9b0 : decide (0 ≤ (ji8)) = true := decide_eq_true c9; clear c9
         by_cases c10 : (ji8) < (l0.length : Int)
         ·rw [if_pos c10] at H
          have c10b0 : decide ((ji8) < (l0.length : Int)) = true := decide_eq_true c10; clear c10
          by_cases c11 : ((Op.bytesLess ((rdOf ByteArray.empty l0 (ji8)).toList) ((rdOf ByteArray.empty l0 x7_1).toList)) = true)
          ·rw [if_pos c11] at H
           have c11b0 : (Op.bytesLess ((rdOf ByteArray.empty l0 (ji8)).toList) ((rdOf ByteArray.empty l0 x7_1).toList)) = true := c11; clear c11; have H' := am H; clear H; obtain ⟨ad107, e107, hx107_0⟩ := Kd.at_string HR0.out x7_1 dT dT; cases e107; have p107 := eT (0 ≤ (x7_1 : Int)); have q107 := eT (x7_1 < (l0.length : Int))
           go_wp2_with (first | ((with_reducible refine gate_callee (f := 76) rfl ?_); refine gL (some 13) Try.func76 #[.string (rdOf ByteArray.empty l0 x7_1)] ?_; (with_reducible refine (spec_IsKey.calls k1 (rdOf ByteArray.empty l0 x7_1) true _ A5.out).mono ?_); rintro e w' ⟨rfl, ⟨nd, rfl⟩⟩; refine ⟨_, rfl, ?_⟩; have p109 : 0 ≤ ((ji8) : Int) := dT; have q109 : (ji8) < (l0.length : Int) := dT; obtain ⟨ad109, e109, hx109_0⟩ := Kd.at_string HR0.out (ji8) p109 q109; obtain rfl : ad107 = ad109 := (by injection e109); replace p109 := eq_true p109; replace q109 := eq_true q109))
           go_roundg k1
           case measure => have := HK1.out; omega
           case rel => exact ⟨(wrap64 (x7_1 + 1)), wZ, H', ⟨by have := HK1.out; omega⟩, by repeat (first | exact Drawn0.refl _ | apply Drawn0.step)⟩
          ·rw [if_neg c11] at H
           have c11b0 : (Op.bytesLess ((rdOf ByteArray.empty l0 (ji8)).toList) ((rdOf ByteArray.empty l0 x7_1).toList)) = false := by simpa using c11
           clear c11; obtain rfl := Option.some.inj H; obtain ⟨ad107, e107, hx107_0⟩ := Kd.at_string HR0.out x7_1 dT dT; cases e107; have p107 := eT (0 ≤ (x7_1 : Int)); have q107 := eT (x7_1 < (l0.length : Int))
           go_wp2_with (first | ((with_reducible refine gate_callee (f := 76) rfl ?_); refine gL (some 13) Try.func76 #[.string (rdOf ByteArray.empty l0 x7_1)] ?_; (with_reducible refine (spec_IsKey.calls k1 (rdOf ByteArray.empty l0 x7_1) true _ A5.out).mono ?_); rintro e w' ⟨rfl, ⟨nd, rfl⟩⟩; refine ⟨_, rfl, ?_⟩; have p109 : 0 ≤ ((ji8) : Int) := dT; have q109 : (ji8) < (l0.length : Int) := dT; obtain ⟨ad109, e109, hx109_0⟩ := Kd.at_string HR0.out (ji8) p109 q109; obtain rfl : ad107 = ad109 := (by injection e109); replace p109 := eq_true p109; replace q109 := eq_true q109))
           go_ret
           exact ⟨by first | rfl | (simp; done) | (simp only [← hji8] <;> (first | rfl | simp)) | (simp [*]; done), by repeat (first | exact Drawn0.refl _ | apply Drawn0.step)⟩
         ·rw [if_neg c10] at H
          exact absurd H (by simp)
        ·rw [if_neg c9] at H
         exact absurd H (by simp)
       ·rw [if_neg c7] at H
        have c7b0 : decide (0 < x7_1) = false := decide_eq_false c7; clear c7; have H' := am H; clear H; obtain ⟨ad107, e107, hx107_0⟩ := Kd.at_string HR0.out x7_1 dT dT; cases e107; have p107 := eT (0 ≤ (x7_1 : Int)); have q107 := eT (x7_1 < (l0.length : Int))
        go_wp2_with (first | ((with_reducible refine gate_callee (f := 76) rfl ?_); refine gL (some 13) Try.func76 #[.string (rdOf ByteArray.empty l0 x7_1)] ?_; (with_reducible refine (spec_IsKey.calls k1 (rdOf ByteArray.empty l0 x7_1) true _ A5.out).mono ?_); rintro e w' ⟨rfl, ⟨nd, rfl⟩⟩; refine ⟨_, rfl, ?_⟩))
        go_roundg k1
        case measure => have := HK1.out; omega
        case rel => exact ⟨(wrap64 (x7_1 + 1)), wZ, H', ⟨by have := HK1.out; omega⟩, by repeat (first | exact Drawn0.refl _ | apply Drawn0.step)⟩
      ·replace c6 := Bool.eq_false_iff.mpr c6
       subst c6
       rw [if_neg (show ¬ (false = true) by decide)] at H; obtain rfl := Option.some.inj H; obtain ⟨ad107, e107, hx107_0⟩ := Kd.at_string HR0.out x7_1 dT dT; cases e107; have p107 := eT (0 ≤ (x7_1 : Int)); have q107 := eT (x7_1 < (l0.length : Int))
       go_wp2_with (first | ((with_reducible refine gate_callee (f := 76) rfl ?_); refine gL (some 13) Try.func76 #[.string (rdOf ByteArray.empty l0 x7_1)] ?_; (with_reducible refine (spec_IsKey.calls k1 (rdOf ByteArray.empty l0 x7_1) false _ A5.out).mono ?_); rintro e w' ⟨rfl, ⟨nd, rfl⟩⟩; refine ⟨_, rfl, ?_⟩))
       go_ret
       exact ⟨by first | rfl | (simp; done) | (simp [*]; done), by repeat (first | exact Drawn0.refl _ | apply Drawn0.step)⟩
     ·rw [if_neg c4] at H
      exact absurd H (by simp)
    ·rw [if_neg c3] at H
     exact absurd H (by simp)
   ·rw [if_neg c2] at H
    have c2b0 : decide (x7_1 < (l0.length : Int)) = false := decide_eq_false c2; clear c2; obtain rfl := Option.some.inj H
    go_wp2
    go_ret
    exact ⟨by first | rfl | (simp; done) | (simp [*]; done), by repeat (first | exact Drawn0.refl _ | apply Drawn0.step)⟩

def spec_trBegins.f (a0 : ByteArray) (a1 : ByteArray) : Option (Bool) := if (a0.size : Int) ≥ (a1.size : Int) then (if 0 ≤ (a1.size : Int) then (if (a1.size : Int) ≤ (a0.size : Int) then (some ((a0.extract 0 ((a1.size : Int) : Int).toNat).toList == a1.toList)) else (none)) else (none)) else (some false)
theorem spec_trBegins.calls (a0 : ByteArray) (a1 : ByteArray) (r : Bool) (w : World) (h : spec_trBegins.f a0 a1 = some r) :
  Calls Try.prog 41 #[.string a0, .string a1] w fun e w' => e = .returned (.bool r) ∧ Drawn0 w w' := by
 have H : (if (a0.size : Int) ≥ (a1.size : Int) then (if 0 ≤ (a1.size : Int) then (if (a1.size : Int) ≤ (a0.size : Int) then (some ((a0.extract 0 ((a1.size : Int) : Int).toNat).toList == a1.toList)) else (none)) else (none)) else (some false)) = some r := h; clear h
 by_cases c3 : (a0.size : Int) ≥ (a1.size : Int)
 ·rw [if_pos c3] at H
  have c3b0 : decide ((a1.size : Int) ≤ (a0.size : Int)) = true := decide_eq_true c3; have c3b1 : decide (a1.size ≤ a0.size) = true := decide_eq_true (Int.ofNat_le.mp c3); clear c3
  by_cases c4 : 0 ≤ (a1.size : Int)
  ·rw [if_pos c4] at H
   have c4b0 := eq_true c4; have c4b1 : decide (0 ≤ (a1.size : Int)) = true := decide_eq_true c4; clear c4
   by_cases c5 : (a1.size : Int) ≤ (a0.size : Int)
   ·rw [if_pos c5] at H
    have c5b0 := eq_true c5; have c5b1 : decide ((a1.size : Int) ≤ (a0.size : Int)) = true := decide_eq_true c5; clear c5; obtain rfl := Option.some.inj H
    go_enter Try.func41, Try.ntmps41
    go_wp2
    go_ret
    exact ⟨by first | rfl | (simp; done) | (simp [*]; done), by repeat (first | exact Drawn0.refl _ | apply Drawn0.step)⟩
   ·rw [if_neg c5] at H
    exact absurd H (by simp)
  ·rw [if_neg c4] at H
   exact absurd H (by simp)
 ·rw [if_neg c3] at H
  have c3b0 : decide ((a1.size : Int) ≤ (a0.size : Int)) = false := decide_eq_false c3; have c3b1 : decide (a1.size ≤ a0.size) = false := decide_eq_false (fun h => c3 (Int.ofNat_le.mpr h)); clear c3; obtain rfl := Option.some.inj H
  go_enter Try.func41, Try.ntmps41
  go_wp2
  go_ret
  exact ⟨by first | rfl | (simp; done) | (simp [*]; done), by repeat (first | exact Drawn0.refl _ | apply Drawn0.step)⟩

def spec_l1HasS.l0 : Nat → ByteArray → List ByteArray → Int → Int → Option (Bool)
 | 0, _, _, _, _ => none
 | k + 1, x1, x7, x8, x9 => if x9 < x8 then (if 0 ≤ x9 then (if x9 < (x7.length : Int) then (if (rdOf ByteArray.empty x7 x9).toList = x1.toList then (some true) else (spec_l1HasS.l0 k x1 x7 x8 (wrap64 (x9 + 1)))) else (none)) else (none)) else (some false)
def spec_l1HasS.f (k : Nat) (l0 : List ByteArray) (a1 : ByteArray) : Option (Bool) := spec_l1HasS.l0 k a1 l0 (l0.length : Int) 0
theorem spec_l1HasS.mono_l : ∀ k, (∀ y0 y1 y2 y3, LeO (spec_l1HasS.l0 k y0 y1 y2 y3) (spec_l1HasS.l0 (k + 1) y0 y1 y2 y3))
 | 0 => fun _ _ _ _ r h => by simp [spec_l1HasS.l0] at h
 | k + 1 => by
  have ih0 := spec_l1HasS.mono_l k
  ·intro y0 y1 y2 y3
   unfold spec_l1HasS.l0
   repeat' first | (with_reducible first | exact ih0 _ _ _ _ | exact LeO.refl _ | exact LeO.none _ | refine LeO.ite ?_ ?_ | refine LeO.bind ?_ (fun _ => ?_)) | exact LeO.none _ | refine LeO.ite ?_ ?_ | refine LeO.bind ?_ (fun _ => ?_)
theorem spec_l1HasS.mono : ∀ a0 a1 k, LeO (spec_l1HasS.f k a0 a1) (spec_l1HasS.f (k + 1) a0 a1) := by
 intro a0 a1 k; have ih0 := spec_l1HasS.mono_l k
 unfold spec_l1HasS.f
 repeat' first | (with_reducible first | exact ih0 _ _ _ _ | exact LeO.refl _ | exact LeO.none _ | refine LeO.ite ?_ ?_ | refine LeO.bind ?_ (fun _ => ?_)) | exact LeO.none _ | refine LeO.ite ?_ ?_ | refine LeO.bind ?_ (fun _ => ?_)
theorem spec_l1HasS.calls (k : Nat) (A0 : Option Addr) (c0 : Nat) (l0 : List ByteArray) (a1 : ByteArray) (r : Bool) (w : World) (hr0 : Kd.C Kd.string w A0 l0.length l0) (hc0 : l0.length ≤ c0) (h : spec_l1HasS.f k l0 a1 = some r) :
  Calls Try.prog 60 #[.slice A0 l0.length c0, .string a1] w fun e w' => e = .returned (.bool r) ∧ Drawn0 w w' := by
 have HR0 := am hr0; have HC0 := am hc0; clear hr0 hc0; have H : (spec_l1HasS.l0 k a1 l0 (l0.length : Int) 0) = some r := h; clear h; have H' := am H; clear H
 go_enter Try.func60, Try.ntmps60
 go_wp2
 go_loopg [9] k (fun kq v9 w' => ∃ (x9_1 : Int), v9 = .int .i64 x9_1 ∧ Aside0 (spec_l1HasS.l0 kq a1 l0 (l0.length : Int) x9_1 = some r) ∧ Aside0 (kq ≤ k) ∧ Drawn0 w w')
 case atStart => exact ⟨(0), wZ, H', ⟨Nat.le_refl _⟩, by repeat (first | exact Drawn0.refl _ | apply Drawn0.step)⟩
 case round =>
  clear H'
  try clear p2
  obtain ⟨x9_1, rfl, HA, HK1, ⟨m1, rfl⟩⟩ := hrel; cases gk with
  | zero => exact absurd HA.out (by simp [spec_l1HasS.l0])
  | succ k1 =>
   have H := HA.out; clear HA
   simp only [spec_l1HasS.l0] at H
   by_cases c3 : x9_1 < (l0.length : Int)
   ·rw [if_pos c3] at H
    have c3b0 : decide (x9_1 < (l0.length : Int)) = true := decide_eq_true c3; clear c3
    by_cases c4 : 0 ≤ x9_1
    ·rw [if_pos c4] at H
     have c4b0 : decide (0 ≤ x9_1) = true := decide_eq_true c4; clear c4
     by_cases c5 : x9_1 < (l0.length : Int)
     ·rw [if_pos c5] at H
      have c5b0 : decide (x9_1 < (l0.length : Int)) = true := decide_eq_true c5; clear c5
      by_cases c6 : (rdOf ByteArray.empty l0 x9_1).toList = a1.toList
      ·rw [if_pos c6] at H
       have c6b0 : ((rdOf ByteArray.empty l0 x9_1).toList == a1.toList) = true := beq_iff_eq.mpr c6; have c6b1 : ((rdOf ByteArray.empty l0 x9_1).toList != a1.toList) = false := bne_eq_false_iff_eq.mpr c6; clear c6; obtain rfl := Option.some.inj H; obtain ⟨ad110, e110, hx110_0⟩ := Kd.at_string HR0.out x9_1 dT dT; cases e110; have p110 := eT (0 ≤ (x9_1 : Int)); have q110 := eT (x9_1 < (l0.length : Int))
       go_wp2
       go_ret
       exact ⟨by first | rfl | (simp; done) | (simp [*]; done), by repeat (first | exact Drawn0.refl _ | apply Drawn0.step)⟩
      ·rw [if_neg c6] at H
       have c6b0 : ((rdOf ByteArray.empty l0 x9_1).toList == a1.toList) = false := beq_eq_false_iff_ne.mpr c6; have c6b1 : ((rdOf ByteArray.empty l0 x9_1).toList != a1.toList) = true := bne_iff_ne.mpr c6; have H' := am H; clear H; obtain ⟨ad110, e110, hx110_0⟩ := Kd.at_string HR0.out x9_1 dT dT; cases e110; have p110 := eT (0 ≤ (x9_1 : Int)); have q110 := eT (x9_1 < (l0.length : Int))
       go_wp2
       go_roundg k1
       case measure => have := HK1.out; omega
       case rel => exact ⟨(wrap64 (x9_1 + 1)), wZ, H', ⟨by have := HK1.out; omega⟩, by repeat (first | exact Drawn0.refl _ | apply Drawn0.step)⟩
     ·rw [if_neg c5] at H
      exact absurd H (by simp)
    ·rw [if_neg c4] at H
     exact absurd H (by simp)
   ·rw [if_neg c3] at H
    have c3b0 : decide (x9_1 < (l0.length : Int)) = false := decide_eq_false c3; clear c3; obtain rfl := Option.some.inj H
    go_wp2
    go_ret
    exact ⟨by first | rfl | (simp; done) | (simp [*]; done), by repeat (first | exact Drawn0.refl _ | apply Drawn0.step)⟩

mutual
def spec_trNodes.l0 : Nat → List ByteArray → List ByteArray → Int → Option (List ByteArray)
 | 0, _, _, _ => none
 | k + 1, x0, x3, x4 => if x4 ≤ 12 then (spec_trNodes.l1 k x0 x3 x4 x0 (x0.length : Int) 0) else (some x3)
def spec_trNodes.l1 : Nat → List ByteArray → List ByteArray → Int → List ByteArray → Int → Int → Option (List ByteArray)
 | 0, _, _, _, _, _, _ => none
 | k + 1, x0, x3, x4, x12, x13, x14 => if x14 < x13 then (if 0 ≤ x14 then (if x14 < (x12.length : Int) then (if ((rdOf ByteArray.empty x12 x14).size : Int) ≥ x4 then (if 0 ≤ x4 then (if x4 ≤ ((rdOf ByteArray.empty x12 x14).size : Int) then (if 0 ≤ (wrap64 ((x3.length : Int) - 1)) then (if (wrap64 ((x3.length : Int) - 1)) < (x3.length : Int) then (if ((rdOf ByteArray.empty x12 x14).extract 0 (x4 : Int).toNat).toList = (rdOf ByteArray.empty x3 (wrap64 ((x3.length : Int) - 1))).toList then (spec_trNodes.l1 k x0 x3 x4 x12 x13 (wrap64 (x14 + 1))) else (if x3.length < 8796093022208 then (spec_trNodes.l1 k x0 (x3 ++ [(rdOf ByteArray.empty x12 x14).extract 0 (x4 : Int).toNat]) x4 x12 x13 (wrap64 (x14 + 1))) else (none))) else (none)) else (none)) else (none)) else (none)) else (spec_trNodes.l1 k x0 x3 x4 x12 x13 (wrap64 (x14 + 1)))) else (none)) else (none)) else (spec_trNodes.l0 k x0 x3 (wrap64 (x4 + 1)))
end
def spec_trNodes.f (k : Nat) (l0 : List ByteArray) : Option (List ByteArray) := spec_trNodes.l0 k l0 (([(⟨#[]⟩ : ByteArray)] : List ByteArray)) 1
theorem spec_trNodes.mono_l : ∀ k, (∀ y0 y1 y2, LeO (spec_trNodes.l0 k y0 y1 y2) (spec_trNodes.l0 (k + 1) y0 y1 y2)) ∧ (∀ y0 y1 y2 y3 y4 y5, LeO (spec_trNodes.l1 k y0 y1 y2 y3 y4 y5) (spec_trNodes.l1 (k + 1) y0 y1 y2 y3 y4 y5))
 | 0 => ⟨fun _ _ _ r h => by simp [spec_trNodes.l0] at h, fun _ _ _ _ _ _ r h => by simp [spec_trNodes.l1] at h⟩
 | k + 1 => by
  obtain ⟨ih0, ih1⟩ := spec_trNodes.mono_l k; refine ⟨?_, ?_⟩
  ·intro y0 y1 y2
   unfold spec_trNodes.l0
   repeat' first | (with_reducible first | exact ih0 _ _ _ | exact ih1 _ _ _ _ _ _ | exact LeO.refl _ | exact LeO.none _ | refine LeO.ite ?_ ?_ | refine LeO.bind ?_ (fun _ => ?_)) | exact LeO.none _ | refine LeO.ite ?_ ?_ | refine LeO.bind ?_ (fun _ => ?_)
  ·intro y0 y1 y2 y3 y4 y5
   unfold spec_trNodes.l1
   repeat' first | (with_reducible first | exact ih0 _ _ _ | exact ih1 _ _ _ _ _ _ | exact LeO.refl _ | exact LeO.none _ | refine LeO.ite ?_ ?_ | refine LeO.bind ?_ (fun _ => ?_)) | exact LeO.none _ | refine LeO.ite ?_ ?_ | refine LeO.bind ?_ (fun _ => ?_)
theorem spec_trNodes.mono : ∀ a0 k, LeO (spec_trNodes.f k a0) (spec_trNodes.f (k + 1) a0) := by
 intro a0 k; obtain ⟨ih0, ih1⟩ := spec_trNodes.mono_l k
 unfold spec_trNodes.f
 repeat' first | (with_reducible first | exact ih0 _ _ _ | exact ih1 _ _ _ _ _ _ | exact LeO.refl _ | exact LeO.none _ | refine LeO.ite ?_ ?_ | refine LeO.bind ?_ (fun _ => ?_)) | exact LeO.none _ | refine LeO.ite ?_ ?_ | refine LeO.bind ?_ (fun _ => ?_)
theorem spec_trNodes.calls (k : Nat) (A0 : Option Addr) (c0 : Nat) (l0 : List ByteArray) (r : List ByteArray) (w : World) (hr0 : Kd.C Kd.string w A0 l0.length l0) (hc0 : l0.length ≤ c0) (h : spec_trNodes.f k l0 = some r) :
  Calls Try.prog 72 #[.slice A0 l0.length c0] w fun e w' => ∃ v0_ : Value, e = .returned (v0_) ∧ Kd.R Kd.string 9 w' w.heap.size (fun _ => True) v0_ r ∧ Below w.heap.size w w' := by
 have HR0 := am hr0; have HC0 := am hc0; clear hr0 hc0; have HB := am (Below.refl w.heap.size w); have H : (spec_trNodes.l0 k l0 (([(⟨#[]⟩ : ByteArray)] : List ByteArray)) 1) = some r := h; clear h; obtain ⟨y111, hy111⟩ : ∃ y_ : List ByteArray, y_ = (([(⟨#[]⟩ : ByteArray)] : List ByteArray)) := ⟨_, rfl⟩
 replace H : (spec_trNodes.l0 k l0 y111 1) = some r := by first | (rw [hy111]; with_reducible exact H) | (have H2_ := (Option.bind_some _ _).symm.trans H; rw [hy111]; with_reducible exact H2_) | (have H2_ := (Option.bind_some _ _).symm.trans H; with_reducible exact H2_) | with_reducible exact H | (rw [hy111]; exact H) | exact H
 have Ny111 := am hy111; clear hy111; have H' := am H; clear H
 go_enter Try.func72, Try.ntmps72
 go_wp2_with (first | ((with_reducible refine gate_dst (N := 7) rfl ?_); (try (refine gate_guard (by rfl) ?_; dsimp only)); refine Kd.R_lit Kd.string _ 9 ?hg (N := 7) ?hd (xs := ([(⟨#[]⟩ : ByteArray)] : List ByteArray)) (inner := [.string (⟨#[]⟩ : ByteArray)]) (ok := fun _ => True) (okp := fun _ => True) ?hr ?hp (fun _ hk => hk) trivial (Below.refl _ _) (Nat.le_refl _) (by simp) ?_; (case hd => rfl); (case hg => rfl); (case hr => first | (go_simp; done) | (go_simp; rfl)); (case hp => exact (Reps.one (show Kd.M Kd.string _ _ _ (⟨#[]⟩ : ByteArray) [.string (⟨#[]⟩ : ByteArray)] from rfl) (Reps.none _ _))); intro v112 w2 ho3 hb hg_ hnew_; clear hg_ hnew_; (first | rw [← Ny111.out] at ho3 | (simp only [Int.reduceToNat] at ho3; rw [← Ny111.out] at ho3)); have n0_ := Rl ho3 HB; have n1_ := Bb HB hb; clear HB; revert n0_ n1_; intro HO113 HB; clear hb ho3))
 repeat (go_quiet (first | ((with_reducible refine gate_dst (N := 7) rfl ?_); (try (refine gate_guard (by rfl) ?_; dsimp only)); refine Kd.R_lit Kd.string _ 9 ?hg (N := 7) ?hd (xs := ([(⟨#[]⟩ : ByteArray)] : List ByteArray)) (inner := [.string (⟨#[]⟩ : ByteArray)]) (ok := fun _ => True) (okp := fun _ => True) ?hr ?hp (fun _ hk => hk) trivial (Below.refl _ _) (Nat.le_refl _) (by simp) ?_; (case hd => rfl); (case hg => rfl); (case hr => first | (go_simp; done) | (go_simp; rfl)); (case hp => exact (Reps.one (show Kd.M Kd.string _ _ _ (⟨#[]⟩ : ByteArray) [.string (⟨#[]⟩ : ByteArray)] from rfl) (Reps.none _ _))); intro v112 w2 ho3 hb hg_ hnew_; clear hg_ hnew_; (first | rw [← Ny111.out] at ho3 | (simp only [Int.reduceToNat] at ho3; rw [← Ny111.out] at ho3)); have n0_ := Rl ho3 HB; have n1_ := Bb HB hb; clear HB; revert n0_ n1_; intro HO113 HB; clear hb ho3)); try go_wp2_with (first | ((with_reducible refine gate_dst (N := 7) rfl ?_); (try (refine gate_guard (by rfl) ?_; dsimp only)); refine Kd.R_lit Kd.string _ 9 ?hg (N := 7) ?hd (xs := ([(⟨#[]⟩ : ByteArray)] : List ByteArray)) (inner := [.string (⟨#[]⟩ : ByteArray)]) (ok := fun _ => True) (okp := fun _ => True) ?hr ?hp (fun _ hk => hk) trivial (Below.refl _ _) (Nat.le_refl _) (by simp) ?_; (case hd => rfl); (case hg => rfl); (case hr => first | (go_simp; done) | (go_simp; rfl)); (case hp => exact (Reps.one (show Kd.M Kd.string _ _ _ (⟨#[]⟩ : ByteArray) [.string (⟨#[]⟩ : ByteArray)] from rfl) (Reps.none _ _))); intro v112 w2 ho3 hb hg_ hnew_; clear hg_ hnew_; (first | rw [← Ny111.out] at ho3 | (simp only [Int.reduceToNat] at ho3; rw [← Ny111.out] at ho3)); have n0_ := Rl ho3 HB; have n1_ := Bb HB hb; clear HB; revert n0_ n1_; intro HO113 HB; clear hb ho3)))
 (try simp only [aP])
 go_loopg [3, 4] k (fun kq v3 v4 w' => ∃ (x3_1 : List ByteArray) (x4_1 : Int), v4 = .int .i64 x4_1 ∧ Aside0 (spec_trNodes.l0 kq l0 x3_1 x4_1 = some r) ∧ Aside0 (kq ≤ k) ∧ Aside0 (Kd.R Kd.string 9 w' w.heap.size (fun _ => True) v3 x3_1) ∧ Aside0 (Below w.heap.size w w'))
 case atStart => exact ⟨(y111), (1), wZ, H', ⟨Nat.le_refl _⟩, ⟨Rz HO113.out⟩, ⟨Bz HB.out⟩⟩
 case round =>
  clear H'
  try clear p2
  obtain ⟨x3_1, x4_1, rfl, HA, HK1, HO_3, HB⟩ := hrel; cases gk with
  | zero => exact absurd HA.out (by simp [spec_trNodes.l0])
  | succ k1 =>
   have H := HA.out; clear HA
   simp only [spec_trNodes.l0] at H
   by_cases c4 : x4_1 ≤ 12
   ·rw [if_pos c4] at H
    have c4b0 : decide (x4_1 ≤ 12) = true := decide_eq_true c4; clear c4; have H' := am H; clear H
    go_wp2
    repeat (go_quiet (fail); try go_wp2)
    go_loopg [3, 14] k1 (fun kq v3 v14 w' => ∃ (x3_2 : List ByteArray) (x14_2 : Int), v14 = .int .i64 x14_2 ∧ Aside0 (spec_trNodes.l1 kq l0 x3_2 x4_1 l0 (l0.length : Int) x14_2 = some r) ∧ Aside0 (kq ≤ k1) ∧ Aside0 (Kd.R Kd.string 9 w' w.heap.size (fun _ => True) v3 x3_2) ∧ Aside0 (Below w.heap.size w w'))
    case atStart => exact ⟨(x3_1), (0), wZ, H', ⟨Nat.le_refl _⟩, ⟨Rz HO_3.out⟩, ⟨Bz HB.out⟩⟩
    case round =>
     clear H'
     try clear p2
     try clear c4
     try clear c4b0
     try clear p2
     obtain ⟨x3_2, x14_2, rfl, HA, HK2, HO_3, HB⟩ := hrel; cases gk with
     | zero => exact absurd HA.out (by simp [spec_trNodes.l1])
     | succ k2 =>
      have H := HA.out; clear HA
      simp only [spec_trNodes.l1] at H
      by_cases c5 : x14_2 < (l0.length : Int)
      ·rw [if_pos c5] at H
       have c5b0 : decide (x14_2 < (l0.length : Int)) = true := decide_eq_true c5; clear c5
       by_cases c6 : 0 ≤ x14_2
       ·rw [if_pos c6] at H
        have c6b0 : decide (0 ≤ x14_2) = true := decide_eq_true c6; clear c6
        by_cases c7 : x14_2 < (l0.length : Int)
        ·rw [if_pos c7] at H
         have c7b0 : decide (x14_2 < (l0.length : Int)) = true := decide_eq_true c7; clear c7
         by_cases c8 : ((rdOf ByteArray.empty l0 x14_2).size : Int) ≥ x4_1
         ·rw [if_pos c8] at H
          have c8b0 : decide (x4_1 ≤ ((rdOf ByteArray.empty l0 x14_2).size : Int)) = true := decide_eq_true c8; clear c8
          by_cases c9 : 0 ≤ x4_1
          ·rw [if_pos c9] at H
           have c9b0 := eq_true c9; have c9b1 : decide (0 ≤ x4_1) = true := decide_eq_true c9; clear c9
           by_cases c10 : x4_1 ≤ ((rdOf ByteArray.empty l0 x14_2).size : Int)
           ·rw [if_pos c10] at H
            have c10b0 := eq_true c10; have c10b1 : decide (x4_1 ≤ ((rdOf ByteArray.empty l0 x14_2).size : Int)) = true := decide_eq_true c10; clear c10; obtain ⟨ji11, hji11⟩ : ∃ j_ : Int, (wrap64 ((x3_2.length : Int) - 1)) = j_ := ⟨_, rfl⟩
            replace H : (if 0 ≤ (ji11) then (if (ji11) < (x3_2.length : Int) then (if ((rdOf ByteArray.empty l0 x14_2).extract 0 (x4_1 : Int).toNat).toList = (rdOf ByteArray.empty x3_2 (ji11)).toList then (spec_trNodes.l1 k2 l0 x3_2 x4_1 l0 (l0.length : Int) (wrap64 (x14_2 + 1))) else (if x3_2.length < 8796093022208 then (spec_trNodes.l1 k2 l0 (x3_2 ++ [(rdOf ByteArray.empty l0 x14_2).extract 0 (x4_1 : Int).toNat]) x4_1 l0 (l0.length : Int) (wrap64 (x14_2 + 1))) else (none))) else (none)) else (none)) = some r := by first | (rw [hji11] at H; exact H) | (simp only [hji11] at H ⊢; exact H)
            have hji11w : (IntKind.i64.wrap ((x3_2.length : Int) - 1)) = ji11 := (i64_w _).trans hji11
            by_cases c12 : 0 ≤ (ji11)
            ·rw [if_pos c12] at H
             have c12b0 : decide (0 ≤ (ji11)) = true := decide_eq_true c12; clear c12
             by_cases c13 : (ji11) < (x3_2.length : Int)
             ·rw [if_pos c13] at H
              have c13b0 : decide ((ji11) < (x3_2.length : Int)) = true := decide_eq_true c13; clear c13
              by_cases c14 : ((rdOf ByteArray.empty l0 x14_2).extract 0 (x4_1 : Int).toNat).toList = (rdOf ByteArray.empty x3_2 (ji11)).toList
              ·rw [if_pos c14] at H
               have c14b0 : (((rdOf ByteArray.empty l0 x14_2).extract 0 (x4_1 : Int).toNat).toList == (rdOf ByteArray.empty x3_2 (ji11)).toList) = true := beq_iff_eq.mpr c14; have c14b1 : (((rdOf ByteArray.empty l0 x14_2).extract 0 (x4_1 : Int).toNat).toList != (rdOf ByteArray.empty x3_2 (ji11)).toList) = false := bne_eq_false_iff_eq.mpr c14; clear c14; have H' := am H; clear H; have p114 : 0 ≤ (x14_2 : Int) := dT; have q114 : x14_2 < (l0.length : Int) := dT; obtain ⟨ad114, e114, hx114_0⟩ := Kd.at_string HR0.out x14_2 p114 q114; cases e114; replace hx114_0 := (HB.out.cell (World.block_lt_of_cell? w _ hx114_0)).trans hx114_0; replace p114 := eq_true p114; replace q114 := eq_true q114; obtain ⟨Ao15, co15, eo15⟩ := Kd.R_slice HO_3.out; subst eo15; obtain ⟨ad115, e115, hx115_0⟩ := Kd.at_string (Kd.R_reads' HO_3.out).2.2 (ji11) dT dT; cases e115; have p115 := eT (0 ≤ ((ji11) : Int)); have q115 := eT ((ji11) < (x3_2.length : Int))
               go_wp2
               repeat (go_quiet (fail); try go_wp2)
               go_roundg k2
               case measure => have := HK1.out; have := HK2.out; omega
               case rel => exact ⟨(x3_2), (wrap64 (x14_2 + 1)), wZ, H', ⟨by have := HK1.out; have := HK2.out; omega⟩, ⟨Rz HO_3.out⟩, ⟨Bz HB.out⟩⟩
              ·rw [if_neg c14] at H
               have c14b0 : (((rdOf ByteArray.empty l0 x14_2).extract 0 (x4_1 : Int).toNat).toList == (rdOf ByteArray.empty x3_2 (ji11)).toList) = false := beq_eq_false_iff_ne.mpr c14; have c14b1 : (((rdOf ByteArray.empty l0 x14_2).extract 0 (x4_1 : Int).toNat).toList != (rdOf ByteArray.empty x3_2 (ji11)).toList) = true := bne_iff_ne.mpr c14; have c16b0 := eq_true (dT : 0 ≤ x4_1); have c17b0 := eq_true (dT : x4_1 ≤ ((rdOf ByteArray.empty l0 x14_2).size : Int))
               by_cases c18 : x3_2.length < 8796093022208
               ·rw [if_pos c18] at H
                have LMc18 := am c18; clear c18; obtain ⟨y116, hy116⟩ : ∃ y_ : List ByteArray, y_ = (x3_2 ++ [(rdOf ByteArray.empty l0 x14_2).extract 0 (x4_1 : Int).toNat]) := ⟨_, rfl⟩
                replace H : (spec_trNodes.l1 k2 l0 y116 x4_1 l0 (l0.length : Int) (wrap64 (x14_2 + 1))) = some r := by first | (rw [hy116]; with_reducible exact H) | (have H2_ := (Option.bind_some _ _).symm.trans H; rw [hy116]; with_reducible exact H2_) | (have H2_ := (Option.bind_some _ _).symm.trans H; with_reducible exact H2_) | with_reducible exact H | (rw [hy116]; exact H) | exact H
                have Ny116 := am hy116; clear hy116; have H' := am H; clear H; have p114 : 0 ≤ (x14_2 : Int) := dT; have q114 : x14_2 < (l0.length : Int) := dT; obtain ⟨ad114, e114, hx114_0⟩ := Kd.at_string HR0.out x14_2 p114 q114; cases e114; replace hx114_0 := (HB.out.cell (World.block_lt_of_cell? w _ hx114_0)).trans hx114_0; replace p114 := eq_true p114; replace q114 := eq_true q114; obtain ⟨Ao19, co19, eo19⟩ := Kd.R_slice HO_3.out; subst eo19; obtain ⟨ad115, e115, hx115_0⟩ := Kd.at_string (Kd.R_reads' HO_3.out).2.2 (ji11) dT dT; cases e115; have p115 := eT (0 ≤ ((ji11) : Int)); have q115 := eT ((ji11) < (x3_2.length : Int))
                go_wp2_with (first | ((with_reducible refine gate_builtin (b := .append) (xs := #[.tmp 34, .tmp 38]) rfl ?_); (try (refine gate_guard (by rfl) ?_; dsimp only)); at_builtin; refine Kd.R_append Kd.string (w0 := w) w.heap.size rfl (.tmp 34) (.tmp 38) 38 9 (.string ⟨#[]⟩) 16 rfl Try.underlying38 info9 rfl (by decide) (by omega) (.slice (some ad115) x3_2.length co19) x3_2 ((rdOf ByteArray.empty l0 x14_2).extract 0 (x4_1 : Int).toNat) [.string ((rdOf ByteArray.empty l0 x14_2).extract 0 (x4_1 : Int).toNat)] (fun _ => True) (fun _ => False) rfl rfl ?aP (fun _ hk => hk.elim) ?aF ?aO ?aB ?aS ?aL ?_; (case aP => exact rfl); (case aB => exact (Bz HB.out)); (case aF => exact (fun _ _ => trivial)); (case aO => exact (Rz HO_3.out)); (case aS => exact (below_size (Bz HB.out))); (case aL => have := LMc18.out; omega); intro v117 w20 ho hb hg hat; rw [← Ny116.out] at ho; have n0_ := am (hb); have n1_ := am (ho); clear HB HO_3; revert n0_ n1_; intro HB HO118; clear ho hb hg hat))
                repeat (go_quiet (first | ((with_reducible refine gate_builtin (b := .append) (xs := #[.tmp 34, .tmp 38]) rfl ?_); (try (refine gate_guard (by rfl) ?_; dsimp only)); at_builtin; refine Kd.R_append Kd.string (w0 := w) w.heap.size rfl (.tmp 34) (.tmp 38) 38 9 (.string ⟨#[]⟩) 16 rfl Try.underlying38 info9 rfl (by decide) (by omega) (.slice (some ad115) x3_2.length co19) x3_2 ((rdOf ByteArray.empty l0 x14_2).extract 0 (x4_1 : Int).toNat) [.string ((rdOf ByteArray.empty l0 x14_2).extract 0 (x4_1 : Int).toNat)] (fun _ => True) (fun _ => False) rfl rfl ?aP (fun _ hk => hk.elim) ?aF ?aO ?aB ?aS ?aL ?_; (case aP => exact rfl); (case aB => exact (Bz HB.out)); (case aF => exact (fun _ _ => trivial)); (case aO => exact (Rz HO_3.out)); (case aS => exact (below_size (Bz HB.out))); (case aL => have := LMc18.out; omega); intro v117 w20 ho hb hg hat; rw [← Ny116.out] at ho; have n0_ := am (hb); have n1_ := am (ho); clear HB HO_3; revert n0_ n1_; intro HB HO118; clear ho hb hg hat)); try go_wp2_with (first | ((with_reducible refine gate_builtin (b := .append) (xs := #[.tmp 34, .tmp 38]) rfl ?_); (try (refine gate_guard (by rfl) ?_; dsimp only)); at_builtin; refine Kd.R_append Kd.string (w0 := w) w.heap.size rfl (.tmp 34) (.tmp 38) 38 9 (.string ⟨#[]⟩) 16 rfl Try.underlying38 info9 rfl (by decide) (by omega) (.slice (some ad115) x3_2.length co19) x3_2 ((rdOf ByteArray.empty l0 x14_2).extract 0 (x4_1 : Int).toNat) [.string ((rdOf ByteArray.empty l0 x14_2).extract 0 (x4_1 : Int).toNat)] (fun _ => True) (fun _ => False) rfl rfl ?aP (fun _ hk => hk.elim) ?aF ?aO ?aB ?aS ?aL ?_; (case aP => exact rfl); (case aB => exact (Bz HB.out)); (case aF => exact (fun _ _ => trivial)); (case aO => exact (Rz HO_3.out)); (case aS => exact (below_size (Bz HB.out))); (case aL => have := LMc18.out; omega); intro v117 w20 ho hb hg hat; rw [← Ny116.out] at ho; have n0_ := am (hb); have n1_ := am (ho); clear HB HO_3; revert n0_ n1_; intro HB HO118; clear ho hb hg hat)))
                go_roundg k2
                case measure => have := HK1.out; have := HK2.out; omega
                case rel => exact ⟨(y116), (wrap64 (x14_2 + 1)), wZ, H', ⟨by have := HK1.out; have := HK2.out; omega⟩, ⟨Rz HO118.out⟩, ⟨Bz HB.out⟩⟩
               ·rw [if_neg c18] at H
                exact absurd H (by simp)
             ·rw [if_neg c13] at H
              exact absurd H (by simp)
            ·rw [if_neg c12] at H
             exact absurd H (by simp)
           ·rw [if_neg c10] at H
            exact absurd H (by simp)
          ·rw [if_neg c9] at H
           exact absurd H (by simp)
         ·rw [if_neg c8] at H
          have c8b0 : decide (x4_1 ≤ ((rdOf ByteArray.empty l0 x14_2).size : Int)) = false := decide_eq_false c8; clear c8; have H' := am H; clear H; have p114 : 0 ≤ (x14_2 : Int) := dT; have q114 : x14_2 < (l0.length : Int) := dT; obtain ⟨ad114, e114, hx114_0⟩ := Kd.at_string HR0.out x14_2 p114 q114; cases e114; replace hx114_0 := (HB.out.cell (World.block_lt_of_cell? w _ hx114_0)).trans hx114_0; replace p114 := eq_true p114; replace q114 := eq_true q114
          go_wp2
          repeat (go_quiet (fail); try go_wp2)
          go_roundg k2
          case measure => have := HK1.out; have := HK2.out; omega
          case rel => exact ⟨(x3_2), (wrap64 (x14_2 + 1)), wZ, H', ⟨by have := HK1.out; have := HK2.out; omega⟩, ⟨Rz HO_3.out⟩, ⟨Bz HB.out⟩⟩
        ·rw [if_neg c7] at H
         exact absurd H (by simp)
       ·rw [if_neg c6] at H
        exact absurd H (by simp)
      ·rw [if_neg c5] at H
       have c5b0 : decide (x14_2 < (l0.length : Int)) = false := decide_eq_false c5; clear c5; have H' := am H; clear H
       go_wp2
       repeat (go_quiet (fail); try go_wp2)
       go_roundg k2
       case measure => have := HK1.out; have := HK2.out; omega
       case rel => exact ⟨(x3_2), (wrap64 (x4_1 + 1)), wZ, H', ⟨by have := HK1.out; have := HK2.out; omega⟩, ⟨Rz HO_3.out⟩, ⟨Bz HB.out⟩⟩
   ·rw [if_neg c4] at H
    have c4b0 : decide (x4_1 ≤ 12) = false := decide_eq_false c4; clear c4; obtain rfl := Option.some.inj H
    go_wp2
    repeat (go_quiet (fail); try go_wp2)
    go_ret
    exact ⟨_, eZ, Rz HO_3.out, Bz HB.out⟩

def spec_biNew.f (a0 : Int) : Option (Int × List Int) := if 0 ≤ (wrap64 (Int.tdiv (wrap64 (a0 + 15)) 16)) then (if (wrap64 (Int.tdiv (wrap64 (a0 + 15)) 16) : Int).toNat ≤ 35184372088832 then (some (a0, (List.replicate (wrap64 (Int.tdiv (wrap64 (a0 + 15)) 16) : Int).toNat 0))) else (none)) else (none)
theorem spec_biNew.calls (a0 : Int) (r1 : Int) (r2 : List Int) (w : World) (h : spec_biNew.f a0 = some (r1, r2)) :
  Calls Try.prog 93 #[.int .i64 a0] w fun e w' => ∃ v1_ : Value, e = .returned (.agg #[.int .i64 r1, v1_]) ∧ Kd.R (Kd.int .i64) 3 w' w.heap.size (fun _ => True) v1_ r2 ∧ Below w.heap.size w w' := by
 have hu30 := Try.underlying30; have HB := am (Below.refl w.heap.size w); have H : (if 0 ≤ (wrap64 (Int.tdiv (wrap64 (a0 + 15)) 16)) then (if (wrap64 (Int.tdiv (wrap64 (a0 + 15)) 16) : Int).toNat ≤ 35184372088832 then (some (a0, (List.replicate (wrap64 (Int.tdiv (wrap64 (a0 + 15)) 16) : Int).toNat 0))) else (none)) else (none)) = some (r1, r2) := h; clear h; obtain ⟨ji2, hji2⟩ : ∃ j_ : Int, (wrap64 (Int.tdiv (wrap64 (a0 + 15)) 16)) = j_ := ⟨_, rfl⟩
 replace H : (if 0 ≤ (ji2) then (if (ji2 : Int).toNat ≤ 35184372088832 then (some (a0, (List.replicate (ji2 : Int).toNat 0))) else (none)) else (none)) = some (r1, r2) := by first | (rw [hji2] at H; exact H) | (simp only [hji2] at H ⊢; exact H)
 have hji2w : (IntKind.i64.wrap (Int.tdiv (wrap64 (a0 + 15)) 16)) = ji2 := (i64_w _).trans hji2
 by_cases c3 : 0 ≤ (ji2)
 ·rw [if_pos c3] at H
  have c3b0 := eq_true c3; have c3b1 : decide (0 ≤ (ji2)) = true := decide_eq_true c3; clear c3
  by_cases c4 : (ji2 : Int).toNat ≤ 35184372088832
  ·rw [if_pos c4] at H
   have c4b0 := eq_true c4; have c4b1 : decide ((ji2 : Int).toNat ≤ 35184372088832) = true := decide_eq_true c4; clear c4; obtain ⟨y120, hy120⟩ : ∃ y_ : List Int, y_ = (List.replicate (ji2 : Int).toNat 0) := ⟨_, rfl⟩
   replace H : (some (a0, y120)) = some (r1, r2) := by first | (rw [hy120]; with_reducible exact H) | (have H2_ := (Option.bind_some _ _).symm.trans H; rw [hy120]; with_reducible exact H2_) | (have H2_ := (Option.bind_some _ _).symm.trans H; with_reducible exact H2_) | with_reducible exact H | (rw [hy120]; exact H) | exact H
   have Ny120 := am hy120; clear hy120
   simp only [Option.some.injEq, Prod.mk.injEq] at H
   obtain ⟨rfl, rfl⟩ := H
   go_enter Try.func93, Try.ntmps93
   go_wp2_with (first | ((with_reducible refine gate_dst (N := 2) rfl ?_); refine bE 2 #[.int .i64 0, .slice none 0 0] 30 ?_; intro gb119 hg w5 hbox hb; have n0_ := Bb HB hb; have n1_ := am (hbox); have n2_ := Gl HB hg; have n3_ := Gl HB hg; clear HB; revert n0_ n1_ n2_ n3_; intro HB BK119 GW119 GE119; clear hb hbox hg) | ((with_reducible refine gate_dst (N := 7) rfl ?_); refine Kd.R_make (Kd.int .i64) _ 3 rfl (N := 7) rfl 22 _ _ rfl ji2 rfl rfl Try.underlying22 (.int .i64 0) 8 info3 rfl (by decide) (by omega) 0 (ok := fun _ => True) (okp := fun _ => True) rfl (fun _ hk => hk) trivial (dT) (Nat.le_trans (Nat.mul_le_mul_right _ (dT : ji2.toNat ≤ 35184372088832)) (by omega)) (Below.refl _ _) (Nat.le_refl _) ?_; intro v121 w6 ho7 hb hg_ hnew_; clear hg_ hnew_; (first | rw [← Ny120.out] at ho7 | (simp only [Int.reduceToNat] at ho7; rw [← Ny120.out] at ho7)); have n0_ := Rm ho7 HB; have n1_ := Kb BK119 hb; have n2_ := Bc HB hb; clear BK119 HB; revert n0_ n1_ n2_; intro HO122 BK119 HB; clear hb ho7; obtain ⟨Ao8, co8, eo8⟩ := Kd.R_slice HO122.out; subst eo8; obtain ⟨hcz9_0, hcz9_1, hfz9_0, hfz9_1⟩ := cf2 (w := w6) BK119))
   refine bodyPost_ret (results_cell_row rfl _ _ gb119 30 #[.int .i64 a0, .slice Ao8 y120.length co8] (0, 0) _ rfl (by (with_reducible repeat (first | refine blk_drewN ?_ _ | refine blk_drew ?_ | refine blk_alloc ?_ _)); refine blk_put (cs := #[.int .i64 a0, .slice none 0 0]) ?_ 1 _ rfl; (with_reducible repeat (first | refine blk_drewN ?_ _ | refine blk_drew ?_ | refine blk_alloc ?_ _)); refine blk_put (cs := #[.int .i64 0, .slice none 0 0]) ?_ 0 _ rfl; exact Kz BK119.out) Try.underlying30 rfl (by kernel_rfl)) rfl ?_; exact ⟨_, by first | rfl | (simp [errW_none, errW_some] <;> rfl) | (simp only [← hji2]; first | rfl | (simp [errW_none, errW_some] <;> rfl)) | (simp [*, errW_none, errW_some] <;> rfl), Rz (Kd.R_mono (Kd.R_far (p := ⟨gb119, 1, none⟩) (Kd.R_far (p := ⟨gb119, 0, none⟩) (Kd.R_types HO122.out BK119.out (by decide)) (fun _ hk => hk.2) (.int .i64 a0)) (fun _ hk => hk.2) (.slice Ao8 y120.length co8)) (fun _ hk => trivial)), Bq⟩
  ·rw [if_neg c4] at H
   exact absurd H (by simp)
 ·rw [if_neg c3] at H
  exact absurd H (by simp)

def spec_biSet.f (a0_0 : Int) (l0_1 : List Int) (a1 : Int) : Option (List Int) := if 0 ≤ (wrap64 (Int.tdiv a1 16)) then (if (wrap64 (Int.tdiv a1 16)) < (l0_1.length : Int) then (if 0 ≤ (Int.tmod a1 16) then (some (l0_1.set ((wrap64 (Int.tdiv a1 16)) : Int).toNat (Go.bits .or .i64 (rd l0_1 (wrap64 (Int.tdiv a1 16))) (shl .i64 1 (Int.tmod a1 16))))) else (none)) else (none)) else (none)
def spec_biSet.T1 : Bool × List (List Nat × List Nat) := (true, [([], []), ([0], [0]), ([], []), ([2], [2]), ([1, 3], [1, 3]), ([4], [4]), ([], []), ([6], [6]), ([7], [7]), ([5, 8], [5, 8]), ([1, 3, 0, 1, 2, 3, 4, 5, 6, 7, 8, 9], [1, 3]), ([10, 9, 0, 1, 2, 3, 4, 5, 6, 7, 8, 9], [9, 10])])
def spec_biSet.B1 : List Nat := [0, 1, 0, 4, 15, 31, 0, 64, 192, 511, 1023, 2047]
theorem spec_biSet.tab1 : rtab .any (opsOf Try.f94 1) = spec_biSet.T1 := by kernel_rfl
theorem spec_biSet.bits1 : waitsOk spec_biSet.T1.2 spec_biSet.B1 = true := by kernel_rfl
theorem spec_biSet.calls (a0_0 : Int) (P0_1_ : Nat → Prop) (u9000_ : Value) (l0_1 : List Int) (a1 : Int) (r : List Int) (w0 w : World) (hB : Below w0.heap.size w0 w) (ho0_1 : Kd.R (Kd.int .i64) 3 w w0.heap.size P0_1_ u9000_ l0_1) (h : spec_biSet.f a0_0 l0_1 a1 = some r) :
  Calls Try.prog 94 #[.agg #[.int .i64 a0_0, u9000_], .int .i64 a1] w fun e w' => e = .returned (.tuple #[]) ∧ Kd.R (Kd.int .i64) 3 w' w0.heap.size (fun k_ => (P0_1_ k_ ∨ w.heap.size ≤ k_)) u9000_ r ∧ Below w0.heap.size w0 w' ∧ Kept w w' (fun k_ => P0_1_ k_) := by
 have hu30 := Try.underlying30; have HO0_1 := am (show Kd.R (Kd.int .i64) 3 w w0.heap.size (fun k_ => (P0_1_ k_ ∨ w.heap.size ≤ k_)) u9000_ l0_1 from Kd.R_mono ho0_1 (fun k_ hk => (.inl hk))); have HK := am (Kept.refl w (fun k_ => P0_1_ k_)); have HW0 := am hB.size; have HB := am hB; clear hB; have H : (if 0 ≤ (wrap64 (Int.tdiv a1 16)) then (if (wrap64 (Int.tdiv a1 16)) < (l0_1.length : Int) then (if 0 ≤ (Int.tmod a1 16) then (some (l0_1.set ((wrap64 (Int.tdiv a1 16)) : Int).toNat (Go.bits .or .i64 (rd l0_1 (wrap64 (Int.tdiv a1 16))) (shl .i64 1 (Int.tmod a1 16))))) else (none)) else (none)) else (none)) = some r := h; clear h; obtain ⟨ji3, hji3⟩ : ∃ j_ : Int, (wrap64 (Int.tdiv a1 16)) = j_ := ⟨_, rfl⟩
 replace H : (if 0 ≤ (ji3) then (if (ji3) < (l0_1.length : Int) then (if 0 ≤ (Int.tmod a1 16) then (some (l0_1.set ((ji3) : Int).toNat (Go.bits .or .i64 (rd l0_1 (ji3)) (shl .i64 1 (Int.tmod a1 16))))) else (none)) else (none)) else (none)) = some r := by first | (rw [hji3] at H; exact H) | (simp only [hji3] at H ⊢; exact H)
 have hji3w : (IntKind.i64.wrap (Int.tdiv a1 16)) = ji3 := (i64_w _).trans hji3
 by_cases c4 : 0 ≤ (ji3)
 ·rw [if_pos c4] at H
  have c4b0 : decide (0 ≤ (ji3)) = true := decide_eq_true c4; clear c4
  by_cases c5 : (ji3) < (l0_1.length : Int)
  ·rw [if_pos c5] at H
   have c5b0 : decide ((ji3) < (l0_1.length : Int)) = true := decide_eq_true c5; clear c5; obtain ⟨ji6, hji6⟩ : ∃ j_ : Int, (Int.tmod a1 16) = j_ := ⟨_, rfl⟩
   replace H : (if 0 ≤ (ji6) then (some (l0_1.set ((ji3) : Int).toNat (Go.bits .or .i64 (rd l0_1 (ji3)) (shl .i64 1 (ji6))))) else (none)) = some r := by first | (rw [hji6] at H; exact H) | (simp only [hji6] at H ⊢; exact H)
   by_cases c7 : 0 ≤ (ji6)
   ·rw [if_pos c7] at H
    have c7b0 := eq_true c7; have c7b1 : decide (0 ≤ (ji6)) = true := decide_eq_true c7; clear c7; obtain ⟨ji8, hji8⟩ : ∃ j_ : Int, (shl .i64 1 (ji6)) = j_ := ⟨_, rfl⟩
    replace H : (some (l0_1.set ((ji3) : Int).toNat (Go.bits .or .i64 (rd l0_1 (ji3)) (ji8)))) = some r := by first | (rw [hji8] at H; exact H) | (simp only [hji8] at H ⊢; exact H)
    have hji8_ : (IntKind.i64.wrap (1 * 2 ^ min (ji6).toNat 64)) = ji8 := hji8; have hji8z : (ji6) ≤ 64 → (IntKind.i64.wrap (1 * 2 ^ (ji6).toNat)) = ji8 := shl_small hji8
    have hji8u : (IntKind.i64.wrap (2 ^ min (ji6).toNat 64)) = ji8 := by have h_ := hji8_; rw [Int.one_mul] at h_; exact h_
    have hji8v : (ji6) ≤ 64 → (IntKind.i64.wrap (2 ^ (ji6).toNat)) = ji8 := fun hle_ => by have h_ := hji8z hle_; rw [Int.one_mul] at h_; exact h_
    have hji8y : (wrap64 (1 * 2 ^ min (ji6).toNat 64)) = ji8 := (i64_w _).symm.trans hji8_
    have hji8x : (ji6) ≤ 64 → (wrap64 (1 * 2 ^ (ji6).toNat)) = ji8 := fun h_ => (i64_w _).symm.trans (hji8z h_)
    obtain ⟨y125, hy125⟩ : ∃ y_ : List Int, y_ = (l0_1.set ((ji3) : Int).toNat (Go.bits .or .i64 (rd l0_1 (ji3)) (ji8))) := ⟨_, rfl⟩
    replace H : (some y125) = some r := by first | (rw [hy125]; with_reducible exact H) | (have H2_ := (Option.bind_some _ _).symm.trans H; rw [hy125]; with_reducible exact H2_) | (have H2_ := (Option.bind_some _ _).symm.trans H; with_reducible exact H2_) | with_reducible exact H | (rw [hy125]; exact H) | exact H
    have Ny125 := am hy125; clear hy125; obtain rfl := Option.some.inj H; obtain ⟨Ao10, co10, eo10⟩ := Kd.R_slice HO0_1.out; subst eo10
    go_enter Try.func94, Try.ntmps94
    try go_wp2_with (first | ((with_reducible refine gate_dst (N := 2) rfl ?_); refine bE 2 #[.int .i64 a0_0, .slice Ao10 l0_1.length co10] 30 ?_; intro gb123 hg w11 hbox hb; have n0_ := Rb HO0_1 hb; have n1_ := am (Kept.below (S := (fun k_ => P0_1_ k_)) (by repeat (first | (with_reducible first | exact HK.out | apply Kept.alloc | apply Kept.drewN | apply Kept.drew) | exact HK.out)) hb); have n2_ := Bb HB hb; have n3_ := am (hbox); have n4_ := am ((by rw [hg]; exact (by first | exact HK.out.1 | exact (show Kept w _ (fun k_ => P0_1_ k_) from by repeat (first | (with_reducible first | exact HK.out | apply Kept.alloc | apply Kept.drewN | apply Kept.drew) | exact HK.out)).1) : w.heap.size ≤ gb123)); have n5_ := am ((by rw [hg]; exact (below_size (Bz HB.out)) : w0.heap.size ≤ gb123)); clear HO0_1 HK HB; revert n0_ n1_ n2_ n3_ n4_ n5_; intro HO0_1 HK HB BK123 GW123 GE123; clear hb hbox hg))
    have n0_ := am (Kd.R_drew HO0_1.out); have n1_ := am (blk_drew BK123.out); have n2_ := am (Kept.drew HK.out); have n3_ := am (below_drew1 HB.out); clear HO0_1 BK123 HK HB; revert n0_ n1_ n2_ n3_; intro HO0_1 BK123 HK HB; obtain ⟨ad124, e124, hx124_0⟩ := Kd.at_int (Kd.R_reads' HO0_1.out).2.2 (ji3) dT dT; cases e124; have p124 := eT (0 ≤ ((ji3) : Int)); have q124 := eT ((ji3) < (l0_1.length : Int)); have p9 : 0 ≤ ((ji3) : Int) := dT; have q9 : ((ji3) : Int) < ((l0_1.length : Int) : Int) := dT; obtain ⟨go9, co9, eo9, gb9, gl9, cl9, HG9⟩ := Kd.R_form HO0_1.out (by omega)
    (first | cases eo9 | (injection eo9 with ea_ en_ ec_; (first | subst ea_ | (injection ea_ with ea_; subst ea_)); subst ec_; clear en_))
    have GB9 := am gb9; have GG9 := am HG9; clear gb9 gl9 HG9; have HMgo9 := am (show (P0_1_ go9 ∨ w.heap.size ≤ go9) from (HO0_1.out.1 _ rfl))
    (first | simp only [add_plain] at hx124_0 | skip)
    obtain ⟨hx9_0, hf9_0⟩ := Kd.R_celln 0 HO0_1.out ((ji3) : Int) p9 q9; replace p9 := eq_true p9; replace q9 := eq_true q9; have HP13 := Kd.R_putn HO0_1.out ((ji3) : Int) (Go.bits .or .i64 (rd l0_1 (ji3)) (ji8)); rw [← Ny125.out] at HP13; have HQ13 := am HP13; clear HP13; refine start_ (n := 12) (S := fun w' => w'.cell? ⟨gb123, 0, none⟩ = some (.int .i64 a0_0) ∧ w'.cell? ⟨gb123, 1, none⟩ = some (.slice (some ⟨go9, 0, none⟩) l0_1.length co10) ∧ w'.cell? ⟨go9, ((ji3)).toNat, none⟩ = some (.int .i64 (rd l0_1 (ji3)))) (ds := [11]) (bA 12 0) (by kernel_rfl) rfl rfl ⟨cz BK123 0, cz BK123 1, hx124_0⟩ (fun hHeld => ?_); refine with_tabW spec_biSet.tab1 spec_biSet.bits1 (fun HT_ HW_ => ?_); generalize w11.drew = w12 at HO0_1 BK123 HK HB GG9 HQ13 hf9_0 hx124_0 hx9_0 hHeld ⊢; refine pZ 0 (some 4) (bA 12 1) HT_.out ?_; refine pZ 2 (some 6) (bA 12 5) HT_.out ?_; refine pZ 3 (some 7) (bA 12 13) HT_.out ?_; refine pZ 6 (some 10) (bA 12 77) HT_.out ?_; refine pZ 7 (some 11) (bA 12 205) HT_.out ?_; refine pZ 8 (some 12) (bA 12 461) HT_.out ?_; refine tZ3 1 (some 5) (bA 12 463) HT_.out HW_.out hHeld ?_; refine pZ 4 (some 8) (bA 12 479) HT_.out ?_; refine tZ3 5 (some 9) (bA 12 511) HT_.out HW_.out hHeld ?_; refine pZ 9 (some 13) (bA 12 1023) HT_.out ?_; refine pZ 10 (some 14) (bA 12 2047) HT_.out ?_; refine lZ 11 none (bA 12 4095) HT_.out (fun K hK => ?_); refine skip_ (w1 := ?_) (by rfl) rfl ?_ ?_
    rotate_left
    ·go_simp
     rfl
    refine hK.out _ _ ?_; clear hK K; refine done_ (done_of HT_.out (by kernel_rfl)) ?_
    try go_wp2
    first | go_end0 | ((try simp only [Exit.inBlock, Exit.then]); refine bodyPost_ret (results_none rfl _ _ _) rfl ?_)
    exact ⟨by first | rfl | (simp [errW_none, errW_some] <;> rfl) | (simp only [← hji3, ← hji6, ← hji8]; first | rfl | (simp [errW_none, errW_some] <;> rfl)) | (simp [*, errW_none, errW_some] <;> rfl), Rz HQ13.out, Bq, by repeat (first | (with_reducible first | exact HK.out | apply Kept.alloc | apply Kept.drewN | apply Kept.drew | refine Kept.setCell ?_ HMgo9.out _ | refine Kept.setCell ?_ (.inr GW123.out) _) | exact HK.out)⟩
   ·rw [if_neg c7] at H
    exact absurd H (by simp)
  ·rw [if_neg c5] at H
   exact absurd H (by simp)
 ·rw [if_neg c4] at H
  exact absurd H (by simp)

def spec_biSome.l0 : Nat → List Bool → Int → Int → Int → List Int → Option (Int × List Int)
 | 0, _, _, _, _, _ => none
 | k + 1, x9, x10, x11, x132000, x132001 => if x11 < x10 then (if 0 ≤ x11 then (if x11 < (x9.length : Int) then (if rdOf false x9 x11 = true then ((spec_biSet.f x132000 x132001 x11).bind fun t133 => (spec_biSome.l0 k x9 x10 (wrap64 (x11 + 1)) x132000 t133)) else (spec_biSome.l0 k x9 x10 (wrap64 (x11 + 1)) x132000 x132001)) else (none)) else (none)) else (some (x132000, x132001))
def spec_biSome.f (k : Nat) (l0 : List Bool) : Option (Int × List Int) := (spec_biNew.f (l0.length : Int)).bind fun bt127 => (spec_biSome.l0 k l0 (l0.length : Int) 0 bt127.1 bt127.2)
theorem spec_biSome.mono_l : ∀ k, (∀ y0 y1 y2 y3 y4, LeO (spec_biSome.l0 k y0 y1 y2 y3 y4) (spec_biSome.l0 (k + 1) y0 y1 y2 y3 y4))
 | 0 => fun _ _ _ _ _ r h => by simp [spec_biSome.l0] at h
 | k + 1 => by
  have ih0 := spec_biSome.mono_l k
  ·intro y0 y1 y2 y3 y4
   unfold spec_biSome.l0
   repeat' first | (with_reducible first | exact ih0 _ _ _ _ _ | exact LeO.refl _ | exact LeO.none _ | refine LeO.ite ?_ ?_ | refine LeO.bind ?_ (fun _ => ?_)) | exact LeO.none _ | refine LeO.ite ?_ ?_ | refine LeO.bind ?_ (fun _ => ?_)
theorem spec_biSome.mono : ∀ a0 k, LeO (spec_biSome.f k a0) (spec_biSome.f (k + 1) a0) := by
 intro a0 k; have ih0 := spec_biSome.mono_l k
 unfold spec_biSome.f
 repeat' first | (with_reducible first | exact ih0 _ _ _ _ _ | exact LeO.refl _ | exact LeO.none _ | refine LeO.ite ?_ ?_ | refine LeO.bind ?_ (fun _ => ?_)) | exact LeO.none _ | refine LeO.ite ?_ ?_ | refine LeO.bind ?_ (fun _ => ?_)
theorem spec_biSome.calls (k : Nat) (A0 : Option Addr) (c0 : Nat) (l0 : List Bool) (r1 : Int) (r2 : List Int) (w : World) (hr0 : Kd.C Kd.bool w A0 l0.length l0) (hc0 : l0.length ≤ c0) (h : spec_biSome.f k l0 = some (r1, r2)) :
  Calls Try.prog 77 #[.slice A0 l0.length c0] w fun e w' => ∃ v1_ : Value, e = .returned (.agg #[.int .i64 r1, v1_]) ∧ Kd.R (Kd.int .i64) 3 w' w.heap.size (fun _ => True) v1_ r2 ∧ Below w.heap.size w w' := by
 have hu30 := Try.underlying30; have HR0 := am hr0; have HC0 := am hc0; clear hr0 hc0; have HB := am (Below.refl w.heap.size w); have H : ((spec_biNew.f (l0.length : Int)).bind fun bt127 => (spec_biSome.l0 k l0 (l0.length : Int) 0 bt127.1 bt127.2)) = some (r1, r2) := h; clear h; replace H := Option.bind_eq_some_iff.mp H; obtain ⟨⟨t127, t128⟩, A20, H⟩ := H; (try dsimp -simprocs only at H); have A2 := am A20; clear A20; have H' := am H; clear H
 go_enter Try.func77, Try.ntmps77
 go_wp2_with (first | ((with_reducible refine gate_dst (N := 2) rfl ?_); refine bE 2 #[.int .i64 0, .slice none 0 0] 30 ?_; intro gb126 hg w3 hbox hb; have n0_ := Bb HB hb; have n1_ := am (hbox); have n2_ := Gl HB hg; have n3_ := Gl HB hg; clear HB; revert n0_ n1_ n2_ n3_; intro HB BK126 GW126 GE126; clear hb hbox hg) | ((with_reducible refine gate_callee (f := 93) rfl ?_); refine gL (some 8) Try.func93 #[.int .i64 (l0.length : Int)] ?_; (with_reducible refine (spec_biNew.calls (l0.length : Int) t127 t128 _ A2.out).mono ?_); rintro e w4 ⟨v129, rfl, ho0, hb⟩; refine ⟨_, rfl, ?_⟩; have n0_ := Rm ho0 HB; have n1_ := Kb BK126 hb; have n2_ := Bc HB hb; clear BK126 HB; revert n0_ n1_ n2_; intro HO130 BK126 HB; (try clear hb); (try clear hb2); (try clear hk); (try clear hi); (try clear ho0)) | ((with_reducible refine gate_dst (N := 3) rfl ?_); refine bE 3 #[.int .i64 0, .slice none 0 0] 30 ?_; intro gb131 hg w5 hbox hb; have n0_ := Rb HO130 hb; have n1_ := Kb BK126 hb; have n2_ := Bc HB hb; have n3_ := am (hbox); have n4_ := Gm HB hg; have n5_ := Gm HB hg; have n6_ := Nl BK126 hg; have n7_ := Ng BK126 hg; clear HO130 BK126 HB; revert n0_ n1_ n2_ n3_ n4_ n5_ n6_ n7_; intro HO130 BK126 HB BK131 GW131 GE131 NB126_131 NB131_126; clear hb hbox hg; have hnb6 := NB131_126.out; have hnc6 := NB126_131.out; obtain ⟨hcz7_0, hcz7_1, hfz7_0, hfz7_1⟩ := cf2 (w := w5) BK131; obtain ⟨Ao8, co8, eo8⟩ := Kd.R_slice HO130.out; subst eo8))
 (try simp only [aP])
 go_loopg [11] k (fun kq v11 w' => ∃ (x11_1 : Int) (x132001_1 : List Int) (u132001 : Value), v11 = .int .i64 x11_1 ∧ Aside0 (spec_biSome.l0 kq l0 (l0.length : Int) x11_1 t127 x132001_1 = some (r1, r2)) ∧ Aside0 (kq ≤ k) ∧ Aside0 (Kd.R (Kd.int .i64) 3 w' w.heap.size (fun _ => True) u132001 x132001_1) ∧ Aside0 (w'.heap[gb126]? = some (.cells #[.int .i64 0, (.slice none 0 0)] 30 (0, 0))) ∧ Aside0 (w'.heap[gb131]? = some (.cells #[.int .i64 t127, u132001] 30 (0, 0))) ∧ Aside0 (Below w.heap.size w w'))
 case atStart => exact ⟨(0), (t128), (.slice Ao8 t128.length co8), wZ, H', ⟨Nat.le_refl _⟩, ⟨Rz (Kd.R_mono (Kd.R_far (p := ⟨gb131, 1, none⟩) (Kd.R_far (p := ⟨gb131, 0, none⟩) (Kd.R_types HO130.out BK131.out (by decide)) (fun _ hk => hk.2) (.int .i64 t127)) (fun _ hk => hk.2) (.slice Ao8 t128.length co8)) (fun _ hk => trivial))⟩, ⟨by (with_reducible repeat (first | refine blk_drewN ?_ _ | refine blk_drew ?_ | refine blk_alloc ?_ _)); refine blk_far ?_ NB126_131.out _; (with_reducible repeat (first | refine blk_drewN ?_ _ | refine blk_drew ?_ | refine blk_alloc ?_ _)); refine blk_far ?_ NB126_131.out _; (with_reducible repeat (first | refine blk_drewN ?_ _ | refine blk_drew ?_ | refine blk_alloc ?_ _)); exact BK126.out⟩, ⟨by (with_reducible repeat (first | refine blk_drewN ?_ _ | refine blk_drew ?_ | refine blk_alloc ?_ _)); refine blk_put (cs := #[.int .i64 t127, .slice none 0 0]) ?_ 1 _ rfl; (with_reducible repeat (first | refine blk_drewN ?_ _ | refine blk_drew ?_ | refine blk_alloc ?_ _)); refine blk_put (cs := #[.int .i64 0, .slice none 0 0]) ?_ 0 _ rfl; (with_reducible repeat (first | refine blk_drewN ?_ _ | refine blk_drew ?_ | refine blk_alloc ?_ _)); exact BK131.out⟩, ⟨Bq⟩⟩
 case round =>
  clear H'
  try clear p2
  try clear c6
  try clear c7
  try clear hcz7_0
  try clear hcz7_1
  try clear hfz7_0
  try clear hfz7_1
  obtain ⟨x11_1, x132001_1, u132001, rfl, HA, HK1, HO_132001, BK126, BK131, HB⟩ := hrel; cases gk with
  | zero => exact absurd HA.out (by simp [spec_biSome.l0])
  | succ k1 =>
   have H := HA.out; clear HA
   simp only [spec_biSome.l0] at H
   by_cases c9 : x11_1 < (l0.length : Int)
   ·rw [if_pos c9] at H
    have c9b0 : decide (x11_1 < (l0.length : Int)) = true := decide_eq_true c9; clear c9
    by_cases c10 : 0 ≤ x11_1
    ·rw [if_pos c10] at H
     have c10b0 : decide (0 ≤ x11_1) = true := decide_eq_true c10; clear c10
     by_cases c11 : x11_1 < (l0.length : Int)
     ·rw [if_pos c11] at H
      have c11b0 : decide (x11_1 < (l0.length : Int)) = true := decide_eq_true c11; clear c11; obtain ⟨bq12, hbq12⟩ : ∃ b_ : Bool, b_ = (rdOf false l0 x11_1) := ⟨_, rfl⟩
      replace H : (if bq12 = true then ((spec_biSet.f t127 x132001_1 x11_1).bind fun t133 => (spec_biSome.l0 k1 l0 (l0.length : Int) (wrap64 (x11_1 + 1)) t127 t133)) else (spec_biSome.l0 k1 l0 (l0.length : Int) (wrap64 (x11_1 + 1)) t127 x132001_1)) = some (r1, r2) := by rw [← hbq12] at H; exact H
      have Nbq12 := am hbq12; clear hbq12
      by_cases c13 : bq12 = true
      ·subst c13
       rw [if_pos rfl] at H; replace H := Option.bind_eq_some_iff.mp H; obtain ⟨t133, A140, H⟩ := H; (try dsimp -simprocs only at H); have A14 := am A140; clear A140; have H' := am H; clear H; have p132 : 0 ≤ (x11_1 : Int) := dT; have q132 : x11_1 < (l0.length : Int) := dT; obtain ⟨ad132, e132, hx132_0⟩ := Kd.at_bool HR0.out x11_1 p132 q132
       (try rw [← Nbq12.out] at hx132_0)
       cases e132; replace hx132_0 := (HB.out.cell (World.block_lt_of_cell? w _ hx132_0)).trans hx132_0; replace p132 := eq_true p132; replace q132 := eq_true q132; have hnb15 := NB131_126.out; have hnc15 := NB126_131.out; obtain ⟨hcz16_0, hcz16_1, hfz16_0, hfz16_1⟩ := cf2 (w := wr) BK131; obtain ⟨Ao17, co17, eo17⟩ := Kd.R_slice HO_132001.out; subst eo17
       go_wp2_with (first | ((with_reducible refine gate_callee (f := 94) rfl ?_); refine gL (some 19) Try.func94 #[.agg #[.int .i64 t127, .slice Ao17 x132001_1.length co17], .int .i64 x11_1] ?_; (with_reducible refine (spec_biSet.calls t127 (fun k_ => some k_ = (.slice Ao17 x132001_1.length co17 : Value).ownBlock) (.slice Ao17 x132001_1.length co17) x132001_1 x11_1 t133 w _ ?side1 ?side2 A14.out).mono ?_); (case side1 => repeat (first | (with_reducible first | exact HB.out | apply below_alloc | apply pw_below_drewN | apply below_drew1 | refine below_set ?_ GE126.out | refine below_set ?_ GE131.out) | exact HB.out)); (case side2 => exact Kd.R_tight rfl HO_132001.out); rintro e w18 ⟨rfl, hy0, hb, hkp⟩; refine ⟨_, rfl, ?_⟩; have n0_ := am (Kd.R_reok rfl hy0 (fun k_ e_ => HO_132001.out.1 k_ e_)); have n1_ := am (blk_kept (Kz BK126.out) hkp (fun hs_ => (fun e_ => (Kd.R_ne HO_132001.out BK126.out (by decide)) e_) hs_)); have n2_ := am (blk_kept (Kz BK131.out) hkp (fun hs_ => (fun e_ => (Kd.R_ne HO_132001.out BK131.out (by decide)) e_) hs_)); have n3_ := am (hb); clear HO_132001 BK126 BK131 HB; revert n0_ n1_ n2_ n3_; intro HO_132001 BK126 BK131 HB; (try clear hb); (try clear hkp); (try clear hy0)))
       go_roundg k1
       case measure => have := HK1.out; omega
       case rel => exact ⟨(wrap64 (x11_1 + 1)), (t133), (.slice Ao17 x132001_1.length co17), wZ, H', ⟨by have := HK1.out; omega⟩, ⟨Rz HO_132001.out⟩, ⟨Kz BK126.out⟩, ⟨Kz BK131.out⟩, ⟨Bq⟩⟩
      ·replace c13 := Bool.eq_false_iff.mpr c13
       subst c13
       rw [if_neg (show ¬ (false = true) by decide)] at H; have H' := am H; clear H; have p132 : 0 ≤ (x11_1 : Int) := dT; have q132 : x11_1 < (l0.length : Int) := dT; obtain ⟨ad132, e132, hx132_0⟩ := Kd.at_bool HR0.out x11_1 p132 q132
       (try rw [← Nbq12.out] at hx132_0)
       cases e132; replace hx132_0 := (HB.out.cell (World.block_lt_of_cell? w _ hx132_0)).trans hx132_0; replace p132 := eq_true p132; replace q132 := eq_true q132
       go_wp2
       go_roundg k1
       case measure => have := HK1.out; omega
       case rel => exact ⟨(wrap64 (x11_1 + 1)), (x132001_1), (u132001), wZ, H', ⟨by have := HK1.out; omega⟩, ⟨Rz HO_132001.out⟩, ⟨Kz BK126.out⟩, ⟨Kz BK131.out⟩, ⟨Bq⟩⟩
     ·rw [if_neg c11] at H
      exact absurd H (by simp)
    ·rw [if_neg c10] at H
     exact absurd H (by simp)
   ·rw [if_neg c9] at H
    have c9b0 : decide (x11_1 < (l0.length : Int)) = false := decide_eq_false c9; clear c9
    simp only [Option.some.injEq, Prod.mk.injEq] at H
    obtain ⟨rfl, rfl⟩ := H; have hnb19 := NB131_126.out; have hnc19 := NB126_131.out; obtain ⟨hcz20_0, hcz20_1, hfz20_0, hfz20_1⟩ := cf2 (w := wr) BK131; obtain ⟨hcz21_0, hcz21_1, hfz21_0, hfz21_1⟩ := cf2 (w := wr) BK126; obtain ⟨Ao22, co22, eo22⟩ := Kd.R_slice HO_132001.out; subst eo22
    go_wp2
    refine bodyPost_ret (results_cell_row rfl _ _ gb126 30 #[.int .i64 t127, .slice Ao22 x132001_1.length co22] (0, 0) _ rfl (by (with_reducible repeat (first | refine blk_drewN ?_ _ | refine blk_drew ?_ | refine blk_alloc ?_ _)); refine blk_put (cs := #[.int .i64 t127, .slice none 0 0]) ?_ 1 _ rfl; (with_reducible repeat (first | refine blk_drewN ?_ _ | refine blk_drew ?_ | refine blk_alloc ?_ _)); refine blk_put (cs := #[.int .i64 0, .slice none 0 0]) ?_ 0 _ rfl; exact Kz BK126.out) Try.underlying30 rfl (by kernel_rfl)) rfl ?_; exact ⟨_, eZ, Rz (Kd.R_mono (Kd.R_far (p := ⟨gb126, 1, none⟩) (Kd.R_far (p := ⟨gb126, 0, none⟩) (Kd.R_types HO_132001.out BK126.out (by decide)) (fun _ hk => hk.2) (.int .i64 t127)) (fun _ hk => hk.2) (.slice Ao22 x132001_1.length co22)) (fun _ hk => trivial)), Bq⟩

mutual
def spec_trOf.l0 : Nat → List ByteArray → List ByteArray → List Bool → List Bool → List Int → List ByteArray → Int → Int → Option (Int × List Int × Int × List Int × ByteArray)
 | 0, _, _, _, _, _, _, _, _ => none
 | k + 1, x0, x3, x4, x5, x6, x13, x14, x15 => if x15 < x14 then (if 0 ≤ x15 then (if x15 < (x13.length : Int) then (if 0 ≤ (wrap64 (x15 + 1)) then (if (wrap64 (x15 + 1)) ≤ (x3.length : Int) then ((some (x3.drop ((wrap64 (x15 + 1)) : Int).toNat : List ByteArray)).bind fun y147 => (spec_trOf.l1 k x0 x3 x4 x5 x6 x15 (rdOf ByteArray.empty x13 x15) x13 x14 x15 y147 (y147.length : Int) 0)) else (none)) else (none)) else (none)) else (none)) else ((spec_biSome.f k x4).bind fun bt138 => ((spec_biSome.f k x5).bind fun bt142 => (some (bt138.1, bt138.2, bt142.1, bt142.2, strOfNums x6))))
def spec_trOf.l1 : Nat → List ByteArray → List ByteArray → List Bool → List Bool → List Int → Int → ByteArray → List ByteArray → Int → Int → List ByteArray → Int → Int → Option (Int × List Int × Int × List Int × ByteArray)
 | 0, _, _, _, _, _, _, _, _, _, _, _, _, _ => none
 | k + 1, x0, x3, x4, x5, x6, x7, x8, x13, x14, x15, x23, x24, x25 => if x25 < x24 then (if 0 ≤ x25 then (if x25 < (x23.length : Int) then (if ((rdOf ByteArray.empty x23 x25).size : Int) = (wrap64 ((x8.size : Int) + 1)) then ((spec_trBegins.f (rdOf ByteArray.empty x23 x25) x8).bind fun t152 => (if t152 = true then (if x4.length < 140737488355328 then (spec_trOf.l1 k x0 x3 (x4 ++ [true]) x5 x6 x7 x8 x13 x14 x15 x23 x24 (wrap64 (x25 + 1))) else (none)) else (spec_trOf.l1 k x0 x3 x4 x5 x6 x7 x8 x13 x14 x15 x23 x24 (wrap64 (x25 + 1))))) else (spec_trOf.l1 k x0 x3 x4 x5 x6 x7 x8 x13 x14 x15 x23 x24 (wrap64 (x25 + 1)))) else (none)) else (none)) else (if x4.length < 140737488355328 then ((some (x4 ++ [false] : List Bool)).bind fun y156 => ((spec_l1HasS.f k x0 x8).bind fun t159 => (if x5.length < 140737488355328 then ((some (x5 ++ [t159] : List Bool)).bind fun y160 => (if x7 > 0 then (if 0 ≤ (wrap64 ((x8.size : Int) - 1)) then (if (wrap64 ((x8.size : Int) - 1)) < (x8.size : Int) then (if x6.length < 140737488355328 then (spec_trOf.l0 k x0 x3 y156 y160 (x6 ++ [bt x8 (wrap64 ((x8.size : Int) - 1))]) x13 x14 (wrap64 (x15 + 1))) else (none)) else (none)) else (none)) else (spec_trOf.l0 k x0 x3 y156 y160 x6 x13 x14 (wrap64 (x15 + 1))))) else (none)))) else (none))
end
def spec_trOf.f (k : Nat) (l0 : List ByteArray) : Option (Int × List Int × Int × List Int × ByteArray) := (spec_trNodes.f k l0).bind fun t135 => (spec_trOf.l0 k l0 t135 ([] : List Bool) ([] : List Bool) ([] : List Int) t135 (t135.length : Int) 0)
theorem spec_trOf.mono_l : ∀ k, (∀ y0 y1 y2 y3 y4 y5 y6 y7, LeO (spec_trOf.l0 k y0 y1 y2 y3 y4 y5 y6 y7) (spec_trOf.l0 (k + 1) y0 y1 y2 y3 y4 y5 y6 y7)) ∧ (∀ y0 y1 y2 y3 y4 y5 y6 y7 y8 y9 y10 y11 y12, LeO (spec_trOf.l1 k y0 y1 y2 y3 y4 y5 y6 y7 y8 y9 y10 y11 y12) (spec_trOf.l1 (k + 1) y0 y1 y2 y3 y4 y5 y6 y7 y8 y9 y10 y11 y12))
 | 0 => ⟨fun _ _ _ _ _ _ _ _ r h => by simp [spec_trOf.l0] at h, fun _ _ _ _ _ _ _ _ _ _ _ _ _ r h => by simp [spec_trOf.l1] at h⟩
 | k + 1 => by
  obtain ⟨ih0, ih1⟩ := spec_trOf.mono_l k; refine ⟨?_, ?_⟩
  ·intro y0 y1 y2 y3 y4 y5 y6 y7
   unfold spec_trOf.l0
   repeat' first | (with_reducible first | exact ih0 _ _ _ _ _ _ _ _ | exact ih1 _ _ _ _ _ _ _ _ _ _ _ _ _ | exact spec_biSome.mono _ _ | exact spec_l1HasS.mono _ _ _ | exact spec_trNodes.mono _ _ | exact LeO.refl _ | exact LeO.none _ | refine LeO.ite ?_ ?_ | refine LeO.bind ?_ (fun _ => ?_)) | exact LeO.none _ | refine LeO.ite ?_ ?_ | refine LeO.bind ?_ (fun _ => ?_)
  ·intro y0 y1 y2 y3 y4 y5 y6 y7 y8 y9 y10 y11 y12
   unfold spec_trOf.l1
   repeat' first | (with_reducible first | exact ih0 _ _ _ _ _ _ _ _ | exact ih1 _ _ _ _ _ _ _ _ _ _ _ _ _ | exact spec_biSome.mono _ _ | exact spec_l1HasS.mono _ _ _ | exact spec_trNodes.mono _ _ | exact LeO.refl _ | exact LeO.none _ | refine LeO.ite ?_ ?_ | refine LeO.bind ?_ (fun _ => ?_)) | exact LeO.none _ | refine LeO.ite ?_ ?_ | refine LeO.bind ?_ (fun _ => ?_)
theorem spec_trOf.mono : ∀ a0 k, LeO (spec_trOf.f k a0) (spec_trOf.f (k + 1) a0) := by
 intro a0 k; obtain ⟨ih0, ih1⟩ := spec_trOf.mono_l k
 unfold spec_trOf.f
 repeat' first | (with_reducible first | exact ih0 _ _ _ _ _ _ _ _ | exact ih1 _ _ _ _ _ _ _ _ _ _ _ _ _ | exact spec_biSome.mono _ _ | exact spec_l1HasS.mono _ _ _ | exact spec_trNodes.mono _ _ | exact LeO.refl _ | exact LeO.none _ | refine LeO.ite ?_ ?_ | refine LeO.bind ?_ (fun _ => ?_)) | exact LeO.none _ | refine LeO.ite ?_ ?_ | refine LeO.bind ?_ (fun _ => ?_)
def spec_trOf.T18 : Bool × List (List Nat × List Nat) := (true, [([], []), ([0], [0]), ([], []), ([2, 1], [2]), ([], []), ([4], [4]), ([1, 3, 5], [1, 3, 5]), ([6, 3, 0, 1, 2, 3, 4, 5, 6], [6])])
def spec_trOf.B18 : List Nat := [0, 1, 0, 7, 0, 16, 63, 127]
theorem spec_trOf.tab18 : rtab .any (opsOf Try.f54 18) = spec_trOf.T18 := by kernel_rfl
theorem spec_trOf.bits18 : waitsOk spec_trOf.T18.2 spec_trOf.B18 = true := by kernel_rfl
theorem spec_trOf.calls (k : Nat) (A0 : Option Addr) (c0 : Nat) (l0 : List ByteArray) (r1 : Int) (r2 : List Int) (r3 : Int) (r4 : List Int) (r5 : ByteArray) (w : World) (hr0 : Kd.C Kd.string w A0 l0.length l0) (hc0 : l0.length ≤ c0) (h : spec_trOf.f k l0 = some (r1, r2, r3, r4, r5)) :
  Calls Try.prog 54 #[.slice A0 l0.length c0] w fun e w' => ∃ v1_ v3_ : Value, e = .returned (.agg #[.int .i64 r1, v1_, .int .i64 r3, v3_, .string r5]) ∧ Kd.R (Kd.int .i64) 3 w' w.heap.size (fun k_ => some k_ ≠ (v3_ : Value).ownBlock) v1_ r2 ∧ Kd.R (Kd.int .i64) 3 w' w.heap.size (fun k_ => some k_ ≠ (v1_ : Value).ownBlock) v3_ r4 ∧ Below w.heap.size w w' := by
 have hu32 := Try.underlying32; have HR0 := am hr0; have HC0 := am hc0; clear hr0 hc0; have HB := am (Below.refl w.heap.size w); have H : ((spec_trNodes.f k l0).bind fun t135 => (spec_trOf.l0 k l0 t135 ([] : List Bool) ([] : List Bool) ([] : List Int) t135 (t135.length : Int) 0)) = some (r1, r2, r3, r4, r5) := h; clear h; replace H := Option.bind_eq_some_iff.mp H; obtain ⟨t135, A20, H⟩ := H; (try dsimp -simprocs only at H); have A2 := am A20; clear A20; have H' := am H; clear H
 go_enter Try.func54, Try.ntmps54
 go_wp2_with (first | ((with_reducible refine gate_dst (N := 2) rfl ?_); refine bE 2 #[.int .i64 0, .slice none 0 0, .int .i64 0, .slice none 0 0, .string (⟨#[]⟩ : ByteArray)] 32 ?_; intro gb134 hg w3 hbox hb; have n0_ := Bb HB hb; have n1_ := am (hbox); have n2_ := Gl HB hg; have n3_ := Gl HB hg; clear HB; revert n0_ n1_ n2_ n3_; intro HB BK134 GW134 GE134; clear hb hbox hg) | ((with_reducible refine gate_callee (f := 72) rfl ?_); refine gL (some 12) Try.func72 #[.slice A0 l0.length c0] ?_; (with_reducible refine (spec_trNodes.calls k _ _ l0 t135 _ ?side1 ?side2 A2.out).mono ?_); (case side1 => exact Cz (Kd.C_below HR0.out HB.out)); (case side2 => exact HC0.out); rintro e w4 ⟨v136, rfl, ho0, hb⟩; refine ⟨_, rfl, ?_⟩; have n0_ := Rm ho0 HB; have n1_ := Kb BK134 hb; have n2_ := Bc HB hb; clear BK134 HB; revert n0_ n1_ n2_; intro HO137 BK134 HB; (try clear hb); (try clear hb2); (try clear hk); (try clear hi); (try clear ho0); obtain ⟨Ao5, co5, eo5⟩ := Kd.R_slice HO137.out; subst eo5))
 (try simp only [aP])
 go_loopg [4, 5, 6, 15] k (fun kq v4 v5 v6 v15 w' => ∃ (x4_1 : List Bool) (x5_1 : List Bool) (x6_1 : List Int) (x15_1 : Int), v15 = .int .i64 x15_1 ∧ Aside0 (spec_trOf.l0 kq l0 t135 x4_1 x5_1 x6_1 t135 (t135.length : Int) x15_1 = some (r1, r2, r3, r4, r5)) ∧ Aside0 (kq ≤ k) ∧ Aside0 (Kd.R Kd.string 9 w' w.heap.size (fun _ => True) (.slice Ao5 t135.length co5) t135) ∧ Aside0 (Kd.R Kd.bool 4 w' w.heap.size (fun k_ => some k_ ≠ (v5 : Value).ownBlock) v4 x4_1) ∧ Aside0 (Kd.R Kd.bool 4 w' w.heap.size (fun k_ => some k_ ≠ (v4 : Value).ownBlock) v5 x5_1) ∧ Aside0 (Kd.R (Kd.int .u8) 5 w' w.heap.size (fun _ => True) v6 x6_1) ∧ Aside0 (Kd.R Kd.string 9 w' w.heap.size (fun _ => True) (.slice Ao5 t135.length co5) t135) ∧ Aside0 (w'.heap[gb134]? = some (.cells #[.int .i64 0, (.slice none 0 0), .int .i64 0, (.slice none 0 0), .string (⟨#[]⟩ : ByteArray)] 32 (0, 0))) ∧ Aside0 (Below w.heap.size w w'))
 case atStart => exact ⟨(([] : List Bool)), (([] : List Bool)), (([] : List Int)), (0), wZ, H', ⟨Nat.le_refl _⟩, ⟨Rz HO137.out⟩, ⟨nZ⟩, ⟨nZ⟩, ⟨nZ⟩, ⟨Rz HO137.out⟩, ⟨Kz BK134.out⟩, ⟨Bq⟩⟩
 case round =>
  clear H'
  try clear p2
  try clear c5
  obtain ⟨x4_1, x5_1, x6_1, x15_1, rfl, HA, HK1, HO_3, HO_4, HO_5, HO_6, HO_13, BK134, HB⟩ := hrel; cases gk with
  | zero => exact absurd HA.out (by simp [spec_trOf.l0])
  | succ k1 =>
   have H := HA.out; clear HA
   simp only [spec_trOf.l0] at H
   by_cases c6 : x15_1 < (t135.length : Int)
   ·rw [if_pos c6] at H
    have c6b0 : decide (x15_1 < (t135.length : Int)) = true := decide_eq_true c6; clear c6
    by_cases c7 : 0 ≤ x15_1
    ·rw [if_pos c7] at H
     have c7b0 : decide (0 ≤ x15_1) = true := decide_eq_true c7; clear c7
     by_cases c8 : x15_1 < (t135.length : Int)
     ·rw [if_pos c8] at H
      have c8b0 : decide (x15_1 < (t135.length : Int)) = true := decide_eq_true c8; clear c8; obtain ⟨ji9, hji9⟩ : ∃ j_ : Int, (wrap64 (x15_1 + 1)) = j_ := ⟨_, rfl⟩
      replace H : (if 0 ≤ (ji9) then (if (ji9) ≤ (t135.length : Int) then ((some (t135.drop ((ji9) : Int).toNat : List ByteArray)).bind fun y147 => (spec_trOf.l1 k1 l0 t135 x4_1 x5_1 x6_1 x15_1 (rdOf ByteArray.empty t135 x15_1) t135 (t135.length : Int) x15_1 y147 (y147.length : Int) 0)) else (none)) else (none)) = some (r1, r2, r3, r4, r5) := by first | (rw [hji9] at H; exact H) | (simp only [hji9] at H ⊢; exact H)
      have hji9w : (IntKind.i64.wrap (x15_1 + 1)) = ji9 := (i64_w _).trans hji9
      by_cases c10 : 0 ≤ (ji9)
      ·rw [if_pos c10] at H
       have c10b0 := eq_true c10; have c10b1 : decide (0 ≤ (ji9)) = true := decide_eq_true c10; clear c10
       by_cases c11 : (ji9) ≤ (t135.length : Int)
       ·rw [if_pos c11] at H
        have c11b0 := eq_true c11; have c11b1 : decide ((ji9) ≤ (t135.length : Int)) = true := decide_eq_true c11; clear c11; obtain ⟨y147, hy147⟩ : ∃ y_ : List ByteArray, y_ = (t135.drop ((ji9) : Int).toNat) := ⟨_, rfl⟩
        replace H : (spec_trOf.l1 k1 l0 t135 x4_1 x5_1 x6_1 x15_1 (rdOf ByteArray.empty t135 x15_1) t135 (t135.length : Int) x15_1 y147 (y147.length : Int) 0) = some (r1, r2, r3, r4, r5) := by first | (rw [hy147]; with_reducible exact H) | (have H2_ := (Option.bind_some _ _).symm.trans H; rw [hy147]; with_reducible exact H2_) | (have H2_ := (Option.bind_some _ _).symm.trans H; with_reducible exact H2_) | with_reducible exact H | (rw [hy147]; exact H) | exact H
        have Ny147 := am hy147; clear hy147; have H' := am H; clear H; obtain ⟨ad146, e146, hx146_0⟩ := Kd.at_string (Kd.R_reads' HO_13.out).2.2 x15_1 dT dT; cases e146; have p146 := eT (0 ≤ (x15_1 : Int)); have q146 := eT (x15_1 < (t135.length : Int)); have q12 : ((ji9) : Int) ≤ ((t135.length : Int) : Int) := dT; obtain ⟨i012, hi012, _, hsz12, _⟩ := info_parts info9; have hroom12 : t135.length ≤ co5 := (Kd.R_reads' HO_3.out).2.1; have hC12 : Kd.C Kd.string _ (some ad146) t135.length t135 := (Kd.R_reads' HO_3.out).2.2; have q012 : (0 : Int) ≤ ((ji9) : Int) := dT; have hcut12 := cut_from (P := Try.prog) 38 9 .i64 Try.underlying38 hi012 1 hsz12 (some ad146) t135.length co5 (ji9) q012 q12; have hr12 := Kd.C_drop (m := ((ji9) : Int).toNat) (c := co5) hC12 (by omega) hroom12; obtain ⟨A12, hA12⟩ : ∃ A1, A1 = (if co5 = ((ji9) : Int).toNat then (some ad146) else ((some ad146) : Option Addr).map (·.add (((ji9) : Int).toNat * 1))) := ⟨_, rfl⟩; obtain ⟨c12, hc12⟩ : ∃ c1, c1 = co5 - ((ji9) : Int).toNat := ⟨_, rfl⟩; have hy12 : y147.length = t135.length - ((ji9) : Int).toNat := (by rw [Ny147.out, List.length_drop] <;> omega); rw [show (t135).drop ((ji9) : Int).toNat = y147 from Ny147.out.symm] at hr12; replace hr12 : Kd.C Kd.string _ A12 y147.length y147 := (by rw [hA12]; exact hr12); rw [← hy12, ← hA12, ← hc12] at hcut12; have HR150 := am hr12; have HC150 := am (show y147.length ≤ c12 from by rw [hy12, hc12]; exact Nat.sub_le_sub_right hroom12 _); clear hr12 hC12 hroom12 hi012 hsz12 hc12; have KY12 := am hy12; have KA12 := am hA12; clear hy12 hA12; have KL12 := am (show ((ji9) : Int).toNat ≤ t135.length from by omega); replace q12 := eq_true q12
        go_wp2
        go_loopg [4, 25] k1 (fun kq v4 v25 w' => ∃ (x4_2 : List Bool) (x25_2 : Int), v25 = .int .i64 x25_2 ∧ Aside0 (spec_trOf.l1 kq l0 t135 x4_2 x5_1 x6_1 x15_1 (rdOf ByteArray.empty t135 x15_1) t135 (t135.length : Int) x15_1 y147 (y147.length : Int) x25_2 = some (r1, r2, r3, r4, r5)) ∧ Aside0 (kq ≤ k1) ∧ Aside0 (Kd.R Kd.string 9 w' w.heap.size (fun _ => True) (.slice (some ad146) t135.length co5) t135) ∧ Aside0 (Kd.R Kd.bool 4 w' w.heap.size (fun k_ => some k_ ≠ (u5 : Value).ownBlock) v4 x4_2) ∧ Aside0 (Kd.R Kd.bool 4 w' w.heap.size (fun k_ => some k_ ≠ (v4 : Value).ownBlock) u5 x5_1) ∧ Aside0 (Kd.R (Kd.int .u8) 5 w' w.heap.size (fun _ => True) u6 x6_1) ∧ Aside0 (Kd.R Kd.string 9 w' w.heap.size (fun _ => True) (.slice (some ad146) t135.length co5) t135) ∧ Aside0 (w'.heap[gb134]? = some (.cells #[.int .i64 0, (.slice none 0 0), .int .i64 0, (.slice none 0 0), .string (⟨#[]⟩ : ByteArray)] 32 (0, 0))) ∧ Aside0 (Kd.C Kd.string w' A12 y147.length y147) ∧ Aside0 (Below w.heap.size w w'))
        case atStart => exact ⟨(x4_1), (0), wZ, H', ⟨Nat.le_refl _⟩, ⟨Rz HO_3.out⟩, ⟨Rz HO_4.out⟩, ⟨Rz HO_5.out⟩, ⟨Rz HO_6.out⟩, ⟨Rz HO_13.out⟩, ⟨Kz BK134.out⟩, ⟨by repeat (first | (with_reducible exact HR150.out) | (with_reducible refine Kd.C_alloc ?_ _) | (with_reducible refine Kd.C_drewN ?_ _) | (with_reducible refine Kd.C_drew ?_) | exact HR150.out)⟩, ⟨Bq⟩⟩
        case round =>
         clear H'
         try clear c1
         try clear p1
         try clear q1
         try clear hx1
         try clear p2
         try clear c5
         try clear c6
         try clear c6b0
         try clear p6
         try clear c7
         try clear c7b0
         try clear c8
         try clear c8b0
         try clear c10
         try clear c10b0
         try clear c10b1
         try clear c11
         try clear c11b0
         try clear c11b1
         try clear c12
         try clear q12
         try clear hx146_0
         try clear p146
         try clear p2
         try clear q012
         try clear q12
         try clear q146
         obtain ⟨x4_2, x25_2, rfl, HA, HK2, HO_3, HO_4, HO_5, HO_6, HO_13, BK134, HR150, HB⟩ := hrel; cases gk with
         | zero => exact absurd HA.out (by simp [spec_trOf.l1])
         | succ k2 =>
          have H := HA.out; clear HA
          simp only [spec_trOf.l1] at H
          by_cases c13 : x25_2 < (y147.length : Int)
          ·rw [if_pos c13] at H
           have c13b0 : decide (x25_2 < (y147.length : Int)) = true := decide_eq_true c13; clear c13
           by_cases c14 : 0 ≤ x25_2
           ·rw [if_pos c14] at H
            have c14b0 : decide (0 ≤ x25_2) = true := decide_eq_true c14; clear c14
            by_cases c15 : x25_2 < (y147.length : Int)
            ·rw [if_pos c15] at H
             have c15b0 : decide (x25_2 < (y147.length : Int)) = true := decide_eq_true c15; clear c15
             by_cases c16 : ((rdOf ByteArray.empty y147 x25_2).size : Int) = (wrap64 (((rdOf ByteArray.empty t135 x15_1).size : Int) + 1))
             ·rw [if_pos c16] at H
              have c16b0 : (((rdOf ByteArray.empty y147 x25_2).size : Int) == (wrap64 (((rdOf ByteArray.empty t135 x15_1).size : Int) + 1))) = true := beq_iff_eq.mpr c16; have c16b1 : (((rdOf ByteArray.empty y147 x25_2).size : Int) != (wrap64 (((rdOf ByteArray.empty t135 x15_1).size : Int) + 1))) = false := bne_eq_false_iff_eq.mpr c16; clear c16; replace H := Option.bind_eq_some_iff.mp H; obtain ⟨t152, A170, H⟩ := H; (try dsimp -simprocs only at H); have A17 := am A170; clear A170
              by_cases c18 : t152 = true
              ·subst c18
               rw [if_pos rfl] at H
               by_cases c19 : x4_2.length < 140737488355328
               ·rw [if_pos c19] at H
                have LMc19 := am c19; clear c19; obtain ⟨y153, hy153⟩ : ∃ y_ : List Bool, y_ = (x4_2 ++ [true]) := ⟨_, rfl⟩
                replace H : (spec_trOf.l1 k2 l0 t135 y153 x5_1 x6_1 x15_1 (rdOf ByteArray.empty t135 x15_1) t135 (t135.length : Int) x15_1 y147 (y147.length : Int) (wrap64 (x25_2 + 1))) = some (r1, r2, r3, r4, r5) := by first | (rw [hy153]; with_reducible exact H) | (have H2_ := (Option.bind_some _ _).symm.trans H; rw [hy153]; with_reducible exact H2_) | (have H2_ := (Option.bind_some _ _).symm.trans H; with_reducible exact H2_) | with_reducible exact H | (rw [hy153]; exact H) | exact H
                have Ny153 := am hy153; clear hy153; have H' := am H; clear H; obtain ⟨ad151, e151, hx151_0⟩ := Kd.at_string HR150.out x25_2 dT dT; cases e151; have p151 := eT (0 ≤ (x25_2 : Int)); have q151 := eT (x25_2 < (y147.length : Int))
                go_wp2_with (first | (go_at_call 41; (with_reducible refine (spec_trBegins.calls (rdOf ByteArray.empty y147 x25_2) (rdOf ByteArray.empty t135 x15_1) true _ A17.out).mono ?_); rintro e w' ⟨rfl, ⟨nd, rfl⟩⟩) | ((with_reducible refine gate_builtin (b := .append) (xs := #[.tmp 40, .tmp 41]) rfl ?_); at_builtin; refine Kd.R_append Kd.bool (w0 := w) w.heap.size rfl (.tmp 40) (.tmp 41) 79 4 (.bool false) 1 rfl Try.underlying79 info4 rfl (by decide) (by omega) u4 x4_2 true [.bool true] (fun k_ => some k_ ≠ (u5 : Value).ownBlock) (fun _ => False) rfl rfl ?aP (fun _ hk => hk.elim) ?aF ?aO ?aB ?aS ?aL ?_; (case aP => exact rfl); (case aB => exact (Bq)); (case aF => exact (fun k_ hk => Kd.fresh' (Kd.R_lt (Rz HO_5.out)) k_ hk)); (case aO => exact (Rz HO_4.out)); (case aS => exact (below_size (w := w) (Bq))); (case aL => have := LMc19.out; omega); intro v154 w20 ho hb hg hat; rw [← Ny153.out] at ho; have n0_ := am (Kd.R_over' (Rz HO_3.out) (Kd.R_typed (Rz HO_4.out)) (by decide) hg); have n1_ := am (Kd.R_after (ok := (fun _ => True)) (Rz (Kd.R_mono HO_5.out (fun _ hk => ⟨trivial, hk⟩))) hg hat); have n2_ := am (Kd.R_over' (Rz HO_6.out) (Kd.R_typed (Rz HO_4.out)) (by decide) hg); have n3_ := am (Kd.R_over' (Rz HO_13.out) (Kd.R_typed (Rz HO_4.out)) (by decide) hg); have n4_ := am (blk_grown (g := gb134) (o := .cells #[.int .i64 0, .slice none 0 0, .int .i64 0, .slice none 0 0, .string (⟨#[]⟩ : ByteArray)] 32 (0, 0)) (Kz BK134.out) hg (Kd.R_ne HO_4.out BK134.out (by decide))); have n5_ := am (hb); have n6_ := am ((show Kd.C Kd.string w20 (some ad151) y147.length y147 from by rw [Ny147.out, KA12.out]; exact Kd.C_drop (m := ((ji9) : Int).toNat) (c := co5) ((Kd.R_reads' (Kd.R_over' (Rz HO_3.out) (Kd.R_typed (Rz HO_4.out)) (by decide) hg)).2.2) KL12.out ((Kd.R_reads' (Kd.R_over' (Rz HO_3.out) (Kd.R_typed (Rz HO_4.out)) (by decide) hg)).2.1))); have n7_ := am (ho); clear HO_3 HO_5 HO_6 HO_13 BK134 HB HR150 HO_4; revert n0_ n1_ n2_ n3_ n4_ n5_ n6_ n7_; intro HO_3 HO_5 HO_6 HO_13 BK134 HB HR150 HO155; clear ho hb hg hat))
                go_roundg k2
                case measure => have := HK1.out; have := HK2.out; omega
                case rel => exact ⟨(y153), (wrap64 (x25_2 + 1)), wZ, H', ⟨by have := HK1.out; have := HK2.out; omega⟩, ⟨Rz HO_3.out⟩, ⟨Rz HO155.out⟩, ⟨Rz (Kd.R_mono HO_5.out (fun _ hk => hk.2))⟩, ⟨Rz HO_6.out⟩, ⟨Rz HO_13.out⟩, ⟨Kz BK134.out⟩, ⟨by repeat (first | (with_reducible exact HR150.out) | (with_reducible refine Kd.C_alloc ?_ _) | (with_reducible refine Kd.C_drewN ?_ _) | (with_reducible refine Kd.C_drew ?_) | exact HR150.out)⟩, ⟨Bq⟩⟩
               ·rw [if_neg c19] at H
                exact absurd H (by simp)
              ·replace c18 := Bool.eq_false_iff.mpr c18
               subst c18
               rw [if_neg (show ¬ (false = true) by decide)] at H; have H' := am H; clear H; obtain ⟨ad151, e151, hx151_0⟩ := Kd.at_string HR150.out x25_2 dT dT; cases e151; have p151 := eT (0 ≤ (x25_2 : Int)); have q151 := eT (x25_2 < (y147.length : Int))
               go_wp2_with (first | (go_at_call 41; (with_reducible refine (spec_trBegins.calls (rdOf ByteArray.empty y147 x25_2) (rdOf ByteArray.empty t135 x15_1) false _ A17.out).mono ?_); rintro e w' ⟨rfl, ⟨nd, rfl⟩⟩))
               go_roundg k2
               case measure => have := HK1.out; have := HK2.out; omega
               case rel => exact ⟨(x4_2), (wrap64 (x25_2 + 1)), wZ, H', ⟨by have := HK1.out; have := HK2.out; omega⟩, ⟨Rz HO_3.out⟩, ⟨Rz HO_4.out⟩, ⟨Rz HO_5.out⟩, ⟨Rz HO_6.out⟩, ⟨Rz HO_13.out⟩, ⟨Kz BK134.out⟩, ⟨by repeat (first | (with_reducible exact HR150.out) | (with_reducible refine Kd.C_alloc ?_ _) | (with_reducible refine Kd.C_drewN ?_ _) | (with_reducible refine Kd.C_drew ?_) | exact HR150.out)⟩, ⟨Bq⟩⟩
             ·rw [if_neg c16] at H
              have c16b0 : (((rdOf ByteArray.empty y147 x25_2).size : Int) == (wrap64 (((rdOf ByteArray.empty t135 x15_1).size : Int) + 1))) = false := beq_eq_false_iff_ne.mpr c16; have c16b1 : (((rdOf ByteArray.empty y147 x25_2).size : Int) != (wrap64 (((rdOf ByteArray.empty t135 x15_1).size : Int) + 1))) = true := bne_iff_ne.mpr c16; have H' := am H; clear H; obtain ⟨ad151, e151, hx151_0⟩ := Kd.at_string HR150.out x25_2 dT dT; cases e151; have p151 := eT (0 ≤ (x25_2 : Int)); have q151 := eT (x25_2 < (y147.length : Int))
              go_wp2
              go_roundg k2
              case measure => have := HK1.out; have := HK2.out; omega
              case rel => exact ⟨(x4_2), (wrap64 (x25_2 + 1)), wZ, H', ⟨by have := HK1.out; have := HK2.out; omega⟩, ⟨Rz HO_3.out⟩, ⟨Rz HO_4.out⟩, ⟨Rz HO_5.out⟩, ⟨Rz HO_6.out⟩, ⟨Rz HO_13.out⟩, ⟨Kz BK134.out⟩, ⟨by repeat (first | (with_reducible exact HR150.out) | (with_reducible refine Kd.C_alloc ?_ _) | (with_reducible refine Kd.C_drewN ?_ _) | (with_reducible refine Kd.C_drew ?_) | exact HR150.out)⟩, ⟨Bq⟩⟩
            ·rw [if_neg c15] at H
             exact absurd H (by simp)
           ·rw [if_neg c14] at H
            exact absurd H (by simp)
          ·rw [if_neg c13] at H
           have c13b0 : decide (x25_2 < (y147.length : Int)) = false := decide_eq_false c13; clear c13
           by_cases c21 : x4_2.length < 140737488355328
           ·rw [if_pos c21] at H
            have LMc21 := am c21; clear c21; obtain ⟨y156, hy156⟩ : ∃ y_ : List Bool, y_ = (x4_2 ++ [false]) := ⟨_, rfl⟩
            replace H : ((spec_l1HasS.f k2 l0 (rdOf ByteArray.empty t135 x15_1)).bind fun t159 => (if x5_1.length < 140737488355328 then ((some (x5_1 ++ [t159] : List Bool)).bind fun y160 => (if x15_1 > 0 then (if 0 ≤ (wrap64 (((rdOf ByteArray.empty t135 x15_1).size : Int) - 1)) then (if (wrap64 (((rdOf ByteArray.empty t135 x15_1).size : Int) - 1)) < ((rdOf ByteArray.empty t135 x15_1).size : Int) then (if x6_1.length < 140737488355328 then (spec_trOf.l0 k2 l0 t135 y156 y160 (x6_1 ++ [bt (rdOf ByteArray.empty t135 x15_1) (wrap64 (((rdOf ByteArray.empty t135 x15_1).size : Int) - 1))]) t135 (t135.length : Int) (wrap64 (x15_1 + 1))) else (none)) else (none)) else (none)) else (spec_trOf.l0 k2 l0 t135 y156 y160 x6_1 t135 (t135.length : Int) (wrap64 (x15_1 + 1))))) else (none))) = some (r1, r2, r3, r4, r5) := by first | (rw [hy156]; with_reducible exact H) | (have H2_ := (Option.bind_some _ _).symm.trans H; rw [hy156]; with_reducible exact H2_) | (have H2_ := (Option.bind_some _ _).symm.trans H; with_reducible exact H2_) | with_reducible exact H | (rw [hy156]; exact H) | exact H
            have Ny156 := am hy156; clear hy156; replace H := Option.bind_eq_some_iff.mp H; obtain ⟨t159, A220, H⟩ := H; (try dsimp -simprocs only at H); have A22 := am A220; clear A220
            by_cases c23 : x5_1.length < 140737488355328
            ·rw [if_pos c23] at H
             have LMc23 := am c23; clear c23; obtain ⟨y160, hy160⟩ : ∃ y_ : List Bool, y_ = (x5_1 ++ [t159]) := ⟨_, rfl⟩
             replace H : (if x15_1 > 0 then (if 0 ≤ (wrap64 (((rdOf ByteArray.empty t135 x15_1).size : Int) - 1)) then (if (wrap64 (((rdOf ByteArray.empty t135 x15_1).size : Int) - 1)) < ((rdOf ByteArray.empty t135 x15_1).size : Int) then (if x6_1.length < 140737488355328 then (spec_trOf.l0 k2 l0 t135 y156 y160 (x6_1 ++ [bt (rdOf ByteArray.empty t135 x15_1) (wrap64 (((rdOf ByteArray.empty t135 x15_1).size : Int) - 1))]) t135 (t135.length : Int) (wrap64 (x15_1 + 1))) else (none)) else (none)) else (none)) else (spec_trOf.l0 k2 l0 t135 y156 y160 x6_1 t135 (t135.length : Int) (wrap64 (x15_1 + 1)))) = some (r1, r2, r3, r4, r5) := by first | (rw [hy160]; with_reducible exact H) | (have H2_ := (Option.bind_some _ _).symm.trans H; rw [hy160]; with_reducible exact H2_) | (have H2_ := (Option.bind_some _ _).symm.trans H; with_reducible exact H2_) | with_reducible exact H | (rw [hy160]; exact H) | exact H
             have Ny160 := am hy160; clear hy160
             by_cases c24 : x15_1 > 0
             ·rw [if_pos c24] at H
              have c24b0 : decide (0 < x15_1) = true := decide_eq_true c24; clear c24; obtain ⟨ji25, hji25⟩ : ∃ j_ : Int, (wrap64 (((rdOf ByteArray.empty t135 x15_1).size : Int) - 1)) = j_ := ⟨_, rfl⟩
              replace H : (if 0 ≤ (ji25) then (if (ji25) < ((rdOf ByteArray.empty t135 x15_1).size : Int) then (if x6_1.length < 140737488355328 then (spec_trOf.l0 k2 l0 t135 y156 y160 (x6_1 ++ [bt (rdOf ByteArray.empty t135 x15_1) (ji25)]) t135 (t135.length : Int) (wrap64 (x15_1 + 1))) else (none)) else (none)) else (none)) = some (r1, r2, r3, r4, r5) := by first | (rw [hji25] at H; exact H) | (simp only [hji25] at H ⊢; exact H)
              (try rw [hji25] at A22)
              have hji25w : (IntKind.i64.wrap (((rdOf ByteArray.empty t135 x15_1).size : Int) - 1)) = ji25 := (i64_w _).trans hji25
              by_cases c26 : 0 ≤ (ji25)
              ·rw [if_pos c26] at H
               have c26b0 : decide (0 ≤ (ji25)) = true := decide_eq_true c26; clear c26
               by_cases c27 : (ji25) < ((rdOf ByteArray.empty t135 x15_1).size : Int)
               ·rw [if_pos c27] at H
                have c27b0 : decide ((ji25) < ((rdOf ByteArray.empty t135 x15_1).size : Int)) = true := decide_eq_true c27; clear c27
                by_cases c29 : x6_1.length < 140737488355328
                ·rw [if_pos c29] at H
                 have LMc29 := am c29; clear c29; obtain ⟨y163, hy163⟩ : ∃ y_ : List Int, y_ = (x6_1 ++ [bt (rdOf ByteArray.empty t135 x15_1) (ji25)]) := ⟨_, rfl⟩
                 replace H : (spec_trOf.l0 k2 l0 t135 y156 y160 y163 t135 (t135.length : Int) (wrap64 (x15_1 + 1))) = some (r1, r2, r3, r4, r5) := by first | (rw [hy163]; with_reducible exact H) | (have H2_ := (Option.bind_some _ _).symm.trans H; rw [hy163]; with_reducible exact H2_) | (have H2_ := (Option.bind_some _ _).symm.trans H; with_reducible exact H2_) | with_reducible exact H | (rw [hy163]; exact H) | exact H
                 have Ny163 := am hy163; clear hy163; have H' := am H; clear H
                 go_wp2_with (first | ((with_reducible refine gate_builtin (b := .append) (xs := #[.tmp 44, .tmp 45]) rfl ?_); at_builtin; refine Kd.R_append Kd.bool (w0 := w) w.heap.size rfl (.tmp 44) (.tmp 45) 79 4 (.bool false) 1 rfl Try.underlying79 info4 rfl (by decide) (by omega) u4 x4_2 false [.bool false] (fun k_ => some k_ ≠ (u5 : Value).ownBlock) (fun _ => False) rfl rfl ?aP (fun _ hk => hk.elim) ?aF ?aO ?aB ?aS ?aL ?_; (case aP => exact rfl); (case aB => exact (Bq)); (case aF => exact (fun k_ hk => Kd.fresh' (Kd.R_lt (Rz HO_5.out)) k_ hk)); (case aO => exact (Rz HO_4.out)); (case aS => exact (below_size (w := w) (Bq))); (case aL => have := LMc21.out; omega); intro v157 w30 ho hb hg hat; rw [← Ny156.out] at ho; have n0_ := am (Kd.R_over' (Rz HO_3.out) (Kd.R_typed (Rz HO_4.out)) (by decide) hg); have n1_ := am (Kd.R_after (ok := (fun _ => True)) (Rz (Kd.R_mono HO_5.out (fun _ hk => ⟨trivial, hk⟩))) hg hat); have n2_ := am (Kd.R_over' (Rz HO_6.out) (Kd.R_typed (Rz HO_4.out)) (by decide) hg); have n3_ := am (Kd.R_over' (Rz HO_13.out) (Kd.R_typed (Rz HO_4.out)) (by decide) hg); have n4_ := am (blk_grown (g := gb134) (o := .cells #[.int .i64 0, .slice none 0 0, .int .i64 0, .slice none 0 0, .string (⟨#[]⟩ : ByteArray)] 32 (0, 0)) (Kz BK134.out) hg (Kd.R_ne HO_4.out BK134.out (by decide))); have n5_ := am (hb); have n6_ := am ((show Kd.C Kd.string w30 A12 y147.length y147 from by rw [Ny147.out, KA12.out]; exact Kd.C_drop (m := ((ji9) : Int).toNat) (c := co5) ((Kd.R_reads' (Kd.R_over' (Rz HO_3.out) (Kd.R_typed (Rz HO_4.out)) (by decide) hg)).2.2) KL12.out ((Kd.R_reads' (Kd.R_over' (Rz HO_3.out) (Kd.R_typed (Rz HO_4.out)) (by decide) hg)).2.1))); have n7_ := am (ho); clear HO_3 HO_5 HO_6 HO_13 BK134 HB HR150 HO_4; revert n0_ n1_ n2_ n3_ n4_ n5_ n6_ n7_; intro HO_3 HO_5 HO_6 HO_13 BK134 HB HR150 HO158; clear ho hb hg hat) | ((with_reducible refine gate_callee (f := 60) rfl ?_); refine gL (some 50) Try.func60 #[.slice A0 l0.length c0, .string (rdOf ByteArray.empty t135 x15_1)] ?_; (with_reducible refine (spec_l1HasS.calls k2 _ _ l0 (rdOf ByteArray.empty t135 x15_1) t159 _ ?side1 ?side2 A22.out).mono ?_); (case side1 => exact Cz (Kd.C_below HR0.out HB.out)); (case side2 => exact HC0.out); rintro e w' ⟨rfl, ⟨nd, rfl⟩⟩; refine ⟨_, rfl, ?_⟩) | ((with_reducible refine gate_builtin (b := .append) (xs := #[.tmp 47, .tmp 51]) rfl ?_); at_builtin; refine Kd.R_append Kd.bool (w0 := w) w.heap.size rfl (.tmp 47) (.tmp 51) 79 4 (.bool false) 1 rfl Try.underlying79 info4 rfl (by decide) (by omega) u5 x5_1 t159 [.bool t159] (fun k_ => some k_ ≠ (v157 : Value).ownBlock) (fun _ => False) rfl rfl ?aP (fun _ hk => hk.elim) ?aF ?aO ?aB ?aS ?aL ?_; (case aP => exact rfl); (case aB => exact (Bq)); (case aF => exact (fun k_ hk => Kd.fresh' (Kd.R_lt (Rz HO158.out)) k_ hk)); (case aO => exact (Rz (Kd.R_mono HO_5.out (fun _ hk => hk.2)))); (case aS => exact (below_size (w := w) (Bq))); (case aL => have := LMc23.out; omega); intro v161 w31 ho hb hg hat; rw [← Ny160.out] at ho; have n0_ := am (Kd.R_over' (Rz HO_3.out) (Kd.R_typed (Rz HO_5.out)) (by decide) hg); have n1_ := am (Kd.R_over' (Rz HO_6.out) (Kd.R_typed (Rz HO_5.out)) (by decide) hg); have n2_ := am (Kd.R_over' (Rz HO_13.out) (Kd.R_typed (Rz HO_5.out)) (by decide) hg); have n3_ := am (blk_grown (g := gb134) (o := .cells #[.int .i64 0, .slice none 0 0, .int .i64 0, .slice none 0 0, .string (⟨#[]⟩ : ByteArray)] 32 (0, 0)) (Kz BK134.out) hg (Kd.R_ne HO_5.out BK134.out (by decide))); have n4_ := am (Kd.R_after (ok := (fun _ => True)) (Rz (Kd.R_mono HO158.out (fun _ hk => ⟨trivial, hk⟩))) hg hat); have n5_ := am (hb); have n6_ := am ((show Kd.C Kd.string w31 A12 y147.length y147 from by rw [Ny147.out, KA12.out]; exact Kd.C_drop (m := ((ji9) : Int).toNat) (c := co5) ((Kd.R_reads' (Kd.R_over' (Rz HO_3.out) (Kd.R_typed (Rz HO_5.out)) (by decide) hg)).2.2) KL12.out ((Kd.R_reads' (Kd.R_over' (Rz HO_3.out) (Kd.R_typed (Rz HO_5.out)) (by decide) hg)).2.1))); have n7_ := am (ho); clear HO_3 HO_6 HO_13 BK134 HO158 HB HR150 HO_5; revert n0_ n1_ n2_ n3_ n4_ n5_ n6_ n7_; intro HO_3 HO_6 HO_13 BK134 HO158 HB HR150 HO162; clear ho hb hg hat; have p28 : 0 ≤ ((ji25) : Int) := dT; have q28 : (ji25) < ((rdOf ByteArray.empty t135 x15_1).size : Int) := dT; have hx28 := bt_at (rdOf ByteArray.empty t135 x15_1) (ji25); replace p28 := eq_true p28; replace q28 := eq_true q28) | ((with_reducible refine gate_builtin (b := .append) (xs := #[.tmp 55, .tmp 61]) rfl ?_); at_builtin; refine Kd.R_append (Kd.int .u8) (w0 := w) w.heap.size rfl (.tmp 55) (.tmp 61) 63 5 (.int .u8 0) 1 rfl Try.underlying63 info5 rfl (by decide) (by omega) u6 x6_1 (bt (rdOf ByteArray.empty t135 x15_1) (ji25)) [.int .u8 (bt (rdOf ByteArray.empty t135 x15_1) (ji25))] (fun _ => True) (fun _ => False) rfl rfl ?aP (fun _ hk => hk.elim) ?aF ?aO ?aB ?aS ?aL ?_; (case aP => exact rfl); (case aB => exact (Bq)); (case aF => exact (fun _ _ => trivial)); (case aO => exact (Rz HO_6.out)); (case aS => exact (below_size (w := w) (Bq))); (case aL => have := LMc29.out; omega); intro v164 w32 ho hb hg hat; rw [← Ny163.out] at ho; have n0_ := am (Kd.R_over' (Rz HO_3.out) (Kd.R_typed (Rz HO_6.out)) (by decide) hg); have n1_ := am (Kd.R_over' (Rz HO_13.out) (Kd.R_typed (Rz HO_6.out)) (by decide) hg); have n2_ := am (blk_grown (g := gb134) (o := .cells #[.int .i64 0, .slice none 0 0, .int .i64 0, .slice none 0 0, .string (⟨#[]⟩ : ByteArray)] 32 (0, 0)) (Kz BK134.out) hg (Kd.R_ne HO_6.out BK134.out (by decide))); have n3_ := am (Kd.R_over' (Rz HO158.out) (Kd.R_typed (Rz HO_6.out)) (by decide) hg); have n4_ := am (Kd.R_over' (Rz HO162.out) (Kd.R_typed (Rz HO_6.out)) (by decide) hg); have n5_ := am (hb); have n6_ := am ((show Kd.C Kd.string w32 A12 y147.length y147 from by rw [Ny147.out, KA12.out]; exact Kd.C_drop (m := ((ji9) : Int).toNat) (c := co5) ((Kd.R_reads' (Kd.R_over' (Rz HO_3.out) (Kd.R_typed (Rz HO_6.out)) (by decide) hg)).2.2) KL12.out ((Kd.R_reads' (Kd.R_over' (Rz HO_3.out) (Kd.R_typed (Rz HO_6.out)) (by decide) hg)).2.1))); have n7_ := am (ho); clear HO_3 HO_13 BK134 HO158 HO162 HB HR150 HO_6; revert n0_ n1_ n2_ n3_ n4_ n5_ n6_ n7_; intro HO_3 HO_13 BK134 HO158 HO162 HB HR150 HO165; clear ho hb hg hat))
                 go_roundg k2
                 case measure => have := HK1.out; have := HK2.out; omega
                 case rel => exact ⟨(y156), (y160), (y163), (wrap64 (x15_1 + 1)), wZ, H', ⟨by have := HK1.out; have := HK2.out; omega⟩, ⟨Rz HO_3.out⟩, ⟨Rz (Kd.R_mono HO158.out (fun _ hk => hk.2))⟩, ⟨Rz HO162.out⟩, ⟨Rz HO165.out⟩, ⟨Rz HO_13.out⟩, ⟨Kz BK134.out⟩, ⟨Bq⟩⟩
                ·rw [if_neg c29] at H
                 exact absurd H (by simp)
               ·rw [if_neg c27] at H
                exact absurd H (by simp)
              ·rw [if_neg c26] at H
               exact absurd H (by simp)
             ·rw [if_neg c24] at H
              have c24b0 : decide (0 < x15_1) = false := decide_eq_false c24; clear c24; have H' := am H; clear H
              go_wp2_with (first | ((with_reducible refine gate_builtin (b := .append) (xs := #[.tmp 44, .tmp 45]) rfl ?_); at_builtin; refine Kd.R_append Kd.bool (w0 := w) w.heap.size rfl (.tmp 44) (.tmp 45) 79 4 (.bool false) 1 rfl Try.underlying79 info4 rfl (by decide) (by omega) u4 x4_2 false [.bool false] (fun k_ => some k_ ≠ (u5 : Value).ownBlock) (fun _ => False) rfl rfl ?aP (fun _ hk => hk.elim) ?aF ?aO ?aB ?aS ?aL ?_; (case aP => exact rfl); (case aB => exact (Bq)); (case aF => exact (fun k_ hk => Kd.fresh' (Kd.R_lt (Rz HO_5.out)) k_ hk)); (case aO => exact (Rz HO_4.out)); (case aS => exact (below_size (w := w) (Bq))); (case aL => have := LMc21.out; omega); intro v157 w33 ho hb hg hat; rw [← Ny156.out] at ho; have n0_ := am (Kd.R_over' (Rz HO_3.out) (Kd.R_typed (Rz HO_4.out)) (by decide) hg); have n1_ := am (Kd.R_after (ok := (fun _ => True)) (Rz (Kd.R_mono HO_5.out (fun _ hk => ⟨trivial, hk⟩))) hg hat); have n2_ := am (Kd.R_over' (Rz HO_6.out) (Kd.R_typed (Rz HO_4.out)) (by decide) hg); have n3_ := am (Kd.R_over' (Rz HO_13.out) (Kd.R_typed (Rz HO_4.out)) (by decide) hg); have n4_ := am (blk_grown (g := gb134) (o := .cells #[.int .i64 0, .slice none 0 0, .int .i64 0, .slice none 0 0, .string (⟨#[]⟩ : ByteArray)] 32 (0, 0)) (Kz BK134.out) hg (Kd.R_ne HO_4.out BK134.out (by decide))); have n5_ := am (hb); have n6_ := am ((show Kd.C Kd.string w33 A12 y147.length y147 from by rw [Ny147.out, KA12.out]; exact Kd.C_drop (m := ((ji9) : Int).toNat) (c := co5) ((Kd.R_reads' (Kd.R_over' (Rz HO_3.out) (Kd.R_typed (Rz HO_4.out)) (by decide) hg)).2.2) KL12.out ((Kd.R_reads' (Kd.R_over' (Rz HO_3.out) (Kd.R_typed (Rz HO_4.out)) (by decide) hg)).2.1))); have n7_ := am (ho); clear HO_3 HO_5 HO_6 HO_13 BK134 HB HR150 HO_4; revert n0_ n1_ n2_ n3_ n4_ n5_ n6_ n7_; intro HO_3 HO_5 HO_6 HO_13 BK134 HB HR150 HO158; clear ho hb hg hat) | ((with_reducible refine gate_callee (f := 60) rfl ?_); refine gL (some 50) Try.func60 #[.slice A0 l0.length c0, .string (rdOf ByteArray.empty t135 x15_1)] ?_; (with_reducible refine (spec_l1HasS.calls k2 _ _ l0 (rdOf ByteArray.empty t135 x15_1) t159 _ ?side1 ?side2 A22.out).mono ?_); (case side1 => exact Cz (Kd.C_below HR0.out HB.out)); (case side2 => exact HC0.out); rintro e w' ⟨rfl, ⟨nd, rfl⟩⟩; refine ⟨_, rfl, ?_⟩) | ((with_reducible refine gate_builtin (b := .append) (xs := #[.tmp 47, .tmp 51]) rfl ?_); at_builtin; refine Kd.R_append Kd.bool (w0 := w) w.heap.size rfl (.tmp 47) (.tmp 51) 79 4 (.bool false) 1 rfl Try.underlying79 info4 rfl (by decide) (by omega) u5 x5_1 t159 [.bool t159] (fun k_ => some k_ ≠ (v157 : Value).ownBlock) (fun _ => False) rfl rfl ?aP (fun _ hk => hk.elim) ?aF ?aO ?aB ?aS ?aL ?_; (case aP => exact rfl); (case aB => exact (Bq)); (case aF => exact (fun k_ hk => Kd.fresh' (Kd.R_lt (Rz HO158.out)) k_ hk)); (case aO => exact (Rz (Kd.R_mono HO_5.out (fun _ hk => hk.2)))); (case aS => exact (below_size (w := w) (Bq))); (case aL => have := LMc23.out; omega); intro v161 w34 ho hb hg hat; rw [← Ny160.out] at ho; have n0_ := am (Kd.R_over' (Rz HO_3.out) (Kd.R_typed (Rz HO_5.out)) (by decide) hg); have n1_ := am (Kd.R_over' (Rz HO_6.out) (Kd.R_typed (Rz HO_5.out)) (by decide) hg); have n2_ := am (Kd.R_over' (Rz HO_13.out) (Kd.R_typed (Rz HO_5.out)) (by decide) hg); have n3_ := am (blk_grown (g := gb134) (o := .cells #[.int .i64 0, .slice none 0 0, .int .i64 0, .slice none 0 0, .string (⟨#[]⟩ : ByteArray)] 32 (0, 0)) (Kz BK134.out) hg (Kd.R_ne HO_5.out BK134.out (by decide))); have n4_ := am (Kd.R_after (ok := (fun _ => True)) (Rz (Kd.R_mono HO158.out (fun _ hk => ⟨trivial, hk⟩))) hg hat); have n5_ := am (hb); have n6_ := am ((show Kd.C Kd.string w34 A12 y147.length y147 from by rw [Ny147.out, KA12.out]; exact Kd.C_drop (m := ((ji9) : Int).toNat) (c := co5) ((Kd.R_reads' (Kd.R_over' (Rz HO_3.out) (Kd.R_typed (Rz HO_5.out)) (by decide) hg)).2.2) KL12.out ((Kd.R_reads' (Kd.R_over' (Rz HO_3.out) (Kd.R_typed (Rz HO_5.out)) (by decide) hg)).2.1))); have n7_ := am (ho); clear HO_3 HO_6 HO_13 BK134 HO158 HB HR150 HO_5; revert n0_ n1_ n2_ n3_ n4_ n5_ n6_ n7_; intro HO_3 HO_6 HO_13 BK134 HO158 HB HR150 HO162; clear ho hb hg hat))
              go_roundg k2
              case measure => have := HK1.out; have := HK2.out; omega
              case rel => exact ⟨(y156), (y160), (x6_1), (wrap64 (x15_1 + 1)), wZ, H', ⟨by have := HK1.out; have := HK2.out; omega⟩, ⟨Rz HO_3.out⟩, ⟨Rz (Kd.R_mono HO158.out (fun _ hk => hk.2))⟩, ⟨Rz HO162.out⟩, ⟨Rz HO_6.out⟩, ⟨Rz HO_13.out⟩, ⟨Kz BK134.out⟩, ⟨Bq⟩⟩
            ·rw [if_neg c23] at H
             exact absurd H (by simp)
           ·rw [if_neg c21] at H
            exact absurd H (by simp)
       ·rw [if_neg c11] at H
        exact absurd H (by simp)
      ·rw [if_neg c10] at H
       exact absurd H (by simp)
     ·rw [if_neg c8] at H
      exact absurd H (by simp)
    ·rw [if_neg c7] at H
     exact absurd H (by simp)
   ·rw [if_neg c6] at H
    have c6b0 : decide (x15_1 < (t135.length : Int)) = false := decide_eq_false c6; clear c6; replace H := Option.bind_eq_some_iff.mp H; obtain ⟨⟨t138, t139⟩, A350, H⟩ := H; (try dsimp -simprocs only at H); have A35 := am A350; clear A350; replace H := Option.bind_eq_some_iff.mp H; obtain ⟨⟨t142, t143⟩, A360, H⟩ := H; (try dsimp -simprocs only at H); have A36 := am A360; clear A360
    simp only [Option.some.injEq, Prod.mk.injEq] at H
    obtain ⟨rfl, rfl, rfl, rfl, rfl⟩ := H; obtain ⟨Ao37, co37, eo37⟩ := Kd.R_slice HO_4.out; subst eo37; obtain ⟨Ao38, co38, eo38⟩ := Kd.R_slice HO_5.out; subst eo38
    try go_wp2
    have n0_ := am (Kd.R_drew HO_3.out); have n1_ := am (Kd.R_drew HO_4.out); have n2_ := am (Kd.R_drew HO_5.out); have n3_ := am (Kd.R_drew HO_6.out); have n4_ := am (Kd.R_drew HO_13.out); have n5_ := am (blk_drew BK134.out); have n6_ := am (below_drew1 HB.out); clear HO_3 HO_4 HO_5 HO_6 HO_13 BK134 HB; revert n0_ n1_ n2_ n3_ n4_ n5_ n6_; intro HO_3 HO_4 HO_5 HO_6 HO_13 BK134 HB; refine start_ (n := 8) (S := fun w' => True) (ds := []) (bA 8 0) (by kernel_rfl) rfl rfl trivial (fun hHeld => ?_); refine with_tabW spec_trOf.tab18 spec_trOf.bits18 (fun HT_ HW_ => ?_); generalize wr.drew = w39 at HO_3 HO_4 HO_5 HO_6 HO_13 BK134 HB hHeld ⊢; refine pZ 0 (some 64) (bA 8 1) HT_.out ?_; refine pZ 2 (some 66) (bA 8 5) HT_.out ?_; refine pZ 4 (some 68) (bA 8 21) HT_.out ?_; refine join_ (σ := Value × Value) 2 (bA 8 63) (fun s_ => [(65, .agg #[.int .i64 t138, s_.1]), (67, .agg #[.int .i64 t142, s_.2]), (69, .string (strOfNums x6_1))]) (fun s_ w' => (Kd.R (Kd.int .i64) 3 w' w.heap.size (fun k_ => some k_ ≠ (s_.2 : Value).ownBlock) s_.1 t139) ∧ (Kd.R (Kd.int .i64) 3 w' w.heap.size (fun k_ => some k_ ≠ (s_.1 : Value).ownBlock) s_.2 t143) ∧ (Kd.R Kd.string 9 w' w.heap.size (fun _ => True) (.slice Ao5 t135.length co5) t135) ∧ (Kd.R Kd.string 9 w' w.heap.size (fun _ => True) (.slice Ao5 t135.length co5) t135) ∧ (Kd.R Kd.bool 4 w' w.heap.size (fun k_ => some k_ ≠ (.slice Ao38 x5_1.length co38 : Value).ownBlock) (.slice Ao37 x4_1.length co37) x4_1) ∧ (Kd.R Kd.bool 4 w' w.heap.size (fun k_ => some k_ ≠ (.slice Ao37 x4_1.length co37 : Value).ownBlock) (.slice Ao38 x5_1.length co38) x5_1) ∧ (Kd.R (Kd.int .u8) 5 w' w.heap.size (fun _ => True) u6 x6_1) ∧ (w'.heap[gb134]? = some (.cells #[.int .i64 0, .slice none 0 0, .int .i64 0, .slice none 0 0, .string (⟨#[]⟩ : ByteArray)] 32 (0, 0))) ∧ (Below w.heap.size w w')) ?_ ?_
    rotate_left
    ·intro hCont
     refine two_ (i := 1) (j := 5) (Ni := some 65) (Nj := some 69) (bA 8 23) (bA 8 53) rfl rfl rfl rfl (two_of HT_.out (by kernel_rfl)) (by decide) (by decide) (fun K hK => ?_) (fun K hK => ?_)
     ·skip
      refine gZ Try.func77 #[.slice Ao37 x4_1.length co37] ?_
      with_reducible refine (spec_biSome.calls k1 _ _ x4_1 t138 t139 _ ?side1 ?side2 A35.out).mono ?_
      (case side1 => exact Cz ((Kd.R_reads' HO_4.out).2.2))
      (case side2 => exact (Kd.R_reads' HO_4.out).2.1)
      rintro e w40 ⟨v140, rfl, ho0, hb⟩; refine ⟨_, rfl, ?_⟩; have n0_ := Rb HO_3 hb; have n1_ := Rb HO_4 hb; have n2_ := Rb HO_5 hb; have n3_ := Rb HO_6 hb; have n4_ := Rb HO_13 hb; have n5_ := Rm ho0 HB; have n6_ := Kb BK134 hb; have n7_ := Bc HB hb; clear HO_3 HO_4 HO_5 HO_6 HO_13 BK134 HB; revert n0_ n1_ n2_ n3_ n4_ n5_ n6_ n7_; intro HO_3 HO_4 HO_5 HO_6 HO_13 HO141 BK134 HB
      (try clear hb)
      (try clear hb2)
      (try clear hk)
      (try clear hi)
      (try clear ho0)
      refine hK.out _ _ trivial (fun hHeld => ?_); clear hK K; refine norm_ (a' := ?_) ?_ ?_; rotate_left; show Act.put _ (some 65) _ = _; simp only [aP, i64_w, i32_w]; rfl; refine two_ (i := 3) (j := 5) (Ni := some 67) (Nj := some 69) (bA 8 31) (bA 8 55) rfl rfl rfl rfl (two_of HT_.out (by kernel_rfl)) (by decide) (by decide) (fun K hK => ?_) (fun K hK => ?_)
      ·skip
       refine gZ Try.func77 #[.slice Ao38 x5_1.length co38] ?_
       with_reducible refine (spec_biSome.calls k1 _ _ x5_1 t142 t143 _ ?side1 ?side2 A36.out).mono ?_
       (case side1 => exact Cz ((Kd.R_reads' HO_5.out).2.2))
       (case side2 => exact (Kd.R_reads' HO_5.out).2.1)
       rintro e w41 ⟨v144, rfl, ho0, hb⟩; refine ⟨_, rfl, ?_⟩; have n0_ := Rb HO_3 hb; have n1_ := Rb HO_4 hb; have n2_ := Rb HO_5 hb; have n3_ := Rb HO_6 hb; have n4_ := Rb HO_13 hb; have n5_ := Re HO141 (Kd.R_base ho0) hb; have n6_ := Rm (Kd.R_new' ho0 (Kd.R_lt (Rz HO141.out))) HB; have n7_ := Kb BK134 hb; have n8_ := Bc HB hb; clear HO_3 HO_4 HO_5 HO_6 HO_13 HO141 BK134 HB; revert n0_ n1_ n2_ n3_ n4_ n5_ n6_ n7_ n8_; intro HO_3 HO_4 HO_5 HO_6 HO_13 HO141 HO145 BK134 HB
       (try clear hb)
       (try clear hb2)
       (try clear hk)
       (try clear hi)
       (try clear ho0)
       obtain ⟨Ao43, co43, eo43⟩ := Kd.R_slice HO145.out
       (first | subst eo43 | (injection eo43 with f1_ f2_ f3_; have f4_ := f1_.symm; have f5_ := f3_.symm; clear f1_ f2_ f3_; subst f4_; subst f5_))
       obtain ⟨Ao44, co44, eo44⟩ := Kd.R_slice HO141.out
       (first | subst eo44 | (injection eo44 with f1_ f2_ f3_; have f4_ := f1_.symm; have f5_ := f3_.symm; clear f1_ f2_ f3_; subst f4_; subst f5_))
       refine hK.out _ _ trivial (fun hHeld => ?_); clear hK K; refine norm_ (a' := ?_) ?_ ?_; rotate_left; show Act.put _ (some 67) _ = _; simp only [aP, i64_w, i32_w]; rfl; refine oZ 5 (some 69) (bA 8 63) HT_.out (fun K hK => ?_); have hcv42 := own_string (P := Try.prog) Try.underlying63 Try.underlying5 Try.underlying9 (Kd.own_of_R HO_6.out); refine value_ (w1 := ?_) (v := ?_) (by rfl) rfl ?_ ?_
       rotate_left 2
       ·go_simp
        constructor
        ·rfl
        ·rfl
       clear hcv42; refine hK.out _ _ trivial (fun hHeld => ?_); clear hK K; refine norm_ (a' := ?_) ?_ ?_; rotate_left; show Act.put _ (some 69) _ = _; simp only [aP, i64_w, i32_w]; rfl; exact norm_ (by simp only [putAll, aP]) (hCont (.slice Ao44 t139.length co44, .slice Ao43 t143.length co43) _ ⟨(Rz (Kd.R_mono HO141.out (fun _ hk => hk.2))), (Rz (Kd.R_mono HO145.out (fun _ hk => hk.2))), (Rz HO_13.out), (Rz HO_3.out), (Rz HO_4.out), (Rz HO_5.out), (Rz HO_6.out), (Kz BK134.out), (Bq)⟩)
      ·skip
       have hcv41 := own_string (P := Try.prog) Try.underlying63 Try.underlying5 Try.underlying9 (Kd.own_of_R HO_6.out); refine value_ (w1 := ?_) (v := ?_) (by rfl) rfl ?_ ?_
       rotate_left 2
       ·go_simp
        constructor
        ·rfl
        ·rfl
       clear hcv41; refine hK.out _ _ trivial (fun hHeld => ?_); clear hK K; refine norm_ (a' := ?_) ?_ ?_; rotate_left; show Act.put _ (some 69) _ = _; simp only [aP, i64_w, i32_w]; rfl; refine oZ 3 (some 67) (bA 8 63) HT_.out (fun K hK => ?_); refine gZ Try.func77 #[.slice Ao38 x5_1.length co38] ?_
       with_reducible refine (spec_biSome.calls k1 _ _ x5_1 t142 t143 _ ?side1 ?side2 A36.out).mono ?_
       (case side1 => exact Cz ((Kd.R_reads' HO_5.out).2.2))
       (case side2 => exact (Kd.R_reads' HO_5.out).2.1)
       rintro e w42 ⟨v144, rfl, ho0, hb⟩; refine ⟨_, rfl, ?_⟩; have n0_ := Rb HO_3 hb; have n1_ := Rb HO_4 hb; have n2_ := Rb HO_5 hb; have n3_ := Rb HO_6 hb; have n4_ := Rb HO_13 hb; have n5_ := Re HO141 (Kd.R_base ho0) hb; have n6_ := Rm (Kd.R_new' ho0 (Kd.R_lt (Rz HO141.out))) HB; have n7_ := Kb BK134 hb; have n8_ := Bc HB hb; clear HO_3 HO_4 HO_5 HO_6 HO_13 HO141 BK134 HB; revert n0_ n1_ n2_ n3_ n4_ n5_ n6_ n7_ n8_; intro HO_3 HO_4 HO_5 HO_6 HO_13 HO141 HO145 BK134 HB
       (try clear hb)
       (try clear hb2)
       (try clear hk)
       (try clear hi)
       (try clear ho0)
       obtain ⟨Ao43, co43, eo43⟩ := Kd.R_slice HO145.out
       (first | subst eo43 | (injection eo43 with f1_ f2_ f3_; have f4_ := f1_.symm; have f5_ := f3_.symm; clear f1_ f2_ f3_; subst f4_; subst f5_))
       obtain ⟨Ao44, co44, eo44⟩ := Kd.R_slice HO141.out
       (first | subst eo44 | (injection eo44 with f1_ f2_ f3_; have f4_ := f1_.symm; have f5_ := f3_.symm; clear f1_ f2_ f3_; subst f4_; subst f5_))
       refine hK.out _ _ trivial (fun hHeld => ?_); clear hK K; refine norm_ (a' := ?_) ?_ ?_; rotate_left; show Act.put _ (some 67) _ = _; simp only [aP, i64_w, i32_w]; rfl; exact norm_ (by simp only [putAll, aP]) (hCont (.slice Ao44 t139.length co44, .slice Ao43 t143.length co43) _ ⟨(Rz (Kd.R_mono HO141.out (fun _ hk => hk.2))), (Rz (Kd.R_mono HO145.out (fun _ hk => hk.2))), (Rz HO_13.out), (Rz HO_3.out), (Rz HO_4.out), (Rz HO_5.out), (Rz HO_6.out), (Kz BK134.out), (Bq)⟩)
     ·skip
      have hcv40 := own_string (P := Try.prog) Try.underlying63 Try.underlying5 Try.underlying9 (Kd.own_of_R HO_6.out); refine value_ (w1 := ?_) (v := ?_) (by rfl) rfl ?_ ?_
      rotate_left 2
      ·go_simp
       constructor
       ·rfl
       ·rfl
      clear hcv40; refine hK.out _ _ trivial (fun hHeld => ?_); clear hK K; refine norm_ (a' := ?_) ?_ ?_; rotate_left; show Act.put _ (some 69) _ = _; simp only [aP, i64_w, i32_w]; rfl; refine oZ 1 (some 65) (bA 8 55) HT_.out (fun K hK => ?_); refine gZ Try.func77 #[.slice Ao37 x4_1.length co37] ?_
      with_reducible refine (spec_biSome.calls k1 _ _ x4_1 t138 t139 _ ?side1 ?side2 A35.out).mono ?_
      (case side1 => exact Cz ((Kd.R_reads' HO_4.out).2.2))
      (case side2 => exact (Kd.R_reads' HO_4.out).2.1)
      rintro e w41 ⟨v140, rfl, ho0, hb⟩; refine ⟨_, rfl, ?_⟩; have n0_ := Rb HO_3 hb; have n1_ := Rb HO_4 hb; have n2_ := Rb HO_5 hb; have n3_ := Rb HO_6 hb; have n4_ := Rb HO_13 hb; have n5_ := Rm ho0 HB; have n6_ := Kb BK134 hb; have n7_ := Bc HB hb; clear HO_3 HO_4 HO_5 HO_6 HO_13 BK134 HB; revert n0_ n1_ n2_ n3_ n4_ n5_ n6_ n7_; intro HO_3 HO_4 HO_5 HO_6 HO_13 HO141 BK134 HB
      (try clear hb)
      (try clear hb2)
      (try clear hk)
      (try clear hi)
      (try clear ho0)
      refine hK.out _ _ trivial (fun hHeld => ?_); clear hK K; refine norm_ (a' := ?_) ?_ ?_; rotate_left; show Act.put _ (some 65) _ = _; simp only [aP, i64_w, i32_w]; rfl; refine oZ 3 (some 67) (bA 8 63) HT_.out (fun K hK => ?_); refine gZ Try.func77 #[.slice Ao38 x5_1.length co38] ?_
      with_reducible refine (spec_biSome.calls k1 _ _ x5_1 t142 t143 _ ?side1 ?side2 A36.out).mono ?_
      (case side1 => exact Cz ((Kd.R_reads' HO_5.out).2.2))
      (case side2 => exact (Kd.R_reads' HO_5.out).2.1)
      rintro e w42 ⟨v144, rfl, ho0, hb⟩; refine ⟨_, rfl, ?_⟩; have n0_ := Rb HO_3 hb; have n1_ := Rb HO_4 hb; have n2_ := Rb HO_5 hb; have n3_ := Rb HO_6 hb; have n4_ := Rb HO_13 hb; have n5_ := Re HO141 (Kd.R_base ho0) hb; have n6_ := Rm (Kd.R_new' ho0 (Kd.R_lt (Rz HO141.out))) HB; have n7_ := Kb BK134 hb; have n8_ := Bc HB hb; clear HO_3 HO_4 HO_5 HO_6 HO_13 HO141 BK134 HB; revert n0_ n1_ n2_ n3_ n4_ n5_ n6_ n7_ n8_; intro HO_3 HO_4 HO_5 HO_6 HO_13 HO141 HO145 BK134 HB
      (try clear hb)
      (try clear hb2)
      (try clear hk)
      (try clear hi)
      (try clear ho0)
      obtain ⟨Ao43, co43, eo43⟩ := Kd.R_slice HO145.out
      (first | subst eo43 | (injection eo43 with f1_ f2_ f3_; have f4_ := f1_.symm; have f5_ := f3_.symm; clear f1_ f2_ f3_; subst f4_; subst f5_))
      obtain ⟨Ao44, co44, eo44⟩ := Kd.R_slice HO141.out
      (first | subst eo44 | (injection eo44 with f1_ f2_ f3_; have f4_ := f1_.symm; have f5_ := f3_.symm; clear f1_ f2_ f3_; subst f4_; subst f5_))
      refine hK.out _ _ trivial (fun hHeld => ?_); clear hK K; refine norm_ (a' := ?_) ?_ ?_; rotate_left; show Act.put _ (some 67) _ = _; simp only [aP, i64_w, i32_w]; rfl; exact norm_ (by simp only [putAll, aP]) (hCont (.slice Ao44 t139.length co44, .slice Ao43 t143.length co43) _ ⟨(Rz (Kd.R_mono HO141.out (fun _ hk => hk.2))), (Rz (Kd.R_mono HO145.out (fun _ hk => hk.2))), (Rz HO_13.out), (Rz HO_3.out), (Rz HO_4.out), (Rz HO_5.out), (Rz HO_6.out), (Kz BK134.out), (Bq)⟩)
    rintro ⟨v140, v144⟩ w45 ⟨h0_, h1_, h2_, h3_, h4_, h5_, h6_, h7_, h8_⟩; (try dsimp -simprocs only at h0_ h1_ h2_ h3_ h4_ h5_ h6_ h7_ h8_); have n0_ := am h0_; have n1_ := am h1_; have n2_ := am h2_; have n3_ := am h3_; have n4_ := am h4_; have n5_ := am h5_; have n6_ := am h6_; have n7_ := am h7_; have n8_ : Aside0 (Below w.heap.size w w45) := ⟨h8_⟩; clear HO_3 HO_4 HO_5 HO_6 HO_13 BK134 HB; clear h0_ h1_ h2_ h3_ h4_ h5_ h6_ h7_ h8_; revert n0_ n1_ n2_ n3_ n4_ n5_ n6_ n7_ n8_; intro HO141 HO145 HO_13 HO_3 HO_4 HO_5 HO_6 BK134 HB; have hHeld := trivial; obtain ⟨Ao46, co46, eo46⟩ := Kd.R_slice HO145.out
    (first | subst eo46 | (injection eo46 with f1_ f2_ f3_; have f4_ := f1_.symm; have f5_ := f3_.symm; clear f1_ f2_ f3_; subst f4_; subst f5_))
    obtain ⟨Ao47, co47, eo47⟩ := Kd.R_slice HO141.out
    (first | subst eo47 | (injection eo47 with f1_ f2_ f3_; have f4_ := f1_.symm; have f5_ := f3_.symm; clear f1_ f2_ f3_; subst f4_; subst f5_))
    refine norm_ (a' := ?_) ?_ ?_
    rotate_left
    ·simp only [putAll, aP]
     rfl
    refine pZ 6 (some 70) (bA 8 127) HT_.out ?_; refine oZ 7 none (bA 8 255) HT_.out (fun K hK => ?_); have hs48 : w45.cell? ⟨gb134, 0, none⟩ = some (.int .i64 0) := cz BK134 0; have hfs48 := blk_frozen BK134.out 0; have hs49 : w45.cell? ⟨gb134, 1, none⟩ = some (.slice none 0 0) := cz BK134 1; have hfs49 := blk_frozen BK134.out 1; have hs50 : w45.cell? ⟨gb134, 2, none⟩ = some (.int .i64 0) := cz BK134 2; have hfs50 := blk_frozen BK134.out 2; have hs51 : w45.cell? ⟨gb134, 3, none⟩ = some (.slice none 0 0) := cz BK134 3; have hfs51 := blk_frozen BK134.out 3; have hs52 : w45.cell? ⟨gb134, 4, none⟩ = some (.string (⟨#[]⟩ : ByteArray)) := cz BK134 4; have hfs52 := blk_frozen BK134.out 4; refine skip_ (w1 := ?_) (by rfl) rfl ?_ ?_
    rotate_left
    ·go_simp
     rfl
    refine hK.out _ _ trivial (fun hHeld => ?_); clear hK K; refine done_ (done_of HT_.out (by kernel_rfl)) ?_
    try go_wp2
    refine bodyPost_ret (results_cell_row rfl _ _ gb134 32 #[.int .i64 t138, .slice Ao47 t139.length co47, .int .i64 t142, .slice Ao46 t143.length co46, .string (strOfNums x6_1)] (0, 0) _ rfl (by (with_reducible repeat (first | refine blk_drewN ?_ _ | refine blk_drew ?_ | refine blk_alloc ?_ _)); refine blk_put (cs := #[.int .i64 t138, .slice Ao47 t139.length co47, .int .i64 t142, .slice Ao46 t143.length co46, .string (⟨#[]⟩ : ByteArray)]) ?_ 4 _ rfl; (with_reducible repeat (first | refine blk_drewN ?_ _ | refine blk_drew ?_ | refine blk_alloc ?_ _)); refine blk_put (cs := #[.int .i64 t138, .slice Ao47 t139.length co47, .int .i64 t142, .slice none 0 0, .string (⟨#[]⟩ : ByteArray)]) ?_ 3 _ rfl; (with_reducible repeat (first | refine blk_drewN ?_ _ | refine blk_drew ?_ | refine blk_alloc ?_ _)); refine blk_put (cs := #[.int .i64 t138, .slice Ao47 t139.length co47, .int .i64 0, .slice none 0 0, .string (⟨#[]⟩ : ByteArray)]) ?_ 2 _ rfl; (with_reducible repeat (first | refine blk_drewN ?_ _ | refine blk_drew ?_ | refine blk_alloc ?_ _)); refine blk_put (cs := #[.int .i64 t138, .slice none 0 0, .int .i64 0, .slice none 0 0, .string (⟨#[]⟩ : ByteArray)]) ?_ 1 _ rfl; (with_reducible repeat (first | refine blk_drewN ?_ _ | refine blk_drew ?_ | refine blk_alloc ?_ _)); refine blk_put (cs := #[.int .i64 0, .slice none 0 0, .int .i64 0, .slice none 0 0, .string (⟨#[]⟩ : ByteArray)]) ?_ 0 _ rfl; exact Kz BK134.out) Try.underlying32 rfl (by kernel_rfl)) rfl ?_; exact ⟨_, _, eZ, Rz (Kd.R_mono (Kd.R_far (p := ⟨gb134, 4, none⟩) (Kd.R_far (p := ⟨gb134, 3, none⟩) (Kd.R_far (p := ⟨gb134, 2, none⟩) (Kd.R_far (p := ⟨gb134, 1, none⟩) (Kd.R_far (p := ⟨gb134, 0, none⟩) (Kd.R_types HO141.out BK134.out (by decide)) (fun _ hk => hk.2) (.int .i64 t138)) (fun _ hk => hk.2) (.slice Ao47 t139.length co47)) (fun _ hk => hk.2) (.int .i64 t142)) (fun _ hk => hk.2) (.slice Ao46 t143.length co46)) (fun _ hk => hk.2) (.string (strOfNums x6_1))) (fun _ hk => hk.1)), Rz (Kd.R_mono (Kd.R_far (p := ⟨gb134, 4, none⟩) (Kd.R_far (p := ⟨gb134, 3, none⟩) (Kd.R_far (p := ⟨gb134, 2, none⟩) (Kd.R_far (p := ⟨gb134, 1, none⟩) (Kd.R_far (p := ⟨gb134, 0, none⟩) (Kd.R_types HO145.out BK134.out (by decide)) (fun _ hk => hk.2) (.int .i64 t138)) (fun _ hk => hk.2) (.slice Ao47 t139.length co47)) (fun _ hk => hk.2) (.int .i64 t142)) (fun _ hk => hk.2) (.slice Ao46 t143.length co46)) (fun _ hk => hk.2) (.string (strOfNums x6_1))) (fun _ hk => hk.1)), Bq⟩

def impl_in.f (a0 : Int) (a1 : Int) (a2 : Int) : Option (Bool) := if a0 ≥ a1 then (some (decide (a0 ≤ a2))) else (some false)
theorem impl_in.calls (a0 : Int) (a1 : Int) (a2 : Int) (r : Bool) (w : World) (h : impl_in.f a0 a1 a2 = some r) :
  Calls Try.prog 75 #[.int .i64 a0, .int .i64 a1, .int .i64 a2] w fun e w' => e = .returned (.bool r) ∧ Drawn0 w w' := by
 have H : (if a0 ≥ a1 then (some (decide (a0 ≤ a2))) else (some false)) = some r := h; clear h
 by_cases c4 : a0 ≥ a1
 ·rw [if_pos c4] at H
  have c4b0 : decide (a1 ≤ a0) = true := decide_eq_true c4; clear c4; obtain rfl := Option.some.inj H
  go_enter Try.func75, Try.ntmps75
  go_wp2
  go_ret
  exact ⟨by first | rfl | (simp; done) | (simp [*]; done), by repeat (first | exact Drawn0.refl _ | apply Drawn0.step)⟩
 ·rw [if_neg c4] at H
  have c4b0 : decide (a1 ≤ a0) = false := decide_eq_false c4; clear c4; obtain rfl := Option.some.inj H
  go_enter Try.func75, Try.ntmps75
  go_wp2
  go_ret
  exact ⟨by first | rfl | (simp; done) | (simp [*]; done), by repeat (first | exact Drawn0.refl _ | apply Drawn0.step)⟩

def impl_IsKey.l0 : Nat → ByteArray → Int → Int → Option (Bool)
 | 0, _, _, _ => none
 | k + 1, x0, x5, x6 => if x6 < x5 then (if 0 ≤ x6 then (if x6 < (x0.size : Int) then (if (bt x0 x6) < 33 then (some false) else (if (bt x0 x6) > 125 then (some false) else (impl_IsKey.l0 k x0 x5 (wrap64 (x6 + 1))))) else (none)) else (none)) else ((impl_in.f (x0.size : Int) 1 12).bind fun t285 => (some t285))
def impl_IsKey.f (k : Nat) (a0 : ByteArray) : Option (Bool) := impl_IsKey.l0 k a0 (a0.size : Int) 0
theorem impl_IsKey.mono_l : ∀ k, (∀ y0 y1 y2, LeO (impl_IsKey.l0 k y0 y1 y2) (impl_IsKey.l0 (k + 1) y0 y1 y2))
 | 0 => fun _ _ _ r h => by simp [impl_IsKey.l0] at h
 | k + 1 => by
  have ih0 := impl_IsKey.mono_l k
  ·intro y0 y1 y2
   unfold impl_IsKey.l0
   repeat' first | (with_reducible first | exact ih0 _ _ _ | exact LeO.refl _ | exact LeO.none _ | refine LeO.ite ?_ ?_ | refine LeO.bind ?_ (fun _ => ?_)) | exact LeO.none _ | refine LeO.ite ?_ ?_ | refine LeO.bind ?_ (fun _ => ?_)
theorem impl_IsKey.mono : ∀ a0 k, LeO (impl_IsKey.f k a0) (impl_IsKey.f (k + 1) a0) := by
 intro a0 k; have ih0 := impl_IsKey.mono_l k
 unfold impl_IsKey.f
 repeat' first | (with_reducible first | exact ih0 _ _ _ | exact LeO.refl _ | exact LeO.none _ | refine LeO.ite ?_ ?_ | refine LeO.bind ?_ (fun _ => ?_)) | exact LeO.none _ | refine LeO.ite ?_ ?_ | refine LeO.bind ?_ (fun _ => ?_)
theorem impl_IsKey.calls (k : Nat) (a0 : ByteArray) (r : Bool) (w : World) (h : impl_IsKey.f k a0 = some r) :
  Calls Try.prog 78 #[.string a0] w fun e w' => e = .returned (.bool r) ∧ Drawn0 w w' := by
 have H : (impl_IsKey.l0 k a0 (a0.size : Int) 0) = some r := h; clear h; have H' := am H; clear H
 go_enter Try.func78, Try.ntmps78
 go_wp2
 go_loopg [6] k (fun kq v6 w' => ∃ (x6_1 : Int), v6 = .int .i64 x6_1 ∧ Aside0 (impl_IsKey.l0 kq a0 (a0.size : Int) x6_1 = some r) ∧ Aside0 (kq ≤ k) ∧ Drawn0 w w')
 case atStart => exact ⟨(0), wZ, H', ⟨Nat.le_refl _⟩, by repeat (first | exact Drawn0.refl _ | apply Drawn0.step)⟩
 case round =>
  clear H'; obtain ⟨x6_1, rfl, HA, HK1, ⟨m1, rfl⟩⟩ := hrel; cases gk with
  | zero => exact absurd HA.out (by simp [impl_IsKey.l0])
  | succ k1 =>
   have H := HA.out; clear HA
   simp only [impl_IsKey.l0] at H
   by_cases c2 : x6_1 < (a0.size : Int)
   ·rw [if_pos c2] at H
    have c2b0 : decide (x6_1 < (a0.size : Int)) = true := decide_eq_true c2; clear c2
    by_cases c3 : 0 ≤ x6_1
    ·rw [if_pos c3] at H
     have c3b0 : decide (0 ≤ x6_1) = true := decide_eq_true c3; clear c3
     by_cases c4 : x6_1 < (a0.size : Int)
     ·rw [if_pos c4] at H
      have c4b0 : decide (x6_1 < (a0.size : Int)) = true := decide_eq_true c4; clear c4
      by_cases c6 : (bt a0 x6_1) < 33
      ·rw [if_pos c6] at H
       have c6b0 : decide ((bt a0 x6_1) < 33) = true := decide_eq_true c6; clear c6; obtain rfl := Option.some.inj H; have p5 : 0 ≤ (x6_1 : Int) := dT; have q5 : x6_1 < (a0.size : Int) := dT; have hx5 := bt_at a0 x6_1; replace p5 := eq_true p5; replace q5 := eq_true q5
       go_wp2
       go_ret
       exact ⟨by first | rfl | (simp; done) | (simp [*]; done), by repeat (first | exact Drawn0.refl _ | apply Drawn0.step)⟩
      ·rw [if_neg c6] at H
       have c6b0 : decide ((bt a0 x6_1) < 33) = false := decide_eq_false c6; clear c6
       by_cases c8 : (bt a0 x6_1) > 125
       ·rw [if_pos c8] at H
        have c8b0 : decide (125 < (bt a0 x6_1)) = true := decide_eq_true c8; clear c8; obtain rfl := Option.some.inj H; have p5 : 0 ≤ (x6_1 : Int) := dT; have q5 : x6_1 < (a0.size : Int) := dT; have hx5 := bt_at a0 x6_1; replace p5 := eq_true p5; replace q5 := eq_true q5; have p7 : 0 ≤ (x6_1 : Int) := dT; have q7 : x6_1 < (a0.size : Int) := dT; have hx7 := bt_at a0 x6_1; replace p7 := eq_true p7; replace q7 := eq_true q7
        go_wp2
        go_ret
        exact ⟨by first | rfl | (simp; done) | (simp [*]; done), by repeat (first | exact Drawn0.refl _ | apply Drawn0.step)⟩
       ·rw [if_neg c8] at H
        have c8b0 : decide (125 < (bt a0 x6_1)) = false := decide_eq_false c8; clear c8; have H' := am H; clear H; have p5 : 0 ≤ (x6_1 : Int) := dT; have q5 : x6_1 < (a0.size : Int) := dT; have hx5 := bt_at a0 x6_1; replace p5 := eq_true p5; replace q5 := eq_true q5; have p7 : 0 ≤ (x6_1 : Int) := dT; have q7 : x6_1 < (a0.size : Int) := dT; have hx7 := bt_at a0 x6_1; replace p7 := eq_true p7; replace q7 := eq_true q7
        go_wp2
        go_roundg k1
        case measure => have := HK1.out; omega
        case rel => exact ⟨(wrap64 (x6_1 + 1)), wZ, H', ⟨by have := HK1.out; omega⟩, by repeat (first | exact Drawn0.refl _ | apply Drawn0.step)⟩
     ·rw [if_neg c4] at H
      exact absurd H (by simp)
    ·rw [if_neg c3] at H
     exact absurd H (by simp)
   ·rw [if_neg c2] at H
    have c2b0 : decide (x6_1 < (a0.size : Int)) = false := decide_eq_false c2; clear c2; replace H := Option.bind_eq_some_iff.mp H; obtain ⟨t285, A90, H⟩ := H; (try dsimp -simprocs only at H); have A9 := am A90; clear A90; obtain rfl := Option.some.inj H
    go_wp2_with (first | ((with_reducible refine gate_callee (f := 75) rfl ?_); refine gL (some 22) Try.func75 #[.int .i64 (a0.size : Int), .int .i64 1, .int .i64 12] ?_; (with_reducible refine (impl_in.calls (a0.size : Int) 1 12 t285 _ A9.out).mono ?_); rintro e w' ⟨rfl, ⟨nd, rfl⟩⟩; refine ⟨_, rfl, ?_⟩))
    go_ret
    exact ⟨by first | rfl | (simp; done) | (simp [*]; done), by repeat (first | exact Drawn0.refl _ | apply Drawn0.step)⟩

def impl_AreKeys.l0 : Nat → List ByteArray → List ByteArray → Int → Int → Option (Bool)
 | 0, _, _, _, _ => none
 | k + 1, x0, x5, x6, x7 => if x7 < x6 then (if 0 ≤ x7 then (if x7 < (x5.length : Int) then ((impl_IsKey.f k (rdOf ByteArray.empty x5 x7)).bind fun t287 => (if t287 = true then (if x7 > 0 then (if 0 ≤ (wrap64 (x7 - 1)) then (if (wrap64 (x7 - 1)) < (x0.length : Int) then (if ((Op.bytesLess ((rdOf ByteArray.empty x0 (wrap64 (x7 - 1))).toList) ((rdOf ByteArray.empty x5 x7).toList)) = true) then (impl_AreKeys.l0 k x0 x5 x6 (wrap64 (x7 + 1))) else (some false)) else (none)) else (none)) else (impl_AreKeys.l0 k x0 x5 x6 (wrap64 (x7 + 1)))) else (some false))) else (none)) else (none)) else (some (decide ((x0.length : Int) ≤ 40)))
def impl_AreKeys.f (k : Nat) (l0 : List ByteArray) : Option (Bool) := impl_AreKeys.l0 k l0 l0 (l0.length : Int) 0
theorem impl_AreKeys.mono_l : ∀ k, (∀ y0 y1 y2 y3, LeO (impl_AreKeys.l0 k y0 y1 y2 y3) (impl_AreKeys.l0 (k + 1) y0 y1 y2 y3))
 | 0 => fun _ _ _ _ r h => by simp [impl_AreKeys.l0] at h
 | k + 1 => by
  have ih0 := impl_AreKeys.mono_l k
  ·intro y0 y1 y2 y3
   unfold impl_AreKeys.l0
   repeat' first | (with_reducible first | exact ih0 _ _ _ _ | exact impl_IsKey.mono _ _ | exact LeO.refl _ | exact LeO.none _ | refine LeO.ite ?_ ?_ | refine LeO.bind ?_ (fun _ => ?_)) | exact LeO.none _ | refine LeO.ite ?_ ?_ | refine LeO.bind ?_ (fun _ => ?_)
theorem impl_AreKeys.mono : ∀ a0 k, LeO (impl_AreKeys.f k a0) (impl_AreKeys.f (k + 1) a0) := by
 intro a0 k; have ih0 := impl_AreKeys.mono_l k
 unfold impl_AreKeys.f
 repeat' first | (with_reducible first | exact ih0 _ _ _ _ | exact impl_IsKey.mono _ _ | exact LeO.refl _ | exact LeO.none _ | refine LeO.ite ?_ ?_ | refine LeO.bind ?_ (fun _ => ?_)) | exact LeO.none _ | refine LeO.ite ?_ ?_ | refine LeO.bind ?_ (fun _ => ?_)
theorem impl_AreKeys.calls (k : Nat) (A0 : Option Addr) (c0 : Nat) (l0 : List ByteArray) (r : Bool) (w : World) (hr0 : Kd.C Kd.string w A0 l0.length l0) (hc0 : l0.length ≤ c0) (h : impl_AreKeys.f k l0 = some r) :
  Calls Try.prog 55 #[.slice A0 l0.length c0] w fun e w' => e = .returned (.bool r) ∧ Drawn0 w w' := by
 have HR0 := am hr0; have HC0 := am hc0; clear hr0 hc0; have H : (impl_AreKeys.l0 k l0 l0 (l0.length : Int) 0) = some r := h; clear h; have H' := am H; clear H
 go_enter Try.func55, Try.ntmps55
 go_wp2
 go_loopg [7] k (fun kq v7 w' => ∃ (x7_1 : Int), v7 = .int .i64 x7_1 ∧ Aside0 (impl_AreKeys.l0 kq l0 l0 (l0.length : Int) x7_1 = some r) ∧ Aside0 (kq ≤ k) ∧ Drawn0 w w')
 case atStart => exact ⟨(0), wZ, H', ⟨Nat.le_refl _⟩, by repeat (first | exact Drawn0.refl _ | apply Drawn0.step)⟩
 case round =>
  clear H'; obtain ⟨x7_1, rfl, HA, HK1, ⟨m1, rfl⟩⟩ := hrel; cases gk with
  | zero => exact absurd HA.out (by simp [impl_AreKeys.l0])
  | succ k1 =>
   have H := HA.out; clear HA
   simp only [impl_AreKeys.l0] at H
   by_cases c2 : x7_1 < (l0.length : Int)
   ·rw [if_pos c2] at H
    have c2b0 : decide (x7_1 < (l0.length : Int)) = true := decide_eq_true c2; clear c2
    by_cases c3 : 0 ≤ x7_1
    ·rw [if_pos c3] at H
     have c3b0 : decide (0 ≤ x7_1) = true := decide_eq_true c3; clear c3
     by_cases c4 : x7_1 < (l0.length : Int)
     ·rw [if_pos c4] at H
      have c4b0 : decide (x7_1 < (l0.length : Int)) = true := decide_eq_true c4; clear c4; replace H := Option.bind_eq_some_iff.mp H; obtain ⟨t287, A50, H⟩ := H; (try dsimp -simprocs only at H); have A5 := am A50; clear A50
      by_cases c6 : t287 = true
      ·subst c6
       rw [if_pos rfl] at H
       by_cases c7 : x7_1 > 0
       ·rw [if_pos c7] at H
        have c7b0 : decide (0 < x7_1) = true := decide_eq_true c7; clear c7; obtain ⟨ji8, hji8⟩ : ∃ j_ : Int, (wrap64 (x7_1 - 1)) = j_ := ⟨_, rfl⟩
        replace H : (if 0 ≤ (ji8) then (if (ji8) < (l0.length : Int) then (if ((Op.bytesLess ((rdOf ByteArray.empty l0 (ji8)).toList) ((rdOf ByteArray.empty l0 x7_1).toList)) = true) then (impl_AreKeys.l0 k1 l0 l0 (l0.length : Int) (wrap64 (x7_1 + 1))) else (some false)) else (none)) else (none)) = some r := by first | (rw [hji8] at H; exact H) | (simp only [hji8] at H ⊢; exact H)
        (try rw [hji8] at A5)
        have hji8w : (IntKind.i64.wrap (x7_1 - 1)) = ji8 := (i64_w _).trans hji8
        by_cases c9 : 0 ≤ (ji8)
        ·rw [if_pos c9] at H
         have c9b0 : decide (0 ≤ (ji8)) = true := decide_eq_true c9; clear c9
         by_cases c10 : (ji8) < (l0.length : Int)
         ·rw [if_pos c10] at H
          have c10b0 : decide ((ji8) < (l0.length : Int)) = true := decide_eq_true c10; clear c10
          by_cases c11 : ((Op.bytesLess ((rdOf ByteArray.empty l0 (ji8)).toList) ((rdOf ByteArray.empty l0 x7_1).toList)) = true)
          ·rw [if_pos c11] at H
           have c11b0 : (Op.bytesLess ((rdOf ByteArray.empty l0 (ji8)).toList) ((rdOf ByteArray.empty l0 x7_1).toList)) = true := c11; clear c11; have H' := am H; clear H; obtain ⟨ad286, e286, hx286_0⟩ := Kd.at_string HR0.out x7_1 dT dT; cases e286; have p286 := eT (0 ≤ (x7_1 : Int)); have q286 := eT (x7_1 < (l0.length : Int))
           go_wp2_with (first | ((with_reducible refine gate_callee (f := 78) rfl ?_); refine gL (some 13) Try.func78 #[.string (rdOf ByteArray.empty l0 x7_1)] ?_; (with_reducible refine (impl_IsKey.calls k1 (rdOf ByteArray.empty l0 x7_1) true _ A5.out).mono ?_); rintro e w' ⟨rfl, ⟨nd, rfl⟩⟩; refine ⟨_, rfl, ?_⟩; have p288 : 0 ≤ ((ji8) : Int) := dT; have q288 : (ji8) < (l0.length : Int) := dT; obtain ⟨ad288, e288, hx288_0⟩ := Kd.at_string HR0.out (ji8) p288 q288; obtain rfl : ad286 = ad288 := (by injection e288); replace p288 := eq_true p288; replace q288 := eq_true q288))
           go_roundg k1
           case measure => have := HK1.out; omega
           case rel => exact ⟨(wrap64 (x7_1 + 1)), wZ, H', ⟨by have := HK1.out; omega⟩, by repeat (first | exact Drawn0.refl _ | apply Drawn0.step)⟩
          ·rw [if_neg c11] at H
           have c11b0 : (Op.bytesLess ((rdOf ByteArray.empty l0 (ji8)).toList) ((rdOf ByteArray.empty l0 x7_1).toList)) = false := by simpa using c11
           clear c11; obtain rfl := Option.some.inj H; obtain ⟨ad286, e286, hx286_0⟩ := Kd.at_string HR0.out x7_1 dT dT; cases e286; have p286 := eT (0 ≤ (x7_1 : Int)); have q286 := eT (x7_1 < (l0.length : Int))
           go_wp2_with (first | ((with_reducible refine gate_callee (f := 78) rfl ?_); refine gL (some 13) Try.func78 #[.string (rdOf ByteArray.empty l0 x7_1)] ?_; (with_reducible refine (impl_IsKey.calls k1 (rdOf ByteArray.empty l0 x7_1) true _ A5.out).mono ?_); rintro e w' ⟨rfl, ⟨nd, rfl⟩⟩; refine ⟨_, rfl, ?_⟩; have p288 : 0 ≤ ((ji8) : Int) := dT; have q288 : (ji8) < (l0.length : Int) := dT; obtain ⟨ad288, e288, hx288_0⟩ := Kd.at_string HR0.out (ji8) p288 q288; obtain rfl : ad286 = ad288 := (by injection e288); replace p288 := eq_true p288; replace q288 := eq_true q288))
           go_ret
           exact ⟨by first | rfl | (simp; done) | (simp only [← hji8] <;> (first | rfl | simp)) | (simp [*]; done), by repeat (first | exact Drawn0.refl _ | apply Drawn0.step)⟩
         ·rw [if_neg c10] at H
          exact absurd H (by simp)
        ·rw [if_neg c9] at H
         exact absurd H (by simp)
       ·rw [if_neg c7] at H
        have c7b0 : decide (0 < x7_1) = false := decide_eq_false c7; clear c7; have H' := am H; clear H; obtain ⟨ad286, e286, hx286_0⟩ := Kd.at_string HR0.out x7_1 dT dT; cases e286; have p286 := eT (0 ≤ (x7_1 : Int)); have q286 := eT (x7_1 < (l0.length : Int))
        go_wp2_with (first | ((with_reducible refine gate_callee (f := 78) rfl ?_); refine gL (some 13) Try.func78 #[.string (rdOf ByteArray.empty l0 x7_1)] ?_; (with_reducible refine (impl_IsKey.calls k1 (rdOf ByteArray.empty l0 x7_1) true _ A5.out).mono ?_); rintro e w' ⟨rfl, ⟨nd, rfl⟩⟩; refine ⟨_, rfl, ?_⟩))
        go_roundg k1
        case measure => have := HK1.out; omega
        case rel => exact ⟨(wrap64 (x7_1 + 1)), wZ, H', ⟨by have := HK1.out; omega⟩, by repeat (first | exact Drawn0.refl _ | apply Drawn0.step)⟩
      ·replace c6 := Bool.eq_false_iff.mpr c6
       subst c6
       rw [if_neg (show ¬ (false = true) by decide)] at H; obtain rfl := Option.some.inj H; obtain ⟨ad286, e286, hx286_0⟩ := Kd.at_string HR0.out x7_1 dT dT; cases e286; have p286 := eT (0 ≤ (x7_1 : Int)); have q286 := eT (x7_1 < (l0.length : Int))
       go_wp2_with (first | ((with_reducible refine gate_callee (f := 78) rfl ?_); refine gL (some 13) Try.func78 #[.string (rdOf ByteArray.empty l0 x7_1)] ?_; (with_reducible refine (impl_IsKey.calls k1 (rdOf ByteArray.empty l0 x7_1) false _ A5.out).mono ?_); rintro e w' ⟨rfl, ⟨nd, rfl⟩⟩; refine ⟨_, rfl, ?_⟩))
       go_ret
       exact ⟨by first | rfl | (simp; done) | (simp [*]; done), by repeat (first | exact Drawn0.refl _ | apply Drawn0.step)⟩
     ·rw [if_neg c4] at H
      exact absurd H (by simp)
    ·rw [if_neg c3] at H
     exact absurd H (by simp)
   ·rw [if_neg c2] at H
    have c2b0 : decide (x7_1 < (l0.length : Int)) = false := decide_eq_false c2; clear c2; obtain rfl := Option.some.inj H
    go_wp2
    go_ret
    exact ⟨by first | rfl | (simp; done) | (simp [*]; done), by repeat (first | exact Drawn0.refl _ | apply Drawn0.step)⟩

-- NOT PRINTED: function 95 (slices_SortFunc_string_string)

def cmp_Or_int.l0 : Nat → Int → List Int → Int → Int → Option (Int)
 | 0, _, _, _, _ => none
 | k + 1, x3, x6, x7, x8 => if x8 < x7 then (if 0 ≤ x8 then (if x8 < (x6.length : Int) then (if (rd x6 x8) = x3 then (cmp_Or_int.l0 k x3 x6 x7 (wrap64 (x8 + 1))) else (some (rd x6 x8))) else (none)) else (none)) else (some x3)
def cmp_Or_int.f (k : Nat) (l0 : List Int) : Option (Int) := cmp_Or_int.l0 k 0 l0 (l0.length : Int) 0
theorem cmp_Or_int.mono_l : ∀ k, (∀ y0 y1 y2 y3, LeO (cmp_Or_int.l0 k y0 y1 y2 y3) (cmp_Or_int.l0 (k + 1) y0 y1 y2 y3))
 | 0 => fun _ _ _ _ r h => by simp [cmp_Or_int.l0] at h
 | k + 1 => by
  have ih0 := cmp_Or_int.mono_l k
  ·intro y0 y1 y2 y3
   unfold cmp_Or_int.l0
   repeat' first | (with_reducible first | exact ih0 _ _ _ _ | exact LeO.refl _ | exact LeO.none _ | refine LeO.ite ?_ ?_ | refine LeO.bind ?_ (fun _ => ?_)) | exact LeO.none _ | refine LeO.ite ?_ ?_ | refine LeO.bind ?_ (fun _ => ?_)
theorem cmp_Or_int.mono : ∀ a0 k, LeO (cmp_Or_int.f k a0) (cmp_Or_int.f (k + 1) a0) := by
 intro a0 k; have ih0 := cmp_Or_int.mono_l k
 unfold cmp_Or_int.f
 repeat' first | (with_reducible first | exact ih0 _ _ _ _ | exact LeO.refl _ | exact LeO.none _ | refine LeO.ite ?_ ?_ | refine LeO.bind ?_ (fun _ => ?_)) | exact LeO.none _ | refine LeO.ite ?_ ?_ | refine LeO.bind ?_ (fun _ => ?_)
theorem cmp_Or_int.calls (k : Nat) (A0 : Option Addr) (c0 : Nat) (l0 : List Int) (r : Int) (w : World) (hr0 : Kd.C (Kd.int .i64) w A0 l0.length l0) (hc0 : l0.length ≤ c0) (h : cmp_Or_int.f k l0 = some r) :
  Calls Try.prog 97 #[.slice A0 l0.length c0] w fun e w' => e = .returned (.int .i64 r) ∧ Drawn0 w w' := by
 have HR0 := am hr0; have HC0 := am hc0; clear hr0 hc0; have H : (cmp_Or_int.l0 k 0 l0 (l0.length : Int) 0) = some r := h; clear h; have H' := am H; clear H
 go_enter Try.func97, Try.ntmps97
 go_wp2
 go_loopg [8] k (fun kq v8 w' => ∃ (x8_1 : Int), v8 = .int .i64 x8_1 ∧ Aside0 (cmp_Or_int.l0 kq 0 l0 (l0.length : Int) x8_1 = some r) ∧ Aside0 (kq ≤ k) ∧ Drawn0 w w')
 case atStart => exact ⟨(0), wZ, H', ⟨Nat.le_refl _⟩, by repeat (first | exact Drawn0.refl _ | apply Drawn0.step)⟩
 case round =>
  clear H'; obtain ⟨x8_1, rfl, HA, HK1, ⟨m1, rfl⟩⟩ := hrel; cases gk with
  | zero => exact absurd HA.out (by simp [cmp_Or_int.l0])
  | succ k1 =>
   have H := HA.out; clear HA
   simp only [cmp_Or_int.l0] at H
   by_cases c2 : x8_1 < (l0.length : Int)
   ·rw [if_pos c2] at H
    have c2b0 : decide (x8_1 < (l0.length : Int)) = true := decide_eq_true c2; clear c2
    by_cases c3 : 0 ≤ x8_1
    ·rw [if_pos c3] at H
     have c3b0 : decide (0 ≤ x8_1) = true := decide_eq_true c3; clear c3
     by_cases c4 : x8_1 < (l0.length : Int)
     ·rw [if_pos c4] at H
      have c4b0 : decide (x8_1 < (l0.length : Int)) = true := decide_eq_true c4; clear c4
      by_cases c5 : (rd l0 x8_1) = 0
      ·rw [if_pos c5] at H
       have c5b0 : ((rd l0 x8_1) == 0) = true := beq_iff_eq.mpr c5; have c5b1 : ((rd l0 x8_1) != 0) = false := bne_eq_false_iff_eq.mpr c5; clear c5; have H' := am H; clear H; obtain ⟨ad289, e289, hx289_0⟩ := Kd.at_int HR0.out x8_1 dT dT; cases e289; have p289 := eT (0 ≤ (x8_1 : Int)); have q289 := eT (x8_1 < (l0.length : Int))
       go_wp2
       go_roundg k1
       case measure => have := HK1.out; omega
       case rel => exact ⟨(wrap64 (x8_1 + 1)), wZ, H', ⟨by have := HK1.out; omega⟩, by repeat (first | exact Drawn0.refl _ | apply Drawn0.step)⟩
      ·rw [if_neg c5] at H
       have c5b0 : ((rd l0 x8_1) == 0) = false := beq_eq_false_iff_ne.mpr c5; have c5b1 : ((rd l0 x8_1) != 0) = true := bne_iff_ne.mpr c5; obtain rfl := Option.some.inj H; obtain ⟨ad289, e289, hx289_0⟩ := Kd.at_int HR0.out x8_1 dT dT; cases e289; have p289 := eT (0 ≤ (x8_1 : Int)); have q289 := eT (x8_1 < (l0.length : Int))
       go_wp2
       go_ret
       exact ⟨by first | rfl | (simp; done) | (simp [*]; done), by repeat (first | exact Drawn0.refl _ | apply Drawn0.step)⟩
     ·rw [if_neg c4] at H
      exact absurd H (by simp)
    ·rw [if_neg c3] at H
     exact absurd H (by simp)
   ·rw [if_neg c2] at H
    have c2b0 : decide (x8_1 < (l0.length : Int)) = false := decide_eq_false c2; clear c2; obtain rfl := Option.some.inj H
    go_wp2
    go_ret
    exact ⟨by first | rfl | (simp; done) | (simp [*]; done), by repeat (first | exact Drawn0.refl _ | apply Drawn0.step)⟩

def cmp_isNaN_int.f (a0 : Int) : Option (Bool) := some (a0 != a0)
theorem cmp_isNaN_int.calls (a0 : Int) (r : Bool) (w : World) (h : cmp_isNaN_int.f a0 = some r) :
  Calls Try.prog 107 #[.int .i64 a0] w fun e w' => e = .returned (.bool r) ∧ Drawn0 w w' := by
 have H : (some (a0 != a0)) = some r := h; clear h; obtain rfl := Option.some.inj H
 go_enter Try.func107, Try.ntmps107
 go_wp2
 go_ret
 exact ⟨by first | rfl | (simp; done) | (simp [*]; done), by repeat (first | exact Drawn0.refl _ | apply Drawn0.step)⟩

end Go.Proofs.Ytalfkfddpamnjaa.PA
