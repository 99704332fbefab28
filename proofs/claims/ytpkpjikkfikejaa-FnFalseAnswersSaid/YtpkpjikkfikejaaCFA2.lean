import Derived.Test.YtpkpjikkfikejaaCFA1
-- printed by a program of this session (wip/gp) out of the translation; Lean checks it
namespace Go.Proofs.Ytpkpjikkfikejaa.PB
open Go.RowKit Go.Proofs.YtpkpjikkfikejaaW.PrintWords Go.Proofs.YtpkpjikkfikejaaW.PrintLast Go.Proofs.YtpkpjikkfikejaaW.PrintMore Go.Proofs.YtpkpjikkfikejaaSq
attribute [local go_sem] max2_int min2_int max_two min_two max_three min_three max_four min_four   -- for this text's walks alone
attribute [local go_sem] Go.Proofs.YtpkpjikkfikejaaGp.str_geq Go.Proofs.YtpkpjikkfikejaaGp.str_gtr Go.Proofs.YtpkpjikkfikejaaGp.str_leq
set_option linter.unusedVariables false
set_option linter.unusedSimpArgs false

set_option maxHeartbeats 8000000
set_option maxRecDepth 100000
def slices_IndexFunc_string_string_at_impl_areTexts_1.l0 : Nat → List ByteArray → Int → Int → Option (Int)
 | 0, _, _, _ => none
 | k + 1, x0, x7, x8 => if x8 < x7 then (if 0 ≤ x8 then (if x8 < (x0.length : Int) then ((impl_areTexts_1.f k (rdOf ByteArray.empty x0 x8)).bind fun t235 => (if t235 = true then (some x8) else (slices_IndexFunc_string_string_at_impl_areTexts_1.l0 k x0 x7 (wrap64 (x8 + 1))))) else (none)) else (none)) else (some (-1))
def slices_IndexFunc_string_string_at_impl_areTexts_1.f (k : Nat) (l0 : List ByteArray)  : Option (Int) := slices_IndexFunc_string_string_at_impl_areTexts_1.l0 k l0 (l0.length : Int) 0
theorem slices_IndexFunc_string_string_at_impl_areTexts_1.calls (k : Nat) (A0 : Option Addr) (c0 : Nat) (l0 : List ByteArray)  (r : Int) (w : World) (hr0 : Kd.C Kd.string w A0 l0.length l0) (hc0 : l0.length ≤ c0) (h : slices_IndexFunc_string_string_at_impl_areTexts_1.f k l0 = some r) :
  Calls Try.prog 184 #[.slice A0 l0.length c0, .func (.func 159) #[] #[]] w fun e w' => e = .returned (.int .i64 r) ∧ Drawn0 w w' := by
 have HR0 := am hr0; have HC0 := am hc0; clear hr0 hc0; have H : (slices_IndexFunc_string_string_at_impl_areTexts_1.l0 k l0 (l0.length : Int) 0) = some r := h; clear h; have H' := am H; clear H
 go_enter Try.func184, Try.ntmps184
 go_wp2
 go_loopg [8] k (fun kq v8 w' => ∃ (x8_1 : Int), v8 = .int .i64 x8_1 ∧ Aside0 (slices_IndexFunc_string_string_at_impl_areTexts_1.l0 kq l0 (l0.length : Int) x8_1 = some r) ∧ Aside0 (kq ≤ k) ∧ Drawn0 w w')
 case atStart => exact ⟨(0), wZ, H', ⟨Nat.le_refl _⟩, by repeat (first | exact Drawn0.refl _ | apply Drawn0.step)⟩
 case round =>
  clear H'
  try clear c1
  try clear p2
  obtain ⟨x8_1, rfl, HA, HK1, ⟨m1, rfl⟩⟩ := hrel; cases gk with
  | zero => exact absurd HA.out (by simp [slices_IndexFunc_string_string_at_impl_areTexts_1.l0])
  | succ k1 =>
   have H := HA.out; clear HA
   simp only [slices_IndexFunc_string_string_at_impl_areTexts_1.l0] at H
   by_cases c3 : x8_1 < (l0.length : Int)
   ·rw [if_pos c3] at H
    have c3b0 : decide (x8_1 < (l0.length : Int)) = true := decide_eq_true c3; clear c3
    by_cases c4 : 0 ≤ x8_1
    ·rw [if_pos c4] at H
     have c4b0 : decide (0 ≤ x8_1) = true := decide_eq_true c4; clear c4
     by_cases c5 : x8_1 < (l0.length : Int)
     ·rw [if_pos c5] at H
      have c5b0 : decide (x8_1 < (l0.length : Int)) = true := decide_eq_true c5; clear c5; replace H := Option.bind_eq_some_iff.mp H; obtain ⟨t235, A60, H⟩ := H; (try dsimp -simprocs only at H); have A6 := am A60; clear A60
      by_cases c7 : t235 = true
      ·subst c7
       rw [if_pos rfl] at H; obtain rfl := Option.some.inj H; obtain ⟨ad234, e234, hx234_0⟩ := Kd.at_string HR0.out x8_1 dT dT; cases e234; have p234 := eT (0 ≤ (x8_1 : Int)); have q234 := eT (x8_1 < (l0.length : Int))
       go_wp2_with (first | (go_at_call 159; (with_reducible refine (impl_areTexts_1.calls k1 (rdOf ByteArray.empty l0 x8_1) true _ A6.out).mono ?_); rintro e w' ⟨rfl, ⟨nd, rfl⟩⟩))
       go_ret
       exact ⟨by first | rfl | (simp; done) | (simp [*]; done), by repeat (first | exact Drawn0.refl _ | apply Drawn0.step)⟩
      ·replace c7 := Bool.eq_false_iff.mpr c7
       subst c7
       rw [if_neg (show ¬ (false = true) by decide)] at H; have H' := am H; clear H; obtain ⟨ad234, e234, hx234_0⟩ := Kd.at_string HR0.out x8_1 dT dT; cases e234; have p234 := eT (0 ≤ (x8_1 : Int)); have q234 := eT (x8_1 < (l0.length : Int))
       go_wp2_with (first | (go_at_call 159; (with_reducible refine (impl_areTexts_1.calls k1 (rdOf ByteArray.empty l0 x8_1) false _ A6.out).mono ?_); rintro e w' ⟨rfl, ⟨nd, rfl⟩⟩))
       go_roundg k1
       case measure => have := HK1.out; omega
       case rel => exact ⟨(wrap64 (x8_1 + 1)), wZ, H', ⟨by have := HK1.out; omega⟩, by repeat (first | exact Drawn0.refl _ | apply Drawn0.step)⟩
     ·rw [if_neg c5] at H
      exact absurd H (by simp)
    ·rw [if_neg c4] at H
     exact absurd H (by simp)
   ·rw [if_neg c3] at H
    have c3b0 : decide (x8_1 < (l0.length : Int)) = false := decide_eq_false c3; clear c3; obtain rfl := Option.some.inj H
    go_wp2
    go_ret
    exact ⟨by first | rfl | (simp; done) | (simp [*]; done), by repeat (first | exact Drawn0.refl _ | apply Drawn0.step)⟩

def slices_ContainsFunc_string_string_at_impl_areTexts_1.f (k : Nat) (l0 : List ByteArray)  : Option (Bool) := (slices_IndexFunc_string_string_at_impl_areTexts_1.f k l0).bind fun t236 => (some (decide (t236 ≥ 0)))
theorem slices_ContainsFunc_string_string_at_impl_areTexts_1.calls (k : Nat) (A0 : Option Addr) (c0 : Nat) (l0 : List ByteArray)  (r : Bool) (w : World) (hr0 : Kd.C Kd.string w A0 l0.length l0) (hc0 : l0.length ≤ c0) (h : slices_ContainsFunc_string_string_at_impl_areTexts_1.f k l0 = some r) :
  Calls Try.prog 158 #[.slice A0 l0.length c0, .func (.func 159) #[] #[]] w fun e w' => e = .returned (.bool r) ∧ Drawn0 w w' := by
 have HR0 := am hr0; have HC0 := am hc0; clear hr0 hc0; have H : ((slices_IndexFunc_string_string_at_impl_areTexts_1.f k l0).bind fun t236 => (some (decide (t236 ≥ 0)))) = some r := h; clear h; replace H := Option.bind_eq_some_iff.mp H; obtain ⟨t236, A30, H⟩ := H; (try dsimp -simprocs only at H); have A3 := am A30; clear A30; obtain rfl := Option.some.inj H
 go_enter Try.func158, Try.ntmps158
 go_wp2_with (first | ((with_reducible refine gate_callee (f := 184) rfl ?_); refine gL (some 7) Try.func184 #[.slice A0 l0.length c0, .func (.func 159) #[] #[]] ?_; (with_reducible refine (slices_IndexFunc_string_string_at_impl_areTexts_1.calls k _ _ l0  t236 _ ?side1 ?side2 A3.out).mono ?_); (case side1 => exact Cz HR0.out); (case side2 => exact HC0.out); rintro e w' ⟨rfl, ⟨nd, rfl⟩⟩; refine ⟨_, rfl, ?_⟩))
 go_ret
 exact ⟨by first | rfl | (simp; done) | (simp [*]; done), by repeat (first | exact Drawn0.refl _ | apply Drawn0.step)⟩

def impl_areTexts.f (k : Nat) (l0 : List ByteArray) : Option (Bool) := if (l0.length : Int) ≤ 300 then ((slices_ContainsFunc_string_string_at_impl_areTexts_1.f k l0).bind fun t237 => (some (!t237))) else (some false)
theorem impl_areTexts.calls (k : Nat) (A0 : Option Addr) (c0 : Nat) (l0 : List ByteArray) (r : Bool) (w : World) (hr0 : Kd.C Kd.string w A0 l0.length l0) (hc0 : l0.length ≤ c0) (h : impl_areTexts.f k l0 = some r) :
  Calls Try.prog 103 #[.slice A0 l0.length c0] w fun e w' => e = .returned (.bool r) ∧ Drawn0 w w' := by
 have HR0 := am hr0; have HC0 := am hc0; clear hr0 hc0; have H : (if (l0.length : Int) ≤ 300 then ((slices_ContainsFunc_string_string_at_impl_areTexts_1.f k l0).bind fun t237 => (some (!t237))) else (some false)) = some r := h; clear h
 by_cases c2 : (l0.length : Int) ≤ 300
 ·rw [if_pos c2] at H
  have c2b0 : decide ((l0.length : Int) ≤ 300) = true := decide_eq_true c2; have c2b1 : decide (l0.length ≤ 300) = true := decide_eq_true (by omega); clear c2; replace H := Option.bind_eq_some_iff.mp H; obtain ⟨t237, A30, H⟩ := H; (try dsimp -simprocs only at H); have A3 := am A30; clear A30; obtain rfl := Option.some.inj H
  go_enter Try.func103, Try.ntmps103
  go_wp2_with (first | (go_at_call 158; (with_reducible refine (slices_ContainsFunc_string_string_at_impl_areTexts_1.calls k _ _ l0  t237 _ ?side1 ?side2 A3.out).mono ?_); (case side1 => exact Cz HR0.out); (case side2 => exact HC0.out); rintro e w' ⟨rfl, ⟨nd, rfl⟩⟩))
  go_ret
  exact ⟨by first | rfl | (simp; done) | (simp [*]; done), by repeat (first | exact Drawn0.refl _ | apply Drawn0.step)⟩
 ·rw [if_neg c2] at H
  have c2b0 : decide ((l0.length : Int) ≤ 300) = false := decide_eq_false c2; have c2b1 : decide (l0.length ≤ 300) = false := decide_eq_false (by omega); clear c2; obtain rfl := Option.some.inj H
  go_enter Try.func103, Try.ntmps103
  go_wp2
  go_ret
  exact ⟨by first | rfl | (simp; done) | (simp [*]; done), by repeat (first | exact Drawn0.refl _ | apply Drawn0.step)⟩

def slices_Index_string_string.l0 : Nat → List ByteArray → ByteArray → Int → Int → Option (Int)
 | 0, _, _, _, _ => none
 | k + 1, x0, x1, x7, x8 => if x8 < x7 then (if 0 ≤ x8 then (if x8 < (x0.length : Int) then (if x1.toList = (rdOf ByteArray.empty x0 x8).toList then (some x8) else (slices_Index_string_string.l0 k x0 x1 x7 (wrap64 (x8 + 1)))) else (none)) else (none)) else (some (-1))
def slices_Index_string_string.f (k : Nat) (l0 : List ByteArray) (a1 : ByteArray) : Option (Int) := slices_Index_string_string.l0 k l0 a1 (l0.length : Int) 0
theorem slices_Index_string_string.calls (k : Nat) (A0 : Option Addr) (c0 : Nat) (l0 : List ByteArray) (a1 : ByteArray) (r : Int) (w : World) (hr0 : Kd.C Kd.string w A0 l0.length l0) (hc0 : l0.length ≤ c0) (h : slices_Index_string_string.f k l0 a1 = some r) :
  Calls Try.prog 185 #[.slice A0 l0.length c0, .string a1] w fun e w' => e = .returned (.int .i64 r) ∧ Drawn0 w w' := by
 have HR0 := am hr0; have HC0 := am hc0; clear hr0 hc0; have H : (slices_Index_string_string.l0 k l0 a1 (l0.length : Int) 0) = some r := h; clear h; have H' := am H; clear H
 go_enter Try.func185, Try.ntmps185
 go_wp2
 go_loopg [8] k (fun kq v8 w' => ∃ (x8_1 : Int), v8 = .int .i64 x8_1 ∧ Aside0 (slices_Index_string_string.l0 kq l0 a1 (l0.length : Int) x8_1 = some r) ∧ Aside0 (kq ≤ k) ∧ Drawn0 w w')
 case atStart => exact ⟨(0), wZ, H', ⟨Nat.le_refl _⟩, by repeat (first | exact Drawn0.refl _ | apply Drawn0.step)⟩
 case round =>
  clear H'
  try clear c1
  try clear p2
  obtain ⟨x8_1, rfl, HA, HK1, ⟨m1, rfl⟩⟩ := hrel; cases gk with
  | zero => exact absurd HA.out (by simp [slices_Index_string_string.l0])
  | succ k1 =>
   have H := HA.out; clear HA
   simp only [slices_Index_string_string.l0] at H
   by_cases c3 : x8_1 < (l0.length : Int)
   ·rw [if_pos c3] at H
    have c3b0 : decide (x8_1 < (l0.length : Int)) = true := decide_eq_true c3; clear c3
    by_cases c4 : 0 ≤ x8_1
    ·rw [if_pos c4] at H
     have c4b0 : decide (0 ≤ x8_1) = true := decide_eq_true c4; clear c4
     by_cases c5 : x8_1 < (l0.length : Int)
     ·rw [if_pos c5] at H
      have c5b0 : decide (x8_1 < (l0.length : Int)) = true := decide_eq_true c5; clear c5
      by_cases c6 : a1.toList = (rdOf ByteArray.empty l0 x8_1).toList
      ·rw [if_pos c6] at H
       have c6b0 : (a1.toList == (rdOf ByteArray.empty l0 x8_1).toList) = true := beq_iff_eq.mpr c6; have c6b1 : (a1.toList != (rdOf ByteArray.empty l0 x8_1).toList) = false := bne_eq_false_iff_eq.mpr c6; clear c6; obtain rfl := Option.some.inj H; obtain ⟨ad238, e238, hx238_0⟩ := Kd.at_string HR0.out x8_1 dT dT; cases e238; have p238 := eT (0 ≤ (x8_1 : Int)); have q238 := eT (x8_1 < (l0.length : Int))
       go_wp2
       go_ret
       exact ⟨by first | rfl | (simp; done) | (simp [*]; done), by repeat (first | exact Drawn0.refl _ | apply Drawn0.step)⟩
      ·rw [if_neg c6] at H
       have c6b0 : (a1.toList == (rdOf ByteArray.empty l0 x8_1).toList) = false := beq_eq_false_iff_ne.mpr c6; have c6b1 : (a1.toList != (rdOf ByteArray.empty l0 x8_1).toList) = true := bne_iff_ne.mpr c6; have H' := am H; clear H; obtain ⟨ad238, e238, hx238_0⟩ := Kd.at_string HR0.out x8_1 dT dT; cases e238; have p238 := eT (0 ≤ (x8_1 : Int)); have q238 := eT (x8_1 < (l0.length : Int))
       go_wp2
       go_roundg k1
       case measure => have := HK1.out; omega
       case rel => exact ⟨(wrap64 (x8_1 + 1)), wZ, H', ⟨by have := HK1.out; omega⟩, by repeat (first | exact Drawn0.refl _ | apply Drawn0.step)⟩
     ·rw [if_neg c5] at H
      exact absurd H (by simp)
    ·rw [if_neg c4] at H
     exact absurd H (by simp)
   ·rw [if_neg c3] at H
    have c3b0 : decide (x8_1 < (l0.length : Int)) = false := decide_eq_false c3; clear c3; obtain rfl := Option.some.inj H
    go_wp2
    go_ret
    exact ⟨by first | rfl | (simp; done) | (simp [*]; done), by repeat (first | exact Drawn0.refl _ | apply Drawn0.step)⟩

def slices_Contains_string_string.f (k : Nat) (l0 : List ByteArray) (a1 : ByteArray) : Option (Bool) := (slices_Index_string_string.f k l0 a1).bind fun t239 => (some (decide (t239 ≥ 0)))
theorem slices_Contains_string_string.calls (k : Nat) (A0 : Option Addr) (c0 : Nat) (l0 : List ByteArray) (a1 : ByteArray) (r : Bool) (w : World) (hr0 : Kd.C Kd.string w A0 l0.length l0) (hc0 : l0.length ≤ c0) (h : slices_Contains_string_string.f k l0 a1 = some r) :
  Calls Try.prog 160 #[.slice A0 l0.length c0, .string a1] w fun e w' => e = .returned (.bool r) ∧ Drawn0 w w' := by
 have HR0 := am hr0; have HC0 := am hc0; clear hr0 hc0; have H : ((slices_Index_string_string.f k l0 a1).bind fun t239 => (some (decide (t239 ≥ 0)))) = some r := h; clear h; replace H := Option.bind_eq_some_iff.mp H; obtain ⟨t239, A30, H⟩ := H; (try dsimp -simprocs only at H); have A3 := am A30; clear A30; obtain rfl := Option.some.inj H
 go_enter Try.func160, Try.ntmps160
 go_wp2_with (first | ((with_reducible refine gate_callee (f := 185) rfl ?_); refine gL (some 7) Try.func185 #[.slice A0 l0.length c0, .string a1] ?_; (with_reducible refine (slices_Index_string_string.calls k _ _ l0 a1 t239 _ ?side1 ?side2 A3.out).mono ?_); (case side1 => exact Cz HR0.out); (case side2 => exact HC0.out); rintro e w' ⟨rfl, ⟨nd, rfl⟩⟩; refine ⟨_, rfl, ?_⟩))
 go_ret
 exact ⟨by first | rfl | (simp; done) | (simp [*]; done), by repeat (first | exact Drawn0.refl _ | apply Drawn0.step)⟩

-- NOT PRINTED: function 104 (impl_wrong)

def impl_Bits_at.f (a0_0 : Int) (l0_1 : List Int) (a1 : Int) : Option (Bool) := if 0 ≤ (wrap64 (Int.tdiv a1 16)) then (if (wrap64 (Int.tdiv a1 16)) < (l0_1.length : Int) then (if 0 ≤ (Int.tmod a1 16) then (some ((Go.bits .and .i64 (shr .i64 (rd l0_1 (wrap64 (Int.tdiv a1 16))) (Int.tmod a1 16)) 1) == 1)) else (none)) else (none)) else (none)
theorem impl_Bits_at.calls_v0_28_2 (g0 : Nat) (z0_0 : Int) (z0_1 : Int) (a0_0 : Int) (A0_1 : Option Addr) (c0_1 : Nat) (l0_1 : List Int) (a1 : Int) (r : Bool) (w : World) (hb0 : w.heap[g0]? = some (.cells #[.int .i64 z0_0, .int .i64 z0_1, .int .i64 a0_0, .slice A0_1 l0_1.length c0_1] 28 (0, 0))) (hr0_1 : Kd.C (Kd.int .i64) w A0_1 l0_1.length l0_1) (hc0_1 : l0_1.length ≤ c0_1) (h : impl_Bits_at.f a0_0 l0_1 a1 = some r) :
  Calls Try.prog 127 #[.pointer (some ⟨g0, 2, none⟩), .int .i64 a1] w fun e w' => e = .returned (.bool r) ∧ Drawn0 w w' := by
 have HR0_1 := am hr0_1; have HC0_1 := am hc0_1; clear hr0_1 hc0_1; have BK0 := am hb0; clear hb0; have H : (if 0 ≤ (wrap64 (Int.tdiv a1 16)) then (if (wrap64 (Int.tdiv a1 16)) < (l0_1.length : Int) then (if 0 ≤ (Int.tmod a1 16) then (some ((Go.bits .and .i64 (shr .i64 (rd l0_1 (wrap64 (Int.tdiv a1 16))) (Int.tmod a1 16)) 1) == 1)) else (none)) else (none)) else (none)) = some r := h; clear h; obtain ⟨ji3, hji3⟩ : ∃ j_ : Int, (wrap64 (Int.tdiv a1 16)) = j_ := ⟨_, rfl⟩
 replace H : (if 0 ≤ (ji3) then (if (ji3) < (l0_1.length : Int) then (if 0 ≤ (Int.tmod a1 16) then (some ((Go.bits .and .i64 (shr .i64 (rd l0_1 (ji3)) (Int.tmod a1 16)) 1) == 1)) else (none)) else (none)) else (none)) = some r := by first | (rw [hji3] at H; exact H) | (simp only [hji3] at H ⊢; exact H)
 have hji3w : (IntKind.i64.wrap (Int.tdiv a1 16)) = ji3 := (i64_w _).trans hji3
 by_cases c4 : 0 ≤ (ji3)
 ·rw [if_pos c4] at H
  have c4b0 : decide (0 ≤ (ji3)) = true := decide_eq_true c4; clear c4
  by_cases c5 : (ji3) < (l0_1.length : Int)
  ·rw [if_pos c5] at H
   have c5b0 : decide ((ji3) < (l0_1.length : Int)) = true := decide_eq_true c5; clear c5; obtain ⟨ji6, hji6⟩ : ∃ j_ : Int, (Int.tmod a1 16) = j_ := ⟨_, rfl⟩
   replace H : (if 0 ≤ (ji6) then (some ((Go.bits .and .i64 (shr .i64 (rd l0_1 (ji3)) (ji6)) 1) == 1)) else (none)) = some r := by first | (rw [hji6] at H; exact H) | (simp only [hji6] at H ⊢; exact H)
   by_cases c7 : 0 ≤ (ji6)
   ·rw [if_pos c7] at H
    have c7b0 := eq_true c7; have c7b1 : decide (0 ≤ (ji6)) = true := decide_eq_true c7; clear c7; obtain ⟨ji8, hji8⟩ : ∃ j_ : Int, (shr .i64 (rd l0_1 (ji3)) (ji6)) = j_ := ⟨_, rfl⟩
    replace H : (some ((Go.bits .and .i64 (ji8) 1) == 1)) = some r := by first | (rw [hji8] at H; exact H) | (simp only [hji8] at H ⊢; exact H)
    have hji8_ : ((rd l0_1 (ji3)) / 2 ^ min (ji6).toNat 64) = ji8 := hji8; have hji8z : (ji6) ≤ 64 → ((rd l0_1 (ji3)) / 2 ^ (ji6).toNat) = ji8 := shr_small hji8; obtain rfl := Option.some.inj H; obtain ⟨hcz9_0, hcz9_1, hcz9_2, hcz9_3, hfz9_0, hfz9_1, hfz9_2, hfz9_3⟩ := cf4 (w := w) BK0; obtain ⟨ad242, e242, hx242_0⟩ := Kd.at_int HR0_1.out (ji3) dT dT; cases e242; have p242 := eT (0 ≤ ((ji3) : Int)); have q242 := eT ((ji3) < (l0_1.length : Int))
    go_enter Try.func127, Try.ntmps127
    go_wp2
    go_ret
    exact ⟨by first | rfl | (simp; done) | (simp only [← hji3, ← hji6, ← hji8] <;> (first | rfl | simp)) | (simp [*]; done), by repeat (first | exact Drawn0.refl _ | apply Drawn0.step)⟩
   ·rw [if_neg c7] at H
    exact absurd H (by simp)
  ·rw [if_neg c5] at H
   exact absurd H (by simp)
 ·rw [if_neg c4] at H
  exact absurd H (by simp)

def impl_Bloom_says.l0 : Nat → ByteArray → Int → Int → Int → Int → Int → List Int → Option (Bool)
 | 0, _, _, _, _, _, _, _ => none
 | k + 1, x1, x9, x10, x1000, x1001, x1002, x1003 => if x10 < x9 then ((impl_place.f k x1000 x10 x1 x1002).bind fun t243 => ((impl_Bits_at.f x1002 x1003 t243).bind fun t244 => (if t244 = true then (impl_Bloom_says.l0 k x1 x9 (wrap64 (x10 + 1)) x1000 x1001 x1002 x1003) else (some false)))) else (some true)
def impl_Bloom_says.f (k : Nat) (a0_0 : Int) (a0_1 : Int) (a0_2 : Int) (l0_3 : List Int) (a1 : ByteArray) : Option (Bool) := impl_Bloom_says.l0 k a1 a0_1 0 a0_0 a0_1 a0_2 l0_3
def impl_Bloom_says.T4 : Bool × List (List Nat × List Nat) := (true, [([], []), ([0], [0]), ([1], [1]), ([], []), ([3], [3]), ([4], [4]), ([5], [5]), ([], []), ([], []), ([], []), ([9], [9]), ([10], [10]), ([11], [11]), ([12], [12]), ([6, 7, 8, 13], [6, 7, 8, 13]), ([2, 14, 14], [2, 14]), ([15], [15])])
def impl_Bloom_says.B4 : List Nat := [0, 1, 3, 0, 8, 24, 56, 0, 0, 0, 512, 1536, 3584, 7680, 16376, 32767, 65535]
theorem impl_Bloom_says.tab4 : rtab .any (opsOf Try.f105 4) = impl_Bloom_says.T4 := by kernel_rfl
theorem impl_Bloom_says.bits4 : waitsOk impl_Bloom_says.T4.2 impl_Bloom_says.B4 = true := by kernel_rfl
theorem impl_Bloom_says.calls (k : Nat) (g0 : Nat) (a0_0 : Int) (a0_1 : Int) (a0_2 : Int) (A0_3 : Option Addr) (c0_3 : Nat) (l0_3 : List Int) (a1 : ByteArray) (r : Bool) (w : World) (hb0 : w.heap[g0]? = some (.cells #[.int .i64 a0_0, .int .i64 a0_1, .int .i64 a0_2, .slice A0_3 l0_3.length c0_3] 28 (0, 0))) (hr0_3 : Kd.C (Kd.int .i64) w A0_3 l0_3.length l0_3) (hc0_3 : l0_3.length ≤ c0_3) (h : impl_Bloom_says.f k a0_0 a0_1 a0_2 l0_3 a1 = some r) :
  Calls Try.prog 105 #[.pointer (some ⟨g0, 0, none⟩), .string a1] w fun e w' => e = .returned (.bool r) ∧ Below w.heap.size w w' := by
 have HR0_3 := am hr0_3; have HC0_3 := am hc0_3; clear hr0_3 hc0_3; have BK0 := am hb0; clear hb0; have HB := am (Below.refl w.heap.size w); have H : (impl_Bloom_says.l0 k a1 a0_1 0 a0_0 a0_1 a0_2 l0_3) = some r := h; clear h; have H' := am H; clear H; obtain ⟨hcz3_0, hcz3_1, hcz3_2, hcz3_3, hfz3_0, hfz3_1, hfz3_2, hfz3_3⟩ := cf4 (w := w) BK0
 go_enter Try.func105, Try.ntmps105
 go_wp2
 go_loopg [10] k (fun kq v10 w' => ∃ (x10_1 : Int), v10 = .int .i64 x10_1 ∧ Aside0 (impl_Bloom_says.l0 kq a1 a0_1 x10_1 a0_0 a0_1 a0_2 l0_3 = some r) ∧ Aside0 (kq ≤ k) ∧ Aside0 (w'.heap[g0]? = some (.cells #[.int .i64 a0_0, .int .i64 a0_1, .int .i64 a0_2, (.slice A0_3 l0_3.length c0_3)] 28 (0, 0))) ∧ Aside0 (Below w.heap.size w w'))
 case atStart => exact ⟨(0), wZ, H', ⟨Nat.le_refl _⟩, ⟨Kz BK0.out⟩, ⟨Bq⟩⟩
 case round =>
  clear H'
  try clear c1
  try clear p2
  try clear hcz3_0
  try clear hcz3_1
  try clear hcz3_2
  try clear hcz3_3
  try clear hfz3_0
  try clear hfz3_1
  try clear hfz3_2
  try clear hfz3_3
  obtain ⟨x10_1, rfl, HA, HK1, BK0, HB⟩ := hrel; cases gk with
  | zero => exact absurd HA.out (by simp [impl_Bloom_says.l0])
  | succ k1 =>
   have H := HA.out; clear HA
   simp only [impl_Bloom_says.l0] at H
   by_cases c4 : x10_1 < a0_1
   ·rw [if_pos c4] at H
    have c4b0 : decide (x10_1 < a0_1) = true := decide_eq_true c4; clear c4; replace H := Option.bind_eq_some_iff.mp H; obtain ⟨t243, A50, H⟩ := H; (try dsimp -simprocs only at H); have A5 := am A50; clear A50; replace H := Option.bind_eq_some_iff.mp H; obtain ⟨t244, A60, H⟩ := H; (try dsimp -simprocs only at H); have A6 := am A60; clear A60
    by_cases c7 : t244 = true
    ·subst c7
     rw [if_pos rfl] at H; have H' := am H; clear H
     try go_wp2
     have n0_ := am (blk_drew BK0.out); have n1_ := am (below_drew1 HB.out); clear BK0 HB; revert n0_ n1_; intro BK0 HB; refine start_ (n := 17) (S := fun w' => w'.cell? ⟨g0, 0, none⟩ = some (.int .i64 a0_0) ∧ w'.cell? ⟨g0, 1, none⟩ = some (.int .i64 a0_1) ∧ w'.cell? ⟨g0, 2, none⟩ = some (.int .i64 a0_2) ∧ w'.cell? ⟨g0, 3, none⟩ = some (.slice A0_3 l0_3.length c0_3)) (ds := []) (bA 17 0) (by kernel_rfl) rfl rfl ⟨cz BK0 0, cz BK0 1, cz BK0 2, cz BK0 3⟩ (fun hHeld => ?_); refine with_tabW impl_Bloom_says.tab4 impl_Bloom_says.bits4 (fun HT_ HW_ => ?_); generalize wr.drew = w8 at BK0 HB hHeld ⊢; refine pZ 0 (some 13) (bA 17 1) HT_.out ?_; refine pZ 1 (some 14) (bA 17 3) HT_.out ?_; refine pZ 2 (some 15) (bA 17 7) HT_.out ?_; refine pZ 3 (some 16) (bA 17 15) HT_.out ?_; refine pZ 4 (some 17) (bA 17 31) HT_.out ?_; refine pZ 5 (some 18) (bA 17 63) HT_.out ?_; refine pZ 7 (some 20) (bA 17 191) HT_.out ?_; refine pZ 8 (some 21) (bA 17 447) HT_.out ?_; refine pZ 9 (some 22) (bA 17 959) HT_.out ?_; refine pZ 10 (some 23) (bA 17 1983) HT_.out ?_; refine pZ 11 (some 24) (bA 17 4031) HT_.out ?_; refine pZ 12 (some 25) (bA 17 8127) HT_.out ?_; refine tZ4 6 (some 19) (bA 17 8191) HT_.out HW_.out hHeld ?_; refine tZ4 13 (some 26) (bA 17 16383) HT_.out HW_.out hHeld ?_; refine oZ 14 (some 27) (bA 17 32767) HT_.out (fun K hK => ?_); refine gZ Try.func129 #[.int .i64 a0_0, .int .i64 x10_1, .string a1, .int .i64 a0_2] ?_
     with_reducible refine (impl_place.calls k1 a0_0 x10_1 a1 a0_2 t243 _ A5.out).mono ?_
     rintro e w' ⟨rfl, ⟨nd, rfl⟩⟩; refine ⟨_, rfl, ?_⟩; refine hK.out _ _ ⟨cz BK0 0, cz BK0 1, cz BK0 2, cz BK0 3⟩ (fun hHeld => ?_); clear hK K; refine norm_ (a' := ?_) ?_ ?_; rotate_left; show Act.put _ (some 27) _ = _; simp only [aP, i64_w, i32_w]; rfl; refine oZ 15 (some 28) (bA 17 65535) HT_.out (fun K hK => ?_); refine gZ Try.func127 #[.pointer (some ⟨g0, 2, none⟩), .int .i64 t243] ?_
     with_reducible refine (impl_Bits_at.calls_v0_28_2 g0 a0_0 a0_1 a0_2 A0_3 c0_3 l0_3 t243 true _ ?side1 ?side2 ?side3 A6.out).mono ?_
     (case side1 => exact Kz BK0.out)
     (case side2 => exact Cz (Kd.C_below HR0_3.out (Bq)))
     (case side3 => exact HC0_3.out)
     rintro e w' ⟨rfl, ⟨nd, rfl⟩⟩; refine ⟨_, rfl, ?_⟩; refine hK.out _ _ ⟨cz BK0 0, cz BK0 1, cz BK0 2, cz BK0 3⟩ (fun hHeld => ?_); clear hK K; refine norm_ (a' := ?_) ?_ ?_; rotate_left; show Act.put _ (some 28) _ = _; simp only [aP, i64_w, i32_w]; rfl; refine pZ 16 (some 29) (bA 17 131071) HT_.out ?_; refine done_ (done_of HT_.out (by kernel_rfl)) ?_
     try go_wp2
     go_roundg k1
     case measure => have := HK1.out; omega
     case rel => exact ⟨(wrap64 (x10_1 + 1)), wZ, H', ⟨by have := HK1.out; omega⟩, ⟨Kz BK0.out⟩, ⟨Bq⟩⟩
    ·replace c7 := Bool.eq_false_iff.mpr c7
     subst c7
     rw [if_neg (show ¬ (false = true) by decide)] at H; obtain rfl := Option.some.inj H
     try go_wp2
     have n0_ := am (blk_drew BK0.out); have n1_ := am (below_drew1 HB.out); clear BK0 HB; revert n0_ n1_; intro BK0 HB; refine start_ (n := 17) (S := fun w' => w'.cell? ⟨g0, 0, none⟩ = some (.int .i64 a0_0) ∧ w'.cell? ⟨g0, 1, none⟩ = some (.int .i64 a0_1) ∧ w'.cell? ⟨g0, 2, none⟩ = some (.int .i64 a0_2) ∧ w'.cell? ⟨g0, 3, none⟩ = some (.slice A0_3 l0_3.length c0_3)) (ds := []) (bA 17 0) (by kernel_rfl) rfl rfl ⟨cz BK0 0, cz BK0 1, cz BK0 2, cz BK0 3⟩ (fun hHeld => ?_); refine with_tabW impl_Bloom_says.tab4 impl_Bloom_says.bits4 (fun HT_ HW_ => ?_); generalize wr.drew = w9 at BK0 HB hHeld ⊢; refine pZ 0 (some 13) (bA 17 1) HT_.out ?_; refine pZ 1 (some 14) (bA 17 3) HT_.out ?_; refine pZ 2 (some 15) (bA 17 7) HT_.out ?_; refine pZ 3 (some 16) (bA 17 15) HT_.out ?_; refine pZ 4 (some 17) (bA 17 31) HT_.out ?_; refine pZ 5 (some 18) (bA 17 63) HT_.out ?_; refine pZ 7 (some 20) (bA 17 191) HT_.out ?_; refine pZ 8 (some 21) (bA 17 447) HT_.out ?_; refine pZ 9 (some 22) (bA 17 959) HT_.out ?_; refine pZ 10 (some 23) (bA 17 1983) HT_.out ?_; refine pZ 11 (some 24) (bA 17 4031) HT_.out ?_; refine pZ 12 (some 25) (bA 17 8127) HT_.out ?_; refine tZ4 6 (some 19) (bA 17 8191) HT_.out HW_.out hHeld ?_; refine tZ4 13 (some 26) (bA 17 16383) HT_.out HW_.out hHeld ?_; refine oZ 14 (some 27) (bA 17 32767) HT_.out (fun K hK => ?_); refine gZ Try.func129 #[.int .i64 a0_0, .int .i64 x10_1, .string a1, .int .i64 a0_2] ?_
     with_reducible refine (impl_place.calls k1 a0_0 x10_1 a1 a0_2 t243 _ A5.out).mono ?_
     rintro e w' ⟨rfl, ⟨nd, rfl⟩⟩; refine ⟨_, rfl, ?_⟩; refine hK.out _ _ ⟨cz BK0 0, cz BK0 1, cz BK0 2, cz BK0 3⟩ (fun hHeld => ?_); clear hK K; refine norm_ (a' := ?_) ?_ ?_; rotate_left; show Act.put _ (some 27) _ = _; simp only [aP, i64_w, i32_w]; rfl; refine oZ 15 (some 28) (bA 17 65535) HT_.out (fun K hK => ?_); refine gZ Try.func127 #[.pointer (some ⟨g0, 2, none⟩), .int .i64 t243] ?_
     with_reducible refine (impl_Bits_at.calls_v0_28_2 g0 a0_0 a0_1 a0_2 A0_3 c0_3 l0_3 t243 false _ ?side1 ?side2 ?side3 A6.out).mono ?_
     (case side1 => exact Kz BK0.out)
     (case side2 => exact Cz (Kd.C_below HR0_3.out (Bq)))
     (case side3 => exact HC0_3.out)
     rintro e w' ⟨rfl, ⟨nd, rfl⟩⟩; refine ⟨_, rfl, ?_⟩; refine hK.out _ _ ⟨cz BK0 0, cz BK0 1, cz BK0 2, cz BK0 3⟩ (fun hHeld => ?_); clear hK K; refine norm_ (a' := ?_) ?_ ?_; rotate_left; show Act.put _ (some 28) _ = _; simp only [aP, i64_w, i32_w]; rfl; refine pZ 16 (some 29) (bA 17 131071) HT_.out ?_; refine done_ (done_of HT_.out (by kernel_rfl)) ?_
     try go_wp2
     go_ret
     exact ⟨eZ, Bq⟩
   ·rw [if_neg c4] at H
    have c4b0 : decide (x10_1 < a0_1) = false := decide_eq_false c4; clear c4; obtain rfl := Option.some.inj H
    go_wp2
    go_ret
    exact ⟨eZ, Bq⟩

def impl_wrong_at_impl_Bloom_says.l0 : Nat → List ByteArray → List Int → List ByteArray → Int → Int → Int → Int → Int → List Int → Option (List Int)
 | 0, _, _, _, _, _, _, _, _, _ => none
 | k + 1, x0, x7, x11, x12, x13, x4000, x4001, x4002, x4003 => if x13 < x12 then (if 0 ≤ x13 then (if x13 < (x11.length : Int) then ((slices_Contains_string_string.f k x0 (rdOf ByteArray.empty x11 x13)).bind fun t260 => (if t260 = true then (impl_wrong_at_impl_Bloom_says.l0 k x0 x7 x11 x12 (wrap64 (x13 + 1)) x4000 x4001 x4002 x4003) else ((impl_Bloom_says.f k x4000 x4001 x4002 x4003 (rdOf ByteArray.empty x11 x13)).bind fun t261 => (if t261 = true then (if x7.length < 17592186044416 then (impl_wrong_at_impl_Bloom_says.l0 k x0 (x7 ++ [x13]) x11 x12 (wrap64 (x13 + 1)) x4000 x4001 x4002 x4003) else (none)) else (impl_wrong_at_impl_Bloom_says.l0 k x0 x7 x11 x12 (wrap64 (x13 + 1)) x4000 x4001 x4002 x4003))))) else (none)) else (none)) else (some x7)
def impl_wrong_at_impl_Bloom_says.f (k : Nat) (l0 : List ByteArray) (l1 : List ByteArray)  (a3_0 : Int) (a3_1 : Int) (a3_2 : Int) (l3_3 : List Int) : Option (List Int) := impl_wrong_at_impl_Bloom_says.l0 k l0 (([] : List Int)) l1 (l1.length : Int) 0 a3_0 a3_1 a3_2 l3_3
theorem impl_wrong_at_impl_Bloom_says.calls (k : Nat) (A0 : Option Addr) (c0 : Nat) (l0 : List ByteArray) (A1 : Option Addr) (c1 : Nat) (l1 : List ByteArray)  (g3 : Nat) (a3_0 : Int) (a3_1 : Int) (a3_2 : Int) (A3_3 : Option Addr) (c3_3 : Nat) (l3_3 : List Int) (r : List Int) (w : World) (hr0 : Kd.C Kd.string w A0 l0.length l0) (hc0 : l0.length ≤ c0) (hr1 : Kd.C Kd.string w A1 l1.length l1) (hc1 : l1.length ≤ c1) (hb3 : w.heap[g3]? = some (.cells #[.int .i64 a3_0, .int .i64 a3_1, .int .i64 a3_2, .slice A3_3 l3_3.length c3_3] 28 (0, 0))) (hr3_3 : Kd.C (Kd.int .i64) w A3_3 l3_3.length l3_3) (hc3_3 : l3_3.length ≤ c3_3) (h : impl_wrong_at_impl_Bloom_says.f k l0 l1 a3_0 a3_1 a3_2 l3_3 = some r) :
  Calls Try.prog 104 #[.slice A0 l0.length c0, .slice A1 l1.length c1, .func (.func 105) #[.pointer (some ⟨g3, 0, none⟩)] #[]] w fun e w' => ∃ v0_ : Value, e = .returned (v0_) ∧ Kd.R (Kd.int .i64) 3 w' w.heap.size (fun _ => True) v0_ r ∧ Below w.heap.size w w' := by
 have HR0 := am hr0; have HC0 := am hc0; clear hr0 hc0; have HR1 := am hr1; have HC1 := am hc1; clear hr1 hc1; have HR3_3 := am hr3_3; have HC3_3 := am hc3_3; clear hr3_3 hc3_3; have BK3 := am hb3; clear hb3; have HB := am (Below.refl w.heap.size w); have H : (impl_wrong_at_impl_Bloom_says.l0 k l0 (([] : List Int)) l1 (l1.length : Int) 0 a3_0 a3_1 a3_2 l3_3) = some r := h; clear h; obtain ⟨y256, hy256⟩ : ∃ y_ : List Int, y_ = (([] : List Int)) := ⟨_, rfl⟩
 replace H : (impl_wrong_at_impl_Bloom_says.l0 k l0 y256 l1 (l1.length : Int) 0 a3_0 a3_1 a3_2 l3_3) = some r := by first | (rw [hy256]; with_reducible exact H) | (have H2_ := (Option.bind_some _ _).symm.trans H; rw [hy256]; with_reducible exact H2_) | (have H2_ := (Option.bind_some _ _).symm.trans H; with_reducible exact H2_) | with_reducible exact H | (rw [hy256]; exact H) | exact H
 have Ny256 := am hy256; clear hy256; have H' := am H; clear H
 go_enter Try.func104, Try.ntmps104
 go_wp2_with (first | ((with_reducible refine gate_dst (N := 10) rfl ?_); refine Kd.R_lit (Kd.int .i64) _ 3 ?hg (N := 10) ?hd (xs := ([] : List Int)) (inner := []) (ok := fun _ => True) (okp := fun _ => True) ?hr ?hp (fun _ hk => hk) trivial (Below.refl _ _) (Nat.le_refl _) (by simp) ?_; (case hd => rfl); (case hg => rfl); (case hr => first | (go_simp; done) | (go_simp; rfl)); (case hp => exact (Reps.none _ _)); intro v257 w5 ho6 hb hg_ hnew_; clear hg_ hnew_; (first | rw [← Ny256.out] at ho6 | (simp only [Int.reduceToNat] at ho6; rw [← Ny256.out] at ho6)); have n0_ := Rm ho6 HB; have n1_ := Kb BK3 hb; have n2_ := Bc HB hb; clear BK3 HB; revert n0_ n1_ n2_; intro HO258 BK3 HB; clear hb ho6))
 (try simp only [aP])
 go_loopg [7, 13] k (fun kq v7 v13 w' => ∃ (x7_1 : List Int) (x13_1 : Int), v13 = .int .i64 x13_1 ∧ Aside0 (impl_wrong_at_impl_Bloom_says.l0 kq l0 x7_1 l1 (l1.length : Int) x13_1 a3_0 a3_1 a3_2 l3_3 = some r) ∧ Aside0 (kq ≤ k) ∧ Aside0 (Kd.R (Kd.int .i64) 3 w' w.heap.size (fun _ => True) v7 x7_1) ∧ Aside0 (w'.heap[g3]? = some (.cells #[.int .i64 a3_0, .int .i64 a3_1, .int .i64 a3_2, (.slice A3_3 l3_3.length c3_3)] 28 (0, 0))) ∧ Aside0 (Below w.heap.size w w'))
 case atStart => exact ⟨(y256), (0), wZ, H', ⟨Nat.le_refl _⟩, ⟨Rz HO258.out⟩, ⟨Kz BK3.out⟩, ⟨Bq⟩⟩
 case round =>
  clear H'
  try clear c1
  try clear p2
  try clear c3
  obtain ⟨x7_1, x13_1, rfl, HA, HK1, HO_7, BK3, HB⟩ := hrel; cases gk with
  | zero => exact absurd HA.out (by simp [impl_wrong_at_impl_Bloom_says.l0])
  | succ k1 =>
   have H := HA.out; clear HA
   simp only [impl_wrong_at_impl_Bloom_says.l0] at H
   by_cases c7 : x13_1 < (l1.length : Int)
   ·rw [if_pos c7] at H
    have c7b0 : decide (x13_1 < (l1.length : Int)) = true := decide_eq_true c7; clear c7
    by_cases c8 : 0 ≤ x13_1
    ·rw [if_pos c8] at H
     have c8b0 : decide (0 ≤ x13_1) = true := decide_eq_true c8; clear c8
     by_cases c9 : x13_1 < (l1.length : Int)
     ·rw [if_pos c9] at H
      have c9b0 : decide (x13_1 < (l1.length : Int)) = true := decide_eq_true c9; clear c9; replace H := Option.bind_eq_some_iff.mp H; obtain ⟨t260, A100, H⟩ := H; (try dsimp -simprocs only at H); have A10 := am A100; clear A100
      by_cases c11 : t260 = true
      ·subst c11
       rw [if_pos rfl] at H; have H' := am H; clear H; have p259 : 0 ≤ (x13_1 : Int) := dT; have q259 : x13_1 < (l1.length : Int) := dT; obtain ⟨ad259, e259, hx259_0⟩ := Kd.at_string HR1.out x13_1 p259 q259; cases e259; replace hx259_0 := (HB.out.cell (World.block_lt_of_cell? w _ hx259_0)).trans hx259_0; replace p259 := eq_true p259; replace q259 := eq_true q259
       go_wp2_with (first | ((with_reducible refine gate_callee (f := 160) rfl ?_); refine gL (some 20) Try.func160 #[.slice A0 l0.length c0, .string (rdOf ByteArray.empty l1 x13_1)] ?_; (with_reducible refine (slices_Contains_string_string.calls k1 _ _ l0 (rdOf ByteArray.empty l1 x13_1) true _ ?side1 ?side2 A10.out).mono ?_); (case side1 => exact Cz (Kd.C_below HR0.out HB.out)); (case side2 => exact HC0.out); rintro e w' ⟨rfl, ⟨nd, rfl⟩⟩; refine ⟨_, rfl, ?_⟩))
       go_roundg k1
       case measure => have := HK1.out; omega
       case rel => exact ⟨(x7_1), (wrap64 (x13_1 + 1)), wZ, H', ⟨by have := HK1.out; omega⟩, ⟨Rz HO_7.out⟩, ⟨Kz BK3.out⟩, ⟨Bq⟩⟩
      ·replace c11 := Bool.eq_false_iff.mpr c11
       subst c11
       rw [if_neg (show ¬ (false = true) by decide)] at H; replace H := Option.bind_eq_some_iff.mp H; obtain ⟨t261, A120, H⟩ := H; (try dsimp -simprocs only at H); have A12 := am A120; clear A120
       by_cases c13 : t261 = true
       ·subst c13
        rw [if_pos rfl] at H
        by_cases c14 : x7_1.length < 17592186044416
        ·rw [if_pos c14] at H
         have LMc14 := am c14; clear c14; obtain ⟨y262, hy262⟩ : ∃ y_ : List Int, y_ = (x7_1 ++ [x13_1]) := ⟨_, rfl⟩
         replace H : (impl_wrong_at_impl_Bloom_says.l0 k1 l0 y262 l1 (l1.length : Int) (wrap64 (x13_1 + 1)) a3_0 a3_1 a3_2 l3_3) = some r := by first | (rw [hy262]; with_reducible exact H) | (have H2_ := (Option.bind_some _ _).symm.trans H; rw [hy262]; with_reducible exact H2_) | (have H2_ := (Option.bind_some _ _).symm.trans H; with_reducible exact H2_) | with_reducible exact H | (rw [hy262]; exact H) | exact H
         have Ny262 := am hy262; clear hy262; have H' := am H; clear H; have p259 : 0 ≤ (x13_1 : Int) := dT; have q259 : x13_1 < (l1.length : Int) := dT; obtain ⟨ad259, e259, hx259_0⟩ := Kd.at_string HR1.out x13_1 p259 q259; cases e259; replace hx259_0 := (HB.out.cell (World.block_lt_of_cell? w _ hx259_0)).trans hx259_0; replace p259 := eq_true p259; replace q259 := eq_true q259
         go_wp2_with (first | ((with_reducible refine gate_callee (f := 160) rfl ?_); refine gL (some 20) Try.func160 #[.slice A0 l0.length c0, .string (rdOf ByteArray.empty l1 x13_1)] ?_; (with_reducible refine (slices_Contains_string_string.calls k1 _ _ l0 (rdOf ByteArray.empty l1 x13_1) false _ ?side1 ?side2 A10.out).mono ?_); (case side1 => exact Cz (Kd.C_below HR0.out HB.out)); (case side2 => exact HC0.out); rintro e w' ⟨rfl, ⟨nd, rfl⟩⟩; refine ⟨_, rfl, ?_⟩) | (go_at_call 105; (with_reducible refine (impl_Bloom_says.calls k1 g3 a3_0 a3_1 a3_2 A3_3 c3_3 l3_3 (rdOf ByteArray.empty l1 x13_1) true _ ?side1 ?side2 ?side3 A12.out).mono ?_); (case side1 => exact Kz BK3.out); (case side2 => exact Cz (Kd.C_below HR3_3.out (Bq))); (case side3 => exact HC3_3.out); rintro e w15 ⟨rfl, hb⟩; have n0_ := Rb HO_7 hb; have n1_ := Kb BK3 hb; have n2_ := Bc HB hb; clear HO_7 BK3 HB; revert n0_ n1_ n2_; intro HO_7 BK3 HB; (try clear hb); (try clear hb2); (try clear hk); (try clear hi)) | ((with_reducible refine gate_builtin (b := .append) (xs := #[.tmp 27, .tmp 29]) rfl ?_); at_builtin; refine Kd.R_append (Kd.int .i64) (w0 := w) w.heap.size rfl (.tmp 27) (.tmp 29) 24 3 (.int .i64 0) 8 rfl Try.underlying24 info3 rfl (by decide) (by omega) u7 x7_1 x13_1 [.int .i64 x13_1] (fun _ => True) (fun _ => False) rfl rfl ?aP (fun _ hk => hk.elim) ?aF ?aO ?aB ?aS ?aL ?_; (case aP => exact rfl); (case aB => exact (Bq)); (case aF => exact (fun _ _ => trivial)); (case aO => exact (Rz HO_7.out)); (case aS => exact (below_size (w := w) (Bq))); (case aL => have := LMc14.out; omega); intro v263 w16 ho hb hg hat; rw [← Ny262.out] at ho; have n0_ := am (blk_grown (g := g3) (o := .cells #[.int .i64 a3_0, .int .i64 a3_1, .int .i64 a3_2, .slice A3_3 l3_3.length c3_3] 28 (0, 0)) (Kz BK3.out) hg (Kd.R_ne HO_7.out BK3.out (by decide))); have n1_ := am (hb); have n2_ := am (ho); clear BK3 HB HO_7; revert n0_ n1_ n2_; intro BK3 HB HO264; clear ho hb hg hat))
         go_roundg k1
         case measure => have := HK1.out; omega
         case rel => exact ⟨(y262), (wrap64 (x13_1 + 1)), wZ, H', ⟨by have := HK1.out; omega⟩, ⟨Rz HO264.out⟩, ⟨Kz BK3.out⟩, ⟨Bq⟩⟩
        ·rw [if_neg c14] at H
         exact absurd H (by simp)
       ·replace c13 := Bool.eq_false_iff.mpr c13
        subst c13
        rw [if_neg (show ¬ (false = true) by decide)] at H; have H' := am H; clear H; have p259 : 0 ≤ (x13_1 : Int) := dT; have q259 : x13_1 < (l1.length : Int) := dT; obtain ⟨ad259, e259, hx259_0⟩ := Kd.at_string HR1.out x13_1 p259 q259; cases e259; replace hx259_0 := (HB.out.cell (World.block_lt_of_cell? w _ hx259_0)).trans hx259_0; replace p259 := eq_true p259; replace q259 := eq_true q259
        go_wp2_with (first | ((with_reducible refine gate_callee (f := 160) rfl ?_); refine gL (some 20) Try.func160 #[.slice A0 l0.length c0, .string (rdOf ByteArray.empty l1 x13_1)] ?_; (with_reducible refine (slices_Contains_string_string.calls k1 _ _ l0 (rdOf ByteArray.empty l1 x13_1) false _ ?side1 ?side2 A10.out).mono ?_); (case side1 => exact Cz (Kd.C_below HR0.out HB.out)); (case side2 => exact HC0.out); rintro e w' ⟨rfl, ⟨nd, rfl⟩⟩; refine ⟨_, rfl, ?_⟩) | (go_at_call 105; (with_reducible refine (impl_Bloom_says.calls k1 g3 a3_0 a3_1 a3_2 A3_3 c3_3 l3_3 (rdOf ByteArray.empty l1 x13_1) false _ ?side1 ?side2 ?side3 A12.out).mono ?_); (case side1 => exact Kz BK3.out); (case side2 => exact Cz (Kd.C_below HR3_3.out (Bq))); (case side3 => exact HC3_3.out); rintro e w17 ⟨rfl, hb⟩; have n0_ := Rb HO_7 hb; have n1_ := Kb BK3 hb; have n2_ := Bc HB hb; clear HO_7 BK3 HB; revert n0_ n1_ n2_; intro HO_7 BK3 HB; (try clear hb); (try clear hb2); (try clear hk); (try clear hi)))
        go_roundg k1
        case measure => have := HK1.out; omega
        case rel => exact ⟨(x7_1), (wrap64 (x13_1 + 1)), wZ, H', ⟨by have := HK1.out; omega⟩, ⟨Rz HO_7.out⟩, ⟨Kz BK3.out⟩, ⟨Bq⟩⟩
     ·rw [if_neg c9] at H
      exact absurd H (by simp)
    ·rw [if_neg c8] at H
     exact absurd H (by simp)
   ·rw [if_neg c7] at H
    have c7b0 : decide (x13_1 < (l1.length : Int)) = false := decide_eq_false c7; clear c7; obtain rfl := Option.some.inj H
    go_wp2
    go_ret
    exact ⟨_, eZ, Rz HO_7.out, Bq⟩

mutual
def impl_LeastBloom.j0 : Nat → Int → Int → List ByteArray → List ByteArray → Int → Bool → Option (Int × Bool)
 | 0, _, _, _, _, _, _ => none
 | k + 1, x0, x1, x2, x3, x4, x29 => if x29 = true then (some (0, false)) else (impl_LeastBloom.l0 k x0 x1 x2 x3 x4 1)
def impl_LeastBloom.l0 : Nat → Int → Int → List ByteArray → List ByteArray → Int → Int → Option (Int × Bool)
 | 0, _, _, _, _, _, _ => none
 | k + 1, x0, x1, x2, x3, x4, x12 => if x12 ≤ x4 then ((impl_BloomOf.f k x0 x1 x12 x2).bind fun bt268 => ((impl_wrong_at_impl_Bloom_says.f k x2 x3 bt268.1 bt268.2.1 bt268.2.2.1 bt268.2.2.2.1).bind fun t276 => (if (t276.length : Int) = 0 then (some (x12, true)) else (impl_LeastBloom.l0 k x0 x1 x2 x3 x4 (wrap64 (x12 + 1)))))) else (some (0, false))
end
def impl_LeastBloom.f (k : Nat) (a0 : Int) (a1 : Int) (l2 : List ByteArray) (l3 : List ByteArray) (a4 : Int) : Option (Int × Bool) := (impl_sizesOk.f a0 a1 a4).bind fun t265 => (if t265 = true then ((impl_AreKeys.f k l2).bind fun t266 => (if t266 = true then ((impl_areTexts.f k l3).bind fun t267 => (impl_LeastBloom.j0 k a0 a1 l2 l3 a4 (!t267))) else (impl_LeastBloom.j0 k a0 a1 l2 l3 a4 true))) else (impl_LeastBloom.j0 k a0 a1 l2 l3 a4 true))
theorem impl_LeastBloom.calls (k : Nat) (a0 : Int) (a1 : Int) (A2 : Option Addr) (c2 : Nat) (l2 : List ByteArray) (A3 : Option Addr) (c3 : Nat) (l3 : List ByteArray) (a4 : Int) (r1 : Int) (r2 : Bool) (w : World) (hr2 : Kd.C Kd.string w A2 l2.length l2) (hc2 : l2.length ≤ c2) (hr3 : Kd.C Kd.string w A3 l3.length l3) (hc3 : l3.length ≤ c3) (h : impl_LeastBloom.f k a0 a1 l2 l3 a4 = some (r1, r2)) :
  Calls Try.prog 28 #[.int .i64 a0, .int .i64 a1, .slice A2 l2.length c2, .slice A3 l3.length c3, .int .i64 a4] w fun e w' => e = .returned (.tuple #[.int .i64 r1, .bool r2]) ∧ Below w.heap.size w w' := by
 have hu28 := Try.underlying28; have HR2 := am hr2; have HC2 := am hc2; clear hr2 hc2; have HR3 := am hr3; have HC3 := am hc3; clear hr3 hc3; have HB := am (Below.refl w.heap.size w); have H : ((impl_sizesOk.f a0 a1 a4).bind fun t265 => (if t265 = true then ((impl_AreKeys.f k l2).bind fun t266 => (if t266 = true then ((impl_areTexts.f k l3).bind fun t267 => (impl_LeastBloom.j0 k a0 a1 l2 l3 a4 (!t267))) else (impl_LeastBloom.j0 k a0 a1 l2 l3 a4 true))) else (impl_LeastBloom.j0 k a0 a1 l2 l3 a4 true))) = some (r1, r2) := h; clear h; have HC6 := am H; clear H
 go_enter Try.func28, Try.ntmps28
 go_upto_region 1 with (fail)
 go_cut [29] (fun v29 wc => ∃ (kq : Nat) (x29_5 : Bool), v29 = .bool x29_5 ∧ Aside0 (impl_LeastBloom.j0 kq a0 a1 l2 l3 a4 x29_5 = some (r1, r2)) ∧ Aside0 (kq ≤ k) ∧ Aside0 (Below w.heap.size w wc))
 case first =>
  have H := HC6.out; clear HC6; replace H := Option.bind_eq_some_iff.mp H; obtain ⟨t265, A70, H⟩ := H; (try dsimp -simprocs only at H); have A7 := am A70; clear A70
  by_cases c8 : t265 = true
  ·subst c8
   rw [if_pos rfl] at H; replace H := Option.bind_eq_some_iff.mp H; obtain ⟨t266, A90, H⟩ := H; (try dsimp -simprocs only at H); have A9 := am A90; clear A90
   by_cases c10 : t266 = true
   ·subst c10
    rw [if_pos rfl] at H; replace H := Option.bind_eq_some_iff.mp H; obtain ⟨t267, A110, H⟩ := H; (try dsimp -simprocs only at H); have A11 := am A110; clear A110; have H' := am H; clear H
    go_wp2_with (first | ((with_reducible refine gate_callee (f := 102) rfl ?_); refine gL (some 18) Try.func102 #[.int .i64 a0, .int .i64 a1, .int .i64 a4] ?_; (with_reducible refine (impl_sizesOk.calls a0 a1 a4 true _ A7.out).mono ?_); rintro e w' ⟨rfl, ⟨nd, rfl⟩⟩; refine ⟨_, rfl, ?_⟩) | (go_at_call 87; (with_reducible refine (impl_AreKeys.calls k _ _ l2 true _ ?side1 ?side2 A9.out).mono ?_); (case side1 => exact Kd.C_below HR2.out (Bz HB.out)); (case side2 => exact HC2.out); rintro e w' ⟨rfl, ⟨nd, rfl⟩⟩) | (go_at_call 103; (with_reducible refine (impl_areTexts.calls k _ _ l3 t267 _ ?side1 ?side2 A11.out).mono ?_); (case side1 => exact Kd.C_below HR3.out (Bz HB.out)); (case side2 => exact HC3.out); rintro e w' ⟨rfl, ⟨nd, rfl⟩⟩))
    go_meet
    case rel => exact ⟨_, (!t267), wZ, H', ⟨by first | omega | exact Nat.le_refl _⟩, ⟨Bz HB.out⟩⟩
   ·replace c10 := Bool.eq_false_iff.mpr c10
    subst c10
    rw [if_neg (show ¬ (false = true) by decide)] at H; have H' := am H; clear H
    go_wp2_with (first | ((with_reducible refine gate_callee (f := 102) rfl ?_); refine gL (some 18) Try.func102 #[.int .i64 a0, .int .i64 a1, .int .i64 a4] ?_; (with_reducible refine (impl_sizesOk.calls a0 a1 a4 true _ A7.out).mono ?_); rintro e w' ⟨rfl, ⟨nd, rfl⟩⟩; refine ⟨_, rfl, ?_⟩) | (go_at_call 87; (with_reducible refine (impl_AreKeys.calls k _ _ l2 false _ ?side1 ?side2 A9.out).mono ?_); (case side1 => exact Kd.C_below HR2.out (Bz HB.out)); (case side2 => exact HC2.out); rintro e w' ⟨rfl, ⟨nd, rfl⟩⟩))
    go_meet
    case rel => exact ⟨_, (true), wZ, H', ⟨by first | omega | exact Nat.le_refl _⟩, ⟨Bz HB.out⟩⟩
  ·replace c8 := Bool.eq_false_iff.mpr c8
   subst c8
   rw [if_neg (show ¬ (false = true) by decide)] at H; have H' := am H; clear H
   go_wp2_with (first | ((with_reducible refine gate_callee (f := 102) rfl ?_); refine gL (some 18) Try.func102 #[.int .i64 a0, .int .i64 a1, .int .i64 a4] ?_; (with_reducible refine (impl_sizesOk.calls a0 a1 a4 false _ A7.out).mono ?_); rintro e w' ⟨rfl, ⟨nd, rfl⟩⟩; refine ⟨_, rfl, ?_⟩))
   go_meet
   case rel => exact ⟨_, (true), wZ, H', ⟨by first | omega | exact Nat.le_refl _⟩, ⟨Bz HB.out⟩⟩
 case rest =>
  clear HC6
  try clear c1
  try clear c2
  try clear p2
  try clear c3
  try clear c8
  try clear c10
  obtain ⟨kq, x29_5, rfl, HA, HJ5, HB⟩ := hcut; cases kq with
  | zero => exact absurd HA.out (by simp [impl_LeastBloom.j0])
  | succ kj5 =>
   have H := HA.out; clear HA
   simp only [impl_LeastBloom.j0] at H
   by_cases c12 : x29_5 = true
   ·subst c12
    rw [if_pos rfl] at H
    simp only [Option.some.injEq, Prod.mk.injEq] at H
    obtain ⟨rfl, rfl⟩ := H
    go_wp2
    go_ret2
    exact ⟨eZ, Bz HB.out⟩
   ·replace c12 := Bool.eq_false_iff.mpr c12
    subst c12
    rw [if_neg (show ¬ (false = true) by decide)] at H; have H' := am H; clear H
    go_wp2
    go_loopg [12] kj5 (fun kq v12 w' => ∃ (x12_2 : Int), v12 = .int .i64 x12_2 ∧ Aside0 (impl_LeastBloom.l0 kq a0 a1 l2 l3 a4 x12_2 = some (r1, r2)) ∧ Aside0 (kq ≤ kj5) ∧ Aside0 (Below w.heap.size w w'))
    case atStart => exact ⟨(1), wZ, H', ⟨Nat.le_refl _⟩, ⟨Bz HB.out⟩⟩
    case round =>
     clear H'
     try clear c1
     try clear c2
     try clear p2
     try clear c3
     try clear c8
     try clear c10
     try clear c12
     try clear p2
     obtain ⟨x12_2, rfl, HA, HK2, HB⟩ := hrel; cases gk with
     | zero => exact absurd HA.out (by simp [impl_LeastBloom.l0])
     | succ k2 =>
      have H := HA.out; clear HA
      simp only [impl_LeastBloom.l0] at H
      by_cases c13 : x12_2 ≤ a4
      ·rw [if_pos c13] at H
       have c13b0 : decide (x12_2 ≤ a4) = true := decide_eq_true c13; clear c13; replace H := Option.bind_eq_some_iff.mp H; obtain ⟨⟨t268, t269, t270, t271, t274⟩, A140, H⟩ := H; (try dsimp -simprocs only at H); have A14 := am A140; clear A140; replace H := Option.bind_eq_some_iff.mp H; obtain ⟨t276, A150, H⟩ := H; (try dsimp -simprocs only at H); have A15 := am A150; clear A150
       by_cases c16 : (t276.length : Int) = 0
       ·rw [if_pos c16] at H
        have c16b0 : ((t276.length : Int) == 0) = true := beq_iff_eq.mpr c16; have c16b1 : ((t276.length : Int) != 0) = false := bne_eq_false_iff_eq.mpr c16; clear c16
        simp only [Option.some.injEq, Prod.mk.injEq] at H
        obtain ⟨rfl, rfl⟩ := H
        go_wp2_with (first | ((with_reducible refine gate_callee (f := 17) rfl ?_); refine gL (some 40) Try.func17 #[.int .i64 a0, .int .i64 a1, .int .i64 x12_2, .slice A2 l2.length c2] ?_; (with_reducible refine (impl_BloomOf.calls k2 a0 a1 x12_2 _ _ l2 t268 t269 t270 t271 t274 _ ?side1 ?side2 A14.out).mono ?_); (case side1 => exact Cz (Kd.C_below HR2.out HB.out)); (case side2 => exact HC2.out); rintro e w17 ⟨v272, rfl, ho0, hb⟩; refine ⟨_, rfl, ?_⟩; have n0_ := Rl ho0 HB; have n1_ := Bb HB hb; clear HB; revert n0_ n1_; intro HO273 HB; (try clear hb); (try clear hb2); (try clear hk); (try clear hi); (try clear ho0)) | ((with_reducible refine gate_dst (N := 13) rfl ?_); refine bE 13 #[.int .i64 0, .int .i64 0, .int .i64 0, .slice none 0 0] 28 ?_; intro gb275 hg w18 hbox hb; have n0_ := Rb HO273 hb; have n1_ := Bb HB hb; have n2_ := am (hbox); have n3_ := Gl HB hg; have n4_ := Gl HB hg; clear HO273 HB; revert n0_ n1_ n2_ n3_ n4_; intro HO273 HB BK275 GW275 GE275; clear hb hbox hg; obtain ⟨hcz19_0, hcz19_1, hcz19_2, hcz19_3, hfz19_0, hfz19_1, hfz19_2, hfz19_3⟩ := cf4 (w := w18) BK275; obtain ⟨Ao20, co20, eo20⟩ := Kd.R_slice HO273.out; subst eo20) | ((with_reducible refine gate_callee (f := 104) rfl ?_); refine gL (some 46) Try.func104 #[.slice A2 l2.length c2, .slice A3 l3.length c3, .func (.func 105) #[.pointer (some ⟨gb275, 0, none⟩)] #[]] ?_; (with_reducible refine (impl_wrong_at_impl_Bloom_says.calls k2 _ _ l2 _ _ l3  gb275 t268 t269 t270 Ao20 co20 t271 t276 _ ?side1 ?side2 ?side3 ?side4 ?side5 ?side6 ?side7 A15.out).mono ?_); (case side1 => exact Kd.C_below HR2.out (Bq)); (case side2 => exact HC2.out); (case side3 => exact Kd.C_below HR3.out (Bq)); (case side4 => exact HC3.out); (case side5 => (with_reducible repeat (first | refine blk_drewN ?_ _ | refine blk_drew ?_ | refine blk_alloc ?_ _)); refine blk_put (cs := #[.int .i64 t268, .int .i64 t269, .int .i64 t270, .slice none 0 0]) ?_ 3 _ rfl; (with_reducible repeat (first | refine blk_drewN ?_ _ | refine blk_drew ?_ | refine blk_alloc ?_ _)); refine blk_put (cs := #[.int .i64 t268, .int .i64 t269, .int .i64 0, .slice none 0 0]) ?_ 2 _ rfl; (with_reducible repeat (first | refine blk_drewN ?_ _ | refine blk_drew ?_ | refine blk_alloc ?_ _)); refine blk_put (cs := #[.int .i64 t268, .int .i64 0, .int .i64 0, .slice none 0 0]) ?_ 1 _ rfl; (with_reducible repeat (first | refine blk_drewN ?_ _ | refine blk_drew ?_ | refine blk_alloc ?_ _)); refine blk_put (cs := #[.int .i64 0, .int .i64 0, .int .i64 0, .slice none 0 0]) ?_ 0 _ rfl; exact Kz BK275.out); (case side6 => refine (Kd.R_reads' (e := 3) (base := w.heap.size) (ok := fun k_ => True) (n := t271.length) (c := co20) ?_).2.2; exact (Rz (Kd.R_mono (Kd.R_far (p := ⟨gb275, 3, none⟩) (Kd.R_far (p := ⟨gb275, 2, none⟩) (Kd.R_far (p := ⟨gb275, 1, none⟩) (Kd.R_far (p := ⟨gb275, 0, none⟩) (Kd.R_types HO273.out BK275.out (by decide)) (fun _ hk => hk.2) (.int .i64 t268)) (fun _ hk => hk.2) (.int .i64 t269)) (fun _ hk => hk.2) (.int .i64 t270)) (fun _ hk => hk.2) (.slice Ao20 t271.length co20)) (fun _ h_ => h_.1)))); (case side7 => exact (Kd.R_reads' HO273.out).2.1); rintro e w21 ⟨v277, rfl, ho0, hb⟩; refine ⟨_, rfl, ?_⟩; have n0_ := am (Kd.R_elder' (Rz (Kd.R_mono (Kd.R_far (p := ⟨gb275, 3, none⟩) (Kd.R_far (p := ⟨gb275, 2, none⟩) (Kd.R_far (p := ⟨gb275, 1, none⟩) (Kd.R_far (p := ⟨gb275, 0, none⟩) (Kd.R_types HO273.out BK275.out (by decide)) (fun _ hk => hk.2) (.int .i64 t268)) (fun _ hk => hk.2) (.int .i64 t269)) (fun _ hk => hk.2) (.int .i64 t270)) (fun _ hk => hk.2) (.slice Ao20 t271.length co20)) (fun _ h_ => h_.1))) (Kd.R_base ho0) hb); have n1_ := am (Kd.R_lower (Kd.R_new' ho0 (Kd.R_lt (Rz (Kd.R_mono (Kd.R_far (p := ⟨gb275, 3, none⟩) (Kd.R_far (p := ⟨gb275, 2, none⟩) (Kd.R_far (p := ⟨gb275, 1, none⟩) (Kd.R_far (p := ⟨gb275, 0, none⟩) (Kd.R_types HO273.out BK275.out (by decide)) (fun _ hk => hk.2) (.int .i64 t268)) (fun _ hk => hk.2) (.int .i64 t269)) (fun _ hk => hk.2) (.int .i64 t270)) (fun _ hk => hk.2) (.slice Ao20 t271.length co20)) (fun _ h_ => h_.1))))) (below_size (w := w) (Bq))); have n2_ := am (blk_below (g := gb275) (o := .cells #[.int .i64 t268, .int .i64 t269, .int .i64 t270, .slice Ao20 t271.length co20] 28 (0, 0)) (by (with_reducible repeat (first | refine blk_drewN ?_ _ | refine blk_drew ?_ | refine blk_alloc ?_ _)); refine blk_put (cs := #[.int .i64 t268, .int .i64 t269, .int .i64 t270, .slice none 0 0]) ?_ 3 _ rfl; (with_reducible repeat (first | refine blk_drewN ?_ _ | refine blk_drew ?_ | refine blk_alloc ?_ _)); refine blk_put (cs := #[.int .i64 t268, .int .i64 t269, .int .i64 0, .slice none 0 0]) ?_ 2 _ rfl; (with_reducible repeat (first | refine blk_drewN ?_ _ | refine blk_drew ?_ | refine blk_alloc ?_ _)); refine blk_put (cs := #[.int .i64 t268, .int .i64 0, .int .i64 0, .slice none 0 0]) ?_ 1 _ rfl; (with_reducible repeat (first | refine blk_drewN ?_ _ | refine blk_drew ?_ | refine blk_alloc ?_ _)); refine blk_put (cs := #[.int .i64 0, .int .i64 0, .int .i64 0, .slice none 0 0]) ?_ 0 _ rfl; exact Kz BK275.out) hb); have n3_ := Bc HB hb; clear HO273 BK275 HB; revert n0_ n1_ n2_ n3_; intro HO273 HO278 BK275 HB; (try clear hb); (try clear hb2); (try clear hk); (try clear hi); (try clear ho0); obtain ⟨Ao22, co22, eo22⟩ := Kd.R_slice HO278.out; subst eo22))
        go_ret2
        exact ⟨eZ, Bq⟩
       ·rw [if_neg c16] at H
        have c16b0 : ((t276.length : Int) == 0) = false := beq_eq_false_iff_ne.mpr c16; have c16b1 : ((t276.length : Int) != 0) = true := bne_iff_ne.mpr c16
        have c16b2 : ¬ (t276 = []) := fun h_ => c16 (by rw [h_]; rfl)
        have H' := am H; clear H
        go_wp2_with (first | ((with_reducible refine gate_callee (f := 17) rfl ?_); refine gL (some 40) Try.func17 #[.int .i64 a0, .int .i64 a1, .int .i64 x12_2, .slice A2 l2.length c2] ?_; (with_reducible refine (impl_BloomOf.calls k2 a0 a1 x12_2 _ _ l2 t268 t269 t270 t271 t274 _ ?side1 ?side2 A14.out).mono ?_); (case side1 => exact Cz (Kd.C_below HR2.out HB.out)); (case side2 => exact HC2.out); rintro e w23 ⟨v272, rfl, ho0, hb⟩; refine ⟨_, rfl, ?_⟩; have n0_ := Rl ho0 HB; have n1_ := Bb HB hb; clear HB; revert n0_ n1_; intro HO273 HB; (try clear hb); (try clear hb2); (try clear hk); (try clear hi); (try clear ho0)) | ((with_reducible refine gate_dst (N := 13) rfl ?_); refine bE 13 #[.int .i64 0, .int .i64 0, .int .i64 0, .slice none 0 0] 28 ?_; intro gb275 hg w24 hbox hb; have n0_ := Rb HO273 hb; have n1_ := Bb HB hb; have n2_ := am (hbox); have n3_ := Gl HB hg; have n4_ := Gl HB hg; clear HO273 HB; revert n0_ n1_ n2_ n3_ n4_; intro HO273 HB BK275 GW275 GE275; clear hb hbox hg; obtain ⟨hcz25_0, hcz25_1, hcz25_2, hcz25_3, hfz25_0, hfz25_1, hfz25_2, hfz25_3⟩ := cf4 (w := w24) BK275; obtain ⟨Ao26, co26, eo26⟩ := Kd.R_slice HO273.out; subst eo26) | ((with_reducible refine gate_callee (f := 104) rfl ?_); refine gL (some 46) Try.func104 #[.slice A2 l2.length c2, .slice A3 l3.length c3, .func (.func 105) #[.pointer (some ⟨gb275, 0, none⟩)] #[]] ?_; (with_reducible refine (impl_wrong_at_impl_Bloom_says.calls k2 _ _ l2 _ _ l3  gb275 t268 t269 t270 Ao26 co26 t271 t276 _ ?side1 ?side2 ?side3 ?side4 ?side5 ?side6 ?side7 A15.out).mono ?_); (case side1 => exact Kd.C_below HR2.out (Bq)); (case side2 => exact HC2.out); (case side3 => exact Kd.C_below HR3.out (Bq)); (case side4 => exact HC3.out); (case side5 => (with_reducible repeat (first | refine blk_drewN ?_ _ | refine blk_drew ?_ | refine blk_alloc ?_ _)); refine blk_put (cs := #[.int .i64 t268, .int .i64 t269, .int .i64 t270, .slice none 0 0]) ?_ 3 _ rfl; (with_reducible repeat (first | refine blk_drewN ?_ _ | refine blk_drew ?_ | refine blk_alloc ?_ _)); refine blk_put (cs := #[.int .i64 t268, .int .i64 t269, .int .i64 0, .slice none 0 0]) ?_ 2 _ rfl; (with_reducible repeat (first | refine blk_drewN ?_ _ | refine blk_drew ?_ | refine blk_alloc ?_ _)); refine blk_put (cs := #[.int .i64 t268, .int .i64 0, .int .i64 0, .slice none 0 0]) ?_ 1 _ rfl; (with_reducible repeat (first | refine blk_drewN ?_ _ | refine blk_drew ?_ | refine blk_alloc ?_ _)); refine blk_put (cs := #[.int .i64 0, .int .i64 0, .int .i64 0, .slice none 0 0]) ?_ 0 _ rfl; exact Kz BK275.out); (case side6 => refine (Kd.R_reads' (e := 3) (base := w.heap.size) (ok := fun k_ => True) (n := t271.length) (c := co26) ?_).2.2; exact (Rz (Kd.R_mono (Kd.R_far (p := ⟨gb275, 3, none⟩) (Kd.R_far (p := ⟨gb275, 2, none⟩) (Kd.R_far (p := ⟨gb275, 1, none⟩) (Kd.R_far (p := ⟨gb275, 0, none⟩) (Kd.R_types HO273.out BK275.out (by decide)) (fun _ hk => hk.2) (.int .i64 t268)) (fun _ hk => hk.2) (.int .i64 t269)) (fun _ hk => hk.2) (.int .i64 t270)) (fun _ hk => hk.2) (.slice Ao26 t271.length co26)) (fun _ h_ => h_.1)))); (case side7 => exact (Kd.R_reads' HO273.out).2.1); rintro e w27 ⟨v277, rfl, ho0, hb⟩; refine ⟨_, rfl, ?_⟩; have n0_ := am (Kd.R_elder' (Rz (Kd.R_mono (Kd.R_far (p := ⟨gb275, 3, none⟩) (Kd.R_far (p := ⟨gb275, 2, none⟩) (Kd.R_far (p := ⟨gb275, 1, none⟩) (Kd.R_far (p := ⟨gb275, 0, none⟩) (Kd.R_types HO273.out BK275.out (by decide)) (fun _ hk => hk.2) (.int .i64 t268)) (fun _ hk => hk.2) (.int .i64 t269)) (fun _ hk => hk.2) (.int .i64 t270)) (fun _ hk => hk.2) (.slice Ao26 t271.length co26)) (fun _ h_ => h_.1))) (Kd.R_base ho0) hb); have n1_ := am (Kd.R_lower (Kd.R_new' ho0 (Kd.R_lt (Rz (Kd.R_mono (Kd.R_far (p := ⟨gb275, 3, none⟩) (Kd.R_far (p := ⟨gb275, 2, none⟩) (Kd.R_far (p := ⟨gb275, 1, none⟩) (Kd.R_far (p := ⟨gb275, 0, none⟩) (Kd.R_types HO273.out BK275.out (by decide)) (fun _ hk => hk.2) (.int .i64 t268)) (fun _ hk => hk.2) (.int .i64 t269)) (fun _ hk => hk.2) (.int .i64 t270)) (fun _ hk => hk.2) (.slice Ao26 t271.length co26)) (fun _ h_ => h_.1))))) (below_size (w := w) (Bq))); have n2_ := am (blk_below (g := gb275) (o := .cells #[.int .i64 t268, .int .i64 t269, .int .i64 t270, .slice Ao26 t271.length co26] 28 (0, 0)) (by (with_reducible repeat (first | refine blk_drewN ?_ _ | refine blk_drew ?_ | refine blk_alloc ?_ _)); refine blk_put (cs := #[.int .i64 t268, .int .i64 t269, .int .i64 t270, .slice none 0 0]) ?_ 3 _ rfl; (with_reducible repeat (first | refine blk_drewN ?_ _ | refine blk_drew ?_ | refine blk_alloc ?_ _)); refine blk_put (cs := #[.int .i64 t268, .int .i64 t269, .int .i64 0, .slice none 0 0]) ?_ 2 _ rfl; (with_reducible repeat (first | refine blk_drewN ?_ _ | refine blk_drew ?_ | refine blk_alloc ?_ _)); refine blk_put (cs := #[.int .i64 t268, .int .i64 0, .int .i64 0, .slice none 0 0]) ?_ 1 _ rfl; (with_reducible repeat (first | refine blk_drewN ?_ _ | refine blk_drew ?_ | refine blk_alloc ?_ _)); refine blk_put (cs := #[.int .i64 0, .int .i64 0, .int .i64 0, .slice none 0 0]) ?_ 0 _ rfl; exact Kz BK275.out) hb); have n3_ := Bc HB hb; clear HO273 BK275 HB; revert n0_ n1_ n2_ n3_; intro HO273 HO278 BK275 HB; (try clear hb); (try clear hb2); (try clear hk); (try clear hi); (try clear ho0); obtain ⟨Ao28, co28, eo28⟩ := Kd.R_slice HO278.out; subst eo28))
        go_roundg k2
        case measure => have := HJ5.out; have := HK2.out; omega
        case rel => exact ⟨(wrap64 (x12_2 + 1)), wZ, H', ⟨by have := HJ5.out; have := HK2.out; omega⟩, ⟨Bq⟩⟩
      ·rw [if_neg c13] at H
       have c13b0 : decide (x12_2 ≤ a4) = false := decide_eq_false c13; clear c13
       simp only [Option.some.injEq, Prod.mk.injEq] at H
       obtain ⟨rfl, rfl⟩ := H
       go_wp2
       go_ret2
       exact ⟨eZ, Bz HB.out⟩

def spec_l1All.l0 : Nat → Int → Int → List Int → Int → Int → Option (Bool)
 | 0, _, _, _, _, _ => none
 | k + 1, x1, x2, x9, x10, x11 => if x11 < x10 then (if 0 ≤ x11 then (if x11 < (x9.length : Int) then ((spec_l1In.f (rd x9 x11) x1 x2).bind fun t280 => (if t280 = true then (spec_l1All.l0 k x1 x2 x9 x10 (wrap64 (x11 + 1))) else (some false))) else (none)) else (none)) else (some true)
def spec_l1All.f (k : Nat) (l0 : List Int) (a1 : Int) (a2 : Int) : Option (Bool) := spec_l1All.l0 k a1 a2 l0 (l0.length : Int) 0
theorem spec_l1All.calls (k : Nat) (A0 : Option Addr) (c0 : Nat) (l0 : List Int) (a1 : Int) (a2 : Int) (r : Bool) (w : World) (hr0 : Kd.C (Kd.int .i64) w A0 l0.length l0) (hc0 : l0.length ≤ c0) (h : spec_l1All.f k l0 a1 a2 = some r) :
  Calls Try.prog 161 #[.slice A0 l0.length c0, .int .i64 a1, .int .i64 a2] w fun e w' => e = .returned (.bool r) ∧ Drawn0 w w' := by
 have HR0 := am hr0; have HC0 := am hc0; clear hr0 hc0; have H : (spec_l1All.l0 k a1 a2 l0 (l0.length : Int) 0) = some r := h; clear h; have H' := am H; clear H
 go_enter Try.func161, Try.ntmps161
 go_wp2
 go_loopg [11] k (fun kq v11 w' => ∃ (x11_1 : Int), v11 = .int .i64 x11_1 ∧ Aside0 (spec_l1All.l0 kq a1 a2 l0 (l0.length : Int) x11_1 = some r) ∧ Aside0 (kq ≤ k) ∧ Drawn0 w w')
 case atStart => exact ⟨(0), wZ, H', ⟨Nat.le_refl _⟩, by repeat (first | exact Drawn0.refl _ | apply Drawn0.step)⟩
 case round =>
  clear H'
  try clear c1
  try clear p2
  obtain ⟨x11_1, rfl, HA, HK1, ⟨m1, rfl⟩⟩ := hrel; cases gk with
  | zero => exact absurd HA.out (by simp [spec_l1All.l0])
  | succ k1 =>
   have H := HA.out; clear HA
   simp only [spec_l1All.l0] at H
   by_cases c4 : x11_1 < (l0.length : Int)
   ·rw [if_pos c4] at H
    have c4b0 : decide (x11_1 < (l0.length : Int)) = true := decide_eq_true c4; clear c4
    by_cases c5 : 0 ≤ x11_1
    ·rw [if_pos c5] at H
     have c5b0 : decide (0 ≤ x11_1) = true := decide_eq_true c5; clear c5
     by_cases c6 : x11_1 < (l0.length : Int)
     ·rw [if_pos c6] at H
      have c6b0 : decide (x11_1 < (l0.length : Int)) = true := decide_eq_true c6; clear c6; replace H := Option.bind_eq_some_iff.mp H; obtain ⟨t280, A70, H⟩ := H; (try dsimp -simprocs only at H); have A7 := am A70; clear A70
      by_cases c8 : t280 = true
      ·subst c8
       rw [if_pos rfl] at H; have H' := am H; clear H; obtain ⟨ad279, e279, hx279_0⟩ := Kd.at_int HR0.out x11_1 dT dT; cases e279; have p279 := eT (0 ≤ (x11_1 : Int)); have q279 := eT (x11_1 < (l0.length : Int))
       go_wp2_with (first | ((with_reducible refine gate_callee (f := 151) rfl ?_); refine gL (some 18) Try.func151 #[.int .i64 (rd l0 x11_1), .int .i64 a1, .int .i64 a2] ?_; (with_reducible refine (spec_l1In.calls (rd l0 x11_1) a1 a2 true _ A7.out).mono ?_); rintro e w' ⟨rfl, ⟨nd, rfl⟩⟩; refine ⟨_, rfl, ?_⟩))
       go_roundg k1
       case measure => have := HK1.out; omega
       case rel => exact ⟨(wrap64 (x11_1 + 1)), wZ, H', ⟨by have := HK1.out; omega⟩, by repeat (first | exact Drawn0.refl _ | apply Drawn0.step)⟩
      ·replace c8 := Bool.eq_false_iff.mpr c8
       subst c8
       rw [if_neg (show ¬ (false = true) by decide)] at H; obtain rfl := Option.some.inj H; obtain ⟨ad279, e279, hx279_0⟩ := Kd.at_int HR0.out x11_1 dT dT; cases e279; have p279 := eT (0 ≤ (x11_1 : Int)); have q279 := eT (x11_1 < (l0.length : Int))
       go_wp2_with (first | ((with_reducible refine gate_callee (f := 151) rfl ?_); refine gL (some 18) Try.func151 #[.int .i64 (rd l0 x11_1), .int .i64 a1, .int .i64 a2] ?_; (with_reducible refine (spec_l1In.calls (rd l0 x11_1) a1 a2 false _ A7.out).mono ?_); rintro e w' ⟨rfl, ⟨nd, rfl⟩⟩; refine ⟨_, rfl, ?_⟩))
       go_ret
       exact ⟨by first | rfl | (simp; done) | (simp [*]; done), by repeat (first | exact Drawn0.refl _ | apply Drawn0.step)⟩
     ·rw [if_neg c6] at H
      exact absurd H (by simp)
    ·rw [if_neg c5] at H
     exact absurd H (by simp)
   ·rw [if_neg c4] at H
    have c4b0 : decide (x11_1 < (l0.length : Int)) = false := decide_eq_false c4; clear c4; obtain rfl := Option.some.inj H
    go_wp2
    go_ret
    exact ⟨by first | rfl | (simp; done) | (simp [*]; done), by repeat (first | exact Drawn0.refl _ | apply Drawn0.step)⟩

def spec_biGood.f (k : Nat) (a0_0 : Int) (l0_1 : List Int) : Option (Bool) := (spec_l1In.f a0_0 0 4096).bind fun t282 => (if t282 = true then (if (l0_1.length : Int) = (wrap64 (Int.tdiv (wrap64 (a0_0 + 15)) 16)) then ((spec_l1All.f k l0_1 0 65535).bind fun t283 => (if t283 = true then (if (Int.tmod a0_0 16) = 0 then (some true) else (if 0 ≤ (wrap64 ((l0_1.length : Int) - 1)) then (if (wrap64 ((l0_1.length : Int) - 1)) < (l0_1.length : Int) then (if 0 ≤ (Int.tmod a0_0 16) then (some ((shr .i64 (rd l0_1 (wrap64 ((l0_1.length : Int) - 1))) (Int.tmod a0_0 16)) == 0)) else (none)) else (none)) else (none))) else (some false))) else (some false)) else (some false))
theorem spec_biGood.calls (k : Nat) (a0_0 : Int) (A0_1 : Option Addr) (c0_1 : Nat) (l0_1 : List Int) (r : Bool) (w : World) (hr0_1 : Kd.C (Kd.int .i64) w A0_1 l0_1.length l0_1) (hc0_1 : l0_1.length ≤ c0_1) (h : spec_biGood.f k a0_0 l0_1 = some r) :
  Calls Try.prog 156 #[.agg #[.int .i64 a0_0, .slice A0_1 l0_1.length c0_1]] w fun e w' => e = .returned (.bool r) ∧ Below w.heap.size w w' := by
 have hu26 := Try.underlying26; have HR0_1 := am hr0_1; have HC0_1 := am hc0_1; clear hr0_1 hc0_1; have HB := am (Below.refl w.heap.size w); have H : ((spec_l1In.f a0_0 0 4096).bind fun t282 => (if t282 = true then (if (l0_1.length : Int) = (wrap64 (Int.tdiv (wrap64 (a0_0 + 15)) 16)) then ((spec_l1All.f k l0_1 0 65535).bind fun t283 => (if t283 = true then (if (Int.tmod a0_0 16) = 0 then (some true) else (if 0 ≤ (wrap64 ((l0_1.length : Int) - 1)) then (if (wrap64 ((l0_1.length : Int) - 1)) < (l0_1.length : Int) then (if 0 ≤ (Int.tmod a0_0 16) then (some ((shr .i64 (rd l0_1 (wrap64 ((l0_1.length : Int) - 1))) (Int.tmod a0_0 16)) == 0)) else (none)) else (none)) else (none))) else (some false))) else (some false)) else (some false))) = some r := h; clear h; replace H := Option.bind_eq_some_iff.mp H; obtain ⟨t282, A20, H⟩ := H; (try dsimp -simprocs only at H); have A2 := am A20; clear A20
 by_cases c3 : t282 = true
 ·subst c3
  rw [if_pos rfl] at H
  by_cases c4 : (l0_1.length : Int) = (wrap64 (Int.tdiv (wrap64 (a0_0 + 15)) 16))
  ·rw [if_pos c4] at H
   have c4b0 : ((l0_1.length : Int) == (wrap64 (Int.tdiv (wrap64 (a0_0 + 15)) 16))) = true := beq_iff_eq.mpr c4; have c4b1 : ((l0_1.length : Int) != (wrap64 (Int.tdiv (wrap64 (a0_0 + 15)) 16))) = false := bne_eq_false_iff_eq.mpr c4; clear c4; replace H := Option.bind_eq_some_iff.mp H; obtain ⟨t283, A50, H⟩ := H; (try dsimp -simprocs only at H); have A5 := am A50; clear A50
   by_cases c6 : t283 = true
   ·subst c6
    rw [if_pos rfl] at H
    by_cases c7 : (Int.tmod a0_0 16) = 0
    ·rw [if_pos c7] at H
     have c7b0 : ((Int.tmod a0_0 16) == 0) = true := beq_iff_eq.mpr c7; have c7b1 : ((Int.tmod a0_0 16) != 0) = false := bne_eq_false_iff_eq.mpr c7; clear c7; obtain rfl := Option.some.inj H
     go_enter Try.func156, Try.ntmps156
     go_wp2_with (first | ((with_reducible refine gate_dst (N := 1) rfl ?_); (try (refine gate_guard (by rfl) ?_; dsimp only)); refine bE 1 #[.int .i64 a0_0, .slice A0_1 l0_1.length c0_1] 26 ?_; intro gb281 hg w8 hbox hb; have n0_ := Bb HB hb; have n1_ := am (hbox); have n2_ := Gl HB hg; have n3_ := Gl HB hg; clear HB; revert n0_ n1_ n2_ n3_; intro HB BK281 GW281 GE281; clear hb hbox hg; obtain ⟨hcz9_0, hcz9_1, hfz9_0, hfz9_1⟩ := cf2 (w := w8) BK281) | (go_at_call 151; (with_reducible refine (spec_l1In.calls a0_0 0 4096 true _ A2.out).mono ?_); rintro e w' ⟨rfl, ⟨nd, rfl⟩⟩; (try exact yZ)) | (go_at_call 161; (with_reducible refine (spec_l1All.calls k _ _ l0_1 0 65535 true _ ?side1 ?side2 A5.out).mono ?_); (case side1 => exact Cz (Kd.C_below HR0_1.out (Bq))); (case side2 => exact HC0_1.out); rintro e w' ⟨rfl, ⟨nd, rfl⟩⟩; (try exact yZ)))
     repeat (go_quiet (first | ((with_reducible refine gate_dst (N := 1) rfl ?_); (try (refine gate_guard (by rfl) ?_; dsimp only)); refine bE 1 #[.int .i64 a0_0, .slice A0_1 l0_1.length c0_1] 26 ?_; intro gb281 hg w8 hbox hb; have n0_ := Bb HB hb; have n1_ := am (hbox); have n2_ := Gl HB hg; have n3_ := Gl HB hg; clear HB; revert n0_ n1_ n2_ n3_; intro HB BK281 GW281 GE281; clear hb hbox hg; obtain ⟨hcz9_0, hcz9_1, hfz9_0, hfz9_1⟩ := cf2 (w := w8) BK281) | (go_at_call 151; (with_reducible refine (spec_l1In.calls a0_0 0 4096 true _ A2.out).mono ?_); rintro e w' ⟨rfl, ⟨nd, rfl⟩⟩; (try exact yZ)) | (go_at_call 161; (with_reducible refine (spec_l1All.calls k _ _ l0_1 0 65535 true _ ?side1 ?side2 A5.out).mono ?_); (case side1 => exact Cz (Kd.C_below HR0_1.out (Bq))); (case side2 => exact HC0_1.out); rintro e w' ⟨rfl, ⟨nd, rfl⟩⟩; (try exact yZ))); try go_wp2_with (first | ((with_reducible refine gate_dst (N := 1) rfl ?_); (try (refine gate_guard (by rfl) ?_; dsimp only)); refine bE 1 #[.int .i64 a0_0, .slice A0_1 l0_1.length c0_1] 26 ?_; intro gb281 hg w8 hbox hb; have n0_ := Bb HB hb; have n1_ := am (hbox); have n2_ := Gl HB hg; have n3_ := Gl HB hg; clear HB; revert n0_ n1_ n2_ n3_; intro HB BK281 GW281 GE281; clear hb hbox hg; obtain ⟨hcz9_0, hcz9_1, hfz9_0, hfz9_1⟩ := cf2 (w := w8) BK281) | (go_at_call 151; (with_reducible refine (spec_l1In.calls a0_0 0 4096 true _ A2.out).mono ?_); rintro e w' ⟨rfl, ⟨nd, rfl⟩⟩; (try exact yZ)) | (go_at_call 161; (with_reducible refine (spec_l1All.calls k _ _ l0_1 0 65535 true _ ?side1 ?side2 A5.out).mono ?_); (case side1 => exact Cz (Kd.C_below HR0_1.out (Bq))); (case side2 => exact HC0_1.out); rintro e w' ⟨rfl, ⟨nd, rfl⟩⟩; (try exact yZ))))
     go_ret
     exact ⟨eZ, Bq⟩
    ·rw [if_neg c7] at H
     have c7b0 : ((Int.tmod a0_0 16) == 0) = false := beq_eq_false_iff_ne.mpr c7; have c7b1 : ((Int.tmod a0_0 16) != 0) = true := bne_iff_ne.mpr c7; obtain ⟨ji10, hji10⟩ : ∃ j_ : Int, (wrap64 ((l0_1.length : Int) - 1)) = j_ := ⟨_, rfl⟩
     replace H : (if 0 ≤ (ji10) then (if (ji10) < (l0_1.length : Int) then (if 0 ≤ (Int.tmod a0_0 16) then (some ((shr .i64 (rd l0_1 (ji10)) (Int.tmod a0_0 16)) == 0)) else (none)) else (none)) else (none)) = some r := by first | (rw [hji10] at H; exact H) | (simp only [hji10] at H ⊢; exact H)
     (try rw [hji10] at A2)
     (try rw [hji10] at A5)
     have hji10w : (IntKind.i64.wrap ((l0_1.length : Int) - 1)) = ji10 := (i64_w _).trans hji10
     by_cases c11 : 0 ≤ (ji10)
     ·rw [if_pos c11] at H
      have c11b0 : decide (0 ≤ (ji10)) = true := decide_eq_true c11; clear c11
      by_cases c12 : (ji10) < (l0_1.length : Int)
      ·rw [if_pos c12] at H
       have c12b0 : decide ((ji10) < (l0_1.length : Int)) = true := decide_eq_true c12; clear c12; obtain ⟨ji13, hji13⟩ : ∃ j_ : Int, (Int.tmod a0_0 16) = j_ := ⟨_, rfl⟩
       replace H : (if 0 ≤ (ji13) then (some ((shr .i64 (rd l0_1 (ji10)) (ji13)) == 0)) else (none)) = some r := by first | (rw [hji13] at H; exact H) | (simp only [hji13] at H ⊢; exact H)
       (try rw [hji13] at c7b0)
       (try rw [hji13] at c7b1)
       (try rw [hji13] at A2)
       (try rw [hji13] at A5)
       by_cases c14 : 0 ≤ (ji13)
       ·rw [if_pos c14] at H
        have c14b0 := eq_true c14; have c14b1 : decide (0 ≤ (ji13)) = true := decide_eq_true c14; clear c14; obtain ⟨ji15, hji15⟩ : ∃ j_ : Int, (shr .i64 (rd l0_1 (ji10)) (ji13)) = j_ := ⟨_, rfl⟩
        replace H : (some ((ji15) == 0)) = some r := by first | (rw [hji15] at H; exact H) | (simp only [hji15] at H ⊢; exact H)
        (try rw [hji15] at A2)
        (try rw [hji15] at A5)
        have hji15_ : ((rd l0_1 (ji10)) / 2 ^ min (ji13).toNat 64) = ji15 := hji15; have hji15z : (ji13) ≤ 64 → ((rd l0_1 (ji10)) / 2 ^ (ji13).toNat) = ji15 := shr_small hji15; obtain rfl := Option.some.inj H
        go_enter Try.func156, Try.ntmps156
        go_wp2_with (first | ((with_reducible refine gate_dst (N := 1) rfl ?_); (try (refine gate_guard (by rfl) ?_; dsimp only)); refine bE 1 #[.int .i64 a0_0, .slice A0_1 l0_1.length c0_1] 26 ?_; intro gb281 hg w16 hbox hb; have n0_ := Bb HB hb; have n1_ := am (hbox); have n2_ := Gl HB hg; have n3_ := Gl HB hg; clear HB; revert n0_ n1_ n2_ n3_; intro HB BK281 GW281 GE281; clear hb hbox hg; obtain ⟨hcz17_0, hcz17_1, hfz17_0, hfz17_1⟩ := cf2 (w := w16) BK281) | (go_at_call 151; (with_reducible refine (spec_l1In.calls a0_0 0 4096 true _ A2.out).mono ?_); rintro e w' ⟨rfl, ⟨nd, rfl⟩⟩; (try exact yZ)) | (go_at_call 161; (with_reducible refine (spec_l1All.calls k _ _ l0_1 0 65535 true _ ?side1 ?side2 A5.out).mono ?_); (case side1 => exact Cz (Kd.C_below HR0_1.out (Bq))); (case side2 => exact HC0_1.out); rintro e w' ⟨rfl, ⟨nd, rfl⟩⟩; (try exact yZ); have p284 : 0 ≤ ((ji10) : Int) := dT; have q284 : (ji10) < (l0_1.length : Int) := dT; obtain ⟨ad284, e284, hx284_0⟩ := Kd.at_int HR0_1.out (ji10) p284 q284; cases e284; replace hx284_0 := (HB.out.cell (World.block_lt_of_cell? w _ hx284_0)).trans hx284_0; replace p284 := eq_true p284; replace q284 := eq_true q284))
        repeat (go_quiet (first | ((with_reducible refine gate_dst (N := 1) rfl ?_); (try (refine gate_guard (by rfl) ?_; dsimp only)); refine bE 1 #[.int .i64 a0_0, .slice A0_1 l0_1.length c0_1] 26 ?_; intro gb281 hg w16 hbox hb; have n0_ := Bb HB hb; have n1_ := am (hbox); have n2_ := Gl HB hg; have n3_ := Gl HB hg; clear HB; revert n0_ n1_ n2_ n3_; intro HB BK281 GW281 GE281; clear hb hbox hg; obtain ⟨hcz17_0, hcz17_1, hfz17_0, hfz17_1⟩ := cf2 (w := w16) BK281) | (go_at_call 151; (with_reducible refine (spec_l1In.calls a0_0 0 4096 true _ A2.out).mono ?_); rintro e w' ⟨rfl, ⟨nd, rfl⟩⟩; (try exact yZ)) | (go_at_call 161; (with_reducible refine (spec_l1All.calls k _ _ l0_1 0 65535 true _ ?side1 ?side2 A5.out).mono ?_); (case side1 => exact Cz (Kd.C_below HR0_1.out (Bq))); (case side2 => exact HC0_1.out); rintro e w' ⟨rfl, ⟨nd, rfl⟩⟩; (try exact yZ); have p284 : 0 ≤ ((ji10) : Int) := dT; have q284 : (ji10) < (l0_1.length : Int) := dT; obtain ⟨ad284, e284, hx284_0⟩ := Kd.at_int HR0_1.out (ji10) p284 q284; cases e284; replace hx284_0 := (HB.out.cell (World.block_lt_of_cell? w _ hx284_0)).trans hx284_0; replace p284 := eq_true p284; replace q284 := eq_true q284)); try go_wp2_with (first | ((with_reducible refine gate_dst (N := 1) rfl ?_); (try (refine gate_guard (by rfl) ?_; dsimp only)); refine bE 1 #[.int .i64 a0_0, .slice A0_1 l0_1.length c0_1] 26 ?_; intro gb281 hg w16 hbox hb; have n0_ := Bb HB hb; have n1_ := am (hbox); have n2_ := Gl HB hg; have n3_ := Gl HB hg; clear HB; revert n0_ n1_ n2_ n3_; intro HB BK281 GW281 GE281; clear hb hbox hg; obtain ⟨hcz17_0, hcz17_1, hfz17_0, hfz17_1⟩ := cf2 (w := w16) BK281) | (go_at_call 151; (with_reducible refine (spec_l1In.calls a0_0 0 4096 true _ A2.out).mono ?_); rintro e w' ⟨rfl, ⟨nd, rfl⟩⟩; (try exact yZ)) | (go_at_call 161; (with_reducible refine (spec_l1All.calls k _ _ l0_1 0 65535 true _ ?side1 ?side2 A5.out).mono ?_); (case side1 => exact Cz (Kd.C_below HR0_1.out (Bq))); (case side2 => exact HC0_1.out); rintro e w' ⟨rfl, ⟨nd, rfl⟩⟩; (try exact yZ); have p284 : 0 ≤ ((ji10) : Int) := dT; have q284 : (ji10) < (l0_1.length : Int) := dT; obtain ⟨ad284, e284, hx284_0⟩ := Kd.at_int HR0_1.out (ji10) p284 q284; cases e284; replace hx284_0 := (HB.out.cell (World.block_lt_of_cell? w _ hx284_0)).trans hx284_0; replace p284 := eq_true p284; replace q284 := eq_true q284)))
        go_ret
        exact ⟨by first | rfl | (simp [errW_none, errW_some] <;> rfl) | (simp only [← hji10, ← hji13, ← hji15]; first | rfl | (simp [errW_none, errW_some] <;> rfl)) | (simp [*, errW_none, errW_some] <;> rfl), Bq⟩
       ·rw [if_neg c14] at H
        exact absurd H (by simp)
      ·rw [if_neg c12] at H
       exact absurd H (by simp)
     ·rw [if_neg c11] at H
      exact absurd H (by simp)
   ·replace c6 := Bool.eq_false_iff.mpr c6
    subst c6
    rw [if_neg (show ¬ (false = true) by decide)] at H; obtain rfl := Option.some.inj H
    go_enter Try.func156, Try.ntmps156
    go_wp2_with (first | ((with_reducible refine gate_dst (N := 1) rfl ?_); (try (refine gate_guard (by rfl) ?_; dsimp only)); refine bE 1 #[.int .i64 a0_0, .slice A0_1 l0_1.length c0_1] 26 ?_; intro gb281 hg w18 hbox hb; have n0_ := Bb HB hb; have n1_ := am (hbox); have n2_ := Gl HB hg; have n3_ := Gl HB hg; clear HB; revert n0_ n1_ n2_ n3_; intro HB BK281 GW281 GE281; clear hb hbox hg; obtain ⟨hcz19_0, hcz19_1, hfz19_0, hfz19_1⟩ := cf2 (w := w18) BK281) | (go_at_call 151; (with_reducible refine (spec_l1In.calls a0_0 0 4096 true _ A2.out).mono ?_); rintro e w' ⟨rfl, ⟨nd, rfl⟩⟩; (try exact yZ)) | (go_at_call 161; (with_reducible refine (spec_l1All.calls k _ _ l0_1 0 65535 false _ ?side1 ?side2 A5.out).mono ?_); (case side1 => exact Cz (Kd.C_below HR0_1.out (Bq))); (case side2 => exact HC0_1.out); rintro e w' ⟨rfl, ⟨nd, rfl⟩⟩; (try exact yZ)))
    repeat (go_quiet (first | ((with_reducible refine gate_dst (N := 1) rfl ?_); (try (refine gate_guard (by rfl) ?_; dsimp only)); refine bE 1 #[.int .i64 a0_0, .slice A0_1 l0_1.length c0_1] 26 ?_; intro gb281 hg w18 hbox hb; have n0_ := Bb HB hb; have n1_ := am (hbox); have n2_ := Gl HB hg; have n3_ := Gl HB hg; clear HB; revert n0_ n1_ n2_ n3_; intro HB BK281 GW281 GE281; clear hb hbox hg; obtain ⟨hcz19_0, hcz19_1, hfz19_0, hfz19_1⟩ := cf2 (w := w18) BK281) | (go_at_call 151; (with_reducible refine (spec_l1In.calls a0_0 0 4096 true _ A2.out).mono ?_); rintro e w' ⟨rfl, ⟨nd, rfl⟩⟩; (try exact yZ)) | (go_at_call 161; (with_reducible refine (spec_l1All.calls k _ _ l0_1 0 65535 false _ ?side1 ?side2 A5.out).mono ?_); (case side1 => exact Cz (Kd.C_below HR0_1.out (Bq))); (case side2 => exact HC0_1.out); rintro e w' ⟨rfl, ⟨nd, rfl⟩⟩; (try exact yZ))); try go_wp2_with (first | ((with_reducible refine gate_dst (N := 1) rfl ?_); (try (refine gate_guard (by rfl) ?_; dsimp only)); refine bE 1 #[.int .i64 a0_0, .slice A0_1 l0_1.length c0_1] 26 ?_; intro gb281 hg w18 hbox hb; have n0_ := Bb HB hb; have n1_ := am (hbox); have n2_ := Gl HB hg; have n3_ := Gl HB hg; clear HB; revert n0_ n1_ n2_ n3_; intro HB BK281 GW281 GE281; clear hb hbox hg; obtain ⟨hcz19_0, hcz19_1, hfz19_0, hfz19_1⟩ := cf2 (w := w18) BK281) | (go_at_call 151; (with_reducible refine (spec_l1In.calls a0_0 0 4096 true _ A2.out).mono ?_); rintro e w' ⟨rfl, ⟨nd, rfl⟩⟩; (try exact yZ)) | (go_at_call 161; (with_reducible refine (spec_l1All.calls k _ _ l0_1 0 65535 false _ ?side1 ?side2 A5.out).mono ?_); (case side1 => exact Cz (Kd.C_below HR0_1.out (Bq))); (case side2 => exact HC0_1.out); rintro e w' ⟨rfl, ⟨nd, rfl⟩⟩; (try exact yZ))))
    go_ret
    exact ⟨eZ, Bq⟩
  ·rw [if_neg c4] at H
   have c4b0 : ((l0_1.length : Int) == (wrap64 (Int.tdiv (wrap64 (a0_0 + 15)) 16))) = false := beq_eq_false_iff_ne.mpr c4; have c4b1 : ((l0_1.length : Int) != (wrap64 (Int.tdiv (wrap64 (a0_0 + 15)) 16))) = true := bne_iff_ne.mpr c4; obtain rfl := Option.some.inj H
   go_enter Try.func156, Try.ntmps156
   go_wp2_with (first | ((with_reducible refine gate_dst (N := 1) rfl ?_); (try (refine gate_guard (by rfl) ?_; dsimp only)); refine bE 1 #[.int .i64 a0_0, .slice A0_1 l0_1.length c0_1] 26 ?_; intro gb281 hg w20 hbox hb; have n0_ := Bb HB hb; have n1_ := am (hbox); have n2_ := Gl HB hg; have n3_ := Gl HB hg; clear HB; revert n0_ n1_ n2_ n3_; intro HB BK281 GW281 GE281; clear hb hbox hg; obtain ⟨hcz21_0, hcz21_1, hfz21_0, hfz21_1⟩ := cf2 (w := w20) BK281) | (go_at_call 151; (with_reducible refine (spec_l1In.calls a0_0 0 4096 true _ A2.out).mono ?_); rintro e w' ⟨rfl, ⟨nd, rfl⟩⟩; (try exact yZ)))
   repeat (go_quiet (first | ((with_reducible refine gate_dst (N := 1) rfl ?_); (try (refine gate_guard (by rfl) ?_; dsimp only)); refine bE 1 #[.int .i64 a0_0, .slice A0_1 l0_1.length c0_1] 26 ?_; intro gb281 hg w20 hbox hb; have n0_ := Bb HB hb; have n1_ := am (hbox); have n2_ := Gl HB hg; have n3_ := Gl HB hg; clear HB; revert n0_ n1_ n2_ n3_; intro HB BK281 GW281 GE281; clear hb hbox hg; obtain ⟨hcz21_0, hcz21_1, hfz21_0, hfz21_1⟩ := cf2 (w := w20) BK281) | (go_at_call 151; (with_reducible refine (spec_l1In.calls a0_0 0 4096 true _ A2.out).mono ?_); rintro e w' ⟨rfl, ⟨nd, rfl⟩⟩; (try exact yZ))); try go_wp2_with (first | ((with_reducible refine gate_dst (N := 1) rfl ?_); (try (refine gate_guard (by rfl) ?_; dsimp only)); refine bE 1 #[.int .i64 a0_0, .slice A0_1 l0_1.length c0_1] 26 ?_; intro gb281 hg w20 hbox hb; have n0_ := Bb HB hb; have n1_ := am (hbox); have n2_ := Gl HB hg; have n3_ := Gl HB hg; clear HB; revert n0_ n1_ n2_ n3_; intro HB BK281 GW281 GE281; clear hb hbox hg; obtain ⟨hcz21_0, hcz21_1, hfz21_0, hfz21_1⟩ := cf2 (w := w20) BK281) | (go_at_call 151; (with_reducible refine (spec_l1In.calls a0_0 0 4096 true _ A2.out).mono ?_); rintro e w' ⟨rfl, ⟨nd, rfl⟩⟩; (try exact yZ))))
   go_ret
   exact ⟨eZ, Bq⟩
 ·replace c3 := Bool.eq_false_iff.mpr c3
  subst c3
  rw [if_neg (show ¬ (false = true) by decide)] at H; obtain rfl := Option.some.inj H
  go_enter Try.func156, Try.ntmps156
  go_wp2_with (first | ((with_reducible refine gate_dst (N := 1) rfl ?_); (try (refine gate_guard (by rfl) ?_; dsimp only)); refine bE 1 #[.int .i64 a0_0, .slice A0_1 l0_1.length c0_1] 26 ?_; intro gb281 hg w22 hbox hb; have n0_ := Bb HB hb; have n1_ := am (hbox); have n2_ := Gl HB hg; have n3_ := Gl HB hg; clear HB; revert n0_ n1_ n2_ n3_; intro HB BK281 GW281 GE281; clear hb hbox hg; obtain ⟨hcz23_0, hcz23_1, hfz23_0, hfz23_1⟩ := cf2 (w := w22) BK281) | (go_at_call 151; (with_reducible refine (spec_l1In.calls a0_0 0 4096 false _ A2.out).mono ?_); rintro e w' ⟨rfl, ⟨nd, rfl⟩⟩; (try exact yZ)))
  repeat (go_quiet (first | ((with_reducible refine gate_dst (N := 1) rfl ?_); (try (refine gate_guard (by rfl) ?_; dsimp only)); refine bE 1 #[.int .i64 a0_0, .slice A0_1 l0_1.length c0_1] 26 ?_; intro gb281 hg w22 hbox hb; have n0_ := Bb HB hb; have n1_ := am (hbox); have n2_ := Gl HB hg; have n3_ := Gl HB hg; clear HB; revert n0_ n1_ n2_ n3_; intro HB BK281 GW281 GE281; clear hb hbox hg; obtain ⟨hcz23_0, hcz23_1, hfz23_0, hfz23_1⟩ := cf2 (w := w22) BK281) | (go_at_call 151; (with_reducible refine (spec_l1In.calls a0_0 0 4096 false _ A2.out).mono ?_); rintro e w' ⟨rfl, ⟨nd, rfl⟩⟩; (try exact yZ))); try go_wp2_with (first | ((with_reducible refine gate_dst (N := 1) rfl ?_); (try (refine gate_guard (by rfl) ?_; dsimp only)); refine bE 1 #[.int .i64 a0_0, .slice A0_1 l0_1.length c0_1] 26 ?_; intro gb281 hg w22 hbox hb; have n0_ := Bb HB hb; have n1_ := am (hbox); have n2_ := Gl HB hg; have n3_ := Gl HB hg; clear HB; revert n0_ n1_ n2_ n3_; intro HB BK281 GW281 GE281; clear hb hbox hg; obtain ⟨hcz23_0, hcz23_1, hfz23_0, hfz23_1⟩ := cf2 (w := w22) BK281) | (go_at_call 151; (with_reducible refine (spec_l1In.calls a0_0 0 4096 false _ A2.out).mono ?_); rintro e w' ⟨rfl, ⟨nd, rfl⟩⟩; (try exact yZ))))
  go_ret
  exact ⟨eZ, Bq⟩

def spec_fiGood.f (k : Nat) (a0_0 : Int) (a0_1 : Int) (a0_2 : Int) (l0_3 : List Int) : Option (Bool) := (spec_biGood.f k a0_2 l0_3).bind fun t286 => (if t286 = true then ((spec_fiSize.f a0_0 a0_1 a0_2).bind fun t287 => (some t287)) else (some false))
theorem spec_fiGood.calls (k : Nat) (a0_0 : Int) (a0_1 : Int) (a0_2 : Int) (A0_3 : Option Addr) (c0_3 : Nat) (l0_3 : List Int) (r : Bool) (w : World) (hr0_3 : Kd.C (Kd.int .i64) w A0_3 l0_3.length l0_3) (hc0_3 : l0_3.length ≤ c0_3) (h : spec_fiGood.f k a0_0 a0_1 a0_2 l0_3 = some r) :
  Calls Try.prog 94 #[.agg #[.int .i64 a0_0, .int .i64 a0_1, .int .i64 a0_2, .slice A0_3 l0_3.length c0_3]] w fun e w' => e = .returned (.bool r) ∧ Below w.heap.size w w' := by
 have hu28 := Try.underlying28; have hu26 := Try.underlying26; have HR0_3 := am hr0_3; have HC0_3 := am hc0_3; clear hr0_3 hc0_3; have HB := am (Below.refl w.heap.size w); have H : ((spec_biGood.f k a0_2 l0_3).bind fun t286 => (if t286 = true then ((spec_fiSize.f a0_0 a0_1 a0_2).bind fun t287 => (some t287)) else (some false))) = some r := h; clear h; replace H := Option.bind_eq_some_iff.mp H; obtain ⟨t286, A20, H⟩ := H; (try dsimp -simprocs only at H); have A2 := am A20; clear A20
 by_cases c3 : t286 = true
 ·subst c3
  rw [if_pos rfl] at H; replace H := Option.bind_eq_some_iff.mp H; obtain ⟨t287, A40, H⟩ := H; (try dsimp -simprocs only at H); have A4 := am A40; clear A40; obtain rfl := Option.some.inj H
  go_enter Try.func94, Try.ntmps94
  go_wp2_with (first | ((with_reducible refine gate_dst (N := 1) rfl ?_); refine bE 1 #[.int .i64 a0_0, .int .i64 a0_1, .int .i64 a0_2, .slice A0_3 l0_3.length c0_3] 28 ?_; intro gb285 hg w5 hbox hb; have n0_ := Bb HB hb; have n1_ := am (hbox); have n2_ := Gl HB hg; have n3_ := Gl HB hg; clear HB; revert n0_ n1_ n2_ n3_; intro HB BK285 GW285 GE285; clear hb hbox hg; obtain ⟨hcz6_0, hcz6_1, hcz6_2, hcz6_3, hfz6_0, hfz6_1, hfz6_2, hfz6_3⟩ := cf4 (w := w5) BK285) | ((with_reducible refine gate_callee (f := 156) rfl ?_); refine gL (some 5) Try.func156 #[.agg #[.int .i64 a0_2, .slice A0_3 l0_3.length c0_3]] ?_; (with_reducible refine (spec_biGood.calls k a0_2 _ _ l0_3 true _ ?side1 ?side2 A2.out).mono ?_); (case side1 => exact Cz (Kd.C_below HR0_3.out HB.out)); (case side2 => exact HC0_3.out); rintro e w7 ⟨rfl, hb⟩; refine ⟨_, rfl, ?_⟩; have n0_ := Kb BK285 hb; have n1_ := Bc HB hb; clear BK285 HB; revert n0_ n1_; intro BK285 HB; (try clear hb); (try clear hb2); (try clear hk); (try clear hi); obtain ⟨hcz8_0, hcz8_1, hcz8_2, hcz8_3, hfz8_0, hfz8_1, hfz8_2, hfz8_3⟩ := cf4 (w := w7) BK285) | (go_at_call 83; (with_reducible refine (spec_fiSize.calls a0_0 a0_1 a0_2 t287 _ A4.out).mono ?_); rintro e w' ⟨rfl, ⟨nd, rfl⟩⟩))
  go_ret
  exact ⟨eZ, Bq⟩
 ·replace c3 := Bool.eq_false_iff.mpr c3
  subst c3
  rw [if_neg (show ¬ (false = true) by decide)] at H; obtain rfl := Option.some.inj H
  go_enter Try.func94, Try.ntmps94
  go_wp2_with (first | ((with_reducible refine gate_dst (N := 1) rfl ?_); refine bE 1 #[.int .i64 a0_0, .int .i64 a0_1, .int .i64 a0_2, .slice A0_3 l0_3.length c0_3] 28 ?_; intro gb285 hg w9 hbox hb; have n0_ := Bb HB hb; have n1_ := am (hbox); have n2_ := Gl HB hg; have n3_ := Gl HB hg; clear HB; revert n0_ n1_ n2_ n3_; intro HB BK285 GW285 GE285; clear hb hbox hg; obtain ⟨hcz10_0, hcz10_1, hcz10_2, hcz10_3, hfz10_0, hfz10_1, hfz10_2, hfz10_3⟩ := cf4 (w := w9) BK285) | ((with_reducible refine gate_callee (f := 156) rfl ?_); refine gL (some 5) Try.func156 #[.agg #[.int .i64 a0_2, .slice A0_3 l0_3.length c0_3]] ?_; (with_reducible refine (spec_biGood.calls k a0_2 _ _ l0_3 false _ ?side1 ?side2 A2.out).mono ?_); (case side1 => exact Cz (Kd.C_below HR0_3.out HB.out)); (case side2 => exact HC0_3.out); rintro e w11 ⟨rfl, hb⟩; refine ⟨_, rfl, ?_⟩; have n0_ := Kb BK285 hb; have n1_ := Bc HB hb; clear BK285 HB; revert n0_ n1_; intro BK285 HB; (try clear hb); (try clear hb2); (try clear hk); (try clear hi)))
  go_ret
  exact ⟨eZ, Bq⟩

mutual
def spec_fiLetters.l0 : Nat → ByteArray → Int → Option (Bool)
 | 0, _, _ => none
 | k + 1, x0, x3 => if x3 < (x0.size : Int) then (spec_fiLetters.l1 k x0 x3 0) else ((spec_IsKey.f k x0).bind fun t288 => (some t288))
def spec_fiLetters.l1 : Nat → ByteArray → Int → Int → Option (Bool)
 | 0, _, _, _ => none
 | k + 1, x0, x3, x4 => if x4 < x3 then (if 0 ≤ x3 then (if x3 < (x0.size : Int) then (if 0 ≤ x4 then (if x4 < (x0.size : Int) then (if (bt x0 x3) = (bt x0 x4) then (some false) else (spec_fiLetters.l1 k x0 x3 (wrap64 (x4 + 1)))) else (none)) else (none)) else (none)) else (none)) else (spec_fiLetters.l0 k x0 (wrap64 (x3 + 1)))
end
def spec_fiLetters.f (k : Nat) (a0 : ByteArray) : Option (Bool) := spec_fiLetters.l0 k a0 0
theorem spec_fiLetters.calls (k : Nat) (a0 : ByteArray) (r : Bool) (w : World) (h : spec_fiLetters.f k a0 = some r) :
  Calls Try.prog 164 #[.string a0] w fun e w' => e = .returned (.bool r) ∧ Drawn0 w w' := by
 have H : (spec_fiLetters.l0 k a0 0) = some r := h; clear h; have H' := am H; clear H
 go_enter Try.func164, Try.ntmps164
 go_wp2
 repeat (go_quiet (fail); try go_wp2)
 go_loopg [3] k (fun kq v3 w' => ∃ (x3_1 : Int), v3 = .int .i64 x3_1 ∧ Aside0 (spec_fiLetters.l0 kq a0 x3_1 = some r) ∧ Aside0 (kq ≤ k) ∧ Drawn0 w w')
 case atStart => exact ⟨(0), wZ, H', ⟨Nat.le_refl _⟩, by repeat (first | exact Drawn0.refl _ | apply Drawn0.step)⟩
 case round =>
  clear H'
  try clear c1
  obtain ⟨x3_1, rfl, HA, HK1, ⟨m1, rfl⟩⟩ := hrel; cases gk with
  | zero => exact absurd HA.out (by simp [spec_fiLetters.l0])
  | succ k1 =>
   have H := HA.out; clear HA
   simp only [spec_fiLetters.l0] at H
   by_cases c2 : x3_1 < (a0.size : Int)
   ·rw [if_pos c2] at H
    have c2b0 : decide (x3_1 < (a0.size : Int)) = true := decide_eq_true c2; clear c2; have H' := am H; clear H
    go_wp2
    repeat (go_quiet (fail); try go_wp2)
    go_loopg [4] k1 (fun kq v4 w' => ∃ (x4_2 : Int), v4 = .int .i64 x4_2 ∧ Aside0 (spec_fiLetters.l1 kq a0 x3_1 x4_2 = some r) ∧ Aside0 (kq ≤ k1) ∧ Drawn0 w w')
    case atStart => exact ⟨(0), wZ, H', ⟨Nat.le_refl _⟩, by repeat (first | exact Drawn0.refl _ | apply Drawn0.step)⟩
    case round =>
     clear H'
     try clear c1
     try clear c2
     try clear c2b0
     try clear p2
     obtain ⟨x4_2, rfl, HA, HK2, ⟨m2, rfl⟩⟩ := hrel; cases gk with
     | zero => exact absurd HA.out (by simp [spec_fiLetters.l1])
     | succ k2 =>
      have H := HA.out; clear HA
      simp only [spec_fiLetters.l1] at H
      by_cases c3 : x4_2 < x3_1
      ·rw [if_pos c3] at H
       have c3b0 : decide (x4_2 < x3_1) = true := decide_eq_true c3; clear c3
       by_cases c4 : 0 ≤ x3_1
       ·rw [if_pos c4] at H
        have c4b0 : decide (0 ≤ x3_1) = true := decide_eq_true c4; clear c4
        by_cases c5 : x3_1 < (a0.size : Int)
        ·rw [if_pos c5] at H
         have c5b0 : decide (x3_1 < (a0.size : Int)) = true := decide_eq_true c5; clear c5
         by_cases c7 : 0 ≤ x4_2
         ·rw [if_pos c7] at H
          have c7b0 : decide (0 ≤ x4_2) = true := decide_eq_true c7; clear c7
          by_cases c8 : x4_2 < (a0.size : Int)
          ·rw [if_pos c8] at H
           have c8b0 : decide (x4_2 < (a0.size : Int)) = true := decide_eq_true c8; clear c8
           by_cases c10 : (bt a0 x3_1) = (bt a0 x4_2)
           ·rw [if_pos c10] at H
            have c10b0 : ((bt a0 x3_1) == (bt a0 x4_2)) = true := beq_iff_eq.mpr c10; have c10b1 : ((bt a0 x3_1) != (bt a0 x4_2)) = false := bne_eq_false_iff_eq.mpr c10; clear c10; obtain rfl := Option.some.inj H; have p6 : 0 ≤ (x3_1 : Int) := dT; have q6 : x3_1 < (a0.size : Int) := dT; have hx6 := bt_at a0 x3_1; replace p6 := eq_true p6; replace q6 := eq_true q6; have p9 : 0 ≤ (x4_2 : Int) := dT; have q9 : x4_2 < (a0.size : Int) := dT; have hx9 := bt_at a0 x4_2; replace p9 := eq_true p9; replace q9 := eq_true q9
            go_wp2
            repeat (go_quiet (fail); try go_wp2)
            go_ret
            exact ⟨by first | rfl | (simp; done) | (simp [*]; done), by repeat (first | exact Drawn0.refl _ | apply Drawn0.step)⟩
           ·rw [if_neg c10] at H
            have c10b0 : ((bt a0 x3_1) == (bt a0 x4_2)) = false := beq_eq_false_iff_ne.mpr c10; have c10b1 : ((bt a0 x3_1) != (bt a0 x4_2)) = true := bne_iff_ne.mpr c10; have H' := am H; clear H; have p6 : 0 ≤ (x3_1 : Int) := dT; have q6 : x3_1 < (a0.size : Int) := dT; have hx6 := bt_at a0 x3_1; replace p6 := eq_true p6; replace q6 := eq_true q6; have p9 : 0 ≤ (x4_2 : Int) := dT; have q9 : x4_2 < (a0.size : Int) := dT; have hx9 := bt_at a0 x4_2; replace p9 := eq_true p9; replace q9 := eq_true q9
            go_wp2
            repeat (go_quiet (fail); try go_wp2)
            go_roundg k2
            case measure => have := HK1.out; have := HK2.out; omega
            case rel => exact ⟨(wrap64 (x4_2 + 1)), wZ, H', ⟨by have := HK1.out; have := HK2.out; omega⟩, by repeat (first | exact Drawn0.refl _ | apply Drawn0.step)⟩
          ·rw [if_neg c8] at H
           exact absurd H (by simp)
         ·rw [if_neg c7] at H
          exact absurd H (by simp)
        ·rw [if_neg c5] at H
         exact absurd H (by simp)
       ·rw [if_neg c4] at H
        exact absurd H (by simp)
      ·rw [if_neg c3] at H
       have c3b0 : decide (x4_2 < x3_1) = false := decide_eq_false c3; clear c3; have H' := am H; clear H
       go_wp2
       repeat (go_quiet (fail); try go_wp2)
       go_roundg k2
       case measure => have := HK1.out; have := HK2.out; omega
       case rel => exact ⟨(wrap64 (x3_1 + 1)), wZ, H', ⟨by have := HK1.out; have := HK2.out; omega⟩, by repeat (first | exact Drawn0.refl _ | apply Drawn0.step)⟩
   ·rw [if_neg c2] at H
    have c2b0 : decide (x3_1 < (a0.size : Int)) = false := decide_eq_false c2; clear c2; replace H := Option.bind_eq_some_iff.mp H; obtain ⟨t288, A110, H⟩ := H; (try dsimp -simprocs only at H); have A11 := am A110; clear A110; obtain rfl := Option.some.inj H
    go_wp2_with (first | (go_at_call 95; (with_reducible refine (spec_IsKey.calls k1 a0 t288 _ A11.out).mono ?_); rintro e w' ⟨rfl, ⟨nd, rfl⟩⟩; (try exact yZ)))
    repeat (go_quiet (first | (go_at_call 95; (with_reducible refine (spec_IsKey.calls k1 a0 t288 _ A11.out).mono ?_); rintro e w' ⟨rfl, ⟨nd, rfl⟩⟩; (try exact yZ))); try go_wp2_with (first | (go_at_call 95; (with_reducible refine (spec_IsKey.calls k1 a0 t288 _ A11.out).mono ?_); rintro e w' ⟨rfl, ⟨nd, rfl⟩⟩; (try exact yZ))))
    go_ret
    exact ⟨by first | rfl | (simp; done) | (simp [*]; done), by repeat (first | exact Drawn0.refl _ | apply Drawn0.step)⟩

mutual
def spec_fiTexts.l0 : Nat → ByteArray → Int → List ByteArray → Option (List ByteArray × Bool)
 | 0, _, _, _ => none
 | k + 1, x0, x1, x6 => if x1 > 0 then (spec_fiTexts.l1 k x0 x1 ([] : List ByteArray) x6 (x6.length : Int) 0) else (some (x6, true))
def spec_fiTexts.l1 : Nat → ByteArray → Int → List ByteArray → List ByteArray → Int → Int → Option (List ByteArray × Bool)
 | 0, _, _, _, _, _, _ => none
 | k + 1, x0, x1, x7, x16, x17, x18 => if x18 < x17 then (if 0 ≤ x18 then (if x18 < (x16.length : Int) then (spec_fiTexts.l2 k x0 x1 x7 (rdOf ByteArray.empty x16 x18) 0 x16 x17 x18) else (none)) else (none)) else (if (x7.length : Int) > 300 then (some (([] : List ByteArray), false)) else (spec_fiTexts.l0 k x0 (wrap64 (x1 - 1)) x7))
def spec_fiTexts.l2 : Nat → ByteArray → Int → List ByteArray → ByteArray → Int → List ByteArray → Int → Int → Option (List ByteArray × Bool)
 | 0, _, _, _, _, _, _, _, _ => none
 | k + 1, x0, x1, x7, x9, x10, x16, x17, x18 => if x10 < (x0.size : Int) then (if 0 ≤ x10 then (if x10 ≤ (wrap64 (x10 + 1)) then (if (wrap64 (x10 + 1)) ≤ (x0.size : Int) then (if x9.size + (x0.extract (x10 : Int).toNat ((wrap64 (x10 + 1)) : Int).toNat).size ≤ 9223372036854775807 then (if x7.length < 8796093022208 then (spec_fiTexts.l2 k x0 x1 (x7 ++ [x9 ++ (x0.extract (x10 : Int).toNat ((wrap64 (x10 + 1)) : Int).toNat)]) x9 (wrap64 (x10 + 1)) x16 x17 x18) else (none)) else (none)) else (none)) else (none)) else (none)) else (spec_fiTexts.l1 k x0 x1 x7 x16 x17 (wrap64 (x18 + 1)))
end
def spec_fiTexts.f (k : Nat) (a0 : ByteArray) (a1 : Int) : Option (List ByteArray × Bool) := spec_fiTexts.l0 k a0 a1 (([(⟨#[]⟩ : ByteArray)] : List ByteArray))
theorem spec_fiTexts.calls (k : Nat) (a0 : ByteArray) (a1 : Int) (r1 : List ByteArray) (r2 : Bool) (w : World) (h : spec_fiTexts.f k a0 a1 = some (r1, r2)) :
  Calls Try.prog 165 #[.string a0, .int .i64 a1] w fun e w' => ∃ v0_ : Value, e = .returned (.tuple #[v0_, .bool r2]) ∧ Kd.R Kd.string 9 w' w.heap.size (fun _ => True) v0_ r1 ∧ Below w.heap.size w w' := by
 have HB := am (Below.refl w.heap.size w); have H : (spec_fiTexts.l0 k a0 a1 (([(⟨#[]⟩ : ByteArray)] : List ByteArray))) = some (r1, r2) := h; clear h; obtain ⟨y289, hy289⟩ : ∃ y_ : List ByteArray, y_ = (([(⟨#[]⟩ : ByteArray)] : List ByteArray)) := ⟨_, rfl⟩
 replace H : (spec_fiTexts.l0 k a0 a1 y289) = some (r1, r2) := by first | (rw [hy289]; with_reducible exact H) | (have H2_ := (Option.bind_some _ _).symm.trans H; rw [hy289]; with_reducible exact H2_) | (have H2_ := (Option.bind_some _ _).symm.trans H; with_reducible exact H2_) | with_reducible exact H | (rw [hy289]; exact H) | exact H
 have Ny289 := am hy289; clear hy289; have H' := am H; clear H
 go_enter Try.func165, Try.ntmps165
 go_wp2_with (first | ((with_reducible refine gate_dst (N := 11) rfl ?_); refine Kd.R_lit Kd.string _ 9 ?hg (N := 11) ?hd (xs := ([(⟨#[]⟩ : ByteArray)] : List ByteArray)) (inner := [.string (⟨#[]⟩ : ByteArray)]) (ok := fun _ => True) (okp := fun _ => True) ?hr ?hp (fun _ hk => hk) trivial (Below.refl _ _) (Nat.le_refl _) (by simp) ?_; (case hd => rfl); (case hg => rfl); (case hr => first | (go_simp; done) | (go_simp; rfl)); (case hp => exact (Reps.one (show Kd.M Kd.string _ _ _ (⟨#[]⟩ : ByteArray) [.string (⟨#[]⟩ : ByteArray)] from rfl) (Reps.none _ _))); intro v290 w3 ho4 hb hg_ hnew_; clear hg_ hnew_; (first | rw [← Ny289.out] at ho4 | (simp only [Int.reduceToNat] at ho4; rw [← Ny289.out] at ho4)); have n0_ := Rl ho4 HB; have n1_ := Bb HB hb; clear HB; revert n0_ n1_; intro HO291 HB; clear hb ho4))
 (try simp only [aP])
 go_loopg [1, 6] k (fun kq v1 v6 w' => ∃ (x1_1 : Int) (x6_1 : List ByteArray), v1 = .int .i64 x1_1 ∧ Aside0 (spec_fiTexts.l0 kq a0 x1_1 x6_1 = some (r1, r2)) ∧ Aside0 (kq ≤ k) ∧ Aside0 (Kd.R Kd.string 9 w' w.heap.size (fun _ => True) v6 x6_1) ∧ Aside0 (Below w.heap.size w w'))
 case atStart => exact ⟨(a1), (y289), wZ, H', ⟨Nat.le_refl _⟩, ⟨Rz HO291.out⟩, ⟨Bz HB.out⟩⟩
 case round =>
  clear H'
  try clear c1
  try clear p2
  obtain ⟨x1_1, x6_1, rfl, HA, HK1, HO_6, HB⟩ := hrel; cases gk with
  | zero => exact absurd HA.out (by simp [spec_fiTexts.l0])
  | succ k1 =>
   have H := HA.out; clear HA
   simp only [spec_fiTexts.l0] at H
   by_cases c5 : x1_1 > 0
   ·rw [if_pos c5] at H
    have c5b0 : decide (0 < x1_1) = true := decide_eq_true c5; clear c5; have H' := am H; clear H; obtain ⟨Ao6, co6, eo6⟩ := Kd.R_slice HO_6.out; subst eo6
    go_wp2
    go_loopg [7, 18] k1 (fun kq v7 v18 w' => ∃ (x7_2 : List ByteArray) (x18_2 : Int), v18 = .int .i64 x18_2 ∧ Aside0 (spec_fiTexts.l1 kq a0 x1_1 x7_2 x6_1 (x6_1.length : Int) x18_2 = some (r1, r2)) ∧ Aside0 (kq ≤ k1) ∧ Aside0 (Kd.R Kd.string 9 w' w.heap.size (fun k_ => some k_ ≠ ((.slice Ao6 x6_1.length co6) : Value).ownBlock) v7 x7_2) ∧ Aside0 (Kd.R Kd.string 9 w' w.heap.size (fun k_ => some k_ ≠ (v7 : Value).ownBlock) (.slice Ao6 x6_1.length co6) x6_1) ∧ Aside0 (Below w.heap.size w w'))
    case atStart => exact ⟨(([] : List ByteArray)), (0), wZ, H', ⟨Nat.le_refl _⟩, ⟨nZ⟩, ⟨Rz (Kd.R_mono HO_6.out (fun _ hk => (by simp [Value.ownBlock])))⟩, ⟨Bz HB.out⟩⟩
    case round =>
     clear H'
     try clear c1
     try clear p2
     try clear c5
     try clear c5b0
     try clear p2
     obtain ⟨x7_2, x18_2, rfl, HA, HK2, HO_7, HO_16, HB⟩ := hrel; cases gk with
     | zero => exact absurd HA.out (by simp [spec_fiTexts.l1])
     | succ k2 =>
      have H := HA.out; clear HA
      simp only [spec_fiTexts.l1] at H
      by_cases c7 : x18_2 < (x6_1.length : Int)
      ·rw [if_pos c7] at H
       have c7b0 : decide (x18_2 < (x6_1.length : Int)) = true := decide_eq_true c7; clear c7
       by_cases c8 : 0 ≤ x18_2
       ·rw [if_pos c8] at H
        have c8b0 : decide (0 ≤ x18_2) = true := decide_eq_true c8; clear c8
        by_cases c9 : x18_2 < (x6_1.length : Int)
        ·rw [if_pos c9] at H
         have c9b0 : decide (x18_2 < (x6_1.length : Int)) = true := decide_eq_true c9; clear c9; have H' := am H; clear H; obtain ⟨ad292, e292, hx292_0⟩ := Kd.at_string (Kd.R_reads' HO_16.out).2.2 x18_2 dT dT; cases e292; have p292 := eT (0 ≤ (x18_2 : Int)); have q292 := eT (x18_2 < (x6_1.length : Int))
         go_wp2
         go_loopg [7, 10] k2 (fun kq v7 v10 w' => ∃ (x7_3 : List ByteArray) (x10_3 : Int), v10 = .int .i64 x10_3 ∧ Aside0 (spec_fiTexts.l2 kq a0 x1_1 x7_3 (rdOf ByteArray.empty x6_1 x18_2) x10_3 x6_1 (x6_1.length : Int) x18_2 = some (r1, r2)) ∧ Aside0 (kq ≤ k2) ∧ Aside0 (Kd.R Kd.string 9 w' w.heap.size (fun k_ => some k_ ≠ ((.slice (some ad292) x6_1.length co6) : Value).ownBlock) v7 x7_3) ∧ Aside0 (Kd.R Kd.string 9 w' w.heap.size (fun k_ => some k_ ≠ (v7 : Value).ownBlock) (.slice (some ad292) x6_1.length co6) x6_1) ∧ Aside0 (Below w.heap.size w w'))
         case atStart => exact ⟨(x7_2), (0), wZ, H', ⟨Nat.le_refl _⟩, ⟨Rz HO_7.out⟩, ⟨Rz HO_16.out⟩, ⟨Bz HB.out⟩⟩
         case round =>
          clear H'
          try clear c1
          try clear p2
          try clear q2
          try clear hx2
          try clear c5
          try clear c5b0
          try clear c7
          try clear c7b0
          try clear c8
          try clear c8b0
          try clear c9
          try clear c9b0
          try clear hx292_0
          try clear p2
          try clear p292
          try clear q292
          obtain ⟨x7_3, x10_3, rfl, HA, HK3, HO_7, HO_16, HB⟩ := hrel; cases gk with
          | zero => exact absurd HA.out (by simp [spec_fiTexts.l2])
          | succ k3 =>
           have H := HA.out; clear HA
           simp only [spec_fiTexts.l2] at H
           by_cases c10 : x10_3 < (a0.size : Int)
           ·rw [if_pos c10] at H
            have c10b0 : decide (x10_3 < (a0.size : Int)) = true := decide_eq_true c10; clear c10
            by_cases c11 : 0 ≤ x10_3
            ·rw [if_pos c11] at H
             have c11b0 := eq_true c11; have c11b1 : decide (0 ≤ x10_3) = true := decide_eq_true c11; clear c11
             by_cases c12 : x10_3 ≤ (wrap64 (x10_3 + 1))
             ·rw [if_pos c12] at H
              have c12b0 := eq_true c12; have c12b1 : decide (x10_3 ≤ (wrap64 (x10_3 + 1))) = true := decide_eq_true c12
              by_cases c13 : (wrap64 (x10_3 + 1)) ≤ (a0.size : Int)
              ·rw [if_pos c13] at H
               have c13b0 := eq_true c13; have c13b1 : decide ((wrap64 (x10_3 + 1)) ≤ (a0.size : Int)) = true := decide_eq_true c13
               by_cases c14 : (rdOf ByteArray.empty x6_1 x18_2).size + (a0.extract (x10_3 : Int).toNat ((wrap64 (x10_3 + 1)) : Int).toNat).size ≤ 9223372036854775807
               ·rw [if_pos c14] at H
                have c14b0 := eq_true c14; have c14b1 : decide ((rdOf ByteArray.empty x6_1 x18_2).size + (a0.extract (x10_3 : Int).toNat ((wrap64 (x10_3 + 1)) : Int).toNat).size ≤ 9223372036854775807) = true := decide_eq_true c14
                try have c14b2 : (9223372036854775807 < (rdOf ByteArray.empty x6_1 x18_2).size + (a0.extract (x10_3 : Int).toNat ((wrap64 (x10_3 + 1)) : Int).toNat).size) = False := eq_false (Nat.not_lt.2 c14)
                (try (have c14b3 := c14b2; simp only [ByteArray.size_extract, Int.toNat_natCast] at c14b3))
                by_cases c15 : x7_3.length < 8796093022208
                ·rw [if_pos c15] at H
                 have LMc15 := am c15; clear c15; obtain ⟨y293, hy293⟩ : ∃ y_ : List ByteArray, y_ = (x7_3 ++ [(rdOf ByteArray.empty x6_1 x18_2) ++ (a0.extract (x10_3 : Int).toNat ((wrap64 (x10_3 + 1)) : Int).toNat)]) := ⟨_, rfl⟩
                 replace H : (spec_fiTexts.l2 k3 a0 x1_1 y293 (rdOf ByteArray.empty x6_1 x18_2) (wrap64 (x10_3 + 1)) x6_1 (x6_1.length : Int) x18_2) = some (r1, r2) := by first | (rw [hy293]; with_reducible exact H) | (have H2_ := (Option.bind_some _ _).symm.trans H; rw [hy293]; with_reducible exact H2_) | (have H2_ := (Option.bind_some _ _).symm.trans H; with_reducible exact H2_) | with_reducible exact H | (rw [hy293]; exact H) | exact H
                 have Ny293 := am hy293; clear hy293; have H' := am H; clear H
                 go_wp2_with (first | ((with_reducible refine gate_builtin (b := .append) (xs := #[.tmp 28, .tmp 36]) rfl ?_); at_builtin; refine Kd.R_append Kd.string (w0 := w) w.heap.size rfl (.tmp 28) (.tmp 36) 22 9 (.string ⟨#[]⟩) 16 rfl Try.underlying22 info9 rfl (by decide) (by omega) u7 x7_3 ((rdOf ByteArray.empty x6_1 x18_2) ++ (a0.extract (x10_3 : Int).toNat ((wrap64 (x10_3 + 1)) : Int).toNat)) [.string ((rdOf ByteArray.empty x6_1 x18_2) ++ (a0.extract (x10_3 : Int).toNat ((wrap64 (x10_3 + 1)) : Int).toNat))] (fun k_ => some k_ ≠ (.slice (some ad292) x6_1.length co6 : Value).ownBlock) (fun _ => False) rfl rfl ?aP (fun _ hk => hk.elim) ?aF ?aO ?aB ?aS ?aL ?_; (case aP => exact rfl); (case aB => exact (Bz HB.out)); (case aF => exact (fun k_ hk => Kd.fresh' (Kd.R_lt (Rz HO_16.out)) k_ hk)); (case aO => exact (Rz HO_7.out)); (case aS => exact (below_size (Bz HB.out))); (case aL => have := LMc15.out; omega); intro v294 w16 ho hb hg hat; rw [← Ny293.out] at ho; have n0_ := am (Kd.R_after (ok := (fun _ => True)) (Rz (Kd.R_mono HO_16.out (fun _ hk => ⟨trivial, hk⟩))) hg hat); have n1_ := am (hb); have n2_ := am (ho); clear HO_16 HB HO_7; revert n0_ n1_ n2_; intro HO_16 HB HO295; clear ho hb hg hat))
                 go_roundg k3
                 case measure => have := HK1.out; have := HK2.out; have := HK3.out; omega
                 case rel => exact ⟨(y293), (wrap64 (x10_3 + 1)), wZ, H', ⟨by have := HK1.out; have := HK2.out; have := HK3.out; omega⟩, ⟨Rz HO295.out⟩, ⟨Rz (Kd.R_mono HO_16.out (fun _ hk => hk.2))⟩, ⟨Bz HB.out⟩⟩
                ·rw [if_neg c15] at H
                 exact absurd H (by simp)
               ·rw [if_neg c14] at H
                exact absurd H (by simp)
              ·rw [if_neg c13] at H
               exact absurd H (by simp)
             ·rw [if_neg c12] at H
              exact absurd H (by simp)
            ·rw [if_neg c11] at H
             exact absurd H (by simp)
           ·rw [if_neg c10] at H
            have c10b0 : decide (x10_3 < (a0.size : Int)) = false := decide_eq_false c10; clear c10; have H' := am H; clear H
            go_wp2
            go_roundg k3
            case measure => have := HK1.out; have := HK2.out; have := HK3.out; omega
            case rel => exact ⟨(x7_3), (wrap64 (x18_2 + 1)), wZ, H', ⟨by have := HK1.out; have := HK2.out; have := HK3.out; omega⟩, ⟨Rz HO_7.out⟩, ⟨Rz HO_16.out⟩, ⟨Bz HB.out⟩⟩
        ·rw [if_neg c9] at H
         exact absurd H (by simp)
       ·rw [if_neg c8] at H
        exact absurd H (by simp)
      ·rw [if_neg c7] at H
       have c7b0 : decide (x18_2 < (x6_1.length : Int)) = false := decide_eq_false c7; clear c7
       by_cases c17 : (x7_2.length : Int) > 300
       ·rw [if_pos c17] at H
        have c17b0 : decide (300 < (x7_2.length : Int)) = true := decide_eq_true c17; have c17b1 : decide (300 < x7_2.length) = true := decide_eq_true (by omega); clear c17
        simp only [Option.some.injEq, Prod.mk.injEq] at H
        obtain ⟨rfl, rfl⟩ := H; obtain ⟨Ao18, co18, eo18⟩ := Kd.R_slice HO_7.out; subst eo18
        go_wp2
        go_ret2
        exact ⟨_, eZ, nZ, Bz HB.out⟩
       ·rw [if_neg c17] at H
        have c17b0 : decide (300 < (x7_2.length : Int)) = false := decide_eq_false c17; have c17b1 : decide (300 < x7_2.length) = false := decide_eq_false (by omega); clear c17; have H' := am H; clear H; obtain ⟨Ao19, co19, eo19⟩ := Kd.R_slice HO_7.out; subst eo19
        go_wp2
        go_roundg k2
        case measure => have := HK1.out; have := HK2.out; omega
        case rel => exact ⟨(wrap64 (x1_1 - 1)), (x7_2), wZ, H', ⟨by have := HK1.out; have := HK2.out; omega⟩, ⟨Rz (Kd.R_mono HO_7.out (fun _ hk => trivial))⟩, ⟨Bz HB.out⟩⟩
   ·rw [if_neg c5] at H
    have c5b0 : decide (0 < x1_1) = false := decide_eq_false c5; clear c5
    simp only [Option.some.injEq, Prod.mk.injEq] at H
    obtain ⟨rfl, rfl⟩ := H
    go_wp2
    go_ret2
    exact ⟨_, eZ, Rz HO_6.out, Bz HB.out⟩

def spec_TextsOver.f (k : Nat) (a0 : ByteArray) (a1 : Int) : Option (List ByteArray × Bool) := (spec_fiLetters.f k a0).bind fun t296 => (if t296 = true then ((spec_l1In.f a1 1 8).bind fun t297 => (if t297 = true then ((spec_fiTexts.f k a0 a1).bind fun bt298 => (some (bt298.1, bt298.2))) else (some (([] : List ByteArray), false)))) else (some (([] : List ByteArray), false)))
theorem spec_TextsOver.calls (k : Nat) (a0 : ByteArray) (a1 : Int) (r1 : List ByteArray) (r2 : Bool) (w : World) (h : spec_TextsOver.f k a0 a1 = some (r1, r2)) :
  Calls Try.prog 115 #[.string a0, .int .i64 a1] w fun e w' => ∃ v0_ : Value, e = .returned (.tuple #[v0_, .bool r2]) ∧ Kd.R Kd.string 9 w' w.heap.size (fun _ => True) v0_ r1 ∧ Below w.heap.size w w' := by
 have HB := am (Below.refl w.heap.size w); have H : ((spec_fiLetters.f k a0).bind fun t296 => (if t296 = true then ((spec_l1In.f a1 1 8).bind fun t297 => (if t297 = true then ((spec_fiTexts.f k a0 a1).bind fun bt298 => (some (bt298.1, bt298.2))) else (some (([] : List ByteArray), false)))) else (some (([] : List ByteArray), false)))) = some (r1, r2) := h; clear h; replace H := Option.bind_eq_some_iff.mp H; obtain ⟨t296, A30, H⟩ := H; (try dsimp -simprocs only at H); have A3 := am A30; clear A30
 by_cases c4 : t296 = true
 ·subst c4
  rw [if_pos rfl] at H; replace H := Option.bind_eq_some_iff.mp H; obtain ⟨t297, A50, H⟩ := H; (try dsimp -simprocs only at H); have A5 := am A50; clear A50
  by_cases c6 : t297 = true
  ·subst c6
   rw [if_pos rfl] at H; replace H := Option.bind_eq_some_iff.mp H; obtain ⟨⟨t298, t299⟩, A70, H⟩ := H; (try dsimp -simprocs only at H); have A7 := am A70; clear A70
   simp only [Option.some.injEq, Prod.mk.injEq] at H
   obtain ⟨rfl, rfl⟩ := H
   go_enter Try.func115, Try.ntmps115
   go_wp2_with (first | ((with_reducible refine gate_callee (f := 164) rfl ?_); refine gL (some 7) Try.func164 #[.string a0] ?_; (with_reducible refine (spec_fiLetters.calls k a0 true _ A3.out).mono ?_); rintro e w' ⟨rfl, ⟨nd, rfl⟩⟩; refine ⟨_, rfl, ?_⟩) | (go_at_call 151; (with_reducible refine (spec_l1In.calls a1 1 8 true _ A5.out).mono ?_); rintro e w' ⟨rfl, ⟨nd, rfl⟩⟩) | ((with_reducible refine gate_callee (f := 165) rfl ?_); refine gL (some 16) Try.func165 #[.string a0, .int .i64 a1] ?_; (with_reducible refine (spec_fiTexts.calls k a0 a1 t298 t299 _ A7.out).mono ?_); rintro e w8 ⟨v300, rfl, ho0, hb⟩; refine ⟨_, rfl, ?_⟩; have n0_ := Rl ho0 HB; have n1_ := Bb HB hb; clear HB; revert n0_ n1_; intro HO301 HB; (try clear hb); (try clear hb2); (try clear hk); (try clear hi); (try clear ho0)))
   go_ret2
   exact ⟨_, eZ, Rz HO301.out, Bz HB.out⟩
  ·replace c6 := Bool.eq_false_iff.mpr c6
   subst c6
   rw [if_neg (show ¬ (false = true) by decide)] at H
   simp only [Option.some.injEq, Prod.mk.injEq] at H
   obtain ⟨rfl, rfl⟩ := H
   go_enter Try.func115, Try.ntmps115
   go_wp2_with (first | ((with_reducible refine gate_callee (f := 164) rfl ?_); refine gL (some 7) Try.func164 #[.string a0] ?_; (with_reducible refine (spec_fiLetters.calls k a0 true _ A3.out).mono ?_); rintro e w' ⟨rfl, ⟨nd, rfl⟩⟩; refine ⟨_, rfl, ?_⟩) | (go_at_call 151; (with_reducible refine (spec_l1In.calls a1 1 8 false _ A5.out).mono ?_); rintro e w' ⟨rfl, ⟨nd, rfl⟩⟩))
   go_ret2
   exact ⟨_, eZ, nZ, Bz HB.out⟩
 ·replace c4 := Bool.eq_false_iff.mpr c4
  subst c4
  rw [if_neg (show ¬ (false = true) by decide)] at H
  simp only [Option.some.injEq, Prod.mk.injEq] at H
  obtain ⟨rfl, rfl⟩ := H
  go_enter Try.func115, Try.ntmps115
  go_wp2_with (first | ((with_reducible refine gate_callee (f := 164) rfl ?_); refine gL (some 7) Try.func164 #[.string a0] ?_; (with_reducible refine (spec_fiLetters.calls k a0 false _ A3.out).mono ?_); rintro e w' ⟨rfl, ⟨nd, rfl⟩⟩; refine ⟨_, rfl, ?_⟩))
  go_ret2
  exact ⟨_, eZ, nZ, Bz HB.out⟩

end Go.Proofs.Ytpkpjikkfikejaa.PB
