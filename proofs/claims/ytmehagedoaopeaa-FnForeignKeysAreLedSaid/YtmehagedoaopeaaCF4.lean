import Derived.Test.YtmehagedoaopeaaCF1
import Derived.Test.YtmehagedoaopeaaCF2
import Derived.Test.YtmehagedoaopeaaCF3
-- printed by a program of this session (wip/gp) out of the translation; Lean checks it
namespace Go.Proofs.Ytmehagedoaopeaa.PF
open Go.RowKit Go.Proofs.YtmehagedoaopeaaW.PrintWords Go.Proofs.YtmehagedoaopeaaW.PrintLast Go.Proofs.YtmehagedoaopeaaW.PrintMore Go.Proofs.YtmehagedoaopeaaSq
attribute [local go_sem] max2_int min2_int max_two min_two max_three min_three max_four min_four   -- for this text's walks alone
attribute [local go_sem] Go.Proofs.YtmehagedoaopeaaGp.str_geq Go.Proofs.YtmehagedoaopeaaGp.str_gtr Go.Proofs.YtmehagedoaopeaaGp.str_leq
set_option linter.unusedVariables false
set_option linter.unusedSimpArgs false

set_option maxHeartbeats 8000000
set_option maxRecDepth 100000
def impl_IsPeeled.f (k : Nat) (a0_0 : Int) (a0_1 : Int) (l0_2 : List Int) : Option (Bool) := (slices_ContainsFunc_int_int_at_impl_IsPeeled_1.f k l0_2).bind fun t432 => (if t432 = true then (some false) else ((impl_isSeed.f a0_0).bind fun t433 => (if t433 = true then ((impl_segmentOk.f a0_1).bind fun t434 => (if t434 = true then (some ((l0_2.length : Int) == (wrap64 (3 * a0_1)))) else (some false))) else (some false))))
theorem impl_IsPeeled.calls (k : Nat) (a0_0 : Int) (a0_1 : Int) (A0_2 : Option Addr) (c0_2 : Nat) (l0_2 : List Int) (r : Bool) (w : World) (hr0_2 : Kd.C (Kd.int .i64) w A0_2 l0_2.length l0_2) (hc0_2 : l0_2.length ≤ c0_2) (h : impl_IsPeeled.f k a0_0 a0_1 l0_2 = some r) :
  Calls Try.prog 51 #[.agg #[.int .i64 a0_0, .int .i64 a0_1, .slice A0_2 l0_2.length c0_2]] w fun e w' => e = .returned (.bool r) ∧ Below w.heap.size w w' := by
 have hu26 := Try.underlying26; have HR0_2 := am hr0_2; have HC0_2 := am hc0_2; clear hr0_2 hc0_2; have HB := am (Below.refl w.heap.size w); have H : ((slices_ContainsFunc_int_int_at_impl_IsPeeled_1.f k l0_2).bind fun t432 => (if t432 = true then (some false) else ((impl_isSeed.f a0_0).bind fun t433 => (if t433 = true then ((impl_segmentOk.f a0_1).bind fun t434 => (if t434 = true then (some ((l0_2.length : Int) == (wrap64 (3 * a0_1)))) else (some false))) else (some false))))) = some r := h; clear h; replace H := Option.bind_eq_some_iff.mp H; obtain ⟨t432, A20, H⟩ := H; (try dsimp -simprocs only at H); have A2 := am A20; clear A20
 by_cases c3 : t432 = true
 ·subst c3
  rw [if_pos rfl] at H; obtain rfl := Option.some.inj H
  go_enter Try.func51, Try.ntmps51
  go_wp2_with (first | ((with_reducible refine gate_dst (N := 1) rfl ?_); (try (refine gate_guard (by rfl) ?_; dsimp only)); refine bE 1 #[.int .i64 a0_0, .int .i64 a0_1, .slice A0_2 l0_2.length c0_2] 26 ?_; intro gb431 hg w4 hbox hb; have n0_ := Bb HB hb; have n1_ := am (hbox); have n2_ := Gl HB hg; have n3_ := Gl HB hg; clear HB; revert n0_ n1_ n2_ n3_; intro HB BK431 GW431 GE431; clear hb hbox hg; obtain ⟨hcz5_0, hcz5_1, hcz5_2, hfz5_0, hfz5_1, hfz5_2⟩ := cf3 (w := w4) BK431) | ((with_reducible refine gate_callee (f := 114) rfl ?_); refine gL (some 6) Try.func114 #[.slice A0_2 l0_2.length c0_2, .func (.func 132) #[] #[]] ?_; (with_reducible refine (slices_ContainsFunc_int_int_at_impl_IsPeeled_1.calls k _ _ l0_2  true _ ?side1 ?side2 A2.out).mono ?_); (case side1 => exact Cz (Kd.C_below HR0_2.out HB.out)); (case side2 => exact HC0_2.out); rintro e w' ⟨rfl, ⟨nd, rfl⟩⟩; refine ⟨_, rfl, ?_⟩))
  go_ret
  exact ⟨eZ, Bq⟩
 ·replace c3 := Bool.eq_false_iff.mpr c3
  subst c3
  rw [if_neg (show ¬ (false = true) by decide)] at H; replace H := Option.bind_eq_some_iff.mp H; obtain ⟨t433, A60, H⟩ := H; (try dsimp -simprocs only at H); have A6 := am A60; clear A60
  by_cases c7 : t433 = true
  ·subst c7
   rw [if_pos rfl] at H; replace H := Option.bind_eq_some_iff.mp H; obtain ⟨t434, A80, H⟩ := H; (try dsimp -simprocs only at H); have A8 := am A80; clear A80
   by_cases c9 : t434 = true
   ·subst c9
    rw [if_pos rfl] at H; obtain rfl := Option.some.inj H
    go_enter Try.func51, Try.ntmps51
    go_wp2_with (first | ((with_reducible refine gate_dst (N := 1) rfl ?_); (try (refine gate_guard (by rfl) ?_; dsimp only)); refine bE 1 #[.int .i64 a0_0, .int .i64 a0_1, .slice A0_2 l0_2.length c0_2] 26 ?_; intro gb431 hg w10 hbox hb; have n0_ := Bb HB hb; have n1_ := am (hbox); have n2_ := Gl HB hg; have n3_ := Gl HB hg; clear HB; revert n0_ n1_ n2_ n3_; intro HB BK431 GW431 GE431; clear hb hbox hg; obtain ⟨hcz11_0, hcz11_1, hcz11_2, hfz11_0, hfz11_1, hfz11_2⟩ := cf3 (w := w10) BK431) | ((with_reducible refine gate_callee (f := 114) rfl ?_); refine gL (some 6) Try.func114 #[.slice A0_2 l0_2.length c0_2, .func (.func 132) #[] #[]] ?_; (with_reducible refine (slices_ContainsFunc_int_int_at_impl_IsPeeled_1.calls k _ _ l0_2  false _ ?side1 ?side2 A2.out).mono ?_); (case side1 => exact Cz (Kd.C_below HR0_2.out HB.out)); (case side2 => exact HC0_2.out); rintro e w' ⟨rfl, ⟨nd, rfl⟩⟩; refine ⟨_, rfl, ?_⟩) | (go_at_call 59; (with_reducible refine (impl_isSeed.calls a0_0 true _ A6.out).mono ?_); rintro e w' ⟨rfl, ⟨nd, rfl⟩⟩) | (go_at_call 60; (with_reducible refine (impl_segmentOk.calls a0_1 true _ A8.out).mono ?_); rintro e w' ⟨rfl, ⟨nd, rfl⟩⟩))
    go_ret
    exact ⟨eZ, Bq⟩
   ·replace c9 := Bool.eq_false_iff.mpr c9
    subst c9
    rw [if_neg (show ¬ (false = true) by decide)] at H; obtain rfl := Option.some.inj H
    go_enter Try.func51, Try.ntmps51
    go_wp2_with (first | ((with_reducible refine gate_dst (N := 1) rfl ?_); (try (refine gate_guard (by rfl) ?_; dsimp only)); refine bE 1 #[.int .i64 a0_0, .int .i64 a0_1, .slice A0_2 l0_2.length c0_2] 26 ?_; intro gb431 hg w12 hbox hb; have n0_ := Bb HB hb; have n1_ := am (hbox); have n2_ := Gl HB hg; have n3_ := Gl HB hg; clear HB; revert n0_ n1_ n2_ n3_; intro HB BK431 GW431 GE431; clear hb hbox hg; obtain ⟨hcz13_0, hcz13_1, hcz13_2, hfz13_0, hfz13_1, hfz13_2⟩ := cf3 (w := w12) BK431) | ((with_reducible refine gate_callee (f := 114) rfl ?_); refine gL (some 6) Try.func114 #[.slice A0_2 l0_2.length c0_2, .func (.func 132) #[] #[]] ?_; (with_reducible refine (slices_ContainsFunc_int_int_at_impl_IsPeeled_1.calls k _ _ l0_2  false _ ?side1 ?side2 A2.out).mono ?_); (case side1 => exact Cz (Kd.C_below HR0_2.out HB.out)); (case side2 => exact HC0_2.out); rintro e w' ⟨rfl, ⟨nd, rfl⟩⟩; refine ⟨_, rfl, ?_⟩) | (go_at_call 59; (with_reducible refine (impl_isSeed.calls a0_0 true _ A6.out).mono ?_); rintro e w' ⟨rfl, ⟨nd, rfl⟩⟩) | (go_at_call 60; (with_reducible refine (impl_segmentOk.calls a0_1 false _ A8.out).mono ?_); rintro e w' ⟨rfl, ⟨nd, rfl⟩⟩))
    go_ret
    exact ⟨eZ, Bq⟩
  ·replace c7 := Bool.eq_false_iff.mpr c7
   subst c7
   rw [if_neg (show ¬ (false = true) by decide)] at H; obtain rfl := Option.some.inj H
   go_enter Try.func51, Try.ntmps51
   go_wp2_with (first | ((with_reducible refine gate_dst (N := 1) rfl ?_); (try (refine gate_guard (by rfl) ?_; dsimp only)); refine bE 1 #[.int .i64 a0_0, .int .i64 a0_1, .slice A0_2 l0_2.length c0_2] 26 ?_; intro gb431 hg w14 hbox hb; have n0_ := Bb HB hb; have n1_ := am (hbox); have n2_ := Gl HB hg; have n3_ := Gl HB hg; clear HB; revert n0_ n1_ n2_ n3_; intro HB BK431 GW431 GE431; clear hb hbox hg; obtain ⟨hcz15_0, hcz15_1, hcz15_2, hfz15_0, hfz15_1, hfz15_2⟩ := cf3 (w := w14) BK431) | ((with_reducible refine gate_callee (f := 114) rfl ?_); refine gL (some 6) Try.func114 #[.slice A0_2 l0_2.length c0_2, .func (.func 132) #[] #[]] ?_; (with_reducible refine (slices_ContainsFunc_int_int_at_impl_IsPeeled_1.calls k _ _ l0_2  false _ ?side1 ?side2 A2.out).mono ?_); (case side1 => exact Cz (Kd.C_below HR0_2.out HB.out)); (case side2 => exact HC0_2.out); rintro e w' ⟨rfl, ⟨nd, rfl⟩⟩; refine ⟨_, rfl, ?_⟩) | (go_at_call 59; (with_reducible refine (impl_isSeed.calls a0_0 false _ A6.out).mono ?_); rintro e w' ⟨rfl, ⟨nd, rfl⟩⟩))
   go_ret
   exact ⟨eZ, Bq⟩

def impl_IsKey.l0 : Nat → ByteArray → Int → Int → Option (Bool)
 | 0, _, _, _ => none
 | k + 1, x0, x5, x6 => if x6 < x5 then (if 0 ≤ x6 then (if x6 < (x0.size : Int) then (if (bt x0 x6) < 33 then (some false) else (if (bt x0 x6) > 125 then (some false) else (impl_IsKey.l0 k x0 x5 (wrap64 (x6 + 1))))) else (none)) else (none)) else ((impl_in.f (x0.size : Int) 1 12).bind fun t435 => (some t435))
def impl_IsKey.f (k : Nat) (a0 : ByteArray) : Option (Bool) := impl_IsKey.l0 k a0 (a0.size : Int) 0
theorem impl_IsKey.calls (k : Nat) (a0 : ByteArray) (r : Bool) (w : World) (h : impl_IsKey.f k a0 = some r) :
  Calls Try.prog 52 #[.string a0] w fun e w' => e = .returned (.bool r) ∧ Drawn0 w w' := by
 have H : (impl_IsKey.l0 k a0 (a0.size : Int) 0) = some r := h; clear h; have H' := am H; clear H
 go_enter Try.func52, Try.ntmps52
 go_wp2
 go_loopg [6] k (fun kq v6 w' => ∃ (x6_1 : Int), v6 = .int .i64 x6_1 ∧ Aside0 (impl_IsKey.l0 kq a0 (a0.size : Int) x6_1 = some r) ∧ Aside0 (kq ≤ k) ∧ Drawn0 w w')
 case atStart => exact ⟨(0), wZ, H', ⟨Nat.le_refl _⟩, by repeat (first | exact Drawn0.refl _ | apply Drawn0.step)⟩
 case round =>
  clear H'; obtain ⟨x6_1, rfl, HA, HK1, ⟨m1, rfl⟩⟩ := hrel; cases gk with
  | zero => exact absurd HA.out (by simp [impl_IsKey.l0])
  | succ k1 =>
   have H := HA.out; clear HA
   simp only [impl_IsKey.l0] at H
   by_cases c2 : x6_1 < (a0.size : Int)
   ·rw [if_pos c2] at H
    have c2b0 : decide (x6_1 < (a0.size : Int)) = true := decide_eq_true c2; clear c2
    by_cases c3 : 0 ≤ x6_1
    ·rw [if_pos c3] at H
     have c3b0 : decide (0 ≤ x6_1) = true := decide_eq_true c3; clear c3
     by_cases c4 : x6_1 < (a0.size : Int)
     ·rw [if_pos c4] at H
      have c4b0 : decide (x6_1 < (a0.size : Int)) = true := decide_eq_true c4; clear c4
      by_cases c6 : (bt a0 x6_1) < 33
      ·rw [if_pos c6] at H
       have c6b0 : decide ((bt a0 x6_1) < 33) = true := decide_eq_true c6; clear c6; obtain rfl := Option.some.inj H; have p5 : 0 ≤ (x6_1 : Int) := dT; have q5 : x6_1 < (a0.size : Int) := dT; have hx5 := bt_at a0 x6_1; replace p5 := eq_true p5; replace q5 := eq_true q5
       go_wp2
       go_ret
       exact ⟨by first | rfl | (simp; done) | (simp [*]; done), by repeat (first | exact Drawn0.refl _ | apply Drawn0.step)⟩
      ·rw [if_neg c6] at H
       have c6b0 : decide ((bt a0 x6_1) < 33) = false := decide_eq_false c6; clear c6
       by_cases c8 : (bt a0 x6_1) > 125
       ·rw [if_pos c8] at H
        have c8b0 : decide (125 < (bt a0 x6_1)) = true := decide_eq_true c8; clear c8; obtain rfl := Option.some.inj H; have p5 : 0 ≤ (x6_1 : Int) := dT; have q5 : x6_1 < (a0.size : Int) := dT; have hx5 := bt_at a0 x6_1; replace p5 := eq_true p5; replace q5 := eq_true q5; have p7 : 0 ≤ (x6_1 : Int) := dT; have q7 : x6_1 < (a0.size : Int) := dT; have hx7 := bt_at a0 x6_1; replace p7 := eq_true p7; replace q7 := eq_true q7
        go_wp2
        go_ret
        exact ⟨by first | rfl | (simp; done) | (simp [*]; done), by repeat (first | exact Drawn0.refl _ | apply Drawn0.step)⟩
       ·rw [if_neg c8] at H
        have c8b0 : decide (125 < (bt a0 x6_1)) = false := decide_eq_false c8; clear c8; have H' := am H; clear H; have p5 : 0 ≤ (x6_1 : Int) := dT; have q5 : x6_1 < (a0.size : Int) := dT; have hx5 := bt_at a0 x6_1; replace p5 := eq_true p5; replace q5 := eq_true q5; have p7 : 0 ≤ (x6_1 : Int) := dT; have q7 : x6_1 < (a0.size : Int) := dT; have hx7 := bt_at a0 x6_1; replace p7 := eq_true p7; replace q7 := eq_true q7
        go_wp2
        go_roundg k1
        case measure => have := HK1.out; omega
        case rel => exact ⟨(wrap64 (x6_1 + 1)), wZ, H', ⟨by have := HK1.out; omega⟩, by repeat (first | exact Drawn0.refl _ | apply Drawn0.step)⟩
     ·rw [if_neg c4] at H
      exact absurd H (by simp)
    ·rw [if_neg c3] at H
     exact absurd H (by simp)
   ·rw [if_neg c2] at H
    have c2b0 : decide (x6_1 < (a0.size : Int)) = false := decide_eq_false c2; clear c2; replace H := Option.bind_eq_some_iff.mp H; obtain ⟨t435, A90, H⟩ := H; (try dsimp -simprocs only at H); have A9 := am A90; clear A90; obtain rfl := Option.some.inj H
    go_wp2_with (first | ((with_reducible refine gate_callee (f := 66) rfl ?_); refine gL (some 22) Try.func66 #[.int .i64 (a0.size : Int), .int .i64 1, .int .i64 12] ?_; (with_reducible refine (impl_in.calls (a0.size : Int) 1 12 t435 _ A9.out).mono ?_); rintro e w' ⟨rfl, ⟨nd, rfl⟩⟩; refine ⟨_, rfl, ?_⟩))
    go_ret
    exact ⟨by first | rfl | (simp; done) | (simp [*]; done), by repeat (first | exact Drawn0.refl _ | apply Drawn0.step)⟩

def impl_led.f (l0 : List Int) (l1 : List Int) : Option (Int) := if 0 < (l1.length : Int) then (if 0 ≤ (rd l1 0) then (if (rd l1 0) < (l0.length : Int) then (if 1 < (l1.length : Int) then (if 0 ≤ (rd l1 1) then (if (rd l1 1) < (l0.length : Int) then (if 2 < (l1.length : Int) then (if 0 ≤ (rd l1 2) then (if (rd l1 2) < (l0.length : Int) then (some (Int.tmod (wrap64 ((wrap64 ((rd l0 (rd l1 0)) + (rd l0 (rd l1 1)))) + (rd l0 (rd l1 2)))) 3)) else (none)) else (none)) else (none)) else (none)) else (none)) else (none)) else (none)) else (none)) else (none)
theorem impl_led.calls (A0 : Option Addr) (c0 : Nat) (l0 : List Int) (A1 : Option Addr) (c1 : Nat) (l1 : List Int) (r : Int) (w : World) (hr0 : Kd.C (Kd.int .i64) w A0 l0.length l0) (hc0 : l0.length ≤ c0) (hr1 : Kd.C (Kd.int .i64) w A1 l1.length l1) (hc1 : l1.length ≤ c1) (h : impl_led.f l0 l1 = some r) :
  Calls Try.prog 86 #[.slice A0 l0.length c0, .slice A1 l1.length c1] w fun e w' => e = .returned (.int .i64 r) ∧ Drawn0 w w' := by
 have HR0 := am hr0; have HC0 := am hc0; clear hr0 hc0; have HR1 := am hr1; have HC1 := am hc1; clear hr1 hc1; have H : (if 0 < (l1.length : Int) then (if 0 ≤ (rd l1 0) then (if (rd l1 0) < (l0.length : Int) then (if 1 < (l1.length : Int) then (if 0 ≤ (rd l1 1) then (if (rd l1 1) < (l0.length : Int) then (if 2 < (l1.length : Int) then (if 0 ≤ (rd l1 2) then (if (rd l1 2) < (l0.length : Int) then (some (Int.tmod (wrap64 ((wrap64 ((rd l0 (rd l1 0)) + (rd l0 (rd l1 1)))) + (rd l0 (rd l1 2)))) 3)) else (none)) else (none)) else (none)) else (none)) else (none)) else (none)) else (none)) else (none)) else (none)) = some r := h; clear h
 by_cases c3 : 0 < (l1.length : Int)
 ·rw [if_pos c3] at H
  have c3b0 : decide (0 < (l1.length : Int)) = true := decide_eq_true c3; have c3b1 : decide (0 < l1.length) = true := decide_eq_true (by omega); clear c3
  by_cases c4 : 0 ≤ (rd l1 0)
  ·rw [if_pos c4] at H
   have c4b0 : decide (0 ≤ (rd l1 0)) = true := decide_eq_true c4; clear c4
   by_cases c5 : (rd l1 0) < (l0.length : Int)
   ·rw [if_pos c5] at H
    have c5b0 : decide ((rd l1 0) < (l0.length : Int)) = true := decide_eq_true c5; clear c5
    by_cases c6 : 1 < (l1.length : Int)
    ·rw [if_pos c6] at H
     have c6b0 : decide (1 < (l1.length : Int)) = true := decide_eq_true c6; have c6b1 : decide (1 < l1.length) = true := decide_eq_true (by omega); clear c6
     by_cases c7 : 0 ≤ (rd l1 1)
     ·rw [if_pos c7] at H
      have c7b0 : decide (0 ≤ (rd l1 1)) = true := decide_eq_true c7; clear c7
      by_cases c8 : (rd l1 1) < (l0.length : Int)
      ·rw [if_pos c8] at H
       have c8b0 : decide ((rd l1 1) < (l0.length : Int)) = true := decide_eq_true c8; clear c8
       by_cases c9 : 2 < (l1.length : Int)
       ·rw [if_pos c9] at H
        have c9b0 : decide (2 < (l1.length : Int)) = true := decide_eq_true c9; have c9b1 : decide (2 < l1.length) = true := decide_eq_true (by omega); clear c9
        by_cases c10 : 0 ≤ (rd l1 2)
        ·rw [if_pos c10] at H
         have c10b0 : decide (0 ≤ (rd l1 2)) = true := decide_eq_true c10; clear c10
         by_cases c11 : (rd l1 2) < (l0.length : Int)
         ·rw [if_pos c11] at H
          have c11b0 : decide ((rd l1 2) < (l0.length : Int)) = true := decide_eq_true c11; clear c11; obtain rfl := Option.some.inj H; have p436 : 0 ≤ (0 : Int) := (by omega); have q436 : 0 < (l1.length : Int) := dT; obtain ⟨ad436, e436, hx436_0⟩ := Kd.at_int HR1.out 0 p436 q436; cases e436; have qi436 : (0 < l1.length) = True := eq_true (by omega)
          (try rw [show ((0 : Int)).toNat = 0 from rfl] at hx436_0)
          (try rw [Addr.add_zero'] at hx436_0)
          replace p436 := eq_true p436; replace q436 := eq_true q436; obtain ⟨ad437, e437, hx437_0⟩ := Kd.at_int HR0.out (rd l1 0) dT dT; cases e437; have p437 := eT (0 ≤ ((rd l1 0) : Int)); have q437 := eT ((rd l1 0) < (l0.length : Int)); have p438 : 0 ≤ (1 : Int) := (by omega); have q438 : 1 < (l1.length : Int) := dT; obtain ⟨ad438, e438, hx438_0⟩ := Kd.at_int HR1.out 1 p438 q438; obtain rfl : ad436 = ad438 := (by injection e438)
          (try simp only [show (1 : Int).toNat = 1 from rfl, Nat.reduceMul, Nat.reduceEqDiff, Go.Addr.add, ↓reduceIte] at hx438_0)
          have qi438 : (1 < l1.length) = True := eq_true (by omega)
          (try rw [show ((1 : Int)).toNat = 1 from rfl] at hx438_0)
          replace p438 := eq_true p438; replace q438 := eq_true q438; have p439 : 0 ≤ ((rd l1 1) : Int) := dT; have q439 : (rd l1 1) < (l0.length : Int) := dT; obtain ⟨ad439, e439, hx439_0⟩ := Kd.at_int HR0.out (rd l1 1) p439 q439; obtain rfl : ad437 = ad439 := (by injection e439); replace p439 := eq_true p439; replace q439 := eq_true q439; have p440 : 0 ≤ (2 : Int) := (by omega); have q440 : 2 < (l1.length : Int) := dT; obtain ⟨ad440, e440, hx440_0⟩ := Kd.at_int HR1.out 2 p440 q440; obtain rfl : ad436 = ad440 := (by injection e440)
          (try simp only [show (2 : Int).toNat = 2 from rfl, Nat.reduceMul, Nat.reduceEqDiff, Go.Addr.add, ↓reduceIte] at hx440_0)
          have qi440 : (2 < l1.length) = True := eq_true (by omega)
          (try rw [show ((2 : Int)).toNat = 2 from rfl] at hx440_0)
          replace p440 := eq_true p440; replace q440 := eq_true q440; have p441 : 0 ≤ ((rd l1 2) : Int) := dT; have q441 : (rd l1 2) < (l0.length : Int) := dT; obtain ⟨ad441, e441, hx441_0⟩ := Kd.at_int HR0.out (rd l1 2) p441 q441; obtain rfl : ad437 = ad441 := (by injection e441); replace p441 := eq_true p441; replace q441 := eq_true q441
          go_enter Try.func86, Try.ntmps86
          go_wp2
          repeat (go_quiet (fail); try go_wp2)
          go_ret
          exact ⟨by first | rfl | (simp; done) | (simp [*]; done), by repeat (first | exact Drawn0.refl _ | apply Drawn0.step)⟩
         ·rw [if_neg c11] at H
          exact absurd H (by simp)
        ·rw [if_neg c10] at H
         exact absurd H (by simp)
       ·rw [if_neg c9] at H
        exact absurd H (by simp)
      ·rw [if_neg c8] at H
       exact absurd H (by simp)
     ·rw [if_neg c7] at H
      exact absurd H (by simp)
    ·rw [if_neg c6] at H
     exact absurd H (by simp)
   ·rw [if_neg c5] at H
    exact absurd H (by simp)
  ·rw [if_neg c4] at H
   exact absurd H (by simp)
 ·rw [if_neg c3] at H
  exact absurd H (by simp)

mutual
def impl_hash.l0 : Nat → ByteArray → Int → Int → Int → Option (Int)
 | 0, _, _, _, _ => none
 | k + 1, x2, x7, x18, x19 => if x19 < x18 then (if 0 ≤ x19 then (if x19 < (x2.size : Int) then (impl_hash.l0 k x2 (Int.tmod (wrap64 ((wrap64 (263 * x7)) + (wrap64 (bt x2 x19)))) 65521) x18 (wrap64 (x19 + 1))) else (none)) else (none)) else (impl_hash.l1 k x7 1 0)
def impl_hash.l1 : Nat → Int → Int → Int → Option (Int)
 | 0, _, _, _ => none
 | k + 1, x7, x9, x31 => if x31 < 11 then (impl_hash.l1 k x7 (Int.tmod (wrap64 (x9 * x7)) 65521) (wrap64 (x31 + 1))) else (some x9)
end
def impl_hash.f (k : Nat) (a0 : Int) (a1 : Int) (a2 : ByteArray) : Option (Int) := impl_hash.l0 k a2 (Int.tmod (wrap64 ((wrap64 ((wrap64 (31 * a0)) + (wrap64 (977 * a1)))) + 7)) 65521) (a2.size : Int) 0
theorem impl_hash.calls (k : Nat) (a0 : Int) (a1 : Int) (a2 : ByteArray) (r : Int) (w : World) (h : impl_hash.f k a0 a1 a2 = some r) :
  Calls Try.prog 169 #[.int .i64 a0, .int .i64 a1, .string a2] w fun e w' => e = .returned (.int .i64 r) ∧ Drawn0 w w' := by
 have H : (impl_hash.l0 k a2 (Int.tmod (wrap64 ((wrap64 ((wrap64 (31 * a0)) + (wrap64 (977 * a1)))) + 7)) 65521) (a2.size : Int) 0) = some r := h; clear h; have H' := am H; clear H
 go_enter Try.func169, Try.ntmps169
 go_wp2
 go_loopg [7, 19] k (fun kq v7 v19 w' => ∃ (x7_1 : Int) (x19_1 : Int), v7 = .int .i64 x7_1 ∧ v19 = .int .i64 x19_1 ∧ Aside0 (impl_hash.l0 kq a2 x7_1 (a2.size : Int) x19_1 = some r) ∧ Aside0 (kq ≤ k) ∧ Drawn0 w w')
 case atStart => exact ⟨(Int.tmod (wrap64 ((wrap64 ((wrap64 (31 * a0)) + (wrap64 (977 * a1)))) + 7)) 65521), (0), wZ, wZ, H', ⟨Nat.le_refl _⟩, by repeat (first | exact Drawn0.refl _ | apply Drawn0.step)⟩
 case round =>
  clear H'
  try clear c1
  try clear p2
  obtain ⟨x7_1, x19_1, rfl, rfl, HA, HK1, ⟨m1, rfl⟩⟩ := hrel; cases gk with
  | zero => exact absurd HA.out (by simp [impl_hash.l0])
  | succ k1 =>
   have H := HA.out; clear HA
   simp only [impl_hash.l0] at H
   by_cases c4 : x19_1 < (a2.size : Int)
   ·rw [if_pos c4] at H
    have c4b0 : decide (x19_1 < (a2.size : Int)) = true := decide_eq_true c4; clear c4
    by_cases c5 : 0 ≤ x19_1
    ·rw [if_pos c5] at H
     have c5b0 : decide (0 ≤ x19_1) = true := decide_eq_true c5; clear c5
     by_cases c6 : x19_1 < (a2.size : Int)
     ·rw [if_pos c6] at H
      have c6b0 : decide (x19_1 < (a2.size : Int)) = true := decide_eq_true c6; clear c6; have H' := am H; clear H; have p7 : 0 ≤ (x19_1 : Int) := dT; have q7 : x19_1 < (a2.size : Int) := dT; have hx7 := bt_at a2 x19_1; replace p7 := eq_true p7; replace q7 := eq_true q7
      go_wp2
      go_roundg k1
      case measure => have := HK1.out; omega
      case rel => exact ⟨(Int.tmod (wrap64 ((wrap64 (263 * x7_1)) + (wrap64 (bt a2 x19_1)))) 65521), (wrap64 (x19_1 + 1)), wZ, wZ, H', ⟨by have := HK1.out; omega⟩, by repeat (first | exact Drawn0.refl _ | apply Drawn0.step)⟩
     ·rw [if_neg c6] at H
      exact absurd H (by simp)
    ·rw [if_neg c5] at H
     exact absurd H (by simp)
   ·rw [if_neg c4] at H
    have c4b0 : decide (x19_1 < (a2.size : Int)) = false := decide_eq_false c4; clear c4; have H' := am H; clear H
    go_wp2
    go_loopg [9, 31] k1 (fun kq v9 v31 w' => ∃ (x9_2 : Int) (x31_2 : Int), v9 = .int .i64 x9_2 ∧ v31 = .int .i64 x31_2 ∧ Aside0 (impl_hash.l1 kq x7_1 x9_2 x31_2 = some r) ∧ Aside0 (kq ≤ k1) ∧ Drawn0 w w')
    case atStart => exact ⟨(1), (0), wZ, wZ, H', ⟨Nat.le_refl _⟩, by repeat (first | exact Drawn0.refl _ | apply Drawn0.step)⟩
    case round =>
     clear H'
     try clear c1
     try clear p2
     try clear c4
     try clear c4b0
     try clear c5
     try clear c5b0
     try clear c6
     try clear c6b0
     try clear p6
     try clear p7
     try clear q7
     try clear hx7
     try clear p2
     try clear p7
     try clear q7
     obtain ⟨x9_2, x31_2, rfl, rfl, HA, HK2, ⟨m2, rfl⟩⟩ := hrel; cases gk with
     | zero => exact absurd HA.out (by simp [impl_hash.l1])
     | succ k2 =>
      have H := HA.out; clear HA
      simp only [impl_hash.l1] at H
      by_cases c8 : x31_2 < 11
      ·rw [if_pos c8] at H
       have c8b0 : decide (x31_2 < 11) = true := decide_eq_true c8; clear c8; have H' := am H; clear H
       go_wp2
       go_roundg k2
       case measure => have := HK1.out; have := HK2.out; omega
       case rel => exact ⟨(Int.tmod (wrap64 (x9_2 * x7_1)) 65521), (wrap64 (x31_2 + 1)), wZ, wZ, H', ⟨by have := HK1.out; have := HK2.out; omega⟩, by repeat (first | exact Drawn0.refl _ | apply Drawn0.step)⟩
      ·rw [if_neg c8] at H
       have c8b0 : decide (x31_2 < 11) = false := decide_eq_false c8; clear c8; obtain rfl := Option.some.inj H
       go_wp2
       go_ret
       exact ⟨by first | rfl | (simp; done) | (simp [*]; done), by repeat (first | exact Drawn0.refl _ | apply Drawn0.step)⟩

def impl_place.f (k : Nat) (a0 : Int) (a1 : Int) (a2 : ByteArray) (a3 : Int) : Option (Int) := (impl_hash.f k a0 a1 a2).bind fun t442 => (some (wrap64 (Int.tdiv (wrap64 (t442 * a3)) 65521)))
theorem impl_place.calls (k : Nat) (a0 : Int) (a1 : Int) (a2 : ByteArray) (a3 : Int) (r : Int) (w : World) (h : impl_place.f k a0 a1 a2 a3 = some r) :
  Calls Try.prog 116 #[.int .i64 a0, .int .i64 a1, .string a2, .int .i64 a3] w fun e w' => e = .returned (.int .i64 r) ∧ Drawn0 w w' := by
 have H : ((impl_hash.f k a0 a1 a2).bind fun t442 => (some (wrap64 (Int.tdiv (wrap64 (t442 * a3)) 65521)))) = some r := h; clear h; replace H := Option.bind_eq_some_iff.mp H; obtain ⟨t442, A50, H⟩ := H; (try dsimp -simprocs only at H); have A5 := am A50; clear A50; obtain rfl := Option.some.inj H
 go_enter Try.func116, Try.ntmps116
 go_wp2_with (first | ((with_reducible refine gate_callee (f := 169) rfl ?_); refine gL (some 12) Try.func169 #[.int .i64 a0, .int .i64 a1, .string a2] ?_; (with_reducible refine (impl_hash.calls k a0 a1 a2 t442 _ A5.out).mono ?_); rintro e w' ⟨rfl, ⟨nd, rfl⟩⟩; refine ⟨_, rfl, ?_⟩))
 go_ret
 exact ⟨by first | rfl | (simp; done) | (simp [*]; done), by repeat (first | exact Drawn0.refl _ | apply Drawn0.step)⟩

def impl_threePlaces.l0 : Nat → Int → ByteArray → Int → List Int → Int → Option (List Int)
 | 0, _, _, _, _, _ => none
 | k + 1, x0, x1, x2, x7, x10 => if x10 < 3 then ((impl_place.f k x0 x10 x1 x2).bind fun t446 => (if x7.length < 17592186044416 then (impl_threePlaces.l0 k x0 x1 x2 (x7 ++ [wrap64 (t446 + (wrap64 (x10 * x2)))]) (wrap64 (x10 + 1))) else (none))) else (some x7)
def impl_threePlaces.f (k : Nat) (a0 : Int) (a1 : ByteArray) (a2 : Int) : Option (List Int) := impl_threePlaces.l0 k a0 a1 a2 (([] : List Int)) 0
theorem impl_threePlaces.calls (k : Nat) (a0 : Int) (a1 : ByteArray) (a2 : Int) (r : List Int) (w : World) (h : impl_threePlaces.f k a0 a1 a2 = some r) :
  Calls Try.prog 88 #[.int .i64 a0, .string a1, .int .i64 a2] w fun e w' => ∃ v0_ : Value, e = .returned (v0_) ∧ Kd.R (Kd.int .i64) 3 w' w.heap.size (fun _ => True) v0_ r ∧ Below w.heap.size w w' := by
 have HB := am (Below.refl w.heap.size w); have H : (impl_threePlaces.l0 k a0 a1 a2 (([] : List Int)) 0) = some r := h; clear h; obtain ⟨y443, hy443⟩ : ∃ y_ : List Int, y_ = (([] : List Int)) := ⟨_, rfl⟩
 replace H : (impl_threePlaces.l0 k a0 a1 a2 y443 0) = some r := by first | (rw [hy443]; with_reducible exact H) | (have H2_ := (Option.bind_some _ _).symm.trans H; rw [hy443]; with_reducible exact H2_) | (have H2_ := (Option.bind_some _ _).symm.trans H; with_reducible exact H2_) | with_reducible exact H | (rw [hy443]; exact H) | exact H
 have Ny443 := am hy443; clear hy443; have H' := am H; clear H
 go_enter Try.func88, Try.ntmps88
 go_wp2_with (first | ((with_reducible refine gate_dst (N := 9) rfl ?_); refine Kd.R_lit (Kd.int .i64) _ 3 ?hg (N := 9) ?hd (xs := ([] : List Int)) (inner := []) (ok := fun _ => True) (okp := fun _ => True) ?hr ?hp (fun _ hk => hk) trivial (Below.refl _ _) (Nat.le_refl _) (by simp) ?_; (case hd => rfl); (case hg => rfl); (case hr => first | (go_simp; done) | (go_simp; rfl)); (case hp => exact (Reps.none _ _)); intro v444 w4 ho5 hb hg_ hnew_; clear hg_ hnew_; (first | rw [← Ny443.out] at ho5 | (simp only [Int.reduceToNat] at ho5; rw [← Ny443.out] at ho5)); have n0_ := Rl ho5 HB; have n1_ := Bb HB hb; clear HB; revert n0_ n1_; intro HO445 HB; clear hb ho5))
 (try simp only [aP])
 go_loopg [7, 10] k (fun kq v7 v10 w' => ∃ (x7_1 : List Int) (x10_1 : Int), v10 = .int .i64 x10_1 ∧ Aside0 (impl_threePlaces.l0 kq a0 a1 a2 x7_1 x10_1 = some r) ∧ Aside0 (kq ≤ k) ∧ Aside0 (Kd.R (Kd.int .i64) 3 w' w.heap.size (fun _ => True) v7 x7_1) ∧ Aside0 (Below w.heap.size w w'))
 case atStart => exact ⟨(y443), (0), wZ, H', ⟨Nat.le_refl _⟩, ⟨Rz HO445.out⟩, ⟨Bz HB.out⟩⟩
 case round =>
  clear H'
  try clear p2
  obtain ⟨x7_1, x10_1, rfl, HA, HK1, HO_7, HB⟩ := hrel; cases gk with
  | zero => exact absurd HA.out (by simp [impl_threePlaces.l0])
  | succ k1 =>
   have H := HA.out; clear HA
   simp only [impl_threePlaces.l0] at H
   by_cases c6 : x10_1 < 3
   ·rw [if_pos c6] at H
    have c6b0 : decide (x10_1 < 3) = true := decide_eq_true c6; clear c6; replace H := Option.bind_eq_some_iff.mp H; obtain ⟨t446, A70, H⟩ := H; (try dsimp -simprocs only at H); have A7 := am A70; clear A70
    by_cases c8 : x7_1.length < 17592186044416
    ·rw [if_pos c8] at H
     have LMc8 := am c8; clear c8; obtain ⟨y447, hy447⟩ : ∃ y_ : List Int, y_ = (x7_1 ++ [wrap64 (t446 + (wrap64 (x10_1 * a2)))]) := ⟨_, rfl⟩
     replace H : (impl_threePlaces.l0 k1 a0 a1 a2 y447 (wrap64 (x10_1 + 1))) = some r := by first | (rw [hy447]; with_reducible exact H) | (have H2_ := (Option.bind_some _ _).symm.trans H; rw [hy447]; with_reducible exact H2_) | (have H2_ := (Option.bind_some _ _).symm.trans H; with_reducible exact H2_) | with_reducible exact H | (rw [hy447]; exact H) | exact H
     have Ny447 := am hy447; clear hy447; have H' := am H; clear H
     go_wp2_with (first | ((with_reducible refine gate_callee (f := 116) rfl ?_); refine gL (some 18) Try.func116 #[.int .i64 a0, .int .i64 x10_1, .string a1, .int .i64 a2] ?_; (with_reducible refine (impl_place.calls k1 a0 x10_1 a1 a2 t446 _ A7.out).mono ?_); rintro e w' ⟨rfl, ⟨nd, rfl⟩⟩; refine ⟨_, rfl, ?_⟩) | ((with_reducible refine gate_builtin (b := .append) (xs := #[.tmp 13, .tmp 23]) rfl ?_); at_builtin; refine Kd.R_append (Kd.int .i64) (w0 := w) w.heap.size rfl (.tmp 13) (.tmp 23) 24 3 (.int .i64 0) 8 rfl Try.underlying24 info3 rfl (by decide) (by omega) u7 x7_1 (wrap64 (t446 + (wrap64 (x10_1 * a2)))) [.int .i64 (wrap64 (t446 + (wrap64 (x10_1 * a2))))] (fun _ => True) (fun _ => False) rfl rfl ?aP (fun _ hk => hk.elim) ?aF ?aO ?aB ?aS ?aL ?_; (case aP => exact rfl); (case aB => exact (Bz HB.out)); (case aF => exact (fun _ _ => trivial)); (case aO => exact (Rz HO_7.out)); (case aS => exact (below_size (Bz HB.out))); (case aL => have := LMc8.out; omega); intro v448 w9 ho hb hg hat; rw [← Ny447.out] at ho; have n0_ := am (hb); have n1_ := am (ho); clear HB HO_7; revert n0_ n1_; intro HB HO449; clear ho hb hg hat))
     go_roundg k1
     case measure => have := HK1.out; omega
     case rel => exact ⟨(y447), (wrap64 (x10_1 + 1)), wZ, H', ⟨by have := HK1.out; omega⟩, ⟨Rz HO449.out⟩, ⟨Bz HB.out⟩⟩
    ·rw [if_neg c8] at H
     exact absurd H (by simp)
   ·rw [if_neg c6] at H
    have c6b0 : decide (x10_1 < 3) = false := decide_eq_false c6; clear c6; obtain rfl := Option.some.inj H
    go_wp2
    go_ret
    exact ⟨_, eZ, Rz HO_7.out, Bz HB.out⟩

def impl_Peeled_place.f (k : Nat) (a0_0 : Int) (a0_1 : Int) (l0_2 : List Int) (a1 : ByteArray) : Option (Int) := (impl_threePlaces.f k a0_0 a1 a0_1).bind fun t450 => ((impl_led.f l0_2 t450).bind fun t453 => (if 0 ≤ t453 then (if t453 < (t450.length : Int) then (some (rd t450 t453)) else (none)) else (none)))
def impl_Peeled_place.T1 : Bool × List (List Nat × List Nat) := (true, [([], []), ([0], [0]), ([1], [1]), ([2], [2]), ([], []), ([], []), ([5], [5]), ([6], [6]), ([7], [7]), ([3, 4, 8], [3, 4, 8]), ([9, 9, 0, 1, 2, 3, 4, 5, 6, 7, 8, 9], [9])])
def impl_Peeled_place.B1 : List Nat := [0, 1, 3, 7, 0, 0, 32, 96, 224, 511, 1023]
theorem impl_Peeled_place.tab1 : rtab .any (opsOf Try.f58 1) = impl_Peeled_place.T1 := by kernel_rfl
theorem impl_Peeled_place.bits1 : waitsOk impl_Peeled_place.T1.2 impl_Peeled_place.B1 = true := by kernel_rfl
theorem impl_Peeled_place.calls (k : Nat) (g0 : Nat) (a0_0 : Int) (a0_1 : Int) (A0_2 : Option Addr) (c0_2 : Nat) (l0_2 : List Int) (a1 : ByteArray) (r : Int) (w : World) (hb0 : w.heap[g0]? = some (.cells #[.int .i64 a0_0, .int .i64 a0_1, .slice A0_2 l0_2.length c0_2] 26 (0, 0))) (hr0_2 : Kd.C (Kd.int .i64) w A0_2 l0_2.length l0_2) (hc0_2 : l0_2.length ≤ c0_2) (h : impl_Peeled_place.f k a0_0 a0_1 l0_2 a1 = some r) :
  Calls Try.prog 58 #[.pointer (some ⟨g0, 0, none⟩), .string a1] w fun e w' => e = .returned (.int .i64 r) ∧ Below w.heap.size w w' := by
 have HR0_2 := am hr0_2; have HC0_2 := am hc0_2; clear hr0_2 hc0_2; have BK0 := am hb0; clear hb0; have HB := am (Below.refl w.heap.size w); have H : ((impl_threePlaces.f k a0_0 a1 a0_1).bind fun t450 => ((impl_led.f l0_2 t450).bind fun t453 => (if 0 ≤ t453 then (if t453 < (t450.length : Int) then (some (rd t450 t453)) else (none)) else (none)))) = some r := h; clear h; replace H := Option.bind_eq_some_iff.mp H; obtain ⟨t450, A30, H⟩ := H; (try dsimp -simprocs only at H); have A3 := am A30; clear A30; replace H := Option.bind_eq_some_iff.mp H; obtain ⟨t453, A40, H⟩ := H; (try dsimp -simprocs only at H); have A4 := am A40; clear A40
 by_cases c5 : 0 ≤ t453
 ·rw [if_pos c5] at H
  have c5b0 : decide (0 ≤ t453) = true := decide_eq_true c5; clear c5
  by_cases c6 : t453 < (t450.length : Int)
  ·rw [if_pos c6] at H
   have c6b0 : decide (t453 < (t450.length : Int)) = true := decide_eq_true c6; clear c6; obtain rfl := Option.some.inj H
   go_enter Try.func58, Try.ntmps58
   try go_wp2
   have n0_ := am (blk_drew BK0.out); have n1_ := am (below_drew1 HB.out); clear BK0 HB; revert n0_ n1_; intro BK0 HB; refine start_ (n := 11) (S := fun w' => w'.cell? ⟨g0, 0, none⟩ = some (.int .i64 a0_0) ∧ w'.cell? ⟨g0, 1, none⟩ = some (.int .i64 a0_1) ∧ w'.cell? ⟨g0, 2, none⟩ = some (.slice A0_2 l0_2.length c0_2)) (ds := []) (bA 11 0) (by kernel_rfl) rfl rfl ⟨cz BK0 0, cz BK0 1, cz BK0 2⟩ (fun hHeld => ?_); refine with_tabW impl_Peeled_place.tab1 impl_Peeled_place.bits1 (fun HT_ HW_ => ?_); generalize w.drew = w7 at BK0 HB hHeld ⊢; refine pZ 0 (some 6) (bA 11 1) HT_.out ?_; refine pZ 1 (some 7) (bA 11 3) HT_.out ?_; refine pZ 2 (some 8) (bA 11 7) HT_.out ?_; refine pZ 4 (some 10) (bA 11 23) HT_.out ?_; refine pZ 5 (some 11) (bA 11 55) HT_.out ?_; refine pZ 6 (some 12) (bA 11 119) HT_.out ?_; refine pZ 7 (some 13) (bA 11 247) HT_.out ?_; refine tZ3 3 (some 9) (bA 11 255) HT_.out HW_.out hHeld ?_; refine tZ3 8 (some 14) (bA 11 511) HT_.out HW_.out hHeld ?_; refine oZ 9 (some 15) (bA 11 1023) HT_.out (fun K hK => ?_); refine gZ Try.func88 #[.int .i64 a0_0, .string a1, .int .i64 a0_1] ?_
   with_reducible refine (impl_threePlaces.calls k a0_0 a1 a0_1 t450 _ A3.out).mono ?_
   rintro e w8 ⟨v451, rfl, ho0, hb⟩; refine ⟨_, rfl, ?_⟩; have n0_ := Rm ho0 HB; have n1_ := Kb BK0 hb; have n2_ := Bc HB hb; clear BK0 HB; revert n0_ n1_ n2_; intro HO452 BK0 HB
   (try clear hb)
   (try clear hb2)
   (try clear hk)
   (try clear hi)
   (try clear ho0)
   refine hK.out _ _ ⟨cz BK0 0, cz BK0 1, cz BK0 2⟩ (fun hHeld => ?_); clear hK K; refine norm_ (a' := ?_) ?_ ?_; rotate_left; show Act.put _ (some 15) _ = _; simp only [aP, i64_w, i32_w]; rfl; refine pZ 10 (some 5) (bA 11 2047) HT_.out ?_; refine done_ (done_of HT_.out (by kernel_rfl)) ?_; obtain ⟨hcz9_0, hcz9_1, hcz9_2, hfz9_0, hfz9_1, hfz9_2⟩ := cf3 (w := w8) BK0; obtain ⟨Ao10, co10, eo10⟩ := Kd.R_slice HO452.out; subst eo10
   try go_wp2_with (first | ((with_reducible refine gate_callee (f := 86) rfl ?_); refine gL (some 22) Try.func86 #[.slice A0_2 l0_2.length c0_2, .slice Ao10 t450.length co10] ?_; (with_reducible refine (impl_led.calls _ _ l0_2 _ _ t450 t453 _ ?side1 ?side2 ?side3 ?side4 A4.out).mono ?_); (case side1 => exact Cz (Kd.C_below HR0_2.out HB.out)); (case side2 => exact HC0_2.out); (case side3 => exact Cz ((Kd.R_reads' HO452.out).2.2)); (case side4 => exact (Kd.R_reads' HO452.out).2.1); rintro e w' ⟨rfl, ⟨nd, rfl⟩⟩; refine ⟨_, rfl, ?_⟩; obtain ⟨ad454, e454, hx454_0⟩ := Kd.at_int (Kd.R_reads' HO452.out).2.2 t453 dT dT; cases e454; have p454 := eT (0 ≤ (t453 : Int)); have q454 := eT (t453 < (t450.length : Int))))
   go_ret
   exact ⟨eZ, Bq⟩
  ·rw [if_neg c6] at H
   exact absurd H (by simp)
 ·rw [if_neg c5] at H
  exact absurd H (by simp)

def impl_Peeled_used.l0 : Nat → Int → List Int → Int → Int → Option (Int)
 | 0, _, _, _, _ => none
 | k + 1, x5, x13, x14, x15 => if x15 < x14 then (if 0 ≤ x15 then (if x15 < (x13.length : Int) then (if (rd x13 x15) = 3 then (impl_Peeled_used.l0 k x5 x13 x14 (wrap64 (x15 + 1))) else (impl_Peeled_used.l0 k (wrap64 (x5 + 1)) x13 x14 (wrap64 (x15 + 1)))) else (none)) else (none)) else (some x5)
def impl_Peeled_used.f (k : Nat) (a0_0 : Int) (a0_1 : Int) (l0_2 : List Int) (a1 : Int) : Option (Int) := if 0 ≤ a1 then (if a1 ≤ (l0_2.length : Int) then (impl_Peeled_used.l0 k 0 (l0_2.take (a1 : Int).toNat) ((l0_2.take (a1 : Int).toNat).length : Int) 0) else (none)) else (none)
theorem impl_Peeled_used.calls (k : Nat) (g0 : Nat) (a0_0 : Int) (a0_1 : Int) (A0_2 : Option Addr) (c0_2 : Nat) (l0_2 : List Int) (a1 : Int) (r : Int) (w : World) (hb0 : w.heap[g0]? = some (.cells #[.int .i64 a0_0, .int .i64 a0_1, .slice A0_2 l0_2.length c0_2] 26 (0, 0))) (hr0_2 : Kd.C (Kd.int .i64) w A0_2 l0_2.length l0_2) (hc0_2 : l0_2.length ≤ c0_2) (h : impl_Peeled_used.f k a0_0 a0_1 l0_2 a1 = some r) :
  Calls Try.prog 133 #[.pointer (some ⟨g0, 0, none⟩), .int .i64 a1] w fun e w' => e = .returned (.int .i64 r) ∧ Drawn0 w w' := by
 have HR0_2 := am hr0_2; have HC0_2 := am hc0_2; clear hr0_2 hc0_2; have BK0 := am hb0; clear hb0; have H : (if 0 ≤ a1 then (if a1 ≤ (l0_2.length : Int) then (impl_Peeled_used.l0 k 0 (l0_2.take (a1 : Int).toNat) ((l0_2.take (a1 : Int).toNat).length : Int) 0) else (none)) else (none)) = some r := h; clear h
 by_cases c3 : 0 ≤ a1
 ·rw [if_pos c3] at H
  have c3b0 := eq_true c3; have c3b1 : decide (0 ≤ a1) = true := decide_eq_true c3; clear c3
  by_cases c4 : a1 ≤ (l0_2.length : Int)
  ·rw [if_pos c4] at H
   have c4b0 := eq_true c4; have c4b1 : decide (a1 ≤ (l0_2.length : Int)) = true := decide_eq_true c4; clear c4; have H' := am H; clear H; obtain ⟨hcz5_0, hcz5_1, hcz5_2, hfz5_0, hfz5_1, hfz5_2⟩ := cf3 (w := w) BK0; obtain ⟨i06, hi06, _, hsz6, _⟩ := info_parts info3; obtain ⟨hcut6, hA6, hC6⟩ := print_take_of (P := Try.prog) (Value.int .i64) 0 24 3 .i64 Try.underlying24 hi06 hsz6 A0_2 c0_2 l0_2 a1 (dT) (dT) HC0_2.out; have HR455 := am (Kd.C_of_reads (h1 := fun _ => rfl) (hA6 _ (Kd.reads_of_C HR0_2.out))); have HC455 := am hC6; clear hA6 hC6 hi06 hsz6; obtain ⟨tk6, hk6⟩ : ∃ L_, l0_2.take a1.toNat = L_ := ⟨_, rfl⟩; (try rw [hk6] at H'); (try rw [hk6] at H); rw [hk6] at hcut6 HR455 HC455; clear hk6
   go_enter Try.func133, Try.ntmps133
   go_wp2
   go_loopg [5, 15] k (fun kq v5 v15 w' => ∃ (x5_1 : Int) (x15_1 : Int), v5 = .int .i64 x5_1 ∧ v15 = .int .i64 x15_1 ∧ Aside0 (impl_Peeled_used.l0 kq x5_1 tk6 (tk6.length : Int) x15_1 = some r) ∧ Aside0 (kq ≤ k) ∧ Aside0 (w'.heap[g0]? = some (.cells #[.int .i64 a0_0, .int .i64 a0_1, (.slice A0_2 l0_2.length c0_2)] 26 (0, 0))) ∧ Drawn0 w w')
   case atStart => exact ⟨(0), (0), wZ, wZ, H', ⟨Nat.le_refl _⟩, ⟨Kz BK0.out⟩, by repeat (first | exact Drawn0.refl _ | apply Drawn0.step)⟩
   case round =>
    clear H'
    try clear c1
    try clear p2
    try clear c3
    try clear c3b0
    try clear c3b1
    try clear c4
    try clear c4b0
    try clear c4b1
    try clear hcz5_0
    try clear hcz5_1
    try clear hcz5_2
    try clear hfz5_0
    try clear hfz5_1
    try clear hfz5_2
    obtain ⟨x5_1, x15_1, rfl, rfl, HA, HK1, BK0, ⟨m1, rfl⟩⟩ := hrel; cases gk with
    | zero => exact absurd HA.out (by simp [impl_Peeled_used.l0])
    | succ k1 =>
     have H := HA.out; clear HA
     simp only [impl_Peeled_used.l0] at H
     by_cases c7 : x15_1 < (tk6.length : Int)
     ·rw [if_pos c7] at H
      have c7b0 : decide (x15_1 < (tk6.length : Int)) = true := decide_eq_true c7; clear c7
      by_cases c8 : 0 ≤ x15_1
      ·rw [if_pos c8] at H
       have c8b0 : decide (0 ≤ x15_1) = true := decide_eq_true c8; clear c8
       by_cases c9 : x15_1 < (tk6.length : Int)
       ·rw [if_pos c9] at H
        have c9b0 : decide (x15_1 < (tk6.length : Int)) = true := decide_eq_true c9; clear c9
        by_cases c10 : (rd tk6 x15_1) = 3
        ·rw [if_pos c10] at H
         have c10b0 : ((rd tk6 x15_1) == 3) = true := beq_iff_eq.mpr c10; have c10b1 : ((rd tk6 x15_1) != 3) = false := bne_eq_false_iff_eq.mpr c10; clear c10; have H' := am H; clear H; obtain ⟨ad456, e456, hx456_0⟩ := Kd.at_int HR455.out x15_1 dT dT; cases e456; have p456 := eT (0 ≤ (x15_1 : Int)); have q456 := eT (x15_1 < (tk6.length : Int))
         go_wp2
         go_roundg k1
         case measure => have := HK1.out; omega
         case rel => exact ⟨(x5_1), (wrap64 (x15_1 + 1)), wZ, wZ, H', ⟨by have := HK1.out; omega⟩, ⟨Kz BK0.out⟩, by repeat (first | exact Drawn0.refl _ | apply Drawn0.step)⟩
        ·rw [if_neg c10] at H
         have c10b0 : ((rd tk6 x15_1) == 3) = false := beq_eq_false_iff_ne.mpr c10; have c10b1 : ((rd tk6 x15_1) != 3) = true := bne_iff_ne.mpr c10; have H' := am H; clear H; obtain ⟨ad456, e456, hx456_0⟩ := Kd.at_int HR455.out x15_1 dT dT; cases e456; have p456 := eT (0 ≤ (x15_1 : Int)); have q456 := eT (x15_1 < (tk6.length : Int))
         go_wp2
         go_roundg k1
         case measure => have := HK1.out; omega
         case rel => exact ⟨(wrap64 (x5_1 + 1)), (wrap64 (x15_1 + 1)), wZ, wZ, H', ⟨by have := HK1.out; omega⟩, ⟨Kz BK0.out⟩, by repeat (first | exact Drawn0.refl _ | apply Drawn0.step)⟩
       ·rw [if_neg c9] at H
        exact absurd H (by simp)
      ·rw [if_neg c8] at H
       exact absurd H (by simp)
     ·rw [if_neg c7] at H
      have c7b0 : decide (x15_1 < (tk6.length : Int)) = false := decide_eq_false c7; clear c7; obtain rfl := Option.some.inj H
      go_wp2
      go_ret
      exact ⟨by first | rfl | (simp; done) | (simp [*]; done), by repeat (first | exact Drawn0.refl _ | apply Drawn0.step)⟩
  ·rw [if_neg c4] at H
   exact absurd H (by simp)
 ·rw [if_neg c3] at H
  exact absurd H (by simp)

def impl_Peeled_index.f (k : Nat) (a0_0 : Int) (a0_1 : Int) (l0_2 : List Int) (a1 : ByteArray) : Option (Int × Bool) := (impl_Peeled_place.f k a0_0 a0_1 l0_2 a1).bind fun t457 => (if 0 ≤ t457 then (if t457 < (l0_2.length : Int) then (if (rd l0_2 t457) = 3 then (some (0, false)) else ((impl_Peeled_used.f k a0_0 a0_1 l0_2 t457).bind fun t459 => (some (t459, true)))) else (none)) else (none))
theorem impl_Peeled_index.calls (k : Nat) (g0 : Nat) (a0_0 : Int) (a0_1 : Int) (A0_2 : Option Addr) (c0_2 : Nat) (l0_2 : List Int) (a1 : ByteArray) (r1 : Int) (r2 : Bool) (w : World) (hb0 : w.heap[g0]? = some (.cells #[.int .i64 a0_0, .int .i64 a0_1, .slice A0_2 l0_2.length c0_2] 26 (0, 0))) (hr0_2 : Kd.C (Kd.int .i64) w A0_2 l0_2.length l0_2) (hc0_2 : l0_2.length ≤ c0_2) (h : impl_Peeled_index.f k a0_0 a0_1 l0_2 a1 = some (r1, r2)) :
  Calls Try.prog 53 #[.pointer (some ⟨g0, 0, none⟩), .string a1] w fun e w' => e = .returned (.tuple #[.int .i64 r1, .bool r2]) ∧ Below w.heap.size w w' := by
 have HR0_2 := am hr0_2; have HC0_2 := am hc0_2; clear hr0_2 hc0_2; have BK0 := am hb0; clear hb0; have HB := am (Below.refl w.heap.size w); have H : ((impl_Peeled_place.f k a0_0 a0_1 l0_2 a1).bind fun t457 => (if 0 ≤ t457 then (if t457 < (l0_2.length : Int) then (if (rd l0_2 t457) = 3 then (some (0, false)) else ((impl_Peeled_used.f k a0_0 a0_1 l0_2 t457).bind fun t459 => (some (t459, true)))) else (none)) else (none))) = some (r1, r2) := h; clear h; replace H := Option.bind_eq_some_iff.mp H; obtain ⟨t457, A30, H⟩ := H; (try dsimp -simprocs only at H); have A3 := am A30; clear A30
 by_cases c4 : 0 ≤ t457
 ·rw [if_pos c4] at H
  have c4b0 : decide (0 ≤ t457) = true := decide_eq_true c4; clear c4
  by_cases c5 : t457 < (l0_2.length : Int)
  ·rw [if_pos c5] at H
   have c5b0 : decide (t457 < (l0_2.length : Int)) = true := decide_eq_true c5; clear c5
   by_cases c6 : (rd l0_2 t457) = 3
   ·rw [if_pos c6] at H
    have c6b0 : ((rd l0_2 t457) == 3) = true := beq_iff_eq.mpr c6; have c6b1 : ((rd l0_2 t457) != 3) = false := bne_eq_false_iff_eq.mpr c6; clear c6
    simp only [Option.some.injEq, Prod.mk.injEq] at H
    obtain ⟨rfl, rfl⟩ := H
    go_enter Try.func53, Try.ntmps53
    go_wp2_with (first | ((with_reducible refine gate_callee (f := 58) rfl ?_); refine gL (some 9) Try.func58 #[.pointer (some ⟨g0, 0, none⟩), .string a1] ?_; (with_reducible refine (impl_Peeled_place.calls k g0 a0_0 a0_1 A0_2 c0_2 l0_2 a1 t457 _ ?side1 ?side2 ?side3 A3.out).mono ?_); (case side1 => exact Kz BK0.out); (case side2 => exact Cz HR0_2.out); (case side3 => exact HC0_2.out); rintro e w7 ⟨rfl, hb⟩; refine ⟨_, rfl, ?_⟩; have n0_ := Kb BK0 hb; have n1_ := Bc HB hb; clear BK0 HB; revert n0_ n1_; intro BK0 HB; (try clear hb); (try clear hb2); (try clear hk); (try clear hi); obtain ⟨hcz8_0, hcz8_1, hcz8_2, hfz8_0, hfz8_1, hfz8_2⟩ := cf3 (w := w7) BK0; have p458 : 0 ≤ (t457 : Int) := dT; have q458 : t457 < (l0_2.length : Int) := dT; obtain ⟨ad458, e458, hx458_0⟩ := Kd.at_int HR0_2.out t457 p458 q458; cases e458; replace hx458_0 := (HB.out.cell (World.block_lt_of_cell? w _ hx458_0)).trans hx458_0; replace p458 := eq_true p458; replace q458 := eq_true q458))
    go_ret2
    exact ⟨eZ, Bq⟩
   ·rw [if_neg c6] at H
    have c6b0 : ((rd l0_2 t457) == 3) = false := beq_eq_false_iff_ne.mpr c6; have c6b1 : ((rd l0_2 t457) != 3) = true := bne_iff_ne.mpr c6; replace H := Option.bind_eq_some_iff.mp H; obtain ⟨t459, A90, H⟩ := H; (try dsimp -simprocs only at H); have A9 := am A90; clear A90
    simp only [Option.some.injEq, Prod.mk.injEq] at H
    obtain ⟨rfl, rfl⟩ := H
    go_enter Try.func53, Try.ntmps53
    go_wp2_with (first | ((with_reducible refine gate_callee (f := 58) rfl ?_); refine gL (some 9) Try.func58 #[.pointer (some ⟨g0, 0, none⟩), .string a1] ?_; (with_reducible refine (impl_Peeled_place.calls k g0 a0_0 a0_1 A0_2 c0_2 l0_2 a1 t457 _ ?side1 ?side2 ?side3 A3.out).mono ?_); (case side1 => exact Kz BK0.out); (case side2 => exact Cz HR0_2.out); (case side3 => exact HC0_2.out); rintro e w10 ⟨rfl, hb⟩; refine ⟨_, rfl, ?_⟩; have n0_ := Kb BK0 hb; have n1_ := Bc HB hb; clear BK0 HB; revert n0_ n1_; intro BK0 HB; (try clear hb); (try clear hb2); (try clear hk); (try clear hi); obtain ⟨hcz11_0, hcz11_1, hcz11_2, hfz11_0, hfz11_1, hfz11_2⟩ := cf3 (w := w10) BK0; have p458 : 0 ≤ (t457 : Int) := dT; have q458 : t457 < (l0_2.length : Int) := dT; obtain ⟨ad458, e458, hx458_0⟩ := Kd.at_int HR0_2.out t457 p458 q458; cases e458; replace hx458_0 := (HB.out.cell (World.block_lt_of_cell? w _ hx458_0)).trans hx458_0; replace p458 := eq_true p458; replace q458 := eq_true q458) | ((with_reducible refine gate_callee (f := 133) rfl ?_); refine gL (some 20) Try.func133 #[.pointer (some ⟨g0, 0, none⟩), .int .i64 t457] ?_; (with_reducible refine (impl_Peeled_used.calls k g0 a0_0 a0_1 (some ad458) c0_2 l0_2 t457 t459 _ ?side1 ?side2 ?side3 A9.out).mono ?_); (case side1 => exact Kz BK0.out); (case side2 => exact Cz (Kd.C_below HR0_2.out HB.out)); (case side3 => exact HC0_2.out); rintro e w' ⟨rfl, ⟨nd, rfl⟩⟩; refine ⟨_, rfl, ?_⟩))
    go_ret2
    exact ⟨eZ, Bq⟩
  ·rw [if_neg c5] at H
   exact absurd H (by simp)
 ·rw [if_neg c4] at H
  exact absurd H (by simp)

def impl_PeeledIndex.f (k : Nat) (a0_0 : Int) (a0_1 : Int) (l0_2 : List Int) (a1 : ByteArray) : Option (Int × Bool) := (impl_IsPeeled.f k a0_0 a0_1 l0_2).bind fun t461 => (if t461 = true then ((impl_IsKey.f k a1).bind fun t462 => (if t462 = true then ((impl_Peeled_index.f k a0_0 a0_1 l0_2 a1).bind fun bt463 => (some (bt463.1, bt463.2))) else (some (0, false)))) else (some (0, false)))
theorem impl_PeeledIndex.calls (k : Nat) (a0_0 : Int) (a0_1 : Int) (A0_2 : Option Addr) (c0_2 : Nat) (l0_2 : List Int) (a1 : ByteArray) (r1 : Int) (r2 : Bool) (w : World) (hr0_2 : Kd.C (Kd.int .i64) w A0_2 l0_2.length l0_2) (hc0_2 : l0_2.length ≤ c0_2) (h : impl_PeeledIndex.f k a0_0 a0_1 l0_2 a1 = some (r1, r2)) :
  Calls Try.prog 10 #[.agg #[.int .i64 a0_0, .int .i64 a0_1, .slice A0_2 l0_2.length c0_2], .string a1] w fun e w' => e = .returned (.tuple #[.int .i64 r1, .bool r2]) ∧ Below w.heap.size w w' := by
 have hu26 := Try.underlying26; have HR0_2 := am hr0_2; have HC0_2 := am hc0_2; clear hr0_2 hc0_2; have HB := am (Below.refl w.heap.size w); have H : ((impl_IsPeeled.f k a0_0 a0_1 l0_2).bind fun t461 => (if t461 = true then ((impl_IsKey.f k a1).bind fun t462 => (if t462 = true then ((impl_Peeled_index.f k a0_0 a0_1 l0_2 a1).bind fun bt463 => (some (bt463.1, bt463.2))) else (some (0, false)))) else (some (0, false)))) = some (r1, r2) := h; clear h; replace H := Option.bind_eq_some_iff.mp H; obtain ⟨t461, A30, H⟩ := H; (try dsimp -simprocs only at H); have A3 := am A30; clear A30
 by_cases c4 : t461 = true
 ·subst c4
  rw [if_pos rfl] at H; replace H := Option.bind_eq_some_iff.mp H; obtain ⟨t462, A50, H⟩ := H; (try dsimp -simprocs only at H); have A5 := am A50; clear A50
  by_cases c6 : t462 = true
  ·subst c6
   rw [if_pos rfl] at H; replace H := Option.bind_eq_some_iff.mp H; obtain ⟨⟨t463, t464⟩, A70, H⟩ := H; (try dsimp -simprocs only at H); have A7 := am A70; clear A70
   simp only [Option.some.injEq, Prod.mk.injEq] at H
   obtain ⟨rfl, rfl⟩ := H
   go_enter Try.func10, Try.ntmps10
   go_wp2_with (first | ((with_reducible refine gate_dst (N := 2) rfl ?_); refine bE 2 #[.int .i64 a0_0, .int .i64 a0_1, .slice A0_2 l0_2.length c0_2] 26 ?_; intro gb460 hg w8 hbox hb; have n0_ := Bb HB hb; have n1_ := am (hbox); have n2_ := Gl HB hg; have n3_ := Gl HB hg; clear HB; revert n0_ n1_ n2_ n3_; intro HB BK460 GW460 GE460; clear hb hbox hg; obtain ⟨hcz9_0, hcz9_1, hcz9_2, hfz9_0, hfz9_1, hfz9_2⟩ := cf3 (w := w8) BK460) | ((with_reducible refine gate_callee (f := 51) rfl ?_); refine gL (some 7) Try.func51 #[.agg #[.int .i64 a0_0, .int .i64 a0_1, .slice A0_2 l0_2.length c0_2]] ?_; (with_reducible refine (impl_IsPeeled.calls k a0_0 a0_1 _ _ l0_2 true _ ?side1 ?side2 A3.out).mono ?_); (case side1 => exact Cz (Kd.C_below HR0_2.out HB.out)); (case side2 => exact HC0_2.out); rintro e w10 ⟨rfl, hb⟩; refine ⟨_, rfl, ?_⟩; have n0_ := Kb BK460 hb; have n1_ := Bc HB hb; clear BK460 HB; revert n0_ n1_; intro BK460 HB; (try clear hb); (try clear hb2); (try clear hk); (try clear hi)) | (go_at_call 52; (with_reducible refine (impl_IsKey.calls k a1 true _ A5.out).mono ?_); rintro e w' ⟨rfl, ⟨nd, rfl⟩⟩) | ((with_reducible refine gate_callee (f := 53) rfl ?_); refine gL (some 15) Try.func53 #[.pointer (some ⟨gb460, 0, none⟩), .string a1] ?_; (with_reducible refine (impl_Peeled_index.calls k gb460 a0_0 a0_1 A0_2 c0_2 l0_2 a1 t463 t464 _ ?side1 ?side2 ?side3 A7.out).mono ?_); (case side1 => exact Kz BK460.out); (case side2 => exact Cz (Kd.C_below HR0_2.out (Bq))); (case side3 => exact HC0_2.out); rintro e w11 ⟨rfl, hb⟩; refine ⟨_, rfl, ?_⟩; have n0_ := Kb BK460 hb; have n1_ := Bc HB hb; clear BK460 HB; revert n0_ n1_; intro BK460 HB; (try clear hb); (try clear hb2); (try clear hk); (try clear hi)))
   go_ret2
   exact ⟨eZ, Bq⟩
  ·replace c6 := Bool.eq_false_iff.mpr c6
   subst c6
   rw [if_neg (show ¬ (false = true) by decide)] at H
   simp only [Option.some.injEq, Prod.mk.injEq] at H
   obtain ⟨rfl, rfl⟩ := H
   go_enter Try.func10, Try.ntmps10
   go_wp2_with (first | ((with_reducible refine gate_dst (N := 2) rfl ?_); refine bE 2 #[.int .i64 a0_0, .int .i64 a0_1, .slice A0_2 l0_2.length c0_2] 26 ?_; intro gb460 hg w12 hbox hb; have n0_ := Bb HB hb; have n1_ := am (hbox); have n2_ := Gl HB hg; have n3_ := Gl HB hg; clear HB; revert n0_ n1_ n2_ n3_; intro HB BK460 GW460 GE460; clear hb hbox hg; obtain ⟨hcz13_0, hcz13_1, hcz13_2, hfz13_0, hfz13_1, hfz13_2⟩ := cf3 (w := w12) BK460) | ((with_reducible refine gate_callee (f := 51) rfl ?_); refine gL (some 7) Try.func51 #[.agg #[.int .i64 a0_0, .int .i64 a0_1, .slice A0_2 l0_2.length c0_2]] ?_; (with_reducible refine (impl_IsPeeled.calls k a0_0 a0_1 _ _ l0_2 true _ ?side1 ?side2 A3.out).mono ?_); (case side1 => exact Cz (Kd.C_below HR0_2.out HB.out)); (case side2 => exact HC0_2.out); rintro e w14 ⟨rfl, hb⟩; refine ⟨_, rfl, ?_⟩; have n0_ := Kb BK460 hb; have n1_ := Bc HB hb; clear BK460 HB; revert n0_ n1_; intro BK460 HB; (try clear hb); (try clear hb2); (try clear hk); (try clear hi)) | (go_at_call 52; (with_reducible refine (impl_IsKey.calls k a1 false _ A5.out).mono ?_); rintro e w' ⟨rfl, ⟨nd, rfl⟩⟩))
   go_ret2
   exact ⟨eZ, Bq⟩
 ·replace c4 := Bool.eq_false_iff.mpr c4
  subst c4
  rw [if_neg (show ¬ (false = true) by decide)] at H
  simp only [Option.some.injEq, Prod.mk.injEq] at H
  obtain ⟨rfl, rfl⟩ := H
  go_enter Try.func10, Try.ntmps10
  go_wp2_with (first | ((with_reducible refine gate_dst (N := 2) rfl ?_); refine bE 2 #[.int .i64 a0_0, .int .i64 a0_1, .slice A0_2 l0_2.length c0_2] 26 ?_; intro gb460 hg w15 hbox hb; have n0_ := Bb HB hb; have n1_ := am (hbox); have n2_ := Gl HB hg; have n3_ := Gl HB hg; clear HB; revert n0_ n1_ n2_ n3_; intro HB BK460 GW460 GE460; clear hb hbox hg; obtain ⟨hcz16_0, hcz16_1, hcz16_2, hfz16_0, hfz16_1, hfz16_2⟩ := cf3 (w := w15) BK460) | ((with_reducible refine gate_callee (f := 51) rfl ?_); refine gL (some 7) Try.func51 #[.agg #[.int .i64 a0_0, .int .i64 a0_1, .slice A0_2 l0_2.length c0_2]] ?_; (with_reducible refine (impl_IsPeeled.calls k a0_0 a0_1 _ _ l0_2 false _ ?side1 ?side2 A3.out).mono ?_); (case side1 => exact Cz (Kd.C_below HR0_2.out HB.out)); (case side2 => exact HC0_2.out); rintro e w17 ⟨rfl, hb⟩; refine ⟨_, rfl, ?_⟩; have n0_ := Kb BK460 hb; have n1_ := Bc HB hb; clear BK460 HB; revert n0_ n1_; intro BK460 HB; (try clear hb); (try clear hb2); (try clear hk); (try clear hi)))
  go_ret2
  exact ⟨eZ, Bq⟩

def spec_pfPlace.f (k : Nat) (a0_0 : Int) (a0_1 : Int) (l0_2 : List Int) (a1 : ByteArray) : Option (Int) := (spec_peTriple.f k a0_0 a1 a0_1).bind fun t466 => ((spec_pfSum.f k l0_2 t466).bind fun t469 => (if 0 ≤ (Int.tmod t469 3) then (if (Int.tmod t469 3) < (t466.length : Int) then (some (rd t466 (Int.tmod t469 3))) else (none)) else (none)))
theorem spec_pfPlace.calls (k : Nat) (a0_0 : Int) (a0_1 : Int) (A0_2 : Option Addr) (c0_2 : Nat) (l0_2 : List Int) (a1 : ByteArray) (r : Int) (w : World) (hr0_2 : Kd.C (Kd.int .i64) w A0_2 l0_2.length l0_2) (hc0_2 : l0_2.length ≤ c0_2) (h : spec_pfPlace.f k a0_0 a0_1 l0_2 a1 = some r) :
  Calls Try.prog 56 #[.agg #[.int .i64 a0_0, .int .i64 a0_1, .slice A0_2 l0_2.length c0_2], .string a1] w fun e w' => e = .returned (.int .i64 r) ∧ Below w.heap.size w w' := by
 have hu26 := Try.underlying26; have HR0_2 := am hr0_2; have HC0_2 := am hc0_2; clear hr0_2 hc0_2; have HB := am (Below.refl w.heap.size w); have H : ((spec_peTriple.f k a0_0 a1 a0_1).bind fun t466 => ((spec_pfSum.f k l0_2 t466).bind fun t469 => (if 0 ≤ (Int.tmod t469 3) then (if (Int.tmod t469 3) < (t466.length : Int) then (some (rd t466 (Int.tmod t469 3))) else (none)) else (none)))) = some r := h; clear h; replace H := Option.bind_eq_some_iff.mp H; obtain ⟨t466, A30, H⟩ := H; (try dsimp -simprocs only at H); have A3 := am A30; clear A30; replace H := Option.bind_eq_some_iff.mp H; obtain ⟨t469, A40, H⟩ := H; (try dsimp -simprocs only at H); have A4 := am A40; clear A40; obtain ⟨ji5, hji5⟩ : ∃ j_ : Int, (Int.tmod t469 3) = j_ := ⟨_, rfl⟩
 replace H : (if 0 ≤ (ji5) then (if (ji5) < (t466.length : Int) then (some (rd t466 (ji5))) else (none)) else (none)) = some r := by first | (rw [hji5] at H; exact H) | (simp only [hji5] at H ⊢; exact H)
 (try rw [hji5] at A3)
 (try rw [hji5] at A4)
 by_cases c6 : 0 ≤ (ji5)
 ·rw [if_pos c6] at H
  have c6b0 : decide (0 ≤ (ji5)) = true := decide_eq_true c6; clear c6
  by_cases c7 : (ji5) < (t466.length : Int)
  ·rw [if_pos c7] at H
   have c7b0 : decide ((ji5) < (t466.length : Int)) = true := decide_eq_true c7; clear c7; obtain rfl := Option.some.inj H
   go_enter Try.func56, Try.ntmps56
   go_wp2_with (first | ((with_reducible refine gate_dst (N := 2) rfl ?_); refine bE 2 #[.int .i64 a0_0, .int .i64 a0_1, .slice A0_2 l0_2.length c0_2] 26 ?_; intro gb465 hg w8 hbox hb; have n0_ := Bb HB hb; have n1_ := am (hbox); have n2_ := Gl HB hg; have n3_ := Gl HB hg; clear HB; revert n0_ n1_ n2_ n3_; intro HB BK465 GW465 GE465; clear hb hbox hg; obtain ⟨hcz9_0, hcz9_1, hcz9_2, hfz9_0, hfz9_1, hfz9_2⟩ := cf3 (w := w8) BK465) | ((with_reducible refine gate_callee (f := 135) rfl ?_); refine gL (some 11) Try.func135 #[.int .i64 a0_0, .string a1, .int .i64 a0_1] ?_; (with_reducible refine (spec_peTriple.calls k a0_0 a1 a0_1 t466 _ A3.out).mono ?_); rintro e w10 ⟨v467, rfl, ho0, hb⟩; refine ⟨_, rfl, ?_⟩; have n0_ := Rm ho0 HB; have n1_ := Kb BK465 hb; have n2_ := Bc HB hb; clear BK465 HB; revert n0_ n1_ n2_; intro HO468 BK465 HB; (try clear hb); (try clear hb2); (try clear hk); (try clear hi); (try clear ho0); obtain ⟨hcz11_0, hcz11_1, hcz11_2, hfz11_0, hfz11_1, hfz11_2⟩ := cf3 (w := w10) BK465; obtain ⟨Ao12, co12, eo12⟩ := Kd.R_slice HO468.out; subst eo12) | ((with_reducible refine gate_callee (f := 83) rfl ?_); refine gL (some 16) Try.func83 #[.slice A0_2 l0_2.length c0_2, .slice Ao12 t466.length co12] ?_; (with_reducible refine (spec_pfSum.calls k _ _ l0_2 _ _ t466 t469 _ ?side1 ?side2 ?side3 ?side4 A4.out).mono ?_); (case side1 => exact Cz (Kd.C_below HR0_2.out HB.out)); (case side2 => exact HC0_2.out); (case side3 => exact Cz ((Kd.R_reads' HO468.out).2.2)); (case side4 => exact (Kd.R_reads' HO468.out).2.1); rintro e w' ⟨rfl, ⟨nd, rfl⟩⟩; refine ⟨_, rfl, ?_⟩; obtain ⟨ad470, e470, hx470_0⟩ := Kd.at_int (Kd.R_reads' HO468.out).2.2 (ji5) dT dT; cases e470; have p470 := eT (0 ≤ ((ji5) : Int)); have q470 := eT ((ji5) < (t466.length : Int))))
   go_ret
   exact ⟨by first | rfl | (simp [errW_none, errW_some] <;> rfl) | (simp only [← hji5]; first | rfl | (simp [errW_none, errW_some] <;> rfl)) | (simp [*, errW_none, errW_some] <;> rfl), Bq⟩
  ·rw [if_neg c7] at H
   exact absurd H (by simp)
 ·rw [if_neg c6] at H
  exact absurd H (by simp)

def spec_pfRank.l0 : Nat → Int → List Int → Int → Int → Option (Int)
 | 0, _, _, _, _ => none
 | k + 1, x5, x11, x12, x13 => if x13 < x12 then (if 0 ≤ x13 then (if x13 < (x11.length : Int) then (if (rd x11 x13) = 3 then (spec_pfRank.l0 k x5 x11 x12 (wrap64 (x13 + 1))) else (spec_pfRank.l0 k (wrap64 (x5 + 1)) x11 x12 (wrap64 (x13 + 1)))) else (none)) else (none)) else (some x5)
def spec_pfRank.f (k : Nat) (a0_0 : Int) (a0_1 : Int) (l0_2 : List Int) (a1 : Int) : Option (Int) := if 0 ≤ a1 then (if a1 ≤ (l0_2.length : Int) then (spec_pfRank.l0 k 0 (l0_2.take (a1 : Int).toNat) ((l0_2.take (a1 : Int).toNat).length : Int) 0) else (none)) else (none)
theorem spec_pfRank.calls (k : Nat) (a0_0 : Int) (a0_1 : Int) (A0_2 : Option Addr) (c0_2 : Nat) (l0_2 : List Int) (a1 : Int) (r : Int) (w : World) (hr0_2 : Kd.C (Kd.int .i64) w A0_2 l0_2.length l0_2) (hc0_2 : l0_2.length ≤ c0_2) (h : spec_pfRank.f k a0_0 a0_1 l0_2 a1 = some r) :
  Calls Try.prog 57 #[.agg #[.int .i64 a0_0, .int .i64 a0_1, .slice A0_2 l0_2.length c0_2], .int .i64 a1] w fun e w' => e = .returned (.int .i64 r) ∧ Below w.heap.size w w' := by
 have hu26 := Try.underlying26; have HR0_2 := am hr0_2; have HC0_2 := am hc0_2; clear hr0_2 hc0_2; have HB := am (Below.refl w.heap.size w); have H : (if 0 ≤ a1 then (if a1 ≤ (l0_2.length : Int) then (spec_pfRank.l0 k 0 (l0_2.take (a1 : Int).toNat) ((l0_2.take (a1 : Int).toNat).length : Int) 0) else (none)) else (none)) = some r := h; clear h
 by_cases c3 : 0 ≤ a1
 ·rw [if_pos c3] at H
  have c3b0 := eq_true c3; have c3b1 : decide (0 ≤ a1) = true := decide_eq_true c3; clear c3
  by_cases c4 : a1 ≤ (l0_2.length : Int)
  ·rw [if_pos c4] at H
   have c4b0 := eq_true c4; have c4b1 : decide (a1 ≤ (l0_2.length : Int)) = true := decide_eq_true c4; clear c4; have H' := am H; clear H
   go_enter Try.func57, Try.ntmps57
   go_wp2_with (first | ((with_reducible refine gate_dst (N := 2) rfl ?_); refine bE 2 #[.int .i64 a0_0, .int .i64 a0_1, .slice A0_2 l0_2.length c0_2] 26 ?_; intro gb471 hg w5 hbox hb; have n0_ := Bb HB hb; have n1_ := am (hbox); have n2_ := Gl HB hg; have n3_ := Gl HB hg; clear HB; revert n0_ n1_ n2_ n3_; intro HB BK471 GW471 GE471; clear hb hbox hg; obtain ⟨hcz6_0, hcz6_1, hcz6_2, hfz6_0, hfz6_1, hfz6_2⟩ := cf3 (w := w5) BK471; obtain ⟨i07, hi07, _, hsz7, _⟩ := info_parts info3; obtain ⟨hcut7, hA7, hC7⟩ := print_take_of (P := Try.prog) (Value.int .i64) 0 24 3 .i64 Try.underlying24 hi07 hsz7 A0_2 c0_2 l0_2 a1 (dT) (dT) HC0_2.out; have HR472 := am (Kd.C_of_reads (h1 := fun _ => rfl) (hA7 _ (Kd.reads_of_C HR0_2.out))); have HC472 := am hC7; clear hA7 hC7 hi07 hsz7; obtain ⟨tk7, hk7⟩ : ∃ L_, l0_2.take a1.toNat = L_ := ⟨_, rfl⟩; (try rw [hk7] at H'); (try rw [hk7] at H); rw [hk7] at hcut7 HR472 HC472; clear hk7))
   (try simp only [aP])
   go_loopg [5, 13] k (fun kq v5 v13 w' => ∃ (x5_1 : Int) (x13_1 : Int), v5 = .int .i64 x5_1 ∧ v13 = .int .i64 x13_1 ∧ Aside0 (spec_pfRank.l0 kq x5_1 tk7 (tk7.length : Int) x13_1 = some r) ∧ Aside0 (kq ≤ k) ∧ Aside0 (w'.heap[gb471]? = some (.cells #[.int .i64 a0_0, .int .i64 a0_1, (.slice A0_2 l0_2.length c0_2)] 26 (0, 0))) ∧ Aside0 (Below w.heap.size w w'))
   case atStart => exact ⟨(0), (0), wZ, wZ, H', ⟨Nat.le_refl _⟩, ⟨Kz BK471.out⟩, ⟨Bq⟩⟩
   case round =>
    clear H'
    try clear p2
    try clear c3
    try clear c3b0
    try clear c3b1
    try clear c4
    try clear c4b0
    try clear c4b1
    try clear c5
    try clear hcz6_0
    try clear hcz6_1
    try clear hcz6_2
    try clear hfz6_0
    try clear hfz6_1
    try clear hfz6_2
    obtain ⟨x5_1, x13_1, rfl, rfl, HA, HK1, BK471, HB⟩ := hrel; cases gk with
    | zero => exact absurd HA.out (by simp [spec_pfRank.l0])
    | succ k1 =>
     have H := HA.out; clear HA
     simp only [spec_pfRank.l0] at H
     by_cases c8 : x13_1 < (tk7.length : Int)
     ·rw [if_pos c8] at H
      have c8b0 : decide (x13_1 < (tk7.length : Int)) = true := decide_eq_true c8; clear c8
      by_cases c9 : 0 ≤ x13_1
      ·rw [if_pos c9] at H
       have c9b0 : decide (0 ≤ x13_1) = true := decide_eq_true c9; clear c9
       by_cases c10 : x13_1 < (tk7.length : Int)
       ·rw [if_pos c10] at H
        have c10b0 : decide (x13_1 < (tk7.length : Int)) = true := decide_eq_true c10; clear c10
        by_cases c11 : (rd tk7 x13_1) = 3
        ·rw [if_pos c11] at H
         have c11b0 : ((rd tk7 x13_1) == 3) = true := beq_iff_eq.mpr c11; have c11b1 : ((rd tk7 x13_1) != 3) = false := bne_eq_false_iff_eq.mpr c11; clear c11; have H' := am H; clear H; have p473 : 0 ≤ (x13_1 : Int) := dT; have q473 : x13_1 < (tk7.length : Int) := dT; obtain ⟨ad473, e473, hx473_0⟩ := Kd.at_int HR472.out x13_1 p473 q473; cases e473; replace hx473_0 := (HB.out.cell (World.block_lt_of_cell? w _ hx473_0)).trans hx473_0; replace p473 := eq_true p473; replace q473 := eq_true q473
         go_wp2
         go_roundg k1
         case measure => have := HK1.out; omega
         case rel => exact ⟨(x5_1), (wrap64 (x13_1 + 1)), wZ, wZ, H', ⟨by have := HK1.out; omega⟩, ⟨Kz BK471.out⟩, ⟨Bq⟩⟩
        ·rw [if_neg c11] at H
         have c11b0 : ((rd tk7 x13_1) == 3) = false := beq_eq_false_iff_ne.mpr c11; have c11b1 : ((rd tk7 x13_1) != 3) = true := bne_iff_ne.mpr c11; have H' := am H; clear H; have p473 : 0 ≤ (x13_1 : Int) := dT; have q473 : x13_1 < (tk7.length : Int) := dT; obtain ⟨ad473, e473, hx473_0⟩ := Kd.at_int HR472.out x13_1 p473 q473; cases e473; replace hx473_0 := (HB.out.cell (World.block_lt_of_cell? w _ hx473_0)).trans hx473_0; replace p473 := eq_true p473; replace q473 := eq_true q473
         go_wp2
         go_roundg k1
         case measure => have := HK1.out; omega
         case rel => exact ⟨(wrap64 (x5_1 + 1)), (wrap64 (x13_1 + 1)), wZ, wZ, H', ⟨by have := HK1.out; omega⟩, ⟨Kz BK471.out⟩, ⟨Bq⟩⟩
       ·rw [if_neg c10] at H
        exact absurd H (by simp)
      ·rw [if_neg c9] at H
       exact absurd H (by simp)
     ·rw [if_neg c8] at H
      have c8b0 : decide (x13_1 < (tk7.length : Int)) = false := decide_eq_false c8; clear c8; obtain rfl := Option.some.inj H
      go_wp2
      go_ret
      exact ⟨eZ, Bq⟩
  ·rw [if_neg c4] at H
   exact absurd H (by simp)
 ·rw [if_neg c3] at H
  exact absurd H (by simp)

def spec_PeeledIndex.j0 : Nat → ByteArray → Bool → Int → Int → List Int → Option (Int × Bool)
 | 0, _, _, _, _, _ => none
 | k + 1, x1, x23, x475000, x475001, x475002 => if x23 = true then (some (0, false)) else ((spec_pfPlace.f k x475000 x475001 x475002 x1).bind fun t479 => ((spec_pfRank.f k x475000 x475001 x475002 t479).bind fun t480 => (some (t480, true))))
def spec_PeeledIndex.f (k : Nat) (a0_0 : Int) (a0_1 : Int) (l0_2 : List Int) (a1 : ByteArray) : Option (Int × Bool) := (spec_pfPeeled.f k a0_0 a0_1 l0_2).bind fun t475 => (if t475 = true then ((spec_IsKey.f k a1).bind fun t476 => (if t476 = true then ((spec_pfPlace.f k a0_0 a0_1 l0_2 a1).bind fun t477 => (if 0 ≤ t477 then (if t477 < (l0_2.length : Int) then (spec_PeeledIndex.j0 k a1 ((rd l0_2 t477) == 3) a0_0 a0_1 l0_2) else (none)) else (none))) else (spec_PeeledIndex.j0 k a1 true a0_0 a0_1 l0_2))) else (spec_PeeledIndex.j0 k a1 true a0_0 a0_1 l0_2))
def spec_PeeledIndex.T1 : Bool × List (List Nat × List Nat) := (true, [([], []), ([0], [0]), ([1], [1]), ([2, 1], [2]), ([3], [3]), ([4, 3, 3], [3, 4]), ([5, 3], [3, 5]), ([3, 6], [3, 6]), ([7, 5], [7]), ([8], [8]), ([9, 8], [8, 9]), ([8], [8]), ([8], [8]), ([11, 12, 8, 8], [8, 11, 12]), ([10, 13, 8], [8, 10, 13]), ([14, 8], [8, 14]), ([15, 8], [8, 15]), ([8, 16], [8, 16])])
def spec_PeeledIndex.B1 : List Nat := [0, 1, 3, 7, 15, 31, 63, 127, 255, 511, 1023, 511, 511, 6655, 16383, 32767, 65535, 131071]
theorem spec_PeeledIndex.tab1 : rtab .any (opsOf Try.f11 1) = spec_PeeledIndex.T1 := by kernel_rfl
theorem spec_PeeledIndex.bits1 : waitsOk spec_PeeledIndex.T1.2 spec_PeeledIndex.B1 = true := by kernel_rfl
theorem spec_PeeledIndex.calls (k : Nat) (a0_0 : Int) (a0_1 : Int) (A0_2 : Option Addr) (c0_2 : Nat) (l0_2 : List Int) (a1 : ByteArray) (r1 : Int) (r2 : Bool) (w : World) (hr0_2 : Kd.C (Kd.int .i64) w A0_2 l0_2.length l0_2) (hc0_2 : l0_2.length ≤ c0_2) (h : spec_PeeledIndex.f k a0_0 a0_1 l0_2 a1 = some (r1, r2)) :
  Calls Try.prog 11 #[.agg #[.int .i64 a0_0, .int .i64 a0_1, .slice A0_2 l0_2.length c0_2], .string a1] w fun e w' => e = .returned (.tuple #[.int .i64 r1, .bool r2]) ∧ Below w.heap.size w w' := by
 have hu26 := Try.underlying26; have HR0_2 := am hr0_2; have HC0_2 := am hc0_2; clear hr0_2 hc0_2; have HB := am (Below.refl w.heap.size w); have H : ((spec_pfPeeled.f k a0_0 a0_1 l0_2).bind fun t475 => (if t475 = true then ((spec_IsKey.f k a1).bind fun t476 => (if t476 = true then ((spec_pfPlace.f k a0_0 a0_1 l0_2 a1).bind fun t477 => (if 0 ≤ t477 then (if t477 < (l0_2.length : Int) then (spec_PeeledIndex.j0 k a1 ((rd l0_2 t477) == 3) a0_0 a0_1 l0_2) else (none)) else (none))) else (spec_PeeledIndex.j0 k a1 true a0_0 a0_1 l0_2))) else (spec_PeeledIndex.j0 k a1 true a0_0 a0_1 l0_2))) = some (r1, r2) := h; clear h; have HC3 := am H; clear H
 go_enter Try.func11, Try.ntmps11
 go_upto_region 1 with (first | ((with_reducible refine gate_dst (N := 2) rfl ?_); refine bE 2 #[.int .i64 a0_0, .int .i64 a0_1, .slice A0_2 l0_2.length c0_2] 26 ?_; intro gb474 hg w4 hbox hb; have n0_ := Bb HB hb; have n1_ := am (hbox); have n2_ := Gl HB hg; have n3_ := Gl HB hg; clear HB; revert n0_ n1_ n2_ n3_; intro HB BK474 GW474 GE474; clear hb hbox hg))
 (try simp only [aP])
 go_cut [23] (fun v23 wc => ∃ (kq : Nat) (x23_2 : Bool), v23 = .bool x23_2 ∧ Aside0 (spec_PeeledIndex.j0 kq a1 x23_2 a0_0 a0_1 l0_2 = some (r1, r2)) ∧ Aside0 (kq ≤ k) ∧ Aside0 (wc.heap[gb474]? = some (.cells #[.int .i64 a0_0, .int .i64 a0_1, (.slice A0_2 l0_2.length c0_2)] 26 (0, 0))) ∧ Aside0 (Below w.heap.size w wc))
 case first =>
  have H := HC3.out; clear HC3; replace H := Option.bind_eq_some_iff.mp H; obtain ⟨t475, A50, H⟩ := H; (try dsimp -simprocs only at H); have A5 := am A50; clear A50
  by_cases c6 : t475 = true
  ·subst c6
   rw [if_pos rfl] at H; replace H := Option.bind_eq_some_iff.mp H; obtain ⟨t476, A70, H⟩ := H; (try dsimp -simprocs only at H); have A7 := am A70; clear A70
   by_cases c8 : t476 = true
   ·subst c8
    rw [if_pos rfl] at H; replace H := Option.bind_eq_some_iff.mp H; obtain ⟨t477, A90, H⟩ := H; (try dsimp -simprocs only at H); have A9 := am A90; clear A90
    by_cases c10 : 0 ≤ t477
    ·rw [if_pos c10] at H
     have c10b0 : decide (0 ≤ t477) = true := decide_eq_true c10; clear c10
     (first | rw [c10b0] | (simp only [i64_w, i32_w]; rw [c10b0]) | skip)
     by_cases c11 : t477 < (l0_2.length : Int)
     ·rw [if_pos c11] at H
      have c11b0 : decide (t477 < (l0_2.length : Int)) = true := decide_eq_true c11; clear c11; have H' := am H; clear H
      try go_wp2
      have n0_ := am (blk_drew BK474.out); have n1_ := am (below_drew1 HB.out); clear BK474 HB; revert n0_ n1_; intro BK474 HB; have p478 : 0 ≤ (t477 : Int) := dT; have q478 : t477 < (l0_2.length : Int) := dT; obtain ⟨ad478, e478, hx478_0⟩ := Kd.at_int HR0_2.out t477 p478 q478; have hw478_0 := hx478_0; cases e478; replace hx478_0 := (HB.out.cell (World.block_lt_of_cell? w _ hx478_0)).trans hx478_0; replace p478 := eq_true p478; replace q478 := eq_true q478; refine start_ (n := 18) (S := fun w' => w'.cell? ⟨gb474, 0, none⟩ = some (.int .i64 a0_0) ∧ w'.cell? ⟨gb474, 1, none⟩ = some (.int .i64 a0_1) ∧ w'.cell? ⟨gb474, 2, none⟩ = some (.slice (some ad478) l0_2.length c0_2) ∧ w'.cell? (ad478.add (t477).toNat) = some (.int .i64 (rd l0_2 t477))) (ds := []) (bA 18 0) (by kernel_rfl) rfl rfl ⟨cz BK474 0, cz BK474 1, cz BK474 2, ((HB.out.cell (World.block_lt_of_cell? w _ hw478_0)).trans hw478_0)⟩ (fun hHeld => ?_); refine with_tabW spec_PeeledIndex.tab1 spec_PeeledIndex.bits1 (fun HT_ HW_ => ?_); generalize w4.drew = w12 at BK474 HB hx478_0 hHeld ⊢; refine tZ4 0 (some 6) (bA 18 1) HT_.out HW_.out hHeld ?_; refine oZ 1 (some 7) (bA 18 3) HT_.out (fun K hK => ?_); refine gZ Try.func54 #[.agg #[.int .i64 a0_0, .int .i64 a0_1, .slice (some ad478) l0_2.length c0_2]] ?_
      with_reducible refine (spec_pfPeeled.calls k a0_0 a0_1 _ _ l0_2 true _ ?side1 ?side2 A5.out).mono ?_
      (case side1 => exact Cz (Kd.C_below HR0_2.out HB.out))
      (case side2 => exact HC0_2.out)
      rintro e w13 ⟨rfl, hb⟩; refine ⟨_, rfl, ?_⟩; have n0_ := Kb BK474 hb; have n1_ := Bc HB hb; clear BK474 HB; revert n0_ n1_; intro BK474 HB
      (try clear hb)
      (try clear hb2)
      (try clear hk)
      (try clear hi)
      refine hK.out _ _ ⟨cz BK474 0, cz BK474 1, cz BK474 2, ((HB.out.cell (World.block_lt_of_cell? w _ hw478_0)).trans hw478_0)⟩ (fun hHeld => ?_); clear hK K; refine norm_ (a' := ?_) ?_ ?_; rotate_left; show Act.put _ (some 7) _ = _; simp only [aP, i64_w, i32_w]; rfl; refine pZ 2 (some 8) (bA 18 7) HT_.out ?_; refine pZ 3 (some 9) (bA 18 15) HT_.out ?_; refine pZ 4 (some 10) (bA 18 31) HT_.out ?_; refine oZ 5 (some 11) (bA 18 63) HT_.out (fun K hK => ?_); refine gZ Try.func55 #[.string a1] ?_
      with_reducible refine (spec_IsKey.calls k a1 true _ A7.out).mono ?_
      rintro e w' ⟨rfl, ⟨nd, rfl⟩⟩; refine ⟨_, rfl, ?_⟩; refine hK.out _ _ ⟨cz BK474 0, cz BK474 1, cz BK474 2, ((HB.out.cell (World.block_lt_of_cell? w _ hw478_0)).trans hw478_0)⟩ (fun hHeld => ?_); clear hK K; refine norm_ (a' := ?_) ?_ ?_; rotate_left; show Act.put _ (some 11) _ = _; simp only [aP, i64_w, i32_w]; rfl; refine pZ 6 (some 12) (bA 18 127) HT_.out ?_; refine pZ 7 (some 13) (bA 18 255) HT_.out ?_; refine pZ 8 (some 14) (bA 18 511) HT_.out ?_; refine pZ 9 (some 15) (bA 18 1023) HT_.out ?_; refine pZ 12 (some 18) (bA 18 5119) HT_.out ?_; refine tZ4 10 (some 16) (bA 18 6143) HT_.out HW_.out hHeld ?_; refine tZ4 11 (some 17) (bA 18 8191) HT_.out HW_.out hHeld ?_; refine oZ 13 (some 19) (bA 18 16383) HT_.out (fun K hK => ?_); refine gZ Try.func56 #[.agg #[.int .i64 a0_0, .int .i64 a0_1, .slice (some ad478) l0_2.length c0_2], .string a1] ?_
      with_reducible refine (spec_pfPlace.calls k a0_0 a0_1 _ _ l0_2 a1 t477 _ ?side1 ?side2 A9.out).mono ?_
      (case side1 => exact Cz (Kd.C_below HR0_2.out (Bq)))
      (case side2 => exact HC0_2.out)
      rintro e w14 ⟨rfl, hb⟩; refine ⟨_, rfl, ?_⟩; have n0_ := Kb BK474 hb; have n1_ := Bc HB hb; clear BK474 HB; revert n0_ n1_; intro BK474 HB
      (try clear hb)
      (try clear hb2)
      (try clear hk)
      (try clear hi)
      refine hK.out _ _ ⟨cz BK474 0, cz BK474 1, cz BK474 2, ((HB.out.cell (World.block_lt_of_cell? w _ hw478_0)).trans hw478_0)⟩ (fun hHeld => ?_); clear hK K; refine norm_ (a' := ?_) ?_ ?_; rotate_left; show Act.put _ (some 19) _ = _; simp only [aP, i64_w, i32_w]; rfl; refine pZ 14 (some 20) (bA 18 32767) HT_.out ?_; refine tZ4 15 (some 21) (bA 18 65535) HT_.out HW_.out hHeld ?_; refine pZ 16 (some 22) (bA 18 131071) HT_.out ?_; refine pZ 17 (some 23) (bA 18 262143) HT_.out ?_; refine done_ (done_of HT_.out (by kernel_rfl)) ?_
      try go_wp2
      go_meet
      case rel => exact ⟨_, (((rd l0_2 t477) == 3)), wZ, H', ⟨by first | omega | exact Nat.le_refl _⟩, ⟨Kz BK474.out⟩, ⟨Bq⟩⟩
     ·rw [if_neg c11] at H
      exact absurd H (by simp)
    ·rw [if_neg c10] at H
     exact absurd H (by simp)
   ·replace c8 := Bool.eq_false_iff.mpr c8
    subst c8
    rw [if_neg (show ¬ (false = true) by decide)] at H; have H' := am H; clear H
    try go_wp2
    have n0_ := am (blk_drew BK474.out); have n1_ := am (below_drew1 HB.out); clear BK474 HB; revert n0_ n1_; intro BK474 HB; refine start_ (n := 18) (S := fun w' => w'.cell? ⟨gb474, 0, none⟩ = some (.int .i64 a0_0) ∧ w'.cell? ⟨gb474, 1, none⟩ = some (.int .i64 a0_1) ∧ w'.cell? ⟨gb474, 2, none⟩ = some (.slice A0_2 l0_2.length c0_2)) (ds := []) (bA 18 0) (by kernel_rfl) rfl rfl ⟨cz BK474 0, cz BK474 1, cz BK474 2⟩ (fun hHeld => ?_); refine with_tabW spec_PeeledIndex.tab1 spec_PeeledIndex.bits1 (fun HT_ HW_ => ?_); generalize w4.drew = w15 at BK474 HB hHeld ⊢; refine tZ3 0 (some 6) (bA 18 1) HT_.out HW_.out hHeld ?_; refine oZ 1 (some 7) (bA 18 3) HT_.out (fun K hK => ?_); refine gZ Try.func54 #[.agg #[.int .i64 a0_0, .int .i64 a0_1, .slice A0_2 l0_2.length c0_2]] ?_
    with_reducible refine (spec_pfPeeled.calls k a0_0 a0_1 _ _ l0_2 true _ ?side1 ?side2 A5.out).mono ?_
    (case side1 => exact Cz (Kd.C_below HR0_2.out HB.out))
    (case side2 => exact HC0_2.out)
    rintro e w16 ⟨rfl, hb⟩; refine ⟨_, rfl, ?_⟩; have n0_ := Kb BK474 hb; have n1_ := Bc HB hb; clear BK474 HB; revert n0_ n1_; intro BK474 HB
    (try clear hb)
    (try clear hb2)
    (try clear hk)
    (try clear hi)
    refine hK.out _ _ ⟨cz BK474 0, cz BK474 1, cz BK474 2⟩ (fun hHeld => ?_); clear hK K; refine norm_ (a' := ?_) ?_ ?_; rotate_left; show Act.put _ (some 7) _ = _; simp only [aP, i64_w, i32_w]; rfl; refine pZ 2 (some 8) (bA 18 7) HT_.out ?_; refine pZ 3 (some 9) (bA 18 15) HT_.out ?_; refine pZ 4 (some 10) (bA 18 31) HT_.out ?_; refine oZ 5 (some 11) (bA 18 63) HT_.out (fun K hK => ?_); refine gZ Try.func55 #[.string a1] ?_
    with_reducible refine (spec_IsKey.calls k a1 false _ A7.out).mono ?_
    rintro e w' ⟨rfl, ⟨nd, rfl⟩⟩; refine ⟨_, rfl, ?_⟩; refine hK.out _ _ ⟨cz BK474 0, cz BK474 1, cz BK474 2⟩ (fun hHeld => ?_); clear hK K; refine norm_ (a' := ?_) ?_ ?_; rotate_left; show Act.put _ (some 11) _ = _; simp only [aP, i64_w, i32_w]; rfl; refine pZ 6 (some 12) (bA 18 127) HT_.out ?_; refine pZ 7 (some 13) (bA 18 255) HT_.out ?_; refine pZ 8 (some 14) (bA 18 511) HT_.out ?_; refine sZ 9 (some 15) (bA 18 1023) HT_.out ?_; refine sZ 10 (some 16) (bA 18 2047) HT_.out ?_; refine sZ 11 (some 17) (bA 18 4095) HT_.out ?_; refine sZ 12 (some 18) (bA 18 8191) HT_.out ?_; refine sZ 13 (some 19) (bA 18 16383) HT_.out ?_; refine sZ 14 (some 20) (bA 18 32767) HT_.out ?_; refine sZ 15 (some 21) (bA 18 65535) HT_.out ?_; refine sZ 16 (some 22) (bA 18 131071) HT_.out ?_; refine pZ 17 (some 23) (bA 18 262143) HT_.out ?_; refine done_ (done_of HT_.out (by kernel_rfl)) ?_
    try go_wp2
    go_meet
    case rel => exact ⟨_, (true), wZ, H', ⟨by first | omega | exact Nat.le_refl _⟩, ⟨Kz BK474.out⟩, ⟨Bq⟩⟩
  ·replace c6 := Bool.eq_false_iff.mpr c6
   subst c6
   rw [if_neg (show ¬ (false = true) by decide)] at H; have H' := am H; clear H
   try go_wp2
   have n0_ := am (blk_drew BK474.out); have n1_ := am (below_drew1 HB.out); clear BK474 HB; revert n0_ n1_; intro BK474 HB; refine start_ (n := 18) (S := fun w' => w'.cell? ⟨gb474, 0, none⟩ = some (.int .i64 a0_0) ∧ w'.cell? ⟨gb474, 1, none⟩ = some (.int .i64 a0_1) ∧ w'.cell? ⟨gb474, 2, none⟩ = some (.slice A0_2 l0_2.length c0_2)) (ds := []) (bA 18 0) (by kernel_rfl) rfl rfl ⟨cz BK474 0, cz BK474 1, cz BK474 2⟩ (fun hHeld => ?_); refine with_tabW spec_PeeledIndex.tab1 spec_PeeledIndex.bits1 (fun HT_ HW_ => ?_); generalize w4.drew = w17 at BK474 HB hHeld ⊢; refine tZ3 0 (some 6) (bA 18 1) HT_.out HW_.out hHeld ?_; refine oZ 1 (some 7) (bA 18 3) HT_.out (fun K hK => ?_); refine gZ Try.func54 #[.agg #[.int .i64 a0_0, .int .i64 a0_1, .slice A0_2 l0_2.length c0_2]] ?_
   with_reducible refine (spec_pfPeeled.calls k a0_0 a0_1 _ _ l0_2 false _ ?side1 ?side2 A5.out).mono ?_
   (case side1 => exact Cz (Kd.C_below HR0_2.out HB.out))
   (case side2 => exact HC0_2.out)
   rintro e w18 ⟨rfl, hb⟩; refine ⟨_, rfl, ?_⟩; have n0_ := Kb BK474 hb; have n1_ := Bc HB hb; clear BK474 HB; revert n0_ n1_; intro BK474 HB
   (try clear hb)
   (try clear hb2)
   (try clear hk)
   (try clear hi)
   refine hK.out _ _ ⟨cz BK474 0, cz BK474 1, cz BK474 2⟩ (fun hHeld => ?_); clear hK K; refine norm_ (a' := ?_) ?_ ?_; rotate_left; show Act.put _ (some 7) _ = _; simp only [aP, i64_w, i32_w]; rfl; refine pZ 2 (some 8) (bA 18 7) HT_.out ?_; refine pZ 3 (some 9) (bA 18 15) HT_.out ?_; refine sZ 4 (some 10) (bA 18 31) HT_.out ?_; refine sZ 5 (some 11) (bA 18 63) HT_.out ?_; refine sZ 6 (some 12) (bA 18 127) HT_.out ?_; refine pZ 7 (some 13) (bA 18 255) HT_.out ?_; refine pZ 8 (some 14) (bA 18 511) HT_.out ?_; refine sZ 9 (some 15) (bA 18 1023) HT_.out ?_; refine sZ 10 (some 16) (bA 18 2047) HT_.out ?_; refine sZ 11 (some 17) (bA 18 4095) HT_.out ?_; refine sZ 12 (some 18) (bA 18 8191) HT_.out ?_; refine sZ 13 (some 19) (bA 18 16383) HT_.out ?_; refine sZ 14 (some 20) (bA 18 32767) HT_.out ?_; refine sZ 15 (some 21) (bA 18 65535) HT_.out ?_; refine sZ 16 (some 22) (bA 18 131071) HT_.out ?_; refine pZ 17 (some 23) (bA 18 262143) HT_.out ?_; refine done_ (done_of HT_.out (by kernel_rfl)) ?_
   try go_wp2
   go_meet
   case rel => exact ⟨_, (true), wZ, H', ⟨by first | omega | exact Nat.le_refl _⟩, ⟨Kz BK474.out⟩, ⟨Bq⟩⟩
 case rest =>
  clear HC3
  try clear c1
  try clear p2
  try clear p4
  try clear q4
  try clear hx4
  try clear c5
  try clear c6
  try clear c8
  try clear c10
  try clear c10b0
  try clear c11
  try clear c11b0
  try clear hx478_0
  try clear p478
  try clear q478
  obtain ⟨kq, x23_2, rfl, HA, HJ2, BK474, HB⟩ := hcut; cases kq with
  | zero => exact absurd HA.out (by simp [spec_PeeledIndex.j0])
  | succ kj2 =>
   have H := HA.out; clear HA
   simp only [spec_PeeledIndex.j0] at H
   by_cases c19 : x23_2 = true
   ·subst c19
    rw [if_pos rfl] at H
    simp only [Option.some.injEq, Prod.mk.injEq] at H
    obtain ⟨rfl, rfl⟩ := H
    go_wp2
    go_ret2
    exact ⟨eZ, Bq⟩
   ·replace c19 := Bool.eq_false_iff.mpr c19
    subst c19
    rw [if_neg (show ¬ (false = true) by decide)] at H; replace H := Option.bind_eq_some_iff.mp H; obtain ⟨t479, A200, H⟩ := H; (try dsimp -simprocs only at H); have A20 := am A200; clear A200; replace H := Option.bind_eq_some_iff.mp H; obtain ⟨t480, A210, H⟩ := H; (try dsimp -simprocs only at H); have A21 := am A210; clear A210
    simp only [Option.some.injEq, Prod.mk.injEq] at H
    obtain ⟨rfl, rfl⟩ := H
    try go_wp2
    have n0_ := am (blk_drew BK474.out); have n1_ := am (below_drew1 HB.out); clear BK474 HB; revert n0_ n1_; intro BK474 HB; refine start_ (n := 7) (S := fun w' => w'.cell? ⟨gb474, 0, none⟩ = some (.int .i64 a0_0) ∧ w'.cell? ⟨gb474, 1, none⟩ = some (.int .i64 a0_1) ∧ w'.cell? ⟨gb474, 2, none⟩ = some (.slice A0_2 l0_2.length c0_2)) (ds := []) (bA 7 0) (by kernel_rfl) rfl rfl ⟨cz BK474 0, cz BK474 1, cz BK474 2⟩ (fun hHeld => ?_); generalize wc.drew = w22 at BK474 HB hHeld ⊢; refine pure_ (i := 2) (N := some 26) (v := ?_) (a' := ?_) (bA 7 4) rfl rfl (by kernel_rfl) (fun _ _ _ h => h) (Or.inl ⟨by rfl, ?_⟩) ?_ ?_
    rotate_left
    ·intro w'
     go_simp
     with_reducible rfl
    rotate_left
    ·simp only [aP, i64_w, i32_w]
     rfl
    refine take_ (i := 0) (N := some 24) (v := ?_) (a' := ?_) (bA 7 5) rfl rfl (by kernel_rfl) (fun _ _ _ h => h) (Or.inl ⟨by rfl, ?_⟩) hHeld ?_ ?_
    rotate_left
    ·rintro w' ⟨s0, s1, s2⟩
     go_simp
     with_reducible rfl
    rotate_left
    ·simp only [aP, i64_w, i32_w]
     rfl
    refine take_ (i := 1) (N := some 25) (v := ?_) (a' := ?_) (bA 7 7) rfl rfl (by kernel_rfl) (fun _ _ _ h => h) (Or.inl ⟨by rfl, ?_⟩) hHeld ?_ ?_
    rotate_left
    ·rintro w' ⟨s0, s1, s2⟩
     go_simp
     with_reducible rfl
    rotate_left
    ·simp only [aP, i64_w, i32_w]
     rfl
    refine one_ (i := 3) (N := some 27) (bA 7 15) rfl rfl (by kernel_rfl) (by decide) (fun K hK => ?_); refine gZ Try.func56 #[.agg #[.int .i64 a0_0, .int .i64 a0_1, .slice A0_2 l0_2.length c0_2], .string a1] ?_
    with_reducible refine (spec_pfPlace.calls kj2 a0_0 a0_1 _ _ l0_2 a1 t479 _ ?side1 ?side2 A20.out).mono ?_
    (case side1 => exact Cz (Kd.C_below HR0_2.out HB.out))
    (case side2 => exact HC0_2.out)
    rintro e w23 ⟨rfl, hb⟩; refine ⟨_, rfl, ?_⟩; have n0_ := Kb BK474 hb; have n1_ := Bc HB hb; clear BK474 HB; revert n0_ n1_; intro BK474 HB
    (try clear hb)
    (try clear hb2)
    (try clear hk)
    (try clear hi)
    refine hK.out _ _ ⟨cz BK474 0, cz BK474 1, cz BK474 2⟩ (fun hHeld => ?_); clear hK K; refine norm_ (a' := ?_) ?_ ?_; rotate_left; show Act.put _ (some 27) _ = _; simp only [aP, i64_w, i32_w]; rfl; refine one_ (i := 4) (N := some 28) (bA 7 31) rfl rfl (by kernel_rfl) (by decide) (fun K hK => ?_); refine gZ Try.func57 #[.agg #[.int .i64 a0_0, .int .i64 a0_1, .slice A0_2 l0_2.length c0_2], .int .i64 t479] ?_
    with_reducible refine (spec_pfRank.calls kj2 a0_0 a0_1 _ _ l0_2 t479 t480 _ ?side1 ?side2 A21.out).mono ?_
    (case side1 => exact Cz (Kd.C_below HR0_2.out HB.out))
    (case side2 => exact HC0_2.out)
    rintro e w24 ⟨rfl, hb⟩; refine ⟨_, rfl, ?_⟩; have n0_ := Kb BK474 hb; have n1_ := Bc HB hb; clear BK474 HB; revert n0_ n1_; intro BK474 HB
    (try clear hb)
    (try clear hb2)
    (try clear hk)
    (try clear hi)
    refine hK.out _ _ ⟨cz BK474 0, cz BK474 1, cz BK474 2⟩ (fun hHeld => ?_); clear hK K; refine norm_ (a' := ?_) ?_ ?_; rotate_left; show Act.put _ (some 28) _ = _; simp only [aP, i64_w, i32_w]; rfl; refine pure_ (i := 5) (N := some 4) (v := ?_) (a' := ?_) (bA 7 63) rfl rfl (by kernel_rfl) (fun _ _ _ h => h) (Or.inl ⟨by rfl, ?_⟩) ?_ ?_
    rotate_left
    ·intro w'
     go_simp
     with_reducible rfl
    rotate_left
    ·simp only [aP, i64_w, i32_w]
     rfl
    refine pure_ (i := 6) (N := some 5) (v := ?_) (a' := ?_) (bA 7 127) rfl rfl (by kernel_rfl) (fun _ _ _ h => h) (Or.inl ⟨by rfl, ?_⟩) ?_ ?_
    rotate_left
    ·intro w'
     go_simp
     with_reducible rfl
    rotate_left
    ·simp only [aP, i64_w, i32_w]
     rfl
    refine done_ (by kernel_rfl) ?_
    try go_wp2
    go_ret2
    exact ⟨eZ, Bq⟩

def impl_PeeledPlace.f (k : Nat) (a0_0 : Int) (a0_1 : Int) (l0_2 : List Int) (a1 : ByteArray) : Option (Int × Bool) := (impl_IsPeeled.f k a0_0 a0_1 l0_2).bind fun t482 => (if t482 = true then ((impl_IsKey.f k a1).bind fun t483 => (if t483 = true then ((impl_Peeled_place.f k a0_0 a0_1 l0_2 a1).bind fun t484 => (some (t484, true))) else (some (0, false)))) else (some (0, false)))
theorem impl_PeeledPlace.calls (k : Nat) (a0_0 : Int) (a0_1 : Int) (A0_2 : Option Addr) (c0_2 : Nat) (l0_2 : List Int) (a1 : ByteArray) (r1 : Int) (r2 : Bool) (w : World) (hr0_2 : Kd.C (Kd.int .i64) w A0_2 l0_2.length l0_2) (hc0_2 : l0_2.length ≤ c0_2) (h : impl_PeeledPlace.f k a0_0 a0_1 l0_2 a1 = some (r1, r2)) :
  Calls Try.prog 12 #[.agg #[.int .i64 a0_0, .int .i64 a0_1, .slice A0_2 l0_2.length c0_2], .string a1] w fun e w' => e = .returned (.tuple #[.int .i64 r1, .bool r2]) ∧ Below w.heap.size w w' := by
 have hu26 := Try.underlying26; have HR0_2 := am hr0_2; have HC0_2 := am hc0_2; clear hr0_2 hc0_2; have HB := am (Below.refl w.heap.size w); have H : ((impl_IsPeeled.f k a0_0 a0_1 l0_2).bind fun t482 => (if t482 = true then ((impl_IsKey.f k a1).bind fun t483 => (if t483 = true then ((impl_Peeled_place.f k a0_0 a0_1 l0_2 a1).bind fun t484 => (some (t484, true))) else (some (0, false)))) else (some (0, false)))) = some (r1, r2) := h; clear h; replace H := Option.bind_eq_some_iff.mp H; obtain ⟨t482, A30, H⟩ := H; (try dsimp -simprocs only at H); have A3 := am A30; clear A30
 by_cases c4 : t482 = true
 ·subst c4
  rw [if_pos rfl] at H; replace H := Option.bind_eq_some_iff.mp H; obtain ⟨t483, A50, H⟩ := H; (try dsimp -simprocs only at H); have A5 := am A50; clear A50
  by_cases c6 : t483 = true
  ·subst c6
   rw [if_pos rfl] at H; replace H := Option.bind_eq_some_iff.mp H; obtain ⟨t484, A70, H⟩ := H; (try dsimp -simprocs only at H); have A7 := am A70; clear A70
   simp only [Option.some.injEq, Prod.mk.injEq] at H
   obtain ⟨rfl, rfl⟩ := H
   go_enter Try.func12, Try.ntmps12
   go_wp2_with (first | ((with_reducible refine gate_dst (N := 2) rfl ?_); refine bE 2 #[.int .i64 a0_0, .int .i64 a0_1, .slice A0_2 l0_2.length c0_2] 26 ?_; intro gb481 hg w8 hbox hb; have n0_ := Bb HB hb; have n1_ := am (hbox); have n2_ := Gl HB hg; have n3_ := Gl HB hg; clear HB; revert n0_ n1_ n2_ n3_; intro HB BK481 GW481 GE481; clear hb hbox hg; obtain ⟨hcz9_0, hcz9_1, hcz9_2, hfz9_0, hfz9_1, hfz9_2⟩ := cf3 (w := w8) BK481) | ((with_reducible refine gate_callee (f := 51) rfl ?_); refine gL (some 7) Try.func51 #[.agg #[.int .i64 a0_0, .int .i64 a0_1, .slice A0_2 l0_2.length c0_2]] ?_; (with_reducible refine (impl_IsPeeled.calls k a0_0 a0_1 _ _ l0_2 true _ ?side1 ?side2 A3.out).mono ?_); (case side1 => exact Cz (Kd.C_below HR0_2.out HB.out)); (case side2 => exact HC0_2.out); rintro e w10 ⟨rfl, hb⟩; refine ⟨_, rfl, ?_⟩; have n0_ := Kb BK481 hb; have n1_ := Bc HB hb; clear BK481 HB; revert n0_ n1_; intro BK481 HB; (try clear hb); (try clear hb2); (try clear hk); (try clear hi)) | (go_at_call 52; (with_reducible refine (impl_IsKey.calls k a1 true _ A5.out).mono ?_); rintro e w' ⟨rfl, ⟨nd, rfl⟩⟩) | ((with_reducible refine gate_callee (f := 58) rfl ?_); refine gL (some 15) Try.func58 #[.pointer (some ⟨gb481, 0, none⟩), .string a1] ?_; (with_reducible refine (impl_Peeled_place.calls k gb481 a0_0 a0_1 A0_2 c0_2 l0_2 a1 t484 _ ?side1 ?side2 ?side3 A7.out).mono ?_); (case side1 => exact Kz BK481.out); (case side2 => exact Cz (Kd.C_below HR0_2.out (Bq))); (case side3 => exact HC0_2.out); rintro e w11 ⟨rfl, hb⟩; refine ⟨_, rfl, ?_⟩; have n0_ := Kb BK481 hb; have n1_ := Bc HB hb; clear BK481 HB; revert n0_ n1_; intro BK481 HB; (try clear hb); (try clear hb2); (try clear hk); (try clear hi)))
   go_ret2
   exact ⟨eZ, Bq⟩
  ·replace c6 := Bool.eq_false_iff.mpr c6
   subst c6
   rw [if_neg (show ¬ (false = true) by decide)] at H
   simp only [Option.some.injEq, Prod.mk.injEq] at H
   obtain ⟨rfl, rfl⟩ := H
   go_enter Try.func12, Try.ntmps12
   go_wp2_with (first | ((with_reducible refine gate_dst (N := 2) rfl ?_); refine bE 2 #[.int .i64 a0_0, .int .i64 a0_1, .slice A0_2 l0_2.length c0_2] 26 ?_; intro gb481 hg w12 hbox hb; have n0_ := Bb HB hb; have n1_ := am (hbox); have n2_ := Gl HB hg; have n3_ := Gl HB hg; clear HB; revert n0_ n1_ n2_ n3_; intro HB BK481 GW481 GE481; clear hb hbox hg; obtain ⟨hcz13_0, hcz13_1, hcz13_2, hfz13_0, hfz13_1, hfz13_2⟩ := cf3 (w := w12) BK481) | ((with_reducible refine gate_callee (f := 51) rfl ?_); refine gL (some 7) Try.func51 #[.agg #[.int .i64 a0_0, .int .i64 a0_1, .slice A0_2 l0_2.length c0_2]] ?_; (with_reducible refine (impl_IsPeeled.calls k a0_0 a0_1 _ _ l0_2 true _ ?side1 ?side2 A3.out).mono ?_); (case side1 => exact Cz (Kd.C_below HR0_2.out HB.out)); (case side2 => exact HC0_2.out); rintro e w14 ⟨rfl, hb⟩; refine ⟨_, rfl, ?_⟩; have n0_ := Kb BK481 hb; have n1_ := Bc HB hb; clear BK481 HB; revert n0_ n1_; intro BK481 HB; (try clear hb); (try clear hb2); (try clear hk); (try clear hi)) | (go_at_call 52; (with_reducible refine (impl_IsKey.calls k a1 false _ A5.out).mono ?_); rintro e w' ⟨rfl, ⟨nd, rfl⟩⟩))
   go_ret2
   exact ⟨eZ, Bq⟩
 ·replace c4 := Bool.eq_false_iff.mpr c4
  subst c4
  rw [if_neg (show ¬ (false = true) by decide)] at H
  simp only [Option.some.injEq, Prod.mk.injEq] at H
  obtain ⟨rfl, rfl⟩ := H
  go_enter Try.func12, Try.ntmps12
  go_wp2_with (first | ((with_reducible refine gate_dst (N := 2) rfl ?_); refine bE 2 #[.int .i64 a0_0, .int .i64 a0_1, .slice A0_2 l0_2.length c0_2] 26 ?_; intro gb481 hg w15 hbox hb; have n0_ := Bb HB hb; have n1_ := am (hbox); have n2_ := Gl HB hg; have n3_ := Gl HB hg; clear HB; revert n0_ n1_ n2_ n3_; intro HB BK481 GW481 GE481; clear hb hbox hg; obtain ⟨hcz16_0, hcz16_1, hcz16_2, hfz16_0, hfz16_1, hfz16_2⟩ := cf3 (w := w15) BK481) | ((with_reducible refine gate_callee (f := 51) rfl ?_); refine gL (some 7) Try.func51 #[.agg #[.int .i64 a0_0, .int .i64 a0_1, .slice A0_2 l0_2.length c0_2]] ?_; (with_reducible refine (impl_IsPeeled.calls k a0_0 a0_1 _ _ l0_2 false _ ?side1 ?side2 A3.out).mono ?_); (case side1 => exact Cz (Kd.C_below HR0_2.out HB.out)); (case side2 => exact HC0_2.out); rintro e w17 ⟨rfl, hb⟩; refine ⟨_, rfl, ?_⟩; have n0_ := Kb BK481 hb; have n1_ := Bc HB hb; clear BK481 HB; revert n0_ n1_; intro BK481 HB; (try clear hb); (try clear hb2); (try clear hk); (try clear hi)))
  go_ret2
  exact ⟨eZ, Bq⟩

def impl_AreKeys.l0 : Nat → List ByteArray → List ByteArray → Int → Int → Option (Bool)
 | 0, _, _, _, _ => none
 | k + 1, x0, x5, x6, x7 => if x7 < x6 then (if 0 ≤ x7 then (if x7 < (x5.length : Int) then ((impl_IsKey.f k (rdOf ByteArray.empty x5 x7)).bind fun t486 => (if t486 = true then (if x7 > 0 then (if 0 ≤ (wrap64 (x7 - 1)) then (if (wrap64 (x7 - 1)) < (x0.length : Int) then (if ((Op.bytesLess ((rdOf ByteArray.empty x0 (wrap64 (x7 - 1))).toList) ((rdOf ByteArray.empty x5 x7).toList)) = true) then (impl_AreKeys.l0 k x0 x5 x6 (wrap64 (x7 + 1))) else (some false)) else (none)) else (none)) else (impl_AreKeys.l0 k x0 x5 x6 (wrap64 (x7 + 1)))) else (some false))) else (none)) else (none)) else (some (decide ((x0.length : Int) ≤ 40)))
def impl_AreKeys.f (k : Nat) (l0 : List ByteArray) : Option (Bool) := impl_AreKeys.l0 k l0 l0 (l0.length : Int) 0
theorem impl_AreKeys.calls (k : Nat) (A0 : Option Addr) (c0 : Nat) (l0 : List ByteArray) (r : Bool) (w : World) (hr0 : Kd.C Kd.string w A0 l0.length l0) (hc0 : l0.length ≤ c0) (h : impl_AreKeys.f k l0 = some r) :
  Calls Try.prog 37 #[.slice A0 l0.length c0] w fun e w' => e = .returned (.bool r) ∧ Drawn0 w w' := by
 have HR0 := am hr0; have HC0 := am hc0; clear hr0 hc0; have H : (impl_AreKeys.l0 k l0 l0 (l0.length : Int) 0) = some r := h; clear h; have H' := am H; clear H
 go_enter Try.func37, Try.ntmps37
 go_wp2
 go_loopg [7] k (fun kq v7 w' => ∃ (x7_1 : Int), v7 = .int .i64 x7_1 ∧ Aside0 (impl_AreKeys.l0 kq l0 l0 (l0.length : Int) x7_1 = some r) ∧ Aside0 (kq ≤ k) ∧ Drawn0 w w')
 case atStart => exact ⟨(0), wZ, H', ⟨Nat.le_refl _⟩, by repeat (first | exact Drawn0.refl _ | apply Drawn0.step)⟩
 case round =>
  clear H'; obtain ⟨x7_1, rfl, HA, HK1, ⟨m1, rfl⟩⟩ := hrel; cases gk with
  | zero => exact absurd HA.out (by simp [impl_AreKeys.l0])
  | succ k1 =>
   have H := HA.out; clear HA
   simp only [impl_AreKeys.l0] at H
   by_cases c2 : x7_1 < (l0.length : Int)
   ·rw [if_pos c2] at H
    have c2b0 : decide (x7_1 < (l0.length : Int)) = true := decide_eq_true c2; clear c2
    by_cases c3 : 0 ≤ x7_1
    ·rw [if_pos c3] at H
     have c3b0 : decide (0 ≤ x7_1) = true := decide_eq_true c3; clear c3
     by_cases c4 : x7_1 < (l0.length : Int)
     ·rw [if_pos c4] at H
      have c4b0 : decide (x7_1 < (l0.length : Int)) = true := decide_eq_true c4; clear c4; replace H := Option.bind_eq_some_iff.mp H; obtain ⟨t486, A50, H⟩ := H; (try dsimp -simprocs only at H); have A5 := am A50; clear A50
      by_cases c6 : t486 = true
      ·subst c6
       rw [if_pos rfl] at H
       by_cases c7 : x7_1 > 0
       ·rw [if_pos c7] at H
        have c7b0 : decide (0 < x7_1) = true := decide_eq_true c7; clear c7; obtain ⟨ji8, hji8⟩ : ∃ j_ : Int, (wrap64 (x7_1 - 1)) = j_ := ⟨_, rfl⟩
        replace H : (if 0 ≤ (ji8) then (if (ji8) < (l0.length : Int) then (if ((Op.bytesLess ((rdOf ByteArray.empty l0 (ji8)).toList) ((rdOf ByteArray.empty l0 x7_1).toList)) = true) then (impl_AreKeys.l0 k1 l0 l0 (l0.length : Int) (wrap64 (x7_1 + 1))) else (some false)) else (none)) else (none)) = some r := by first | (rw [hji8] at H; exact H) | (simp only [hji8] at H ⊢; exact H)
        (try rw [hji8] at A5)
        have hji8w : (IntKind.i64.wrap (x7_1 - 1)) = ji8 := (i64_w _).trans hji8
        by_cases c9 : 0 ≤ (ji8)
        ·rw [if_pos c9] at H
         have c9b0 : decide (0 ≤ (ji8)) = true := decide_eq_true c9; clear c9
         by_cases c10 : (ji8) < (l0.length : Int)
         ·rw [if_pos c10] at H
          have c10b0 : decide ((ji8) < (l0.length : Int)) = true := decide_eq_true c10; clear c10
          by_cases c11 : ((Op.bytesLess ((rdOf ByteArray.empty l0 (ji8)).toList) ((rdOf ByteArray.empty l0 x7_1).toList)) = true)
          ·rw [if_pos c11] at H
           have c11b0 : (Op.bytesLess ((rdOf ByteArray.empty l0 (ji8)).toList) ((rdOf ByteArray.empty l0 x7_1).toList)) = true := c11; clear c11; have H' := am H; clear H; obtain ⟨ad485, e485, hx485_0⟩ := Kd.at_string HR0.out x7_1 dT dT; cases e485; have p485 := eT (0 ≤ (x7_1 : Int)); have q485 := eT (x7_1 < (l0.length : Int))
           go_wp2_with (first | ((with_reducible refine gate_callee (f := 52) rfl ?_); refine gL (some 13) Try.func52 #[.string (rdOf ByteArray.empty l0 x7_1)] ?_; (with_reducible refine (impl_IsKey.calls k1 (rdOf ByteArray.empty l0 x7_1) true _ A5.out).mono ?_); rintro e w' ⟨rfl, ⟨nd, rfl⟩⟩; refine ⟨_, rfl, ?_⟩; have p487 : 0 ≤ ((ji8) : Int) := dT; have q487 : (ji8) < (l0.length : Int) := dT; obtain ⟨ad487, e487, hx487_0⟩ := Kd.at_string HR0.out (ji8) p487 q487; obtain rfl : ad485 = ad487 := (by injection e487); replace p487 := eq_true p487; replace q487 := eq_true q487))
           go_roundg k1
           case measure => have := HK1.out; omega
           case rel => exact ⟨(wrap64 (x7_1 + 1)), wZ, H', ⟨by have := HK1.out; omega⟩, by repeat (first | exact Drawn0.refl _ | apply Drawn0.step)⟩
          ·rw [if_neg c11] at H
           have c11b0 : (Op.bytesLess ((rdOf ByteArray.empty l0 (ji8)).toList) ((rdOf ByteArray.empty l0 x7_1).toList)) = false := by simpa using c11
           clear c11; obtain rfl := Option.some.inj H; obtain ⟨ad485, e485, hx485_0⟩ := Kd.at_string HR0.out x7_1 dT dT; cases e485; have p485 := eT (0 ≤ (x7_1 : Int)); have q485 := eT (x7_1 < (l0.length : Int))
           go_wp2_with (first | ((with_reducible refine gate_callee (f := 52) rfl ?_); refine gL (some 13) Try.func52 #[.string (rdOf ByteArray.empty l0 x7_1)] ?_; (with_reducible refine (impl_IsKey.calls k1 (rdOf ByteArray.empty l0 x7_1) true _ A5.out).mono ?_); rintro e w' ⟨rfl, ⟨nd, rfl⟩⟩; refine ⟨_, rfl, ?_⟩; have p487 : 0 ≤ ((ji8) : Int) := dT; have q487 : (ji8) < (l0.length : Int) := dT; obtain ⟨ad487, e487, hx487_0⟩ := Kd.at_string HR0.out (ji8) p487 q487; obtain rfl : ad485 = ad487 := (by injection e487); replace p487 := eq_true p487; replace q487 := eq_true q487))
           go_ret
           exact ⟨by first | rfl | (simp; done) | (simp only [← hji8] <;> (first | rfl | simp)) | (simp [*]; done), by repeat (first | exact Drawn0.refl _ | apply Drawn0.step)⟩
         ·rw [if_neg c10] at H
          exact absurd H (by simp)
        ·rw [if_neg c9] at H
         exact absurd H (by simp)
       ·rw [if_neg c7] at H
        have c7b0 : decide (0 < x7_1) = false := decide_eq_false c7; clear c7; have H' := am H; clear H; obtain ⟨ad485, e485, hx485_0⟩ := Kd.at_string HR0.out x7_1 dT dT; cases e485; have p485 := eT (0 ≤ (x7_1 : Int)); have q485 := eT (x7_1 < (l0.length : Int))
        go_wp2_with (first | ((with_reducible refine gate_callee (f := 52) rfl ?_); refine gL (some 13) Try.func52 #[.string (rdOf ByteArray.empty l0 x7_1)] ?_; (with_reducible refine (impl_IsKey.calls k1 (rdOf ByteArray.empty l0 x7_1) true _ A5.out).mono ?_); rintro e w' ⟨rfl, ⟨nd, rfl⟩⟩; refine ⟨_, rfl, ?_⟩))
        go_roundg k1
        case measure => have := HK1.out; omega
        case rel => exact ⟨(wrap64 (x7_1 + 1)), wZ, H', ⟨by have := HK1.out; omega⟩, by repeat (first | exact Drawn0.refl _ | apply Drawn0.step)⟩
      ·replace c6 := Bool.eq_false_iff.mpr c6
       subst c6
       rw [if_neg (show ¬ (false = true) by decide)] at H; obtain rfl := Option.some.inj H; obtain ⟨ad485, e485, hx485_0⟩ := Kd.at_string HR0.out x7_1 dT dT; cases e485; have p485 := eT (0 ≤ (x7_1 : Int)); have q485 := eT (x7_1 < (l0.length : Int))
       go_wp2_with (first | ((with_reducible refine gate_callee (f := 52) rfl ?_); refine gL (some 13) Try.func52 #[.string (rdOf ByteArray.empty l0 x7_1)] ?_; (with_reducible refine (impl_IsKey.calls k1 (rdOf ByteArray.empty l0 x7_1) false _ A5.out).mono ?_); rintro e w' ⟨rfl, ⟨nd, rfl⟩⟩; refine ⟨_, rfl, ?_⟩))
       go_ret
       exact ⟨by first | rfl | (simp; done) | (simp [*]; done), by repeat (first | exact Drawn0.refl _ | apply Drawn0.step)⟩
     ·rw [if_neg c4] at H
      exact absurd H (by simp)
    ·rw [if_neg c3] at H
     exact absurd H (by simp)
   ·rw [if_neg c2] at H
    have c2b0 : decide (x7_1 < (l0.length : Int)) = false := decide_eq_false c2; clear c2; obtain rfl := Option.some.inj H
    go_wp2
    go_ret
    exact ⟨by first | rfl | (simp; done) | (simp [*]; done), by repeat (first | exact Drawn0.refl _ | apply Drawn0.step)⟩

end Go.Proofs.Ytmehagedoaopeaa.PF
-- printed by a program of this session (wip/gp) out of the translation; Lean checks it
namespace Go.Proofs.Ytmehagedoaopeaa.PF
open Go.RowKit Go.Proofs.YtmehagedoaopeaaW.PrintWords Go.Proofs.YtmehagedoaopeaaW.PrintLast Go.Proofs.YtmehagedoaopeaaW.PrintMore Go.Proofs.YtmehagedoaopeaaSq
attribute [local go_sem] max2_int min2_int max_two min_two max_three min_three max_four min_four   -- for this text's walks alone
attribute [local go_sem] Go.Proofs.YtmehagedoaopeaaGp.str_geq Go.Proofs.YtmehagedoaopeaaGp.str_gtr Go.Proofs.YtmehagedoaopeaaGp.str_leq
set_option linter.unusedVariables false
set_option linter.unusedSimpArgs false

set_option maxHeartbeats 8000000
set_option maxRecDepth 100000
def impl_hyper.l0 : Nat → Int → Int → List ByteArray → Int → Int → Int → List (List Int) → Option (Int × (List (List Int)))
 | 0, _, _, _, _, _, _, _ => none
 | k + 1, x0, x2, x13, x14, x15, x490000, x490001 => if x15 < x14 then (if 0 ≤ x15 then (if x15 < (x13.length : Int) then ((impl_threePlaces.f k x0 (rdOf ByteArray.empty x13 x15) x2).bind fun t491 => (if x490001.length < 5864062014805 then (impl_hyper.l0 k x0 x2 x13 x14 (wrap64 (x15 + 1)) x490000 (x490001 ++ [t491])) else (none))) else (none)) else (none)) else (some (x490000, x490001))
def impl_hyper.f (k : Nat) (a0 : Int) (l1 : List ByteArray) (a2 : Int) : Option (Int × (List (List Int))) := impl_hyper.l0 k a0 a2 l1 (l1.length : Int) 0 (wrap64 (3 * a2)) ([] : List (List Int))
def impl_hyper.T5 : Bool × List (List Nat × List Nat) := (true, [([], []), ([0], [0]), ([], []), ([], []), ([], []), ([2, 3, 4], [2, 3, 4]), ([5], [5]), ([1, 6, 5], [1, 6]), ([0, 1, 2, 3, 4, 5, 6, 7], []), ([8, 7, 7, 0, 1, 2, 3, 4, 5, 6, 7], [7, 8])])
def impl_hyper.B5 : List Nat := [0, 1, 0, 0, 0, 28, 60, 127, 255, 511]
theorem impl_hyper.tab5 : rtab .any (opsOf Try.f61 5) = impl_hyper.T5 := by kernel_rfl
theorem impl_hyper.bits5 : waitsOk impl_hyper.T5.2 impl_hyper.B5 = true := by kernel_rfl
theorem impl_hyper.calls (k : Nat) (a0 : Int) (A1 : Option Addr) (c1 : Nat) (l1 : List ByteArray) (a2 : Int) (r1 : Int) (r2 : List (List Int)) (w : World) (hr1 : Kd.C Kd.string w A1 l1.length l1) (hc1 : l1.length ≤ c1) (h : impl_hyper.f k a0 l1 a2 = some (r1, r2)) :
  Calls Try.prog 61 #[.int .i64 a0, .slice A1 l1.length c1, .int .i64 a2] w fun e w' => ∃ v1_ : Value, e = .returned (.agg #[.int .i64 r1, v1_]) ∧ Kd.S (Kd.slice 3 (Kd.int .i64)) 24 w' w.heap.size (fun _ => True) v1_ r2 ∧ Below w.heap.size w w' := by
 have hu33 := Try.underlying33; have HR1 := am hr1; have HC1 := am hc1; clear hr1 hc1; have HB := am (Below.refl w.heap.size w); have H : (impl_hyper.l0 k a0 a2 l1 (l1.length : Int) 0 (wrap64 (3 * a2)) ([] : List (List Int))) = some (r1, r2) := h; clear h; have H' := am H; clear H
 go_enter Try.func61, Try.ntmps61
 go_wp2_with (first | ((with_reducible refine gate_dst (N := 6) rfl ?_); refine bE 6 #[.int .i64 0, .slice none 0 0] 33 ?_; intro gb488 hg w4 hbox hb; have n0_ := Bb HB hb; have n1_ := am (hbox); have n2_ := Gl HB hg; have n3_ := Gl HB hg; clear HB; revert n0_ n1_ n2_ n3_; intro HB BK488 GW488 GE488; clear hb hbox hg) | ((with_reducible refine gate_dst (N := 7) rfl ?_); refine bE 7 #[.int .i64 0, .slice none 0 0] 33 ?_; intro gb489 hg w5 hbox hb; have n0_ := Kb BK488 hb; have n1_ := Bc HB hb; have n2_ := am (hbox); have n3_ := Gm HB hg; have n4_ := Gm HB hg; have n5_ := Nl BK488 hg; have n6_ := Ng BK488 hg; clear BK488 HB; revert n0_ n1_ n2_ n3_ n4_ n5_ n6_; intro BK488 HB BK489 GW489 GE489 NB488_489 NB489_488; clear hb hbox hg; have hnb6 := NB489_488.out; have hnc6 := NB488_489.out; obtain ⟨hcz7_0, hcz7_1, hfz7_0, hfz7_1⟩ := cf2 (w := w5) BK489))
 (try simp only [aP])
 go_loopg [15] k (fun kq v15 w' => ∃ (x15_1 : Int) (x490001_1 : List (List Int)) (u490001 : Value), v15 = .int .i64 x15_1 ∧ Aside0 (impl_hyper.l0 kq a0 a2 l1 (l1.length : Int) x15_1 (wrap64 (3 * a2)) x490001_1 = some (r1, r2)) ∧ Aside0 (kq ≤ k) ∧ Aside0 (Kd.S (Kd.slice 3 (Kd.int .i64)) 24 w' w.heap.size (fun _ => True) u490001 x490001_1) ∧ Aside0 (w'.heap[gb488]? = some (.cells #[.int .i64 0, (.slice none 0 0)] 33 (0, 0))) ∧ Aside0 (w'.heap[gb489]? = some (.cells #[.int .i64 (wrap64 (3 * a2)), u490001] 33 (0, 0))) ∧ Aside0 (Below w.heap.size w w'))
 case atStart => exact ⟨(0), (([] : List (List Int))), (.slice none 0 0), wZ, H', ⟨Nat.le_refl _⟩, ⟨by first | exact Kd.S_nil _ _ _ _ _ | exact Kd.N_nil _ _ _ _ _ | exact Kd.V_nil _ _ _ _ _ | exact Kd.Q_nil _ _ _ _ _ | exact Kd.R_nil _ _ _ _ _⟩, ⟨by (with_reducible repeat (first | refine blk_drewN ?_ _ | refine blk_drew ?_ | refine blk_alloc ?_ _)); refine blk_far ?_ NB488_489.out _; (with_reducible repeat (first | refine blk_drewN ?_ _ | refine blk_drew ?_ | refine blk_alloc ?_ _)); refine blk_far ?_ NB488_489.out _; (with_reducible repeat (first | refine blk_drewN ?_ _ | refine blk_drew ?_ | refine blk_alloc ?_ _)); exact BK488.out⟩, ⟨by (with_reducible repeat (first | refine blk_drewN ?_ _ | refine blk_drew ?_ | refine blk_alloc ?_ _)); refine blk_put (cs := #[.int .i64 (wrap64 (3 * a2)), .slice none 0 0]) ?_ 1 _ rfl; (with_reducible repeat (first | refine blk_drewN ?_ _ | refine blk_drew ?_ | refine blk_alloc ?_ _)); refine blk_put (cs := #[.int .i64 0, .slice none 0 0]) ?_ 0 _ rfl; (with_reducible repeat (first | refine blk_drewN ?_ _ | refine blk_drew ?_ | refine blk_alloc ?_ _)); exact BK489.out⟩, ⟨Bq⟩⟩
 case round =>
  clear H'
  try clear c1
  try clear p2
  try clear c6
  try clear p6
  try clear hcz7_0
  try clear hcz7_1
  try clear hfz7_0
  try clear hfz7_1
  obtain ⟨x15_1, x490001_1, u490001, rfl, HA, HK1, HO_490001, BK488, BK489, HB⟩ := hrel; cases gk with
  | zero => exact absurd HA.out (by simp [impl_hyper.l0])
  | succ k1 =>
   have H := HA.out; clear HA
   simp only [impl_hyper.l0] at H
   by_cases c8 : x15_1 < (l1.length : Int)
   ·rw [if_pos c8] at H
    have c8b0 : decide (x15_1 < (l1.length : Int)) = true := decide_eq_true c8; clear c8
    by_cases c9 : 0 ≤ x15_1
    ·rw [if_pos c9] at H
     have c9b0 : decide (0 ≤ x15_1) = true := decide_eq_true c9; clear c9
     by_cases c10 : x15_1 < (l1.length : Int)
     ·rw [if_pos c10] at H
      have c10b0 : decide (x15_1 < (l1.length : Int)) = true := decide_eq_true c10; clear c10; replace H := Option.bind_eq_some_iff.mp H; obtain ⟨t491, A110, H⟩ := H; (try dsimp -simprocs only at H); have A11 := am A110; clear A110
      by_cases c12 : x490001_1.length < 5864062014805
      ·rw [if_pos c12] at H
       have LMc12 := am c12; clear c12; obtain ⟨y494, hy494⟩ : ∃ y_ : List (List Int), y_ = (x490001_1 ++ [t491]) := ⟨_, rfl⟩
       replace H : (impl_hyper.l0 k1 a0 a2 l1 (l1.length : Int) (wrap64 (x15_1 + 1)) (wrap64 (3 * a2)) y494) = some (r1, r2) := by first | (rw [hy494]; with_reducible exact H) | (have H2_ := (Option.bind_some _ _).symm.trans H; rw [hy494]; with_reducible exact H2_) | (have H2_ := (Option.bind_some _ _).symm.trans H; with_reducible exact H2_) | with_reducible exact H | (rw [hy494]; exact H) | exact H
       have Ny494 := am hy494; clear hy494; have H' := am H; clear H; have p490 : 0 ≤ (x15_1 : Int) := dT; have q490 : x15_1 < (l1.length : Int) := dT; obtain ⟨ad490, e490, hx490_0⟩ := Kd.at_string HR1.out x15_1 p490 q490; cases e490; replace hx490_0 := (HB.out.cell (World.block_lt_of_cell? w _ hx490_0)).trans hx490_0; replace p490 := eq_true p490; replace q490 := eq_true q490
       try go_wp2
       have n0_ := am (Kd.S_drew HO_490001.out); have n1_ := am (blk_drew BK488.out); have n2_ := am (blk_drew BK489.out); have n3_ := am (below_drew1 HB.out); clear HO_490001 BK488 BK489 HB; revert n0_ n1_ n2_ n3_; intro HO_490001 BK488 BK489 HB; refine start_ (n := 10) (S := fun w' => w'.cell? ⟨gb489, 0, none⟩ = some (.int .i64 (wrap64 (3 * a2))) ∧ w'.cell? ⟨gb489, 1, none⟩ = some (u490001)) (ds := [9]) (bA 10 0) (by kernel_rfl) rfl rfl ⟨cz BK489 0, cz BK489 1⟩ (fun hHeld => ?_); refine with_tabW impl_hyper.tab5 impl_hyper.bits5 (fun HT_ HW_ => ?_); generalize wr.drew = w13 at HO_490001 BK488 BK489 HB hHeld ⊢; refine pZ 0 (some 19) (bA 10 1) HT_.out ?_; refine pZ 2 (some 21) (bA 10 5) HT_.out ?_; refine pZ 3 (some 22) (bA 10 13) HT_.out ?_; refine pZ 4 (some 23) (bA 10 29) HT_.out ?_; refine tZ2 1 (some 20) (bA 10 31) HT_.out HW_.out hHeld ?_; refine oZ 5 (some 24) (bA 10 63) HT_.out (fun K hK => ?_); refine gZ Try.func88 #[.int .i64 a0, .string (rdOf ByteArray.empty l1 x15_1), .int .i64 a2] ?_
       with_reducible refine (impl_threePlaces.calls k1 a0 (rdOf ByteArray.empty l1 x15_1) a2 t491 _ A11.out).mono ?_
       rintro e w14 ⟨v492, rfl, ho0, hb⟩; refine ⟨_, rfl, ?_⟩; have n0_ := am (Kd.S_elder' (by (with_reducible repeat (first | apply Kd.S_alloc | apply Kd.S_drewN | apply Kd.S_drew)); exact HO_490001.out) (Kd.R_base ho0) hb); have n1_ := Rm ho0 HB; have n2_ := Kb BK488 hb; have n3_ := Kb BK489 hb; have n4_ := Bc HB hb; clear HO_490001 BK488 BK489 HB; revert n0_ n1_ n2_ n3_ n4_; intro HO_490001 HO493 BK488 BK489 HB
       (try clear hb)
       (try clear hb2)
       (try clear hk)
       (try clear hi)
       (try clear ho0)
       obtain ⟨Ao16, co16, eo16⟩ := Kd.R_slice HO493.out
       (first | subst eo16 | (injection eo16 with f1_ f2_ f3_; have f4_ := f1_.symm; have f5_ := f3_.symm; clear f1_ f2_ f3_; subst f4_; subst f5_))
       refine hK.out _ _ ⟨cz BK489 0, cz BK489 1⟩ (fun hHeld => ?_); clear hK K; refine norm_ (a' := ?_) ?_ ?_; rotate_left; show Act.put _ (some 24) _ = _; simp only [aP, i64_w, i32_w]; rfl; refine oZ 6 (some 25) (bA 10 127) HT_.out (fun K hK => ?_); refine value_ (w1 := ?_) (v := ?_) (by rfl) rfl ?_ ?_
       rotate_left 2
       ·go_simp
        constructor
        ·rfl
        ·rfl
       refine hK.out _ _ ⟨(blk_cell (blk_alloc BK489.out _) 0).trans rfl, (blk_cell (blk_alloc BK489.out _) 1).trans rfl⟩ (fun hHeld => ?_); clear hK K; refine norm_ (a' := ?_) ?_ ?_; rotate_left; show Act.put _ (some 25) _ = _; simp only [aP, i64_w, i32_w]; rfl; refine oZ 7 (some 26) (bA 10 255) HT_.out (fun K hK => ?_); refine Kd.S_append_step (Kd.slice 3 (Kd.int .i64)) (w0 := w) w.heap.size (by rfl) (.tmp 20) (.tmp 25) 31 24 (.slice none 0 0) 24 rfl Try.underlying31 info24 rfl (by decide) (by omega) u490001 x490001_1 t491 [.slice Ao16 t491.length co16] (fun _ => True) (fun k_ => some k_ = (.slice Ao16 t491.length co16 : Value).ownBlock) rfl rfl ?aP (fun k_ hk_ => ((Kd.R_mono (ok' := fun k_ => ((fun _ => True)) k_ ∧ some k_ ≠ (u490001 : Value).ownBlock) (Kd.R_apart' (HO493.out) (Kd.S_typed HO_490001.out) (by decide)) (fun k_ hk => ⟨trivial, hk.2⟩))).1 k_ hk_.symm) ?aF ?aO ?aB ?aS ?aL ?_
       (case aP => exact Kd.M_row (Kd.R_mono (Kd.R_tight rfl (Kd.R_mono (ok' := fun k_ => ((fun _ => True)) k_ ∧ some k_ ≠ (u490001 : Value).ownBlock) (Kd.R_apart' (HO493.out) (Kd.S_typed HO_490001.out) (by decide)) (fun k_ hk => ⟨trivial, hk.2⟩))) (fun _ h_ => h_)))
       (case aB => exact (Bq))
       (case aF => exact (fun _ _ => trivial))
       (case aO => exact (by (with_reducible repeat (first | apply Kd.S_alloc | apply Kd.S_drewN | apply Kd.S_drew)); exact Kd.S_mono HO_490001.out (fun k_ hk => ⟨trivial, fun e_ => hk.2 e_⟩)))
       (case aS => exact (below_size (w := w) (Bq)))
       (case aL => have := LMc12.out; omega)
       intro v495 w15 ho hb hg hat; rw [← Ny494.out] at ho; have n0_ := am (blk_grown (g := gb488) (o := .cells #[.int .i64 0, .slice none 0 0] 33 (0, 0)) (Kz BK488.out) hg (Kd.S_ne HO_490001.out BK488.out (by decide))); have n1_ := am (blk_grown (g := gb489) (o := .cells #[.int .i64 (wrap64 (3 * a2)), u490001] 33 (0, 0)) (Kz BK489.out) hg (Kd.S_ne HO_490001.out BK489.out (by decide))); have n2_ := am (hb); have n3_ := am (ho); clear BK488 BK489 HB HO_490001 HO493; revert n0_ n1_ n2_ n3_; intro BK488 BK489 HB HO496; clear ho hb hg hat; obtain ⟨Ao17, co17, eo17⟩ := Kd.S_slice HO496.out
       (first | subst eo17 | (injection eo17 with f1_ f2_ f3_; have f4_ := f1_.symm; have f5_ := f3_.symm; clear f1_ f2_ f3_; subst f4_; subst f5_))
       refine hK.out _ _ ⟨cz BK489 0, cz BK489 1⟩ (fun hHeld => ?_); clear hK K; refine norm_ (a' := ?_) ?_ ?_; rotate_left; show Act.put _ (some 26) _ = _; simp only [aP, i64_w, i32_w]; rfl; refine pZ 8 (some 27) (bA 10 511) HT_.out ?_; refine lZ 9 none (bA 10 1023) HT_.out (fun K hK => ?_); have hs18 : w15.cell? ⟨gb489, 1, none⟩ = some (u490001) := cz BK489 1; have hfs18 := blk_frozen BK489.out 1; have hns18_0 := NB488_489.out; have hms18_0 := NB489_488.out; refine skip_ (w1 := ?_) (by rfl) rfl ?_ ?_
       rotate_left
       ·go_simp
        rfl
       refine hK.out _ _ ?_; clear hK K; refine done_ (done_of HT_.out (by kernel_rfl)) ?_
       try go_wp2
       go_roundg k1
       case measure => have := HK1.out; omega
       case rel => exact ⟨(wrap64 (x15_1 + 1)), (y494), (.slice Ao17 y494.length co17), wZ, H', ⟨by have := HK1.out; omega⟩, ⟨by (with_reducible repeat (first | apply Kd.S_alloc | apply Kd.S_drewN | apply Kd.S_drew)); exact Kd.S_mono (Kd.S_far (p := ⟨gb489, 1, none⟩) (Kd.S_types HO496.out BK489.out (by decide)) (fun _ hk => hk.2) (.slice Ao17 y494.length co17)) (fun _ hk => trivial)⟩, ⟨by (with_reducible repeat (first | refine blk_drewN ?_ _ | refine blk_drew ?_ | refine blk_alloc ?_ _)); refine blk_far ?_ NB488_489.out _; (with_reducible repeat (first | refine blk_drewN ?_ _ | refine blk_drew ?_ | refine blk_alloc ?_ _)); exact BK488.out⟩, ⟨by (with_reducible repeat (first | refine blk_drewN ?_ _ | refine blk_drew ?_ | refine blk_alloc ?_ _)); refine blk_put (cs := #[.int .i64 (wrap64 (3 * a2)), u490001]) ?_ 1 _ rfl; (with_reducible repeat (first | refine blk_drewN ?_ _ | refine blk_drew ?_ | refine blk_alloc ?_ _)); exact BK489.out⟩, ⟨Bq⟩⟩
      ·rw [if_neg c12] at H
       exact absurd H (by simp)
     ·rw [if_neg c10] at H
      exact absurd H (by simp)
    ·rw [if_neg c9] at H
     exact absurd H (by simp)
   ·rw [if_neg c8] at H
    have c8b0 : decide (x15_1 < (l1.length : Int)) = false := decide_eq_false c8; clear c8
    simp only [Option.some.injEq, Prod.mk.injEq] at H
    obtain ⟨rfl, rfl⟩ := H; have hnb19 := NB489_488.out; have hnc19 := NB488_489.out; obtain ⟨hcz20_0, hcz20_1, hfz20_0, hfz20_1⟩ := cf2 (w := wr) BK489; obtain ⟨hcz21_0, hcz21_1, hfz21_0, hfz21_1⟩ := cf2 (w := wr) BK488; obtain ⟨Ao22, co22, eo22⟩ := Kd.S_slice HO_490001.out; subst eo22
    go_wp2
    refine bodyPost_ret (results_cell_row rfl _ _ gb488 33 #[.int .i64 (wrap64 (3 * a2)), .slice Ao22 x490001_1.length co22] (0, 0) _ rfl (by (with_reducible repeat (first | refine blk_drewN ?_ _ | refine blk_drew ?_ | refine blk_alloc ?_ _)); refine blk_put (cs := #[.int .i64 (wrap64 (3 * a2)), .slice none 0 0]) ?_ 1 _ rfl; (with_reducible repeat (first | refine blk_drewN ?_ _ | refine blk_drew ?_ | refine blk_alloc ?_ _)); refine blk_put (cs := #[.int .i64 0, .slice none 0 0]) ?_ 0 _ rfl; exact Kz BK488.out) Try.underlying33 rfl (by kernel_rfl)) rfl ?_; exact ⟨_, eZ, by (with_reducible repeat (first | apply Kd.S_alloc | apply Kd.S_drewN | apply Kd.S_drew)); exact Kd.S_mono (Kd.S_far (p := ⟨gb488, 1, none⟩) (Kd.S_far (p := ⟨gb488, 0, none⟩) (Kd.S_types HO_490001.out BK488.out (by decide)) (fun _ hk => hk.2) (.int .i64 (wrap64 (3 * a2)))) (fun _ hk => hk.2) (.slice Ao22 x490001_1.length co22)) (fun _ hk => trivial), Bq⟩

def impl_HyperOf.f (k : Nat) (a0 : Int) (l1 : List ByteArray) (a2 : Int) : Option (Int × (List (List Int)) × Bool) := (impl_isSeed.f a0).bind fun t498 => (if t498 = true then ((impl_AreKeys.f k l1).bind fun t499 => (if t499 = true then ((impl_segmentOk.f a2).bind fun t500 => (if t500 = true then ((impl_hyper.f k a0 l1 a2).bind fun bt501 => (some (bt501.1, bt501.2, true))) else (some (0, ([] : List (List Int)), false)))) else (some (0, ([] : List (List Int)), false)))) else (some (0, ([] : List (List Int)), false)))
theorem impl_HyperOf.calls (k : Nat) (a0 : Int) (A1 : Option Addr) (c1 : Nat) (l1 : List ByteArray) (a2 : Int) (r1 : Int) (r2 : List (List Int)) (r3 : Bool) (w : World) (hr1 : Kd.C Kd.string w A1 l1.length l1) (hc1 : l1.length ≤ c1) (h : impl_HyperOf.f k a0 l1 a2 = some (r1, r2, r3)) :
  Calls Try.prog 13 #[.int .i64 a0, .slice A1 l1.length c1, .int .i64 a2] w fun e w' => ∃ v1_ : Value, e = .returned (.tuple #[.agg #[.int .i64 r1, v1_], .bool r3]) ∧ Kd.S (Kd.slice 3 (Kd.int .i64)) 24 w' w.heap.size (fun _ => True) v1_ r2 ∧ Below w.heap.size w w' := by
 have hu33 := Try.underlying33; have HR1 := am hr1; have HC1 := am hc1; clear hr1 hc1; have HB := am (Below.refl w.heap.size w); have H : ((impl_isSeed.f a0).bind fun t498 => (if t498 = true then ((impl_AreKeys.f k l1).bind fun t499 => (if t499 = true then ((impl_segmentOk.f a2).bind fun t500 => (if t500 = true then ((impl_hyper.f k a0 l1 a2).bind fun bt501 => (some (bt501.1, bt501.2, true))) else (some (0, ([] : List (List Int)), false)))) else (some (0, ([] : List (List Int)), false)))) else (some (0, ([] : List (List Int)), false)))) = some (r1, r2, r3) := h; clear h; replace H := Option.bind_eq_some_iff.mp H; obtain ⟨t498, A40, H⟩ := H; (try dsimp -simprocs only at H); have A4 := am A40; clear A40
 by_cases c5 : t498 = true
 ·subst c5
  rw [if_pos rfl] at H; replace H := Option.bind_eq_some_iff.mp H; obtain ⟨t499, A60, H⟩ := H; (try dsimp -simprocs only at H); have A6 := am A60; clear A60
  by_cases c7 : t499 = true
  ·subst c7
   rw [if_pos rfl] at H; replace H := Option.bind_eq_some_iff.mp H; obtain ⟨t500, A80, H⟩ := H; (try dsimp -simprocs only at H); have A8 := am A80; clear A80
   by_cases c9 : t500 = true
   ·subst c9
    rw [if_pos rfl] at H; replace H := Option.bind_eq_some_iff.mp H; obtain ⟨⟨t501, t502⟩, A100, H⟩ := H; (try dsimp -simprocs only at H); have A10 := am A100; clear A100
    simp only [Option.some.injEq, Prod.mk.injEq] at H
    obtain ⟨rfl, rfl, rfl⟩ := H
    go_enter Try.func13, Try.ntmps13
    go_wp2_with (first | ((with_reducible refine gate_dst (N := 6) rfl ?_); refine bE 6 #[.int .i64 0, .slice none 0 0] 33 ?_; intro gb497 hg w11 hbox hb; have n0_ := Bb HB hb; have n1_ := am (hbox); have n2_ := Gl HB hg; have n3_ := Gl HB hg; clear HB; revert n0_ n1_ n2_ n3_; intro HB BK497 GW497 GE497; clear hb hbox hg) | ((with_reducible refine gate_callee (f := 59) rfl ?_); refine gL (some 9) Try.func59 #[.int .i64 a0] ?_; (with_reducible refine (impl_isSeed.calls a0 true _ A4.out).mono ?_); rintro e w' ⟨rfl, ⟨nd, rfl⟩⟩; refine ⟨_, rfl, ?_⟩; (try (rw [drewN_self w11]; generalize hq_ : World.drewN w11 _ = w11; have n0_ : Aside0 (w11.heap[gb497]? = some (.cells #[.int .i64 0, .slice none 0 0] 33 (0, 0))) := ⟨by rw [← hq_]; exact (Kz BK497.out)⟩; have n1_ : Aside0 (Below w.heap.size w w11) := ⟨by rw [← hq_]; exact (Bq)⟩; clear BK497 HB hq_; revert n0_ n1_; intro BK497 HB))) | (go_at_call 37; (with_reducible refine (impl_AreKeys.calls k _ _ l1 true _ ?side1 ?side2 A6.out).mono ?_); (case side1 => exact Cz (Kd.C_below HR1.out HB.out)); (case side2 => exact HC1.out); rintro e w' ⟨rfl, ⟨nd, rfl⟩⟩; (try (rw [drewN_self w11]; generalize hq_ : World.drewN w11 _ = w11; have n0_ : Aside0 (w11.heap[gb497]? = some (.cells #[.int .i64 0, .slice none 0 0] 33 (0, 0))) := ⟨by rw [← hq_]; exact (Kz BK497.out)⟩; have n1_ : Aside0 (Below w.heap.size w w11) := ⟨by rw [← hq_]; exact (Bq)⟩; clear BK497 HB hq_; revert n0_ n1_; intro BK497 HB))) | (go_at_call 60; (with_reducible refine (impl_segmentOk.calls a2 true _ A8.out).mono ?_); rintro e w' ⟨rfl, ⟨nd, rfl⟩⟩; (try (rw [drewN_self w11]; generalize hq_ : World.drewN w11 _ = w11; have n0_ : Aside0 (w11.heap[gb497]? = some (.cells #[.int .i64 0, .slice none 0 0] 33 (0, 0))) := ⟨by rw [← hq_]; exact (Kz BK497.out)⟩; have n1_ : Aside0 (Below w.heap.size w w11) := ⟨by rw [← hq_]; exact (Bq)⟩; clear BK497 HB hq_; revert n0_ n1_; intro BK497 HB))) | ((with_reducible refine gate_callee (f := 61) rfl ?_); refine gL (some 25) Try.func61 #[.int .i64 a0, .slice A1 l1.length c1, .int .i64 a2] ?_; (with_reducible refine (impl_hyper.calls k a0 _ _ l1 a2 t501 t502 _ ?side1 ?side2 A10.out).mono ?_); (case side1 => exact Cz (Kd.C_below HR1.out HB.out)); (case side2 => exact HC1.out); rintro e w12 ⟨v503, rfl, ho0, hb⟩; refine ⟨_, rfl, ?_⟩; have n0_ := am (Kd.S_lower ho0 (below_size (w := w) (Bq))); have n1_ := Kb BK497 hb; have n2_ := Bc HB hb; clear BK497 HB; revert n0_ n1_ n2_; intro HO504 BK497 HB; (try clear hb); (try clear hb2); (try clear hk); (try clear hi); (try clear ho0); obtain ⟨hcz13_0, hcz13_1, hfz13_0, hfz13_1⟩ := cf2 (w := w12) BK497; obtain ⟨Ao14, co14, eo14⟩ := Kd.S_slice HO504.out; subst eo14))
    refine bodyPost_ret (results_ct rfl _ _ gb497 33 #[.int .i64 t501, .slice Ao14 t502.length co14] (0, 0) _ rfl (by (with_reducible repeat (first | refine blk_drewN ?_ _ | refine blk_drew ?_ | refine blk_alloc ?_ _)); refine blk_put (cs := #[.int .i64 t501, .slice none 0 0]) ?_ 1 _ rfl; (with_reducible repeat (first | refine blk_drewN ?_ _ | refine blk_drew ?_ | refine blk_alloc ?_ _)); refine blk_put (cs := #[.int .i64 0, .slice none 0 0]) ?_ 0 _ rfl; exact Kz BK497.out) Try.underlying33 rfl (by kernel_rfl)) rfl ?_; exact ⟨_, eZ, by (with_reducible repeat (first | apply Kd.S_alloc | apply Kd.S_drewN | apply Kd.S_drew)); exact Kd.S_mono (Kd.S_far (p := ⟨gb497, 1, none⟩) (Kd.S_far (p := ⟨gb497, 0, none⟩) (Kd.S_types HO504.out BK497.out (by decide)) (fun _ hk => hk.2) (.int .i64 t501)) (fun _ hk => hk.2) (.slice Ao14 t502.length co14)) (fun _ hk => trivial), Bq⟩
   ·replace c9 := Bool.eq_false_iff.mpr c9
    subst c9
    rw [if_neg (show ¬ (false = true) by decide)] at H
    simp only [Option.some.injEq, Prod.mk.injEq] at H
    obtain ⟨rfl, rfl, rfl⟩ := H
    go_enter Try.func13, Try.ntmps13
    go_wp2_with (first | ((with_reducible refine gate_dst (N := 6) rfl ?_); refine bE 6 #[.int .i64 0, .slice none 0 0] 33 ?_; intro gb497 hg w15 hbox hb; have n0_ := Bb HB hb; have n1_ := am (hbox); have n2_ := Gl HB hg; have n3_ := Gl HB hg; clear HB; revert n0_ n1_ n2_ n3_; intro HB BK497 GW497 GE497; clear hb hbox hg) | ((with_reducible refine gate_callee (f := 59) rfl ?_); refine gL (some 9) Try.func59 #[.int .i64 a0] ?_; (with_reducible refine (impl_isSeed.calls a0 true _ A4.out).mono ?_); rintro e w' ⟨rfl, ⟨nd, rfl⟩⟩; refine ⟨_, rfl, ?_⟩; (try (rw [drewN_self w15]; generalize hq_ : World.drewN w15 _ = w15; have n0_ : Aside0 (w15.heap[gb497]? = some (.cells #[.int .i64 0, .slice none 0 0] 33 (0, 0))) := ⟨by rw [← hq_]; exact (Kz BK497.out)⟩; have n1_ : Aside0 (Below w.heap.size w w15) := ⟨by rw [← hq_]; exact (Bq)⟩; clear BK497 HB hq_; revert n0_ n1_; intro BK497 HB))) | (go_at_call 37; (with_reducible refine (impl_AreKeys.calls k _ _ l1 true _ ?side1 ?side2 A6.out).mono ?_); (case side1 => exact Cz (Kd.C_below HR1.out HB.out)); (case side2 => exact HC1.out); rintro e w' ⟨rfl, ⟨nd, rfl⟩⟩; (try (rw [drewN_self w15]; generalize hq_ : World.drewN w15 _ = w15; have n0_ : Aside0 (w15.heap[gb497]? = some (.cells #[.int .i64 0, .slice none 0 0] 33 (0, 0))) := ⟨by rw [← hq_]; exact (Kz BK497.out)⟩; have n1_ : Aside0 (Below w.heap.size w w15) := ⟨by rw [← hq_]; exact (Bq)⟩; clear BK497 HB hq_; revert n0_ n1_; intro BK497 HB))) | (go_at_call 60; (with_reducible refine (impl_segmentOk.calls a2 false _ A8.out).mono ?_); rintro e w' ⟨rfl, ⟨nd, rfl⟩⟩; (try (rw [drewN_self w15]; generalize hq_ : World.drewN w15 _ = w15; have n0_ : Aside0 (w15.heap[gb497]? = some (.cells #[.int .i64 0, .slice none 0 0] 33 (0, 0))) := ⟨by rw [← hq_]; exact (Kz BK497.out)⟩; have n1_ : Aside0 (Below w.heap.size w w15) := ⟨by rw [← hq_]; exact (Bq)⟩; clear BK497 HB hq_; revert n0_ n1_; intro BK497 HB)); obtain ⟨hcz16_0, hcz16_1, hfz16_0, hfz16_1⟩ := cf2 (w := w15) BK497))
    refine bodyPost_ret (results_ct rfl _ _ gb497 33 #[.int .i64 0, .slice none 0 0] (0, 0) _ rfl (by (with_reducible repeat (first | refine blk_drewN ?_ _ | refine blk_drew ?_ | refine blk_alloc ?_ _)); refine blk_put (cs := #[.int .i64 0, .slice none 0 0]) ?_ 1 _ rfl; (with_reducible repeat (first | refine blk_drewN ?_ _ | refine blk_drew ?_ | refine blk_alloc ?_ _)); refine blk_put (cs := #[.int .i64 0, .slice none 0 0]) ?_ 0 _ rfl; exact Kz BK497.out) Try.underlying33 rfl (by kernel_rfl)) rfl ?_; exact ⟨_, eZ, by first | exact Kd.S_nil _ _ _ _ _ | exact Kd.N_nil _ _ _ _ _ | exact Kd.V_nil _ _ _ _ _ | exact Kd.Q_nil _ _ _ _ _ | exact Kd.R_nil _ _ _ _ _, Bq⟩
  ·replace c7 := Bool.eq_false_iff.mpr c7
   subst c7
   rw [if_neg (show ¬ (false = true) by decide)] at H
   simp only [Option.some.injEq, Prod.mk.injEq] at H
   obtain ⟨rfl, rfl, rfl⟩ := H
   go_enter Try.func13, Try.ntmps13
   go_wp2_with (first | ((with_reducible refine gate_dst (N := 6) rfl ?_); refine bE 6 #[.int .i64 0, .slice none 0 0] 33 ?_; intro gb497 hg w17 hbox hb; have n0_ := Bb HB hb; have n1_ := am (hbox); have n2_ := Gl HB hg; have n3_ := Gl HB hg; clear HB; revert n0_ n1_ n2_ n3_; intro HB BK497 GW497 GE497; clear hb hbox hg) | ((with_reducible refine gate_callee (f := 59) rfl ?_); refine gL (some 9) Try.func59 #[.int .i64 a0] ?_; (with_reducible refine (impl_isSeed.calls a0 true _ A4.out).mono ?_); rintro e w' ⟨rfl, ⟨nd, rfl⟩⟩; refine ⟨_, rfl, ?_⟩; (try (rw [drewN_self w17]; generalize hq_ : World.drewN w17 _ = w17; have n0_ : Aside0 (w17.heap[gb497]? = some (.cells #[.int .i64 0, .slice none 0 0] 33 (0, 0))) := ⟨by rw [← hq_]; exact (Kz BK497.out)⟩; have n1_ : Aside0 (Below w.heap.size w w17) := ⟨by rw [← hq_]; exact (Bq)⟩; clear BK497 HB hq_; revert n0_ n1_; intro BK497 HB))) | (go_at_call 37; (with_reducible refine (impl_AreKeys.calls k _ _ l1 false _ ?side1 ?side2 A6.out).mono ?_); (case side1 => exact Cz (Kd.C_below HR1.out HB.out)); (case side2 => exact HC1.out); rintro e w' ⟨rfl, ⟨nd, rfl⟩⟩; (try (rw [drewN_self w17]; generalize hq_ : World.drewN w17 _ = w17; have n0_ : Aside0 (w17.heap[gb497]? = some (.cells #[.int .i64 0, .slice none 0 0] 33 (0, 0))) := ⟨by rw [← hq_]; exact (Kz BK497.out)⟩; have n1_ : Aside0 (Below w.heap.size w w17) := ⟨by rw [← hq_]; exact (Bq)⟩; clear BK497 HB hq_; revert n0_ n1_; intro BK497 HB)); obtain ⟨hcz18_0, hcz18_1, hfz18_0, hfz18_1⟩ := cf2 (w := w17) BK497))
   refine bodyPost_ret (results_ct rfl _ _ gb497 33 #[.int .i64 0, .slice none 0 0] (0, 0) _ rfl (by (with_reducible repeat (first | refine blk_drewN ?_ _ | refine blk_drew ?_ | refine blk_alloc ?_ _)); refine blk_put (cs := #[.int .i64 0, .slice none 0 0]) ?_ 1 _ rfl; (with_reducible repeat (first | refine blk_drewN ?_ _ | refine blk_drew ?_ | refine blk_alloc ?_ _)); refine blk_put (cs := #[.int .i64 0, .slice none 0 0]) ?_ 0 _ rfl; exact Kz BK497.out) Try.underlying33 rfl (by kernel_rfl)) rfl ?_; exact ⟨_, eZ, by first | exact Kd.S_nil _ _ _ _ _ | exact Kd.N_nil _ _ _ _ _ | exact Kd.V_nil _ _ _ _ _ | exact Kd.Q_nil _ _ _ _ _ | exact Kd.R_nil _ _ _ _ _, Bq⟩
 ·replace c5 := Bool.eq_false_iff.mpr c5
  subst c5
  rw [if_neg (show ¬ (false = true) by decide)] at H
  simp only [Option.some.injEq, Prod.mk.injEq] at H
  obtain ⟨rfl, rfl, rfl⟩ := H
  go_enter Try.func13, Try.ntmps13
  go_wp2_with (first | ((with_reducible refine gate_dst (N := 6) rfl ?_); refine bE 6 #[.int .i64 0, .slice none 0 0] 33 ?_; intro gb497 hg w19 hbox hb; have n0_ := Bb HB hb; have n1_ := am (hbox); have n2_ := Gl HB hg; have n3_ := Gl HB hg; clear HB; revert n0_ n1_ n2_ n3_; intro HB BK497 GW497 GE497; clear hb hbox hg) | ((with_reducible refine gate_callee (f := 59) rfl ?_); refine gL (some 9) Try.func59 #[.int .i64 a0] ?_; (with_reducible refine (impl_isSeed.calls a0 false _ A4.out).mono ?_); rintro e w' ⟨rfl, ⟨nd, rfl⟩⟩; refine ⟨_, rfl, ?_⟩; (try (rw [drewN_self w19]; generalize hq_ : World.drewN w19 _ = w19; have n0_ : Aside0 (w19.heap[gb497]? = some (.cells #[.int .i64 0, .slice none 0 0] 33 (0, 0))) := ⟨by rw [← hq_]; exact (Kz BK497.out)⟩; have n1_ : Aside0 (Below w.heap.size w w19) := ⟨by rw [← hq_]; exact (Bq)⟩; clear BK497 HB hq_; revert n0_ n1_; intro BK497 HB)); obtain ⟨hcz20_0, hcz20_1, hfz20_0, hfz20_1⟩ := cf2 (w := w19) BK497))
  refine bodyPost_ret (results_ct rfl _ _ gb497 33 #[.int .i64 0, .slice none 0 0] (0, 0) _ rfl (by (with_reducible repeat (first | refine blk_drewN ?_ _ | refine blk_drew ?_ | refine blk_alloc ?_ _)); refine blk_put (cs := #[.int .i64 0, .slice none 0 0]) ?_ 1 _ rfl; (with_reducible repeat (first | refine blk_drewN ?_ _ | refine blk_drew ?_ | refine blk_alloc ?_ _)); refine blk_put (cs := #[.int .i64 0, .slice none 0 0]) ?_ 0 _ rfl; exact Kz BK497.out) Try.underlying33 rfl (by kernel_rfl)) rfl ?_; exact ⟨_, eZ, by first | exact Kd.S_nil _ _ _ _ _ | exact Kd.N_nil _ _ _ _ _ | exact Kd.V_nil _ _ _ _ _ | exact Kd.Q_nil _ _ _ _ _ | exact Kd.R_nil _ _ _ _ _, Bq⟩

def impl_Bits_at.f (a0_0 : Int) (l0_1 : List Int) (a1 : Int) : Option (Bool) := if 0 ≤ (wrap64 (Int.tdiv a1 16)) then (if (wrap64 (Int.tdiv a1 16)) < (l0_1.length : Int) then (if 0 ≤ (Int.tmod a1 16) then (some ((Go.bits .and .i64 (shr .i64 (rd l0_1 (wrap64 (Int.tdiv a1 16))) (Int.tmod a1 16)) 1) == 1)) else (none)) else (none)) else (none)
theorem impl_Bits_at.calls (g0 : Nat) (a0_0 : Int) (A0_1 : Option Addr) (c0_1 : Nat) (l0_1 : List Int) (a1 : Int) (r : Bool) (w : World) (hb0 : w.heap[g0]? = some (.cells #[.int .i64 a0_0, .slice A0_1 l0_1.length c0_1] 38 (0, 0))) (hr0_1 : Kd.C (Kd.int .i64) w A0_1 l0_1.length l0_1) (hc0_1 : l0_1.length ≤ c0_1) (h : impl_Bits_at.f a0_0 l0_1 a1 = some r) :
  Calls Try.prog 67 #[.pointer (some ⟨g0, 0, none⟩), .int .i64 a1] w fun e w' => e = .returned (.bool r) ∧ Drawn0 w w' := by
 have HR0_1 := am hr0_1; have HC0_1 := am hc0_1; clear hr0_1 hc0_1; have BK0 := am hb0; clear hb0; have H : (if 0 ≤ (wrap64 (Int.tdiv a1 16)) then (if (wrap64 (Int.tdiv a1 16)) < (l0_1.length : Int) then (if 0 ≤ (Int.tmod a1 16) then (some ((Go.bits .and .i64 (shr .i64 (rd l0_1 (wrap64 (Int.tdiv a1 16))) (Int.tmod a1 16)) 1) == 1)) else (none)) else (none)) else (none)) = some r := h; clear h; obtain ⟨ji3, hji3⟩ : ∃ j_ : Int, (wrap64 (Int.tdiv a1 16)) = j_ := ⟨_, rfl⟩
 replace H : (if 0 ≤ (ji3) then (if (ji3) < (l0_1.length : Int) then (if 0 ≤ (Int.tmod a1 16) then (some ((Go.bits .and .i64 (shr .i64 (rd l0_1 (ji3)) (Int.tmod a1 16)) 1) == 1)) else (none)) else (none)) else (none)) = some r := by first | (rw [hji3] at H; exact H) | (simp only [hji3] at H ⊢; exact H)
 have hji3w : (IntKind.i64.wrap (Int.tdiv a1 16)) = ji3 := (i64_w _).trans hji3
 by_cases c4 : 0 ≤ (ji3)
 ·rw [if_pos c4] at H
  have c4b0 : decide (0 ≤ (ji3)) = true := decide_eq_true c4; clear c4
  by_cases c5 : (ji3) < (l0_1.length : Int)
  ·rw [if_pos c5] at H
   have c5b0 : decide ((ji3) < (l0_1.length : Int)) = true := decide_eq_true c5; clear c5; obtain ⟨ji6, hji6⟩ : ∃ j_ : Int, (Int.tmod a1 16) = j_ := ⟨_, rfl⟩
   replace H : (if 0 ≤ (ji6) then (some ((Go.bits .and .i64 (shr .i64 (rd l0_1 (ji3)) (ji6)) 1) == 1)) else (none)) = some r := by first | (rw [hji6] at H; exact H) | (simp only [hji6] at H ⊢; exact H)
   by_cases c7 : 0 ≤ (ji6)
   ·rw [if_pos c7] at H
    have c7b0 := eq_true c7; have c7b1 : decide (0 ≤ (ji6)) = true := decide_eq_true c7; clear c7; obtain ⟨ji8, hji8⟩ : ∃ j_ : Int, (shr .i64 (rd l0_1 (ji3)) (ji6)) = j_ := ⟨_, rfl⟩
    replace H : (some ((Go.bits .and .i64 (ji8) 1) == 1)) = some r := by first | (rw [hji8] at H; exact H) | (simp only [hji8] at H ⊢; exact H)
    have hji8_ : ((rd l0_1 (ji3)) / 2 ^ min (ji6).toNat 64) = ji8 := hji8; have hji8z : (ji6) ≤ 64 → ((rd l0_1 (ji3)) / 2 ^ (ji6).toNat) = ji8 := shr_small hji8; obtain rfl := Option.some.inj H; obtain ⟨hcz9_0, hcz9_1, hfz9_0, hfz9_1⟩ := cf2 (w := w) BK0; obtain ⟨ad505, e505, hx505_0⟩ := Kd.at_int HR0_1.out (ji3) dT dT; cases e505; have p505 := eT (0 ≤ ((ji3) : Int)); have q505 := eT ((ji3) < (l0_1.length : Int))
    go_enter Try.func67, Try.ntmps67
    go_wp2
    go_ret
    exact ⟨by first | rfl | (simp; done) | (simp only [← hji3, ← hji6, ← hji8] <;> (first | rfl | simp)) | (simp [*]; done), by repeat (first | exact Drawn0.refl _ | apply Drawn0.step)⟩
   ·rw [if_neg c7] at H
    exact absurd H (by simp)
  ·rw [if_neg c5] at H
   exact absurd H (by simp)
 ·rw [if_neg c4] at H
  exact absurd H (by simp)

theorem impl_Bits_at.calls_v0_40_0 (g0 : Nat) (z0_2 : Value) (z0_3 : Value) (a0_0 : Int) (A0_1 : Option Addr) (c0_1 : Nat) (l0_1 : List Int) (a1 : Int) (r : Bool) (w : World) (hb0 : w.heap[g0]? = some (.cells #[.int .i64 a0_0, .slice A0_1 l0_1.length c0_1, z0_2, z0_3] 40 (0, 0))) (hr0_1 : Kd.C (Kd.int .i64) w A0_1 l0_1.length l0_1) (hc0_1 : l0_1.length ≤ c0_1) (h : impl_Bits_at.f a0_0 l0_1 a1 = some r) :
  Calls Try.prog 67 #[.pointer (some ⟨g0, 0, none⟩), .int .i64 a1] w fun e w' => e = .returned (.bool r) ∧ Drawn0 w w' := by
 have HR0_1 := am hr0_1; have HC0_1 := am hc0_1; clear hr0_1 hc0_1; have BK0 := am hb0; clear hb0; have H : (if 0 ≤ (wrap64 (Int.tdiv a1 16)) then (if (wrap64 (Int.tdiv a1 16)) < (l0_1.length : Int) then (if 0 ≤ (Int.tmod a1 16) then (some ((Go.bits .and .i64 (shr .i64 (rd l0_1 (wrap64 (Int.tdiv a1 16))) (Int.tmod a1 16)) 1) == 1)) else (none)) else (none)) else (none)) = some r := h; clear h; obtain ⟨ji3, hji3⟩ : ∃ j_ : Int, (wrap64 (Int.tdiv a1 16)) = j_ := ⟨_, rfl⟩
 replace H : (if 0 ≤ (ji3) then (if (ji3) < (l0_1.length : Int) then (if 0 ≤ (Int.tmod a1 16) then (some ((Go.bits .and .i64 (shr .i64 (rd l0_1 (ji3)) (Int.tmod a1 16)) 1) == 1)) else (none)) else (none)) else (none)) = some r := by first | (rw [hji3] at H; exact H) | (simp only [hji3] at H ⊢; exact H)
 have hji3w : (IntKind.i64.wrap (Int.tdiv a1 16)) = ji3 := (i64_w _).trans hji3
 by_cases c4 : 0 ≤ (ji3)
 ·rw [if_pos c4] at H
  have c4b0 : decide (0 ≤ (ji3)) = true := decide_eq_true c4; clear c4
  by_cases c5 : (ji3) < (l0_1.length : Int)
  ·rw [if_pos c5] at H
   have c5b0 : decide ((ji3) < (l0_1.length : Int)) = true := decide_eq_true c5; clear c5; obtain ⟨ji6, hji6⟩ : ∃ j_ : Int, (Int.tmod a1 16) = j_ := ⟨_, rfl⟩
   replace H : (if 0 ≤ (ji6) then (some ((Go.bits .and .i64 (shr .i64 (rd l0_1 (ji3)) (ji6)) 1) == 1)) else (none)) = some r := by first | (rw [hji6] at H; exact H) | (simp only [hji6] at H ⊢; exact H)
   by_cases c7 : 0 ≤ (ji6)
   ·rw [if_pos c7] at H
    have c7b0 := eq_true c7; have c7b1 : decide (0 ≤ (ji6)) = true := decide_eq_true c7; clear c7; obtain ⟨ji8, hji8⟩ : ∃ j_ : Int, (shr .i64 (rd l0_1 (ji3)) (ji6)) = j_ := ⟨_, rfl⟩
    replace H : (some ((Go.bits .and .i64 (ji8) 1) == 1)) = some r := by first | (rw [hji8] at H; exact H) | (simp only [hji8] at H ⊢; exact H)
    have hji8_ : ((rd l0_1 (ji3)) / 2 ^ min (ji6).toNat 64) = ji8 := hji8; have hji8z : (ji6) ≤ 64 → ((rd l0_1 (ji3)) / 2 ^ (ji6).toNat) = ji8 := shr_small hji8; obtain rfl := Option.some.inj H; obtain ⟨hcz9_0, hcz9_1, hcz9_2, hcz9_3, hfz9_0, hfz9_1, hfz9_2, hfz9_3⟩ := cf4 (w := w) BK0; obtain ⟨ad610, e610, hx610_0⟩ := Kd.at_int HR0_1.out (ji3) dT dT; cases e610; have p610 := eT (0 ≤ ((ji3) : Int)); have q610 := eT ((ji3) < (l0_1.length : Int))
    go_enter Try.func67, Try.ntmps67
    go_wp2
    go_ret
    exact ⟨by first | rfl | (simp; done) | (simp only [← hji3, ← hji6, ← hji8] <;> (first | rfl | simp)) | (simp [*]; done), by repeat (first | exact Drawn0.refl _ | apply Drawn0.step)⟩
   ·rw [if_neg c7] at H
    exact absurd H (by simp)
  ·rw [if_neg c5] at H
   exact absurd H (by simp)
 ·rw [if_neg c4] at H
  exact absurd H (by simp)

def impl_Bits_count.l0 : Nat → Int → Int → Int → Int → List Int → Option (Int)
 | 0, _, _, _, _, _ => none
 | k + 1, x2, x7, x8, x1000, x1001 => if x8 < x2 then ((impl_Bits_at.f x1000 x1001 x8).bind fun t506 => (if t506 = true then (impl_Bits_count.l0 k x2 (wrap64 (x7 + 1)) (wrap64 (x8 + 1)) x1000 x1001) else (impl_Bits_count.l0 k x2 x7 (wrap64 (x8 + 1)) x1000 x1001))) else (some x7)
def impl_Bits_count.f (k : Nat) (a0_0 : Int) (l0_1 : List Int) (a1 : Int) (a2 : Int) : Option (Int) := impl_Bits_count.l0 k a2 0 a1 a0_0 l0_1
theorem impl_Bits_count.calls (k : Nat) (g0 : Nat) (a0_0 : Int) (A0_1 : Option Addr) (c0_1 : Nat) (l0_1 : List Int) (a1 : Int) (a2 : Int) (r : Int) (w : World) (hb0 : w.heap[g0]? = some (.cells #[.int .i64 a0_0, .slice A0_1 l0_1.length c0_1] 38 (0, 0))) (hr0_1 : Kd.C (Kd.int .i64) w A0_1 l0_1.length l0_1) (hc0_1 : l0_1.length ≤ c0_1) (h : impl_Bits_count.f k a0_0 l0_1 a1 a2 = some r) :
  Calls Try.prog 69 #[.pointer (some ⟨g0, 0, none⟩), .int .i64 a1, .int .i64 a2] w fun e w' => e = .returned (.int .i64 r) ∧ Drawn0 w w' := by
 have HR0_1 := am hr0_1
 have HC0_1 := am hc0_1
 clear hr0_1 hc0_1
 have BK0 := am hb0
 clear hb0
 have H : (impl_Bits_count.l0 k a2 0 a1 a0_0 l0_1) = some r := h
 clear h
 have H' := am H
 clear H
 go_enter Try.func69, Try.ntmps69
 go_wp2
 go_loopg [7, 8] k (fun kq v7 v8 w' => ∃ (x7_1 : Int) (x8_1 : Int), v7 = .int .i64 x7_1 ∧ v8 = .int .i64 x8_1 ∧ Aside0 (impl_Bits_count.l0 kq a2 x7_1 x8_1 a0_0 l0_1 = some r) ∧ Aside0 (kq ≤ k) ∧ Aside0 (w'.heap[g0]? = some (.cells #[.int .i64 a0_0, (.slice A0_1 l0_1.length c0_1)] 38 (0, 0))) ∧ Drawn0 w w')
 case atStart => exact ⟨(0), (a1), wZ, wZ, H', ⟨Nat.le_refl _⟩, ⟨by (with_reducible repeat (first | refine blk_drewN ?_ _ | refine blk_drew ?_ | refine blk_alloc ?_ _)); exact BK0.out⟩, by repeat (first | exact Drawn0.refl _ | apply Drawn0.step)⟩
 case round =>
  clear H'
  try clear p2
  obtain ⟨x7_1, x8_1, rfl, rfl, HA, HK1, BK0, ⟨m1, rfl⟩⟩ := hrel
  cases gk with
  | zero => exact absurd HA.out (by simp [impl_Bits_count.l0])
  | succ k1 =>
   have H := HA.out
   clear HA
   simp only [impl_Bits_count.l0] at H
   by_cases c4 : x8_1 < a2
   ·rw [if_pos c4] at H
    have c4b0 : decide (x8_1 < a2) = true := decide_eq_true c4
    clear c4
    replace H := Option.bind_eq_some_iff.mp H
    obtain ⟨t506, A50, H⟩ := H
    (try dsimp -simprocs only at H)
    have A5 := am A50
    clear A50
    by_cases c6 : t506 = true
    ·subst c6
     have H1 : (impl_Bits_count.l0 k1 a2 (wrap64 (x7_1 + 1)) (wrap64 (x8_1 + 1)) a0_0 l0_1) = some r := by rw [if_pos rfl] at H; exact H
     clear H
     have H := H1
     clear H1
     have H' := am H
     clear H
     go_wp2_with (first | ((with_reducible refine gate_callee (f := 67) rfl ?_); refine goesL_ (some 17) rfl rfl Try.func67 (by kernel_rfl) rfl #[.pointer (some ⟨g0, 0, none⟩), .int .i64 x8_1] rfl (by (try simp only [List.map_toArray, List.map_cons, List.map_nil]); first | done | rfl | (simp only [List.length_drop, List.length_take]; rfl)) ?_; (with_reducible refine (impl_Bits_at.calls g0 a0_0 A0_1 c0_1 l0_1 x8_1 true _ ?side1 ?side2 ?side3 A5.out).mono ?_); (case side1 => exact Kz BK0.out); (case side2 => repeat (first | exact HR0_1.out | (with_reducible refine Kd.C_alloc ?_ _) | (with_reducible refine Kd.C_drewN ?_ _) | (with_reducible refine Kd.C_drew ?_))); (case side3 => exact HC0_1.out); rintro e w' ⟨rfl, ⟨nd, rfl⟩⟩; refine ⟨_, rfl, ?_⟩))
     go_roundg k1
     case measure => have := HK1.out; omega
     case rel => exact ⟨(wrap64 (x7_1 + 1)), (wrap64 (x8_1 + 1)), wZ, wZ, H', ⟨by have := HK1.out; omega⟩, ⟨by (with_reducible repeat (first | refine blk_drewN ?_ _ | refine blk_drew ?_ | refine blk_alloc ?_ _)); exact BK0.out⟩, by repeat (first | exact Drawn0.refl _ | apply Drawn0.step)⟩
    ·replace c6 := Bool.eq_false_iff.mpr c6
     subst c6
     have H1 : (impl_Bits_count.l0 k1 a2 x7_1 (wrap64 (x8_1 + 1)) a0_0 l0_1) = some r := by rw [if_neg (show ¬ (false = true) by decide)] at H; exact H
     clear H
     have H := H1
     clear H1
     have H' := am H
     clear H
     go_wp2_with (first | ((with_reducible refine gate_callee (f := 67) rfl ?_); refine goesL_ (some 17) rfl rfl Try.func67 (by kernel_rfl) rfl #[.pointer (some ⟨g0, 0, none⟩), .int .i64 x8_1] rfl (by (try simp only [List.map_toArray, List.map_cons, List.map_nil]); first | done | rfl | (simp only [List.length_drop, List.length_take]; rfl)) ?_; (with_reducible refine (impl_Bits_at.calls g0 a0_0 A0_1 c0_1 l0_1 x8_1 false _ ?side1 ?side2 ?side3 A5.out).mono ?_); (case side1 => exact Kz BK0.out); (case side2 => repeat (first | exact HR0_1.out | (with_reducible refine Kd.C_alloc ?_ _) | (with_reducible refine Kd.C_drewN ?_ _) | (with_reducible refine Kd.C_drew ?_))); (case side3 => exact HC0_1.out); rintro e w' ⟨rfl, ⟨nd, rfl⟩⟩; refine ⟨_, rfl, ?_⟩))
     go_roundg k1
     case measure => have := HK1.out; omega
     case rel => exact ⟨(x7_1), (wrap64 (x8_1 + 1)), wZ, wZ, H', ⟨by have := HK1.out; omega⟩, ⟨by (with_reducible repeat (first | refine blk_drewN ?_ _ | refine blk_drew ?_ | refine blk_alloc ?_ _)); exact BK0.out⟩, by repeat (first | exact Drawn0.refl _ | apply Drawn0.step)⟩
   ·rw [if_neg c4] at H
    have c4b0 : decide (x8_1 < a2) = false := decide_eq_false c4
    clear c4
    obtain rfl := Option.some.inj H
    go_wp2
    go_ret
    exact ⟨by first | rfl | (simp; done) | (simp [*]; done), by repeat (first | exact Drawn0.refl _ | apply Drawn0.step)⟩

theorem impl_Bits_count.calls_v0_40_0 (k : Nat) (g0 : Nat) (z0_2 : Value) (z0_3 : Value) (a0_0 : Int) (A0_1 : Option Addr) (c0_1 : Nat) (l0_1 : List Int) (a1 : Int) (a2 : Int) (r : Int) (w : World) (hb0 : w.heap[g0]? = some (.cells #[.int .i64 a0_0, .slice A0_1 l0_1.length c0_1, z0_2, z0_3] 40 (0, 0))) (hr0_1 : Kd.C (Kd.int .i64) w A0_1 l0_1.length l0_1) (hc0_1 : l0_1.length ≤ c0_1) (h : impl_Bits_count.f k a0_0 l0_1 a1 a2 = some r) :
  Calls Try.prog 69 #[.pointer (some ⟨g0, 0, none⟩), .int .i64 a1, .int .i64 a2] w fun e w' => e = .returned (.int .i64 r) ∧ Drawn0 w w' := by
 have HR0_1 := am hr0_1; have HC0_1 := am hc0_1; clear hr0_1 hc0_1; have BK0 := am hb0; clear hb0; have H : (impl_Bits_count.l0 k a2 0 a1 a0_0 l0_1) = some r := h; clear h; have H' := am H; clear H
 go_enter Try.func69, Try.ntmps69
 go_wp2
 go_loopg [7, 8] k (fun kq v7 v8 w' => ∃ (x7_1 : Int) (x8_1 : Int), v7 = .int .i64 x7_1 ∧ v8 = .int .i64 x8_1 ∧ Aside0 (impl_Bits_count.l0 kq a2 x7_1 x8_1 a0_0 l0_1 = some r) ∧ Aside0 (kq ≤ k) ∧ Aside0 (w'.heap[g0]? = some (.cells #[.int .i64 a0_0, (.slice A0_1 l0_1.length c0_1), z0_2, z0_3] 40 (0, 0))) ∧ Drawn0 w w')
 case atStart => exact ⟨(0), (a1), wZ, wZ, H', ⟨Nat.le_refl _⟩, ⟨Kz BK0.out⟩, by repeat (first | exact Drawn0.refl _ | apply Drawn0.step)⟩
 case round =>
  clear H'
  try clear p2
  obtain ⟨x7_1, x8_1, rfl, rfl, HA, HK1, BK0, ⟨m1, rfl⟩⟩ := hrel; cases gk with
  | zero => exact absurd HA.out (by simp [impl_Bits_count.l0])
  | succ k1 =>
   have H := HA.out; clear HA
   simp only [impl_Bits_count.l0] at H
   by_cases c4 : x8_1 < a2
   ·rw [if_pos c4] at H
    have c4b0 : decide (x8_1 < a2) = true := decide_eq_true c4; clear c4; replace H := Option.bind_eq_some_iff.mp H; obtain ⟨t611, A50, H⟩ := H; (try dsimp -simprocs only at H); have A5 := am A50; clear A50
    by_cases c6 : t611 = true
    ·subst c6
     rw [if_pos rfl] at H; have H' := am H; clear H
     go_wp2_with (first | ((with_reducible refine gate_callee (f := 67) rfl ?_); refine gL (some 17) Try.func67 #[.pointer (some ⟨g0, 0, none⟩), .int .i64 x8_1] ?_; (with_reducible refine (impl_Bits_at.calls_v0_40_0 g0 z0_2 z0_3 a0_0 A0_1 c0_1 l0_1 x8_1 true _ ?side1 ?side2 ?side3 A5.out).mono ?_); (case side1 => exact Kz BK0.out); (case side2 => exact Cz HR0_1.out); (case side3 => exact HC0_1.out); rintro e w' ⟨rfl, ⟨nd, rfl⟩⟩; refine ⟨_, rfl, ?_⟩))
     go_roundg k1
     case measure => have := HK1.out; omega
     case rel => exact ⟨(wrap64 (x7_1 + 1)), (wrap64 (x8_1 + 1)), wZ, wZ, H', ⟨by have := HK1.out; omega⟩, ⟨Kz BK0.out⟩, by repeat (first | exact Drawn0.refl _ | apply Drawn0.step)⟩
    ·replace c6 := Bool.eq_false_iff.mpr c6
     subst c6
     rw [if_neg (show ¬ (false = true) by decide)] at H; have H' := am H; clear H
     go_wp2_with (first | ((with_reducible refine gate_callee (f := 67) rfl ?_); refine gL (some 17) Try.func67 #[.pointer (some ⟨g0, 0, none⟩), .int .i64 x8_1] ?_; (with_reducible refine (impl_Bits_at.calls_v0_40_0 g0 z0_2 z0_3 a0_0 A0_1 c0_1 l0_1 x8_1 false _ ?side1 ?side2 ?side3 A5.out).mono ?_); (case side1 => exact Kz BK0.out); (case side2 => exact Cz HR0_1.out); (case side3 => exact HC0_1.out); rintro e w' ⟨rfl, ⟨nd, rfl⟩⟩; refine ⟨_, rfl, ?_⟩))
     go_roundg k1
     case measure => have := HK1.out; omega
     case rel => exact ⟨(x7_1), (wrap64 (x8_1 + 1)), wZ, wZ, H', ⟨by have := HK1.out; omega⟩, ⟨Kz BK0.out⟩, by repeat (first | exact Drawn0.refl _ | apply Drawn0.step)⟩
   ·rw [if_neg c4] at H
    have c4b0 : decide (x8_1 < a2) = false := decide_eq_false c4; clear c4; obtain rfl := Option.some.inj H
    go_wp2
    go_ret
    exact ⟨by first | rfl | (simp; done) | (simp [*]; done), by repeat (first | exact Drawn0.refl _ | apply Drawn0.step)⟩

def slices_Clone_int_int.f (l0 : List Int) : Option (List Int) := (some (([] : List Int) : List Int)).bind fun y507 => (if y507.length + l0.length < 17592186044416 then (some (y507 ++ l0)) else (none))
theorem slices_Clone_int_int.calls (A0 : Option Addr) (c0 : Nat) (l0 : List Int) (r : List Int) (w : World) (hr0 : Kd.C (Kd.int .i64) w A0 l0.length l0) (hc0 : l0.length ≤ c0) (h : slices_Clone_int_int.f l0 = some r) :
  Calls Try.prog 177 #[.slice A0 l0.length c0] w fun e w' => ∃ v0_ : Value, e = .returned (v0_) ∧ Kd.R (Kd.int .i64) 3 w' w.heap.size (fun _ => True) v0_ r ∧ Below w.heap.size w w' := by
 have HR0 := am hr0; have HC0 := am hc0; clear hr0 hc0; have HB := am (Below.refl w.heap.size w); have H : ((some (([] : List Int) : List Int)).bind fun y507 => (if y507.length + l0.length < 17592186044416 then (some (y507 ++ l0)) else (none))) = some r := h; clear h
 by_cases c2 : A0.isNone = true
 ·have hlc2 : l0 = [] := Go.Proofs.YtmehagedoaopeaaGp.C_isNone HR0.out c2
  rw [hlc2] at H
  have H1 : (some ([] : List Int)) = some r := by simpa using H
  clear H; have H := H1; clear H1 hlc2
  have qc2 : ∀ (w_ : World) (n_ c_ : Nat), (binOp .eql 24 (.slice A0 n_ c_) (.slice none 0 0)).run Try.prog w_ = .ok (.bool true) w_ := fun w_ _ _ => (Go.Proofs.YtmehagedoaopeaaGp.run_eql_nil_ w_ 24 _ _ _ _ Try.underlying24).trans (by rw [c2])
  obtain rfl := Option.some.inj H
  go_enter Try.func177, Try.ntmps177
  go_wp2
  go_ret
  exact ⟨_, eZ, nZ, Bz HB.out⟩
 ·replace c2 := Bool.eq_false_iff.mpr c2
  have qc2 : ∀ (w_ : World) (n_ c_ : Nat), (binOp .eql 24 (.slice A0 n_ c_) (.slice none 0 0)).run Try.prog w_ = .ok (.bool false) w_ := fun w_ _ _ => (Go.Proofs.YtmehagedoaopeaaGp.run_eql_nil_ w_ 24 _ _ _ _ Try.underlying24).trans (by rw [c2])
  obtain ⟨y507, hy507⟩ : ∃ y_ : List Int, y_ = (([] : List Int)) := ⟨_, rfl⟩
  replace H : (if y507.length + l0.length < 17592186044416 then (some (y507 ++ l0)) else (none)) = some r := by first | (rw [hy507]; with_reducible exact H) | (have H2_ := (Option.bind_some _ _).symm.trans H; rw [hy507]; with_reducible exact H2_) | (have H2_ := (Option.bind_some _ _).symm.trans H; with_reducible exact H2_) | with_reducible exact H | (rw [hy507]; exact H) | exact H
  have Ny507 := am hy507; clear hy507
  by_cases c3 : y507.length + l0.length < 17592186044416
  ·rw [if_pos c3] at H
   have LMc3 := am c3; clear c3; obtain ⟨y510, hy510⟩ : ∃ y_ : List Int, y_ = (y507 ++ l0) := ⟨_, rfl⟩
   replace H : (some y510) = some r := by first | (rw [hy510]; with_reducible exact H) | (have H2_ := (Option.bind_some _ _).symm.trans H; rw [hy510]; with_reducible exact H2_) | (have H2_ := (Option.bind_some _ _).symm.trans H; with_reducible exact H2_) | with_reducible exact H | (rw [hy510]; exact H) | exact H
   have Ny510 := am hy510; clear hy510; obtain rfl := Option.some.inj H
   go_enter Try.func177, Try.ntmps177
   go_wp2_with (first | ((with_reducible refine gate_dst (N := 5) rfl ?_); refine Kd.R_lit (Kd.int .i64) _ 3 ?hg (N := 5) ?hd (xs := ([] : List Int)) (inner := []) (ok := fun _ => True) (okp := fun _ => True) ?hr ?hp (fun _ hk => hk) trivial (Below.refl _ _) (Nat.le_refl _) (by simp) ?_; (case hd => rfl); (case hg => rfl); (case hr => first | (go_simp; done) | (go_simp; rfl)); (case hp => exact (Reps.none _ _)); intro v508 w4 ho5 hb hg_ hnew_; clear hg_ hnew_; (first | rw [← Ny507.out] at ho5 | (simp only [Int.reduceToNat] at ho5; rw [← Ny507.out] at ho5)); have n0_ := Rl ho5 HB; have n1_ := Bb HB hb; clear HB; revert n0_ n1_; intro HO509 HB; clear hb ho5) | ((with_reducible refine gate_builtin (b := .append) (xs := #[.tmp 5, .tmp 6]) rfl ?_); at_builtin; refine Kd.R_append_rows (Kd.int .i64) (w0 := w) w.heap.size rfl (.tmp 5) (.tmp 6) 24 3 (.int .i64 0) 8 rfl Try.underlying24 info3 rfl (by decide) (by omega) v508 y507 l0 _ _ _ (fun _ => True) (fun _ => False) rfl rfl ?aO ?aR (fun _ _ h => h) (fun _ h => h.elim) ?aF ?aB ?aS ?aL ?_; (case aR => repeat (first | exact (Kd.C_below HR0.out HB.out) | (with_reducible refine Kd.C_alloc ?_ _) | (with_reducible refine Kd.C_drewN ?_ _) | (with_reducible refine Kd.C_drew ?_))); (case aB => exact (Bz HB.out)); (case aF => exact (fun _ _ => trivial)); (case aO => exact (Rz HO509.out)); (case aS => exact (below_size (Bz HB.out))); (case aL => have := LMc3.out; omega); intro v511 w6 ho hb hg hat; rw [← Ny510.out] at ho; have n0_ := am (hb); have n1_ := am (ho); clear HB HO509; revert n0_ n1_; intro HB HO512; clear ho hb hg hat))
   go_ret
   exact ⟨_, eZ, Rz HO512.out, Bz HB.out⟩
  ·rw [if_neg c3] at H
   exact absurd H (by simp)

def impl_cloneBits.f (a0_0 : Int) (l0_1 : List Int) : Option (Int × List Int) := (slices_Clone_int_int.f l0_1).bind fun t515 => (some (a0_0, t515))
theorem impl_cloneBits.calls (a0_0 : Int) (A0_1 : Option Addr) (c0_1 : Nat) (l0_1 : List Int) (r1 : Int) (r2 : List Int) (w : World) (hr0_1 : Kd.C (Kd.int .i64) w A0_1 l0_1.length l0_1) (hc0_1 : l0_1.length ≤ c0_1) (h : impl_cloneBits.f a0_0 l0_1 = some (r1, r2)) :
  Calls Try.prog 136 #[.agg #[.int .i64 a0_0, .slice A0_1 l0_1.length c0_1]] w fun e w' => ∃ v1_ : Value, e = .returned (.agg #[.int .i64 r1, v1_]) ∧ Kd.R (Kd.int .i64) 3 w' w.heap.size (fun _ => True) v1_ r2 ∧ Below w.heap.size w w' := by
 have hu38 := Try.underlying38; have HR0_1 := am hr0_1; have HC0_1 := am hc0_1; clear hr0_1 hc0_1; have HB := am (Below.refl w.heap.size w); have H : ((slices_Clone_int_int.f l0_1).bind fun t515 => (some (a0_0, t515))) = some (r1, r2) := h; clear h; replace H := Option.bind_eq_some_iff.mp H; obtain ⟨t515, A20, H⟩ := H; (try dsimp -simprocs only at H); have A2 := am A20; clear A20
 simp only [Option.some.injEq, Prod.mk.injEq] at H
 obtain ⟨rfl, rfl⟩ := H
 go_enter Try.func136, Try.ntmps136
 try go_wp2_with (first | ((with_reducible refine gate_dst (N := 1) rfl ?_); refine bE 1 #[.int .i64 a0_0, .slice A0_1 l0_1.length c0_1] 38 ?_; intro gb513 hg w3 hbox hb; have n0_ := Bb HB hb; have n1_ := am (hbox); have n2_ := Gl HB hg; have n3_ := Gl HB hg; clear HB; revert n0_ n1_ n2_ n3_; intro HB BK513 GW513 GE513; clear hb hbox hg) | ((with_reducible refine gate_dst (N := 2) rfl ?_); refine bE 2 #[.int .i64 0, .slice none 0 0] 38 ?_; intro gb514 hg w4 hbox hb; have n0_ := Kb BK513 hb; have n1_ := Bc HB hb; have n2_ := am (hbox); have n3_ := Gm HB hg; have n4_ := Gm HB hg; have n5_ := Nl BK513 hg; have n6_ := Ng BK513 hg; clear BK513 HB; revert n0_ n1_ n2_ n3_ n4_ n5_ n6_; intro BK513 HB BK514 GW514 GE514 NB513_514 NB514_513; clear hb hbox hg))
 have n0_ := am (blk_drew BK513.out); have n1_ := am (blk_drew BK514.out); have n2_ := am (below_drew1 HB.out); clear BK513 BK514 HB; revert n0_ n1_ n2_; intro BK513 BK514 HB; refine start_ (n := 7) (S := fun w' => w'.cell? ⟨gb513, 0, none⟩ = some (.int .i64 a0_0) ∧ w'.cell? ⟨gb513, 1, none⟩ = some (.slice A0_1 l0_1.length c0_1)) (ds := []) (bA 7 0) (by kernel_rfl) rfl rfl ⟨cz BK513 0, cz BK513 1⟩ (fun hHeld => ?_); generalize w4.drew = w5 at BK513 BK514 HB hHeld ⊢; refine pure_ (i := 0) (N := some 3) (v := ?_) (a' := ?_) (bA 7 1) rfl rfl (by kernel_rfl) (fun _ _ _ h => h) (Or.inl ⟨by rfl, ?_⟩) ?_ ?_
 rotate_left
 ·intro w'
  go_simp
  with_reducible rfl
 rotate_left
 ·simp only [aP, i64_w, i32_w]
  rfl
 refine pure_ (i := 2) (N := some 5) (v := ?_) (a' := ?_) (bA 7 5) rfl rfl (by kernel_rfl) (fun _ _ _ h => h) (Or.inl ⟨by rfl, ?_⟩) ?_ ?_
 rotate_left
 ·intro w'
  go_simp
  with_reducible rfl
 rotate_left
 ·simp only [aP, i64_w, i32_w]
  rfl
 refine take_ (i := 1) (N := some 4) (v := ?_) (a' := ?_) (bA 7 7) rfl rfl (by kernel_rfl) (fun _ _ _ h => h) (Or.inl ⟨by rfl, ?_⟩) hHeld ?_ ?_
 rotate_left
 ·rintro w' ⟨s0, s1⟩
  go_simp
  with_reducible rfl
 rotate_left
 ·simp only [aP, i64_w, i32_w]
  rfl
 refine take_ (i := 3) (N := some 6) (v := ?_) (a' := ?_) (bA 7 15) rfl rfl (by kernel_rfl) (fun _ _ _ h => h) (Or.inl ⟨by rfl, ?_⟩) hHeld ?_ ?_
 rotate_left
 ·rintro w' ⟨s0, s1⟩
  go_simp
  with_reducible rfl
 rotate_left
 ·simp only [aP, i64_w, i32_w]
  rfl
 refine one_ (i := 4) (N := some 7) (bA 7 31) rfl rfl (by kernel_rfl) (by decide) (fun K hK => ?_); refine gZ Try.func177 #[.slice A0_1 l0_1.length c0_1] ?_
 with_reducible refine (slices_Clone_int_int.calls _ _ l0_1 t515 _ ?side1 ?side2 A2.out).mono ?_
 (case side1 => exact Cz (Kd.C_below HR0_1.out HB.out))
 (case side2 => exact HC0_1.out)
 rintro e w6 ⟨v516, rfl, ho0, hb⟩; refine ⟨_, rfl, ?_⟩; have n0_ := Rm ho0 HB; have n1_ := Kb BK513 hb; have n2_ := Kb BK514 hb; have n3_ := Bc HB hb; clear BK513 BK514 HB; revert n0_ n1_ n2_ n3_; intro HO517 BK513 BK514 HB
 (try clear hb)
 (try clear hb2)
 (try clear hk)
 (try clear hi)
 (try clear ho0)
 obtain ⟨Ao7, co7, eo7⟩ := Kd.R_slice HO517.out
 (first | subst eo7 | (injection eo7 with f1_ f2_ f3_; have f4_ := f1_.symm; have f5_ := f3_.symm; clear f1_ f2_ f3_; subst f4_; subst f5_))
 refine hK.out _ _ ⟨cz BK513 0, cz BK513 1⟩ (fun hHeld => ?_); clear hK K; refine norm_ (a' := ?_) ?_ ?_; rotate_left; show Act.put _ (some 7) _ = _; simp only [aP, i64_w, i32_w]; rfl; refine pure_ (i := 5) (N := some 8) (v := ?_) (a' := ?_) (bA 7 63) rfl rfl (by kernel_rfl) (fun _ _ _ h => h) (Or.inl ⟨by rfl, ?_⟩) ?_ ?_
 rotate_left
 ·intro w'
  go_simp
  with_reducible rfl
 rotate_left
 ·simp only [aP, i64_w, i32_w]
  rfl
 refine one_ (i := 6) (N := none) (bA 7 127) rfl rfl (by kernel_rfl) (by decide) (fun K hK => ?_); have hs8 : w6.cell? ⟨gb514, 0, none⟩ = some (.int .i64 0) := cz BK514 0; have hfs8 := blk_frozen BK514.out 0; have hns8_0 := NB513_514.out; have hms8_0 := NB514_513.out; have hs9 : w6.cell? ⟨gb514, 1, none⟩ = some (.slice none 0 0) := cz BK514 1; have hfs9 := blk_frozen BK514.out 1; have hns9_0 := NB513_514.out; have hms9_0 := NB514_513.out; refine skip_ (w1 := ?_) (by rfl) rfl ?_ ?_
 rotate_left
 ·go_simp
  rfl
 refine hK.out _ _ ⟨((cell_far (p := ⟨gb514, _, none⟩) NB513_514.out _).trans (((cell_far (p := ⟨gb514, _, none⟩) NB513_514.out _).trans (hHeld.1)))), ((cell_far (p := ⟨gb514, _, none⟩) NB513_514.out _).trans (((cell_far (p := ⟨gb514, _, none⟩) NB513_514.out _).trans (hHeld.2))))⟩ (fun hHeld => ?_); clear hK K; refine done_ (by kernel_rfl) ?_
 try go_wp2
 refine bodyPost_ret (results_cell_row rfl _ _ gb514 38 #[.int .i64 a0_0, .slice Ao7 t515.length co7] (0, 0) _ rfl (by (with_reducible repeat (first | refine blk_drewN ?_ _ | refine blk_drew ?_ | refine blk_alloc ?_ _)); refine blk_put (cs := #[.int .i64 a0_0, .slice none 0 0]) ?_ 1 _ rfl; (with_reducible repeat (first | refine blk_drewN ?_ _ | refine blk_drew ?_ | refine blk_alloc ?_ _)); refine blk_put (cs := #[.int .i64 0, .slice none 0 0]) ?_ 0 _ rfl; exact Kz BK514.out) Try.underlying38 rfl (by kernel_rfl)) rfl ?_; exact ⟨_, eZ, Rz (Kd.R_mono (Kd.R_far (p := ⟨gb514, 1, none⟩) (Kd.R_far (p := ⟨gb514, 0, none⟩) (Kd.R_types HO517.out BK514.out (by decide)) (fun _ hk => hk.2) (.int .i64 a0_0)) (fun _ hk => hk.2) (.slice Ao7 t515.length co7)) (fun _ hk => trivial)), Bq⟩

def impl_ranked.l0 : Nat → Int → Int → Int → Int → List Int → Int → List Int → List Int → List Int → Option (Int × List Int × List Int × List Int)
 | 0, _, _, _, _, _, _, _, _, _ => none
 | k + 1, x4, x5, x6, x519000, x519001, x525000, x525001, x525002, x525003 => if x6 < x519000 then (if (Int.tmod x6 64) = 0 then (if x525002.length < 17592186044416 then (if x525003.length < 17592186044416 then ((impl_Bits_count.f k x519000 x519001 x6 (mn (wrap64 (x6 + 16)) x519000)).bind fun t531 => (impl_ranked.l0 k (wrap64 (x4 + t531)) x4 (wrap64 (x6 + 16)) x519000 x519001 x525000 x525001 (x525002 ++ [x4]) (x525003 ++ [0]))) else (none)) else (none)) else (if x525003.length < 17592186044416 then ((impl_Bits_count.f k x519000 x519001 x6 (mn (wrap64 (x6 + 16)) x519000)).bind fun t535 => (impl_ranked.l0 k (wrap64 (x4 + t535)) x5 (wrap64 (x6 + 16)) x519000 x519001 x525000 x525001 x525002 (x525003 ++ [wrap64 (x4 - x5)]))) else (none))) else (some (x525000, x525001, x525002, x525003))
def impl_ranked.f (k : Nat) (a0_0 : Int) (l0_1 : List Int) : Option (Int × List Int × List Int × List Int) := (impl_cloneBits.f a0_0 l0_1).bind fun bt520 => (impl_ranked.l0 k 0 0 0 a0_0 l0_1 bt520.1 bt520.2 ([] : List Int) ([] : List Int))
theorem impl_ranked.calls (k : Nat) (a0_0 : Int) (A0_1 : Option Addr) (c0_1 : Nat) (l0_1 : List Int) (r1 : Int) (r2 : List Int) (r3 : List Int) (r4 : List Int) (w : World) (hr0_1 : Kd.C (Kd.int .i64) w A0_1 l0_1.length l0_1) (hc0_1 : l0_1.length ≤ c0_1) (h : impl_ranked.f k a0_0 l0_1 = some (r1, r2, r3, r4)) :
  Calls Try.prog 62 #[.agg #[.int .i64 a0_0, .slice A0_1 l0_1.length c0_1]] w fun e w' => ∃ v1_ v2_ v3_ : Value, e = .returned (.agg #[.int .i64 r1, v1_, v2_, v3_]) ∧ Kd.R (Kd.int .i64) 3 w' w.heap.size (fun k_ => some k_ ≠ (v2_ : Value).ownBlock ∧ some k_ ≠ (v3_ : Value).ownBlock) v1_ r2 ∧ Kd.R (Kd.int .i64) 3 w' w.heap.size (fun k_ => some k_ ≠ (v1_ : Value).ownBlock ∧ some k_ ≠ (v3_ : Value).ownBlock) v2_ r3 ∧ Kd.R (Kd.int .i64) 3 w' w.heap.size (fun k_ => some k_ ≠ (v1_ : Value).ownBlock ∧ some k_ ≠ (v2_ : Value).ownBlock) v3_ r4 ∧ Below w.heap.size w w' := by
 have hu38 := Try.underlying38; have hu40 := Try.underlying40; have HR0_1 := am hr0_1; have HC0_1 := am hc0_1; clear hr0_1 hc0_1; have HB := am (Below.refl w.heap.size w); have H : ((impl_cloneBits.f a0_0 l0_1).bind fun bt520 => (impl_ranked.l0 k 0 0 0 a0_0 l0_1 bt520.1 bt520.2 ([] : List Int) ([] : List Int))) = some (r1, r2, r3, r4) := h; clear h; replace H := Option.bind_eq_some_iff.mp H; obtain ⟨⟨t520, t521⟩, A20, H⟩ := H; (try dsimp -simprocs only at H); have A2 := am A20; clear A20; have H' := am H; clear H
 go_enter Try.func62, Try.ntmps62
 go_wp2_with (first | ((with_reducible refine gate_dst (N := 1) rfl ?_); refine bE 1 #[.int .i64 a0_0, .slice A0_1 l0_1.length c0_1] 38 ?_; intro gb518 hg w3 hbox hb; have n0_ := Bb HB hb; have n1_ := am (hbox); have n2_ := Gl HB hg; have n3_ := Gl HB hg; clear HB; revert n0_ n1_ n2_ n3_; intro HB BK518 GW518 GE518; clear hb hbox hg) | ((with_reducible refine gate_dst (N := 2) rfl ?_); refine bE 2 #[.int .i64 0, .slice none 0 0, .slice none 0 0, .slice none 0 0] 40 ?_; intro gb519 hg w4 hbox hb; have n0_ := Kb BK518 hb; have n1_ := Bc HB hb; have n2_ := am (hbox); have n3_ := Gm HB hg; have n4_ := Gm HB hg; have n5_ := Nl BK518 hg; have n6_ := Ng BK518 hg; clear BK518 HB; revert n0_ n1_ n2_ n3_ n4_ n5_ n6_; intro BK518 HB BK519 GW519 GE519 NB518_519 NB519_518; clear hb hbox hg; have hnb5 := NB518_519.out; have hnc5 := NB519_518.out; obtain ⟨hcz6_0, hcz6_1, hfz6_0, hfz6_1⟩ := cf2 (w := w4) BK518) | ((with_reducible refine gate_callee (f := 136) rfl ?_); refine gL (some 9) Try.func136 #[.agg #[.int .i64 a0_0, .slice A0_1 l0_1.length c0_1]] ?_; (with_reducible refine (impl_cloneBits.calls a0_0 _ _ l0_1 t520 t521 _ ?side1 ?side2 A2.out).mono ?_); (case side1 => exact Cz (Kd.C_below HR0_1.out HB.out)); (case side2 => exact HC0_1.out); rintro e w7 ⟨v522, rfl, ho0, hb⟩; refine ⟨_, rfl, ?_⟩; have n0_ := Rm ho0 HB; have n1_ := Kb BK518 hb; have n2_ := Kb BK519 hb; have n3_ := Bc HB hb; clear BK518 BK519 HB; revert n0_ n1_ n2_ n3_; intro HO523 BK518 BK519 HB; (try clear hb); (try clear hb2); (try clear hk); (try clear hi); (try clear ho0); obtain ⟨Ao8, co8, eo8⟩ := Kd.R_slice HO523.out; subst eo8) | ((with_reducible refine gate_dst (N := 3) rfl ?_); refine bE 3 #[.int .i64 0, .slice none 0 0, .slice none 0 0, .slice none 0 0] 40 ?_; intro gb524 hg w9 hbox hb; have n0_ := Rb HO523 hb; have n1_ := Kb BK518 hb; have n2_ := Kb BK519 hb; have n3_ := Bc HB hb; have n4_ := am (hbox); have n5_ := Gm HB hg; have n6_ := Gm HB hg; have n7_ := Nl BK518 hg; have n8_ := Ng BK518 hg; have n9_ := Nl BK519 hg; have n10_ := Ng BK519 hg; clear HO523 BK518 BK519 HB; revert n0_ n1_ n2_ n3_ n4_ n5_ n6_ n7_ n8_ n9_ n10_; intro HO523 BK518 BK519 HB BK524 GW524 GE524 NB518_524 NB524_518 NB519_524 NB524_519; clear hb hbox hg; have hnb10 := NB524_518.out; have hnc10 := NB518_524.out; have hnb11 := NB524_519.out; have hnc11 := NB519_524.out; obtain ⟨hcz12_0, hcz12_1, hcz12_2, hcz12_3, hfz12_0, hfz12_1, hfz12_2, hfz12_3⟩ := cf4 (w := w9) BK524))
 (try simp only [aP])
 go_loopg [4, 5, 6, 7] k (fun kq v4 v5 v6 v7 w' => ∃ (x4_1 : Int) (x5_1 : Int) (x6_1 : Int) (x7_1 : Int) (x525002_1 : List Int) (x525003_1 : List Int) (u525002 : Value) (u525003 : Value), v4 = .int .i64 x4_1 ∧ v5 = .int .i64 x5_1 ∧ v6 = .int .i64 x6_1 ∧ v7 = .int .i64 x7_1 ∧ Aside0 (impl_ranked.l0 kq x4_1 x5_1 x6_1 a0_0 l0_1 t520 t521 x525002_1 x525003_1 = some (r1, r2, r3, r4)) ∧ Aside0 (kq ≤ k) ∧ Aside0 (Kd.R (Kd.int .i64) 3 w' w.heap.size (fun k_ => some k_ ≠ (u525002 : Value).ownBlock ∧ some k_ ≠ (u525003 : Value).ownBlock) (.slice Ao8 t521.length co8) t521) ∧ Aside0 (Kd.R (Kd.int .i64) 3 w' w.heap.size (fun k_ => some k_ ≠ ((.slice Ao8 t521.length co8) : Value).ownBlock ∧ some k_ ≠ (u525003 : Value).ownBlock) u525002 x525002_1) ∧ Aside0 (Kd.R (Kd.int .i64) 3 w' w.heap.size (fun k_ => some k_ ≠ ((.slice Ao8 t521.length co8) : Value).ownBlock ∧ some k_ ≠ (u525002 : Value).ownBlock) u525003 x525003_1) ∧ Aside0 (w'.heap[gb518]? = some (.cells #[.int .i64 a0_0, (.slice A0_1 l0_1.length c0_1)] 38 (0, 0))) ∧ Aside0 (w'.heap[gb519]? = some (.cells #[.int .i64 0, (.slice none 0 0), (.slice none 0 0), (.slice none 0 0)] 40 (0, 0))) ∧ Aside0 (w'.heap[gb524]? = some (.cells #[.int .i64 t520, (.slice Ao8 t521.length co8), u525002, u525003] 40 (0, 0))) ∧ Aside0 (Below w.heap.size w w'))
 case atStart => exact ⟨(0), (0), (0), (0), (([] : List Int)), (([] : List Int)), (.slice none 0 0), (.slice none 0 0), wZ, wZ, wZ, wZ, H', ⟨Nat.le_refl _⟩, ⟨Rz (Kd.R_mono (Kd.R_far (p := ⟨gb524, 3, none⟩) (Kd.R_far (p := ⟨gb524, 2, none⟩) (Kd.R_far (p := ⟨gb524, 1, none⟩) (Kd.R_far (p := ⟨gb524, 0, none⟩) (Kd.R_types HO523.out BK524.out (by decide)) (fun _ hk => hk.2) (.int .i64 t520)) (fun _ hk => hk.2) (.slice Ao8 t521.length co8)) (fun _ hk => hk.2) (.slice none 0 0)) (fun _ hk => hk.2) (.slice none 0 0)) (fun _ hk => ⟨(by simp [Value.ownBlock]), (by simp [Value.ownBlock])⟩))⟩, ⟨nZ⟩, ⟨nZ⟩, ⟨by (with_reducible repeat (first | refine blk_drewN ?_ _ | refine blk_drew ?_ | refine blk_alloc ?_ _)); refine blk_far ?_ NB518_524.out _; (with_reducible repeat (first | refine blk_drewN ?_ _ | refine blk_drew ?_ | refine blk_alloc ?_ _)); refine blk_far ?_ NB518_524.out _; (with_reducible repeat (first | refine blk_drewN ?_ _ | refine blk_drew ?_ | refine blk_alloc ?_ _)); refine blk_far ?_ NB518_524.out _; (with_reducible repeat (first | refine blk_drewN ?_ _ | refine blk_drew ?_ | refine blk_alloc ?_ _)); refine blk_far ?_ NB518_524.out _; (with_reducible repeat (first | refine blk_drewN ?_ _ | refine blk_drew ?_ | refine blk_alloc ?_ _)); exact BK518.out⟩, ⟨by (with_reducible repeat (first | refine blk_drewN ?_ _ | refine blk_drew ?_ | refine blk_alloc ?_ _)); refine blk_far ?_ NB519_524.out _; (with_reducible repeat (first | refine blk_drewN ?_ _ | refine blk_drew ?_ | refine blk_alloc ?_ _)); refine blk_far ?_ NB519_524.out _; (with_reducible repeat (first | refine blk_drewN ?_ _ | refine blk_drew ?_ | refine blk_alloc ?_ _)); refine blk_far ?_ NB519_524.out _; (with_reducible repeat (first | refine blk_drewN ?_ _ | refine blk_drew ?_ | refine blk_alloc ?_ _)); refine blk_far ?_ NB519_524.out _; (with_reducible repeat (first | refine blk_drewN ?_ _ | refine blk_drew ?_ | refine blk_alloc ?_ _)); exact BK519.out⟩, ⟨by (with_reducible repeat (first | refine blk_drewN ?_ _ | refine blk_drew ?_ | refine blk_alloc ?_ _)); refine blk_put (cs := #[.int .i64 t520, .slice Ao8 t521.length co8, .slice none 0 0, .slice none 0 0]) ?_ 3 _ rfl; (with_reducible repeat (first | refine blk_drewN ?_ _ | refine blk_drew ?_ | refine blk_alloc ?_ _)); refine blk_put (cs := #[.int .i64 t520, .slice Ao8 t521.length co8, .slice none 0 0, .slice none 0 0]) ?_ 2 _ rfl; (with_reducible repeat (first | refine blk_drewN ?_ _ | refine blk_drew ?_ | refine blk_alloc ?_ _)); refine blk_put (cs := #[.int .i64 t520, .slice none 0 0, .slice none 0 0, .slice none 0 0]) ?_ 1 _ rfl; (with_reducible repeat (first | refine blk_drewN ?_ _ | refine blk_drew ?_ | refine blk_alloc ?_ _)); refine blk_put (cs := #[.int .i64 0, .slice none 0 0, .slice none 0 0, .slice none 0 0]) ?_ 0 _ rfl; (with_reducible repeat (first | refine blk_drewN ?_ _ | refine blk_drew ?_ | refine blk_alloc ?_ _)); exact BK524.out⟩, ⟨Bq⟩⟩
 case round =>
  clear H'
  try clear c1
  try clear p2
  try clear c5
  try clear c6
  try clear c10
  try clear c11
  try clear hcz12_0
  try clear hcz12_1
  try clear hcz12_2
  try clear hcz12_3
  try clear hcz6_0
  try clear hcz6_1
  try clear hfz12_0
  try clear hfz12_1
  try clear hfz12_2
  try clear hfz12_3
  try clear hfz6_0
  try clear hfz6_1
  obtain ⟨x4_1, x5_1, x6_1, x7_1, x525002_1, x525003_1, u525002, u525003, rfl, rfl, rfl, rfl, HA, HK1, HO_525001, HO_525002, HO_525003, BK518, BK519, BK524, HB⟩ := hrel; cases gk with
  | zero => exact absurd HA.out (by simp [impl_ranked.l0])
  | succ k1 =>
   have H := HA.out; clear HA
   simp only [impl_ranked.l0] at H
   by_cases c13 : x6_1 < a0_0
   ·rw [if_pos c13] at H
    have c13b0 : decide (x6_1 < a0_0) = true := decide_eq_true c13; clear c13
    by_cases c14 : (Int.tmod x6_1 64) = 0
    ·rw [if_pos c14] at H
     have c14b0 : ((Int.tmod x6_1 64) == 0) = true := beq_iff_eq.mpr c14; have c14b1 : ((Int.tmod x6_1 64) != 0) = false := bne_eq_false_iff_eq.mpr c14; clear c14
     by_cases c15 : x525002_1.length < 17592186044416
     ·rw [if_pos c15] at H
      have LMc15 := am c15; clear c15; obtain ⟨y525, hy525⟩ : ∃ y_ : List Int, y_ = (x525002_1 ++ [x4_1]) := ⟨_, rfl⟩
      replace H : (if x525003_1.length < 17592186044416 then ((impl_Bits_count.f k1 a0_0 l0_1 x6_1 (mn (wrap64 (x6_1 + 16)) a0_0)).bind fun t531 => (impl_ranked.l0 k1 (wrap64 (x4_1 + t531)) x4_1 (wrap64 (x6_1 + 16)) a0_0 l0_1 t520 t521 y525 (x525003_1 ++ [0]))) else (none)) = some (r1, r2, r3, r4) := by first | (rw [hy525]; with_reducible exact H) | (have H2_ := (Option.bind_some _ _).symm.trans H; rw [hy525]; with_reducible exact H2_) | (have H2_ := (Option.bind_some _ _).symm.trans H; with_reducible exact H2_) | with_reducible exact H | (rw [hy525]; exact H) | exact H
      have Ny525 := am hy525; clear hy525
      by_cases c16 : x525003_1.length < 17592186044416
      ·rw [if_pos c16] at H
       have LMc16 := am c16; clear c16; obtain ⟨y528, hy528⟩ : ∃ y_ : List Int, y_ = (x525003_1 ++ [0]) := ⟨_, rfl⟩
       replace H : ((impl_Bits_count.f k1 a0_0 l0_1 x6_1 (mn (wrap64 (x6_1 + 16)) a0_0)).bind fun t531 => (impl_ranked.l0 k1 (wrap64 (x4_1 + t531)) x4_1 (wrap64 (x6_1 + 16)) a0_0 l0_1 t520 t521 y525 y528)) = some (r1, r2, r3, r4) := by first | (rw [hy528]; with_reducible exact H) | (have H2_ := (Option.bind_some _ _).symm.trans H; rw [hy528]; with_reducible exact H2_) | (have H2_ := (Option.bind_some _ _).symm.trans H; with_reducible exact H2_) | with_reducible exact H | (rw [hy528]; exact H) | exact H
       have Ny528 := am hy528; clear hy528; obtain ⟨ji17, hji17⟩ : ∃ j_ : Int, (mn (wrap64 (x6_1 + 16)) a0_0) = j_ := ⟨_, rfl⟩
       replace H : ((impl_Bits_count.f k1 a0_0 l0_1 x6_1 (ji17)).bind fun t531 => (impl_ranked.l0 k1 (wrap64 (x4_1 + t531)) x4_1 (wrap64 (x6_1 + 16)) a0_0 l0_1 t520 t521 y525 y528)) = some (r1, r2, r3, r4) := by first | (rw [hji17] at H; exact H) | (simp only [hji17] at H ⊢; exact H)
       have hji17_ : (if a0_0 < (wrap64 (x6_1 + 16)) then a0_0 else (wrap64 (x6_1 + 16))) = ji17 := hji17; replace H := Option.bind_eq_some_iff.mp H; obtain ⟨t531, A180, H⟩ := H; (try dsimp -simprocs only at H); have A18 := am A180; clear A180; have H' := am H; clear H; have hnb19 := NB518_519.out; have hnc19 := NB519_518.out; have hnb20 := NB518_524.out; have hnc20 := NB524_518.out; obtain ⟨hcz21_0, hcz21_1, hfz21_0, hfz21_1⟩ := cf2 (w := wr) BK518; have hnb22 := NB524_519.out; have hnc22 := NB519_524.out; obtain ⟨hcz23_0, hcz23_1, hcz23_2, hcz23_3, hfz23_0, hfz23_1, hfz23_2, hfz23_3⟩ := cf4 (w := wr) BK524
       go_wp2_with (first | ((with_reducible refine gate_builtin (b := .append) (xs := #[.tmp 23, .tmp 25]) rfl ?_); at_builtin; refine Kd.R_append (Kd.int .i64) (w0 := w) w.heap.size rfl (.tmp 23) (.tmp 25) 24 3 (.int .i64 0) 8 rfl Try.underlying24 info3 rfl (by decide) (by omega) u525002 x525002_1 x4_1 [.int .i64 x4_1] (fun k_ => some k_ ≠ (.slice Ao8 t521.length co8 : Value).ownBlock ∧ some k_ ≠ (u525003 : Value).ownBlock) (fun _ => False) rfl rfl ?aP (fun _ hk => hk.elim) ?aF ?aO ?aB ?aS ?aL ?_; (case aP => exact rfl); (case aB => exact (Bq)); (case aF => exact (fun k_ hk => ⟨Kd.fresh' (Kd.R_lt (Rz HO_525001.out)) k_ hk, Kd.fresh' (Kd.R_lt (Rz HO_525003.out)) k_ hk⟩)); (case aO => exact (Rz HO_525002.out)); (case aS => exact (below_size (w := w) (Bq))); (case aL => have := LMc15.out; omega); intro v526 w24 ho hb hg hat; rw [← Ny525.out] at ho; have n0_ := am (Kd.R_after (ok := (fun k_ => some k_ ≠ (u525003 : Value).ownBlock)) (Rz (Kd.R_mono HO_525001.out (fun _ hk => ⟨hk.2, hk.1⟩))) hg hat); have n1_ := am (Kd.R_after (ok := (fun k_ => some k_ ≠ (.slice Ao8 t521.length co8 : Value).ownBlock)) (Rz HO_525003.out) hg hat); have n2_ := am (blk_grown (g := gb518) (o := .cells #[.int .i64 a0_0, .slice A0_1 l0_1.length c0_1] 38 (0, 0)) (Kz BK518.out) hg (Kd.R_ne HO_525002.out BK518.out (by decide))); have n3_ := am (blk_grown (g := gb519) (o := .cells #[.int .i64 0, .slice none 0 0, .slice none 0 0, .slice none 0 0] 40 (0, 0)) (Kz BK519.out) hg (Kd.R_ne HO_525002.out BK519.out (by decide))); have n4_ := am (blk_grown (g := gb524) (o := .cells #[.int .i64 t520, .slice Ao8 t521.length co8, u525002, u525003] 40 (0, 0)) (Kz BK524.out) hg (Kd.R_ne HO_525002.out BK524.out (by decide))); have n5_ := am (hb); have n6_ := am (ho); clear HO_525001 HO_525003 BK518 BK519 BK524 HB HO_525002; revert n0_ n1_ n2_ n3_ n4_ n5_ n6_; intro HO_525001 HO_525003 BK518 BK519 BK524 HB HO527; clear ho hb hg hat; obtain ⟨Ao25, co25, eo25⟩ := Kd.R_slice HO527.out; subst eo25; obtain ⟨hcz26_0, hcz26_1, hcz26_2, hcz26_3, hfz26_0, hfz26_1, hfz26_2, hfz26_3⟩ := cf4 (w := w24) BK524) | ((with_reducible refine gate_builtin (b := .append) (xs := #[.tmp 30, .tmp 34]) rfl ?_); at_builtin; refine Kd.R_append (Kd.int .i64) (w0 := w) w.heap.size rfl (.tmp 30) (.tmp 34) 24 3 (.int .i64 0) 8 rfl Try.underlying24 info3 rfl (by decide) (by omega) u525003 x525003_1 0 [.int .i64 0] (fun k_ => some k_ ≠ (.slice Ao8 t521.length co8 : Value).ownBlock ∧ some k_ ≠ (.slice Ao25 y525.length co25 : Value).ownBlock) (fun _ => False) rfl (by first | (go_simp; done) | (go_simp; rfl)) ?aP (fun _ hk => hk.elim) ?aF ?aO ?aB ?aS ?aL ?_; (case aP => exact rfl); (case aB => exact (Bq)); (case aF => exact (fun k_ hk => ⟨Kd.fresh' (Kd.R_lt (Rz (Kd.R_mono (Kd.R_far (p := ⟨gb524, 2, none⟩) (Kd.R_types HO_525001.out BK524.out (by decide)) (fun _ hk => hk.2) (.slice Ao25 y525.length co25)) (fun _ h_ => h_.1)))) k_ hk, Kd.fresh' (Kd.R_lt (Rz (Kd.R_mono (Kd.R_far (p := ⟨gb524, 2, none⟩) (Kd.R_types HO527.out BK524.out (by decide)) (fun _ hk => hk.2) (.slice Ao25 y525.length co25)) (fun _ h_ => h_.1)))) k_ hk⟩)); (case aO => exact (Rz (Kd.R_mono (Kd.R_far (p := ⟨gb524, 2, none⟩) (Kd.R_types HO_525003.out BK524.out (by decide)) (fun _ hk => hk.2) (.slice Ao25 y525.length co25)) (fun _ hk => ⟨hk.1.1, hk.1.2⟩)))); (case aS => exact (below_size (w := w) (Bq))); (case aL => have := LMc16.out; omega); intro v529 w27 ho hb hg hat; rw [← Ny528.out] at ho; have n0_ := am (Kd.R_after (ok := (fun k_ => some k_ ≠ (.slice Ao25 y525.length co25 : Value).ownBlock)) (Rz (Kd.R_mono (Kd.R_far (p := ⟨gb524, 2, none⟩) (Kd.R_types HO_525001.out BK524.out (by decide)) (fun _ hk => hk.2) (.slice Ao25 y525.length co25)) (fun _ hk => ⟨hk.1.2, hk.1.1⟩))) hg hat); have n1_ := am (blk_grown (g := gb518) (o := .cells #[.int .i64 a0_0, .slice A0_1 l0_1.length c0_1] 38 (0, 0)) (by (with_reducible repeat (first | refine blk_drewN ?_ _ | refine blk_drew ?_ | refine blk_alloc ?_ _)); refine blk_far ?_ NB518_524.out _; exact Kz BK518.out) hg (Kd.R_ne HO_525003.out BK518.out (by decide))); have n2_ := am (blk_grown (g := gb519) (o := .cells #[.int .i64 0, .slice none 0 0, .slice none 0 0, .slice none 0 0] 40 (0, 0)) (by (with_reducible repeat (first | refine blk_drewN ?_ _ | refine blk_drew ?_ | refine blk_alloc ?_ _)); refine blk_far ?_ NB519_524.out _; exact Kz BK519.out) hg (Kd.R_ne HO_525003.out BK519.out (by decide))); have n3_ := am (blk_grown (g := gb524) (o := .cells #[.int .i64 t520, .slice Ao8 t521.length co8, .slice Ao25 y525.length co25, u525003] 40 (0, 0)) (by (with_reducible repeat (first | refine blk_drewN ?_ _ | refine blk_drew ?_ | refine blk_alloc ?_ _)); refine blk_put (cs := #[.int .i64 t520, .slice Ao8 t521.length co8, u525002, u525003]) ?_ 2 _ rfl; exact Kz BK524.out) hg (Kd.R_ne HO_525003.out BK524.out (by decide))); have n4_ := am (Kd.R_after (ok := (fun k_ => some k_ ≠ (.slice Ao8 t521.length co8 : Value).ownBlock)) (Rz (Kd.R_mono (Kd.R_far (p := ⟨gb524, 2, none⟩) (Kd.R_types HO527.out BK524.out (by decide)) (fun _ hk => hk.2) (.slice Ao25 y525.length co25)) (fun _ hk => ⟨hk.1.1, hk.1.2⟩))) hg hat); have n5_ := am (hb); have n6_ := am (ho); clear HO_525001 BK518 BK519 BK524 HO527 HB HO_525003; revert n0_ n1_ n2_ n3_ n4_ n5_ n6_; intro HO_525001 BK518 BK519 BK524 HO527 HB HO530; clear ho hb hg hat; obtain ⟨Ao28, co28, eo28⟩ := Kd.R_slice HO530.out; subst eo28; obtain ⟨hcz29_0, hcz29_1, hcz29_2, hcz29_3, hfz29_0, hfz29_1, hfz29_2, hfz29_3⟩ := cf4 (w := w27) BK524; obtain ⟨hcz30_0, hcz30_1, hfz30_0, hfz30_1⟩ := cf2 (w := w27) BK518) | ((with_reducible refine gate_callee (f := 69) rfl ?_); refine goesL_ (some 44) rfl rfl Try.func69 (by kernel_rfl) rfl #[.pointer (some ⟨gb518, 0, none⟩), .int .i64 x6_1, .int .i64 ji17] rfl (by (try simp only [List.map_toArray, List.map_cons, List.map_nil]); first | done | (simp only [hji17]; rfl) | rfl | (simp only [List.length_drop, List.length_take]; rfl)) ?_; (with_reducible refine (impl_Bits_count.calls k1 gb518 a0_0 A0_1 c0_1 l0_1 x6_1 ji17 t531 _ ?side1 ?side2 ?side3 A18.out).mono ?_); (case side1 => (with_reducible repeat (first | refine blk_drewN ?_ _ | refine blk_drew ?_ | refine blk_alloc ?_ _)); refine blk_far ?_ NB518_524.out _; exact Kz BK518.out); (case side2 => exact Kd.C_below HR0_1.out (Bq)); (case side3 => exact HC0_1.out); rintro e w' ⟨rfl, ⟨nd, rfl⟩⟩; refine ⟨_, rfl, ?_⟩))
       go_roundg k1
       case measure => have := HK1.out; omega
       case rel => exact ⟨(wrap64 (x4_1 + t531)), (x4_1), (wrap64 (x6_1 + 16)), (wrap64 (x7_1 + 1)), (y525), (y528), (.slice Ao25 y525.length co25), (.slice Ao28 y528.length co28), wZ, wZ, wZ, wZ, H', ⟨by have := HK1.out; omega⟩, ⟨Rz (Kd.R_mono (Kd.R_far (p := ⟨gb524, 3, none⟩) (Kd.R_types HO_525001.out BK524.out (by decide)) (fun _ hk => hk.2) (.slice Ao28 y528.length co28)) (fun _ hk => ⟨hk.1.1, hk.1.2⟩))⟩, ⟨Rz (Kd.R_mono (Kd.R_far (p := ⟨gb524, 3, none⟩) (Kd.R_types HO527.out BK524.out (by decide)) (fun _ hk => hk.2) (.slice Ao28 y528.length co28)) (fun _ hk => ⟨hk.1.1, hk.1.2⟩))⟩, ⟨Rz (Kd.R_mono (Kd.R_far (p := ⟨gb524, 3, none⟩) (Kd.R_types HO530.out BK524.out (by decide)) (fun _ hk => hk.2) (.slice Ao28 y528.length co28)) (fun _ hk => ⟨hk.1.1, hk.1.2⟩))⟩, ⟨by (with_reducible repeat (first | refine blk_drewN ?_ _ | refine blk_drew ?_ | refine blk_alloc ?_ _)); refine blk_far ?_ NB518_524.out _; (with_reducible repeat (first | refine blk_drewN ?_ _ | refine blk_drew ?_ | refine blk_alloc ?_ _)); exact BK518.out⟩, ⟨by (with_reducible repeat (first | refine blk_drewN ?_ _ | refine blk_drew ?_ | refine blk_alloc ?_ _)); refine blk_far ?_ NB519_524.out _; (with_reducible repeat (first | refine blk_drewN ?_ _ | refine blk_drew ?_ | refine blk_alloc ?_ _)); exact BK519.out⟩, ⟨by (with_reducible repeat (first | refine blk_drewN ?_ _ | refine blk_drew ?_ | refine blk_alloc ?_ _)); refine blk_put (cs := #[.int .i64 t520, .slice Ao8 t521.length co8, .slice Ao25 y525.length co25, u525003]) ?_ 3 _ rfl; (with_reducible repeat (first | refine blk_drewN ?_ _ | refine blk_drew ?_ | refine blk_alloc ?_ _)); exact BK524.out⟩, ⟨Bq⟩⟩
      ·rw [if_neg c16] at H
       exact absurd H (by simp)
     ·rw [if_neg c15] at H
      exact absurd H (by simp)
    ·rw [if_neg c14] at H
     have c14b0 : ((Int.tmod x6_1 64) == 0) = false := beq_eq_false_iff_ne.mpr c14; have c14b1 : ((Int.tmod x6_1 64) != 0) = true := bne_iff_ne.mpr c14
     by_cases c31 : x525003_1.length < 17592186044416
     ·rw [if_pos c31] at H
      have LMc31 := am c31; clear c31; obtain ⟨y532, hy532⟩ : ∃ y_ : List Int, y_ = (x525003_1 ++ [wrap64 (x4_1 - x5_1)]) := ⟨_, rfl⟩
      replace H : ((impl_Bits_count.f k1 a0_0 l0_1 x6_1 (mn (wrap64 (x6_1 + 16)) a0_0)).bind fun t535 => (impl_ranked.l0 k1 (wrap64 (x4_1 + t535)) x5_1 (wrap64 (x6_1 + 16)) a0_0 l0_1 t520 t521 x525002_1 y532)) = some (r1, r2, r3, r4) := by first | (rw [hy532]; with_reducible exact H) | (have H2_ := (Option.bind_some _ _).symm.trans H; rw [hy532]; with_reducible exact H2_) | (have H2_ := (Option.bind_some _ _).symm.trans H; with_reducible exact H2_) | with_reducible exact H | (rw [hy532]; exact H) | exact H
      have Ny532 := am hy532; clear hy532; obtain ⟨ji32, hji32⟩ : ∃ j_ : Int, (mn (wrap64 (x6_1 + 16)) a0_0) = j_ := ⟨_, rfl⟩
      replace H : ((impl_Bits_count.f k1 a0_0 l0_1 x6_1 (ji32)).bind fun t535 => (impl_ranked.l0 k1 (wrap64 (x4_1 + t535)) x5_1 (wrap64 (x6_1 + 16)) a0_0 l0_1 t520 t521 x525002_1 y532)) = some (r1, r2, r3, r4) := by first | (rw [hji32] at H; exact H) | (simp only [hji32] at H ⊢; exact H)
      have hji32_ : (if a0_0 < (wrap64 (x6_1 + 16)) then a0_0 else (wrap64 (x6_1 + 16))) = ji32 := hji32; replace H := Option.bind_eq_some_iff.mp H; obtain ⟨t535, A330, H⟩ := H; (try dsimp -simprocs only at H); have A33 := am A330; clear A330; have H' := am H; clear H; have hnb34 := NB518_519.out; have hnc34 := NB519_518.out; have hnb35 := NB518_524.out; have hnc35 := NB524_518.out; obtain ⟨hcz36_0, hcz36_1, hfz36_0, hfz36_1⟩ := cf2 (w := wr) BK518; have hnb37 := NB524_519.out; have hnc37 := NB519_524.out; obtain ⟨hcz38_0, hcz38_1, hcz38_2, hcz38_3, hfz38_0, hfz38_1, hfz38_2, hfz38_3⟩ := cf4 (w := wr) BK524
      go_wp2_with (first | ((with_reducible refine gate_builtin (b := .append) (xs := #[.tmp 30, .tmp 34]) rfl ?_); at_builtin; refine Kd.R_append (Kd.int .i64) (w0 := w) w.heap.size rfl (.tmp 30) (.tmp 34) 24 3 (.int .i64 0) 8 rfl Try.underlying24 info3 rfl (by decide) (by omega) u525003 x525003_1 (wrap64 (x4_1 - x5_1)) [.int .i64 (wrap64 (x4_1 - x5_1))] (fun k_ => some k_ ≠ (.slice Ao8 t521.length co8 : Value).ownBlock ∧ some k_ ≠ (u525002 : Value).ownBlock) (fun _ => False) rfl rfl ?aP (fun _ hk => hk.elim) ?aF ?aO ?aB ?aS ?aL ?_; (case aP => exact rfl); (case aB => exact (Bq)); (case aF => exact (fun k_ hk => ⟨Kd.fresh' (Kd.R_lt (Rz HO_525001.out)) k_ hk, Kd.fresh' (Kd.R_lt (Rz HO_525002.out)) k_ hk⟩)); (case aO => exact (Rz HO_525003.out)); (case aS => exact (below_size (w := w) (Bq))); (case aL => have := LMc31.out; omega); intro v533 w39 ho hb hg hat; rw [← Ny532.out] at ho; have n0_ := am (Kd.R_after (ok := (fun k_ => some k_ ≠ (u525002 : Value).ownBlock)) (Rz HO_525001.out) hg hat); have n1_ := am (Kd.R_after (ok := (fun k_ => some k_ ≠ (.slice Ao8 t521.length co8 : Value).ownBlock)) (Rz HO_525002.out) hg hat); have n2_ := am (blk_grown (g := gb518) (o := .cells #[.int .i64 a0_0, .slice A0_1 l0_1.length c0_1] 38 (0, 0)) (Kz BK518.out) hg (Kd.R_ne HO_525003.out BK518.out (by decide))); have n3_ := am (blk_grown (g := gb519) (o := .cells #[.int .i64 0, .slice none 0 0, .slice none 0 0, .slice none 0 0] 40 (0, 0)) (Kz BK519.out) hg (Kd.R_ne HO_525003.out BK519.out (by decide))); have n4_ := am (blk_grown (g := gb524) (o := .cells #[.int .i64 t520, .slice Ao8 t521.length co8, u525002, u525003] 40 (0, 0)) (Kz BK524.out) hg (Kd.R_ne HO_525003.out BK524.out (by decide))); have n5_ := am (hb); have n6_ := am (ho); clear HO_525001 HO_525002 BK518 BK519 BK524 HB HO_525003; revert n0_ n1_ n2_ n3_ n4_ n5_ n6_; intro HO_525001 HO_525002 BK518 BK519 BK524 HB HO534; clear ho hb hg hat; obtain ⟨Ao40, co40, eo40⟩ := Kd.R_slice HO534.out; subst eo40; obtain ⟨hcz41_0, hcz41_1, hcz41_2, hcz41_3, hfz41_0, hfz41_1, hfz41_2, hfz41_3⟩ := cf4 (w := w39) BK524; obtain ⟨hcz42_0, hcz42_1, hfz42_0, hfz42_1⟩ := cf2 (w := w39) BK518) | ((with_reducible refine gate_callee (f := 69) rfl ?_); refine goesL_ (some 44) rfl rfl Try.func69 (by kernel_rfl) rfl #[.pointer (some ⟨gb518, 0, none⟩), .int .i64 x6_1, .int .i64 ji32] rfl (by (try simp only [List.map_toArray, List.map_cons, List.map_nil]); first | done | (simp only [hji32]; rfl) | rfl | (simp only [List.length_drop, List.length_take]; rfl)) ?_; (with_reducible refine (impl_Bits_count.calls k1 gb518 a0_0 A0_1 c0_1 l0_1 x6_1 ji32 t535 _ ?side1 ?side2 ?side3 A33.out).mono ?_); (case side1 => (with_reducible repeat (first | refine blk_drewN ?_ _ | refine blk_drew ?_ | refine blk_alloc ?_ _)); refine blk_far ?_ NB518_524.out _; exact Kz BK518.out); (case side2 => exact Kd.C_below HR0_1.out (Bq)); (case side3 => exact HC0_1.out); rintro e w' ⟨rfl, ⟨nd, rfl⟩⟩; refine ⟨_, rfl, ?_⟩))
      go_roundg k1
      case measure => have := HK1.out; omega
      case rel => exact ⟨(wrap64 (x4_1 + t535)), (x5_1), (wrap64 (x6_1 + 16)), (wrap64 (x7_1 + 1)), (x525002_1), (y532), (u525002), (.slice Ao40 y532.length co40), wZ, wZ, wZ, wZ, H', ⟨by have := HK1.out; omega⟩, ⟨Rz (Kd.R_mono (Kd.R_far (p := ⟨gb524, 3, none⟩) (Kd.R_types HO_525001.out BK524.out (by decide)) (fun _ hk => hk.2) (.slice Ao40 y532.length co40)) (fun _ hk => ⟨hk.1.1, hk.1.2⟩))⟩, ⟨Rz (Kd.R_mono (Kd.R_far (p := ⟨gb524, 3, none⟩) (Kd.R_types HO_525002.out BK524.out (by decide)) (fun _ hk => hk.2) (.slice Ao40 y532.length co40)) (fun _ hk => ⟨hk.1.1, hk.1.2⟩))⟩, ⟨Rz (Kd.R_mono (Kd.R_far (p := ⟨gb524, 3, none⟩) (Kd.R_types HO534.out BK524.out (by decide)) (fun _ hk => hk.2) (.slice Ao40 y532.length co40)) (fun _ hk => ⟨hk.1.1, hk.1.2⟩))⟩, ⟨by (with_reducible repeat (first | refine blk_drewN ?_ _ | refine blk_drew ?_ | refine blk_alloc ?_ _)); refine blk_far ?_ NB518_524.out _; (with_reducible repeat (first | refine blk_drewN ?_ _ | refine blk_drew ?_ | refine blk_alloc ?_ _)); exact BK518.out⟩, ⟨by (with_reducible repeat (first | refine blk_drewN ?_ _ | refine blk_drew ?_ | refine blk_alloc ?_ _)); refine blk_far ?_ NB519_524.out _; (with_reducible repeat (first | refine blk_drewN ?_ _ | refine blk_drew ?_ | refine blk_alloc ?_ _)); exact BK519.out⟩, ⟨by (with_reducible repeat (first | refine blk_drewN ?_ _ | refine blk_drew ?_ | refine blk_alloc ?_ _)); refine blk_put (cs := #[.int .i64 t520, .slice Ao8 t521.length co8, u525002, u525003]) ?_ 3 _ rfl; (with_reducible repeat (first | refine blk_drewN ?_ _ | refine blk_drew ?_ | refine blk_alloc ?_ _)); exact BK524.out⟩, ⟨Bq⟩⟩
     ·rw [if_neg c31] at H
      exact absurd H (by simp)
   ·rw [if_neg c13] at H
    have c13b0 : decide (x6_1 < a0_0) = false := decide_eq_false c13; clear c13
    simp only [Option.some.injEq, Prod.mk.injEq] at H
    obtain ⟨rfl, rfl, rfl, rfl⟩ := H; have hnb43 := NB518_519.out; have hnc43 := NB519_518.out; have hnb44 := NB518_524.out; have hnc44 := NB524_518.out; obtain ⟨hcz45_0, hcz45_1, hfz45_0, hfz45_1⟩ := cf2 (w := wr) BK518; have hnb46 := NB524_519.out; have hnc46 := NB519_524.out; obtain ⟨hcz47_0, hcz47_1, hcz47_2, hcz47_3, hfz47_0, hfz47_1, hfz47_2, hfz47_3⟩ := cf4 (w := wr) BK524; obtain ⟨hcz48_0, hcz48_1, hcz48_2, hcz48_3, hfz48_0, hfz48_1, hfz48_2, hfz48_3⟩ := cf4 (w := wr) BK519; obtain ⟨Ao49, co49, eo49⟩ := Kd.R_slice HO_525002.out; subst eo49; obtain ⟨Ao50, co50, eo50⟩ := Kd.R_slice HO_525003.out; subst eo50
    go_wp2
    refine bodyPost_ret (results_cell_row rfl _ _ gb519 40 #[.int .i64 t520, .slice Ao8 t521.length co8, .slice Ao49 x525002_1.length co49, .slice Ao50 x525003_1.length co50] (0, 0) _ rfl (by (with_reducible repeat (first | refine blk_drewN ?_ _ | refine blk_drew ?_ | refine blk_alloc ?_ _)); refine blk_put (cs := #[.int .i64 t520, .slice Ao8 t521.length co8, .slice Ao49 x525002_1.length co49, .slice none 0 0]) ?_ 3 _ rfl; (with_reducible repeat (first | refine blk_drewN ?_ _ | refine blk_drew ?_ | refine blk_alloc ?_ _)); refine blk_put (cs := #[.int .i64 t520, .slice Ao8 t521.length co8, .slice none 0 0, .slice none 0 0]) ?_ 2 _ rfl; (with_reducible repeat (first | refine blk_drewN ?_ _ | refine blk_drew ?_ | refine blk_alloc ?_ _)); refine blk_put (cs := #[.int .i64 t520, .slice none 0 0, .slice none 0 0, .slice none 0 0]) ?_ 1 _ rfl; (with_reducible repeat (first | refine blk_drewN ?_ _ | refine blk_drew ?_ | refine blk_alloc ?_ _)); refine blk_put (cs := #[.int .i64 0, .slice none 0 0, .slice none 0 0, .slice none 0 0]) ?_ 0 _ rfl; exact Kz BK519.out) Try.underlying40 rfl (by kernel_rfl)) rfl ?_; exact ⟨_, _, _, eZ, Rz (Kd.R_mono (Kd.R_far (p := ⟨gb519, 3, none⟩) (Kd.R_far (p := ⟨gb519, 2, none⟩) (Kd.R_far (p := ⟨gb519, 1, none⟩) (Kd.R_far (p := ⟨gb519, 0, none⟩) (Kd.R_types HO_525001.out BK519.out (by decide)) (fun _ hk => hk.2) (.int .i64 t520)) (fun _ hk => hk.2) (.slice Ao8 t521.length co8)) (fun _ hk => hk.2) (.slice Ao49 x525002_1.length co49)) (fun _ hk => hk.2) (.slice Ao50 x525003_1.length co50)) (fun _ hk => ⟨hk.1.1, hk.1.2⟩)), Rz (Kd.R_mono (Kd.R_far (p := ⟨gb519, 3, none⟩) (Kd.R_far (p := ⟨gb519, 2, none⟩) (Kd.R_far (p := ⟨gb519, 1, none⟩) (Kd.R_far (p := ⟨gb519, 0, none⟩) (Kd.R_types HO_525002.out BK519.out (by decide)) (fun _ hk => hk.2) (.int .i64 t520)) (fun _ hk => hk.2) (.slice Ao8 t521.length co8)) (fun _ hk => hk.2) (.slice Ao49 x525002_1.length co49)) (fun _ hk => hk.2) (.slice Ao50 x525003_1.length co50)) (fun _ hk => ⟨hk.1.1, hk.1.2⟩)), Rz (Kd.R_mono (Kd.R_far (p := ⟨gb519, 3, none⟩) (Kd.R_far (p := ⟨gb519, 2, none⟩) (Kd.R_far (p := ⟨gb519, 1, none⟩) (Kd.R_far (p := ⟨gb519, 0, none⟩) (Kd.R_types HO_525003.out BK519.out (by decide)) (fun _ hk => hk.2) (.int .i64 t520)) (fun _ hk => hk.2) (.slice Ao8 t521.length co8)) (fun _ hk => hk.2) (.slice Ao49 x525002_1.length co49)) (fun _ hk => hk.2) (.slice Ao50 x525003_1.length co50)) (fun _ hk => ⟨hk.1.1, hk.1.2⟩)), Bq⟩

def impl_words.f (a0 : Int) : Option (Int) := some (wrap64 (Int.tdiv (wrap64 ((wrap64 (a0 + 16)) - 1)) 16))
theorem impl_words.calls (a0 : Int) (r : Int) (w : World) (h : impl_words.f a0 = some r) :
  Calls Try.prog 139 #[.int .i64 a0] w fun e w' => e = .returned (.int .i64 r) ∧ Drawn0 w w' := by
 have H : (some (wrap64 (Int.tdiv (wrap64 ((wrap64 (a0 + 16)) - 1)) 16))) = some r := h; clear h; obtain rfl := Option.some.inj H
 go_enter Try.func139, Try.ntmps139
 go_wp2
 go_ret
 exact ⟨by first | rfl | (simp; done) | (simp [*]; done), by repeat (first | exact Drawn0.refl _ | apply Drawn0.step)⟩

def impl_blank.f (a0 : Int) : Option (Int × List Int) := (impl_words.f a0).bind fun t537 => (if 0 ≤ t537 then (if (t537 : Int).toNat ≤ 35184372088832 then (some (a0, (List.replicate (t537 : Int).toNat 0))) else (none)) else (none))
theorem impl_blank.calls (a0 : Int) (r1 : Int) (r2 : List Int) (w : World) (h : impl_blank.f a0 = some (r1, r2)) :
  Calls Try.prog 137 #[.int .i64 a0] w fun e w' => ∃ v1_ : Value, e = .returned (.agg #[.int .i64 r1, v1_]) ∧ Kd.R (Kd.int .i64) 3 w' w.heap.size (fun _ => True) v1_ r2 ∧ Below w.heap.size w w' := by
 have hu38 := Try.underlying38; have HB := am (Below.refl w.heap.size w); have H : ((impl_words.f a0).bind fun t537 => (if 0 ≤ t537 then (if (t537 : Int).toNat ≤ 35184372088832 then (some (a0, (List.replicate (t537 : Int).toNat 0))) else (none)) else (none))) = some (r1, r2) := h; clear h; replace H := Option.bind_eq_some_iff.mp H; obtain ⟨t537, A20, H⟩ := H; (try dsimp -simprocs only at H); have A2 := am A20; clear A20
 by_cases c3 : 0 ≤ t537
 ·rw [if_pos c3] at H
  have c3b0 := eq_true c3; have c3b1 : decide (0 ≤ t537) = true := decide_eq_true c3; clear c3
  by_cases c4 : (t537 : Int).toNat ≤ 35184372088832
  ·rw [if_pos c4] at H
   have c4b0 := eq_true c4; have c4b1 : decide ((t537 : Int).toNat ≤ 35184372088832) = true := decide_eq_true c4; clear c4; obtain ⟨y538, hy538⟩ : ∃ y_ : List Int, y_ = (List.replicate (t537 : Int).toNat 0) := ⟨_, rfl⟩
   replace H : (some (a0, y538)) = some (r1, r2) := by first | (rw [hy538]; with_reducible exact H) | (have H2_ := (Option.bind_some _ _).symm.trans H; rw [hy538]; with_reducible exact H2_) | (have H2_ := (Option.bind_some _ _).symm.trans H; with_reducible exact H2_) | with_reducible exact H | (rw [hy538]; exact H) | exact H
   have Ny538 := am hy538; clear hy538
   simp only [Option.some.injEq, Prod.mk.injEq] at H
   obtain ⟨rfl, rfl⟩ := H
   go_enter Try.func137, Try.ntmps137
   go_wp2_with (first | ((with_reducible refine gate_dst (N := 2) rfl ?_); refine bE 2 #[.int .i64 0, .slice none 0 0] 38 ?_; intro gb536 hg w5 hbox hb; have n0_ := Bb HB hb; have n1_ := am (hbox); have n2_ := Gl HB hg; have n3_ := Gl HB hg; clear HB; revert n0_ n1_ n2_ n3_; intro HB BK536 GW536 GE536; clear hb hbox hg) | ((with_reducible refine gate_callee (f := 139) rfl ?_); refine gL (some 5) Try.func139 #[.int .i64 a0] ?_; (with_reducible refine (impl_words.calls a0 t537 _ A2.out).mono ?_); rintro e w' ⟨rfl, ⟨nd, rfl⟩⟩; refine ⟨_, rfl, ?_⟩; (try (rw [drewN_self w5]; generalize hq_ : World.drewN w5 _ = w5; have n0_ : Aside0 (w5.heap[gb536]? = some (.cells #[.int .i64 0, .slice none 0 0] 38 (0, 0))) := ⟨by rw [← hq_]; exact (Kz BK536.out)⟩; have n1_ : Aside0 (Below w.heap.size w w5) := ⟨by rw [← hq_]; exact (Bq)⟩; clear BK536 HB hq_; revert n0_ n1_; intro BK536 HB))) | ((with_reducible refine gate_dst (N := 6) rfl ?_); refine Kd.R_make (Kd.int .i64) _ 3 rfl (N := 6) rfl 24 _ _ rfl t537 rfl rfl Try.underlying24 (.int .i64 0) 8 info3 rfl (by decide) (by omega) 0 (ok := fun _ => True) (okp := fun _ => True) rfl (fun _ hk => hk) trivial (dT) (Nat.le_trans (Nat.mul_le_mul_right _ (dT : t537.toNat ≤ 35184372088832)) (by omega)) (Below.refl _ _) (Nat.le_refl _) ?_; intro v539 w6 ho7 hb hg_ hnew_; clear hg_ hnew_; (first | rw [← Ny538.out] at ho7 | (simp only [Int.reduceToNat] at ho7; rw [← Ny538.out] at ho7)); have n0_ := Rm ho7 HB; have n1_ := Kb BK536 hb; have n2_ := Bc HB hb; clear BK536 HB; revert n0_ n1_ n2_; intro HO540 BK536 HB; clear hb ho7; obtain ⟨Ao8, co8, eo8⟩ := Kd.R_slice HO540.out; subst eo8; obtain ⟨hcz9_0, hcz9_1, hfz9_0, hfz9_1⟩ := cf2 (w := w6) BK536))
   refine bodyPost_ret (results_cell_row rfl _ _ gb536 38 #[.int .i64 a0, .slice Ao8 y538.length co8] (0, 0) _ rfl (by (with_reducible repeat (first | refine blk_drewN ?_ _ | refine blk_drew ?_ | refine blk_alloc ?_ _)); refine blk_put (cs := #[.int .i64 a0, .slice none 0 0]) ?_ 1 _ rfl; (with_reducible repeat (first | refine blk_drewN ?_ _ | refine blk_drew ?_ | refine blk_alloc ?_ _)); refine blk_put (cs := #[.int .i64 0, .slice none 0 0]) ?_ 0 _ rfl; exact Kz BK536.out) Try.underlying38 rfl (by kernel_rfl)) rfl ?_; exact ⟨_, eZ, Rz (Kd.R_mono (Kd.R_far (p := ⟨gb536, 1, none⟩) (Kd.R_far (p := ⟨gb536, 0, none⟩) (Kd.R_types HO540.out BK536.out (by decide)) (fun _ hk => hk.2) (.int .i64 a0)) (fun _ hk => hk.2) (.slice Ao8 y538.length co8)) (fun _ hk => trivial)), Bq⟩
  ·rw [if_neg c4] at H
   exact absurd H (by simp)
 ·rw [if_neg c3] at H
  exact absurd H (by simp)

def impl_Bits_set.f (a0_0 : Int) (l0_1 : List Int) (a1 : Int) (a2 : Bool) : Option (List Int) := if 0 ≤ (wrap64 (Int.tdiv a1 16)) then (if (wrap64 (Int.tdiv a1 16)) < (l0_1.length : Int) then (if 0 ≤ (Int.tmod a1 16) then ((some (l0_1.set ((wrap64 (Int.tdiv a1 16)) : Int).toNat (Go.bits .andNot .i64 (rd l0_1 (wrap64 (Int.tdiv a1 16))) (shl .i64 1 (Int.tmod a1 16))) : List Int)).bind fun y542 => (if a2 = true then (some (y542.set ((wrap64 (Int.tdiv a1 16)) : Int).toNat (Go.bits .or .i64 (rd y542 (wrap64 (Int.tdiv a1 16))) (shl .i64 1 (Int.tmod a1 16))))) else (some y542))) else (none)) else (none)) else (none)
def impl_Bits_set.T0 : Bool × List (List Nat × List Nat) := (true, [([], []), ([0], [0]), ([1], [1]), ([2], [2]), ([], []), ([4], [4]), ([3, 5], [3, 5]), ([6], [6]), ([], []), ([8], [8]), ([9], [9]), ([7, 10], [7, 10]), ([3, 5, 0, 1, 2, 3, 4, 5, 6, 7, 8, 9, 10, 11], [3, 5]), ([12, 11, 0, 1, 2, 3, 4, 5, 6, 7, 8, 9, 10, 11], [11, 12])])
def impl_Bits_set.B0 : List Nat := [0, 1, 3, 7, 0, 16, 63, 127, 0, 256, 768, 2047, 4095, 8191]
theorem impl_Bits_set.tab0 : rtab .any (opsOf Try.f138 0) = impl_Bits_set.T0 := by kernel_rfl
theorem impl_Bits_set.bits0 : waitsOk impl_Bits_set.T0.2 impl_Bits_set.B0 = true := by kernel_rfl
def impl_Bits_set.T2 : Bool × List (List Nat × List Nat) := (true, [([], []), ([0], [0]), ([1], [1]), ([2], [2]), ([], []), ([4], [4]), ([3, 5], [3, 5]), ([6], [6]), ([], []), ([8], [8]), ([9], [9]), ([7, 10], [7, 10]), ([3, 5, 0, 1, 2, 3, 4, 5, 6, 7, 8, 9, 10, 11], [3, 5]), ([12, 11, 0, 1, 2, 3, 4, 5, 6, 7, 8, 9, 10, 11], [11, 12])])
def impl_Bits_set.B2 : List Nat := [0, 1, 3, 7, 0, 16, 63, 127, 0, 256, 768, 2047, 4095, 8191]
theorem impl_Bits_set.tab2 : rtab .any (opsOf Try.f138 2) = impl_Bits_set.T2 := by kernel_rfl
theorem impl_Bits_set.bits2 : waitsOk impl_Bits_set.T2.2 impl_Bits_set.B2 = true := by kernel_rfl
theorem impl_Bits_set.calls (g0 : Nat) (a0_0 : Int) (P0_1_ : Nat → Prop) (u9000_ : Value) (l0_1 : List Int) (a1 : Int) (a2 : Bool) (r : List Int) (w0 w : World) (hB : Below w0.heap.size w0 w) (hb0 : w.heap[g0]? = some (.cells #[.int .i64 a0_0, u9000_] 38 (0, 0))) (ho0_1 : Kd.R (Kd.int .i64) 3 w w0.heap.size P0_1_ u9000_ l0_1) (h : impl_Bits_set.f a0_0 l0_1 a1 a2 = some r) :
  Calls Try.prog 138 #[.pointer (some ⟨g0, 0, none⟩), .int .i64 a1, .bool a2] w fun e w' => e = .returned (.tuple #[]) ∧ Kd.R (Kd.int .i64) 3 w' w0.heap.size (fun k_ => (P0_1_ k_ ∨ w.heap.size ≤ k_)) u9000_ r ∧ Below w0.heap.size w0 w' ∧ Kept w w' (fun k_ => P0_1_ k_) := by
 have HO0_1 := am (show Kd.R (Kd.int .i64) 3 w w0.heap.size (fun k_ => (P0_1_ k_ ∨ w.heap.size ≤ k_)) u9000_ l0_1 from Kd.R_mono ho0_1 (fun k_ hk => (.inl hk))); have HK := am (Kept.refl w (fun k_ => P0_1_ k_)); have BK0 := am hb0; clear hb0; have HW0 := am hB.size; have HB := am hB; clear hB; have H : (if 0 ≤ (wrap64 (Int.tdiv a1 16)) then (if (wrap64 (Int.tdiv a1 16)) < (l0_1.length : Int) then (if 0 ≤ (Int.tmod a1 16) then ((some (l0_1.set ((wrap64 (Int.tdiv a1 16)) : Int).toNat (Go.bits .andNot .i64 (rd l0_1 (wrap64 (Int.tdiv a1 16))) (shl .i64 1 (Int.tmod a1 16))) : List Int)).bind fun y542 => (if a2 = true then (some (y542.set ((wrap64 (Int.tdiv a1 16)) : Int).toNat (Go.bits .or .i64 (rd y542 (wrap64 (Int.tdiv a1 16))) (shl .i64 1 (Int.tmod a1 16))))) else (some y542))) else (none)) else (none)) else (none)) = some r := h; clear h; obtain ⟨ji4, hji4⟩ : ∃ j_ : Int, (wrap64 (Int.tdiv a1 16)) = j_ := ⟨_, rfl⟩
 replace H : (if 0 ≤ (ji4) then (if (ji4) < (l0_1.length : Int) then (if 0 ≤ (Int.tmod a1 16) then ((some (l0_1.set ((ji4) : Int).toNat (Go.bits .andNot .i64 (rd l0_1 (ji4)) (shl .i64 1 (Int.tmod a1 16))) : List Int)).bind fun y542 => (if a2 = true then (some (y542.set ((ji4) : Int).toNat (Go.bits .or .i64 (rd y542 (ji4)) (shl .i64 1 (Int.tmod a1 16))))) else (some y542))) else (none)) else (none)) else (none)) = some r := by first | (rw [hji4] at H; exact H) | (simp only [hji4] at H ⊢; exact H)
 have hji4w : (IntKind.i64.wrap (Int.tdiv a1 16)) = ji4 := (i64_w _).trans hji4
 by_cases c5 : 0 ≤ (ji4)
 ·rw [if_pos c5] at H
  have c5b0 : decide (0 ≤ (ji4)) = true := decide_eq_true c5; clear c5
  by_cases c6 : (ji4) < (l0_1.length : Int)
  ·rw [if_pos c6] at H
   have c6b0 : decide ((ji4) < (l0_1.length : Int)) = true := decide_eq_true c6; clear c6; obtain ⟨ji7, hji7⟩ : ∃ j_ : Int, (Int.tmod a1 16) = j_ := ⟨_, rfl⟩
   replace H : (if 0 ≤ (ji7) then ((some (l0_1.set ((ji4) : Int).toNat (Go.bits .andNot .i64 (rd l0_1 (ji4)) (shl .i64 1 (ji7))) : List Int)).bind fun y542 => (if a2 = true then (some (y542.set ((ji4) : Int).toNat (Go.bits .or .i64 (rd y542 (ji4)) (shl .i64 1 (ji7))))) else (some y542))) else (none)) = some r := by first | (rw [hji7] at H; exact H) | (simp only [hji7] at H ⊢; exact H)
   by_cases c8 : 0 ≤ (ji7)
   ·rw [if_pos c8] at H
    have c8b0 := eq_true c8; have c8b1 : decide (0 ≤ (ji7)) = true := decide_eq_true c8; clear c8; obtain ⟨ji9, hji9⟩ : ∃ j_ : Int, (shl .i64 1 (ji7)) = j_ := ⟨_, rfl⟩
    replace H : ((some (l0_1.set ((ji4) : Int).toNat (Go.bits .andNot .i64 (rd l0_1 (ji4)) (ji9)) : List Int)).bind fun y542 => (if a2 = true then (some (y542.set ((ji4) : Int).toNat (Go.bits .or .i64 (rd y542 (ji4)) (ji9)))) else (some y542))) = some r := by first | (rw [hji9] at H; exact H) | (simp only [hji9] at H ⊢; exact H)
    have hji9_ : (IntKind.i64.wrap (1 * 2 ^ min (ji7).toNat 64)) = ji9 := hji9; have hji9z : (ji7) ≤ 64 → (IntKind.i64.wrap (1 * 2 ^ (ji7).toNat)) = ji9 := shl_small hji9
    have hji9u : (IntKind.i64.wrap (2 ^ min (ji7).toNat 64)) = ji9 := by have h_ := hji9_; rw [Int.one_mul] at h_; exact h_
    have hji9v : (ji7) ≤ 64 → (IntKind.i64.wrap (2 ^ (ji7).toNat)) = ji9 := fun hle_ => by have h_ := hji9z hle_; rw [Int.one_mul] at h_; exact h_
    have hji9y : (wrap64 (1 * 2 ^ min (ji7).toNat 64)) = ji9 := (i64_w _).symm.trans hji9_
    have hji9x : (ji7) ≤ 64 → (wrap64 (1 * 2 ^ (ji7).toNat)) = ji9 := fun h_ => (i64_w _).symm.trans (hji9z h_)
    obtain ⟨y542, hy542⟩ : ∃ y_ : List Int, y_ = (l0_1.set ((ji4) : Int).toNat (Go.bits .andNot .i64 (rd l0_1 (ji4)) (ji9))) := ⟨_, rfl⟩
    replace H : (if a2 = true then (some (y542.set ((ji4) : Int).toNat (Go.bits .or .i64 (rd y542 (ji4)) (ji9)))) else (some y542)) = some r := by first | (rw [hy542]; with_reducible exact H) | (have H2_ := (Option.bind_some _ _).symm.trans H; rw [hy542]; with_reducible exact H2_) | (have H2_ := (Option.bind_some _ _).symm.trans H; with_reducible exact H2_) | with_reducible exact H | (rw [hy542]; exact H) | exact H
    have Ny542 := am hy542; clear hy542
    by_cases c11 : a2 = true
    ·subst c11
     rw [if_pos rfl] at H; have c12b0 := eq_true (dT : 0 ≤ (ji7)); obtain ⟨y544, hy544⟩ : ∃ y_ : List Int, y_ = (y542.set ((ji4) : Int).toNat (Go.bits .or .i64 (rd y542 (ji4)) (ji9))) := ⟨_, rfl⟩
     replace H : (some y544) = some r := by first | (rw [hy544]; with_reducible exact H) | (have H2_ := (Option.bind_some _ _).symm.trans H; rw [hy544]; with_reducible exact H2_) | (have H2_ := (Option.bind_some _ _).symm.trans H; with_reducible exact H2_) | with_reducible exact H | (rw [hy544]; exact H) | exact H
     have Ny544 := am hy544; clear hy544; obtain rfl := Option.some.inj H
     go_enter Try.func138, Try.ntmps138
     try go_wp2
     obtain ⟨Ao14, co14, eo14⟩ := Kd.R_slice HO0_1.out; subst eo14; have n0_ := am (Kd.R_drew HO0_1.out); have n1_ := am (blk_drew BK0.out); have n2_ := am (Kept.drew HK.out); have n3_ := am (below_drew1 HB.out); clear HO0_1 BK0 HK HB; revert n0_ n1_ n2_ n3_; intro HO0_1 BK0 HK HB; obtain ⟨ad541, e541, hx541_0⟩ := Kd.at_int (Kd.R_reads' HO0_1.out).2.2 (ji4) dT dT; cases e541; have p541 := eT (0 ≤ ((ji4) : Int)); have q541 := eT ((ji4) < (l0_1.length : Int)); have p10 : 0 ≤ ((ji4) : Int) := dT; have q10 : ((ji4) : Int) < ((l0_1.length : Int) : Int) := dT; obtain ⟨go10, co10, eo10, gb10, gl10, cl10, HG10⟩ := Kd.R_form HO0_1.out (by omega)
     (first | cases eo10 | (injection eo10 with ea_ en_ ec_; (first | subst ea_ | (injection ea_ with ea_; subst ea_)); subst ec_; clear en_))
     have GB10 := am gb10; have GG10 := am HG10; clear gb10 gl10 HG10; have HMgo10 := am (show (P0_1_ go10 ∨ w.heap.size ≤ go10) from (HO0_1.out.1 _ rfl))
     (first | simp only [add_plain] at hx541_0 | skip)
     obtain ⟨hx10_0, hf10_0⟩ := Kd.R_celln 0 HO0_1.out ((ji4) : Int) p10 q10; replace p10 := eq_true p10; replace q10 := eq_true q10; have HP16 := Kd.R_putn HO0_1.out ((ji4) : Int) (Go.bits .andNot .i64 (rd l0_1 (ji4)) (ji9)); rw [← Ny542.out] at HP16; have HQ16 := am HP16; clear HP16; refine start_ (n := 14) (S := fun w' => w'.cell? ⟨g0, 0, none⟩ = some (.int .i64 a0_0) ∧ w'.cell? ⟨g0, 1, none⟩ = some (.slice (some ⟨go10, 0, none⟩) l0_1.length co14) ∧ w'.cell? ⟨go10, ((ji4)).toNat, none⟩ = some (.int .i64 (rd l0_1 (ji4)))) (ds := [13]) (bA 14 0) (by kernel_rfl) rfl rfl ⟨cz BK0 0, cz BK0 1, hx541_0⟩ (fun hHeld => ?_); refine with_tabW impl_Bits_set.tab0 impl_Bits_set.bits0 (fun HT_ HW_ => ?_); generalize w.drew = w15 at HO0_1 BK0 HK HB GG10 HQ16 hf10_0 hx10_0 hx541_0 hHeld ⊢; refine pZ 0 (some 6) (bA 14 1) HT_.out ?_; refine pZ 1 (some 7) (bA 14 3) HT_.out ?_; refine pZ 2 (some 8) (bA 14 7) HT_.out ?_; refine pZ 4 (some 10) (bA 14 23) HT_.out ?_; refine pZ 5 (some 11) (bA 14 55) HT_.out ?_; refine pZ 8 (some 14) (bA 14 311) HT_.out ?_; refine pZ 9 (some 15) (bA 14 823) HT_.out ?_; refine pZ 10 (some 16) (bA 14 1847) HT_.out ?_; refine tZ3 3 (some 9) (bA 14 1855) HT_.out HW_.out hHeld ?_; refine pZ 6 (some 12) (bA 14 1919) HT_.out ?_; refine tZ3 7 (some 13) (bA 14 2047) HT_.out HW_.out hHeld ?_; refine pZ 11 (some 17) (bA 14 4095) HT_.out ?_; refine pZ 12 (some 18) (bA 14 8191) HT_.out ?_; refine lZ 13 none (bA 14 16383) HT_.out (fun K hK => ?_); refine skip_ (w1 := ?_) (by rfl) rfl ?_ ?_
     rotate_left
     ·go_simp
      rfl
     refine hK.out _ _ ?_; clear hK K; refine done_ (done_of HT_.out (by kernel_rfl)) ?_
     try go_wp2
     have n0_ : Aside0 (Kd.R (Kd.int .i64) 3 (w15.setCell ⟨go10, ((ji4) : Int).toNat, none⟩ (.int .i64 (Go.bits .andNot .i64 (rd l0_1 (ji4)) (ji9)))) w0.heap.size (fun k_ => (P0_1_ k_ ∨ w.heap.size ≤ k_)) (.slice (some ⟨go10, 0, none⟩) l0_1.length co14) y542) := ⟨by first | exact HQ16.out | exact Rz HQ16.out⟩; have n1_ : Aside0 ((w15.setCell ⟨go10, ((ji4) : Int).toNat, none⟩ (.int .i64 (Go.bits .andNot .i64 (rd l0_1 (ji4)) (ji9)))).heap[g0]? = some (.cells #[.int .i64 a0_0, .slice (some ⟨go10, 0, none⟩) l0_1.length co14] 38 (0, 0))) := ⟨by (with_reducible repeat (first | refine blk_drewN ?_ _ | refine blk_drew ?_ | refine blk_alloc ?_ _)); refine blk_far ?_ (by have h_ := Kd.R_ne HO0_1.out BK0.out (by decide); intro e_; exact h_ (by rw [e_]; rfl)) _; (with_reducible repeat (first | refine blk_drewN ?_ _ | refine blk_drew ?_ | refine blk_alloc ?_ _)); exact BK0.out⟩; have n2_ : Aside0 (Kept w (w15.setCell ⟨go10, ((ji4) : Int).toNat, none⟩ (.int .i64 (Go.bits .andNot .i64 (rd l0_1 (ji4)) (ji9)))) (fun k_ => P0_1_ k_)) := ⟨by repeat (first | (with_reducible first | exact HK.out | apply Kept.alloc | apply Kept.drewN | apply Kept.drew | refine Kept.setCell ?_ HMgo10.out _ | refine Kept.setCell ?_ (.inr GW0.out) _) | exact HK.out)⟩; have n3_ : Aside0 (Below w0.heap.size w0 (w15.setCell ⟨go10, ((ji4) : Int).toNat, none⟩ (.int .i64 (Go.bits .andNot .i64 (rd l0_1 (ji4)) (ji9))))) := ⟨Bq⟩
     (try clear HO0_1)
     (try clear BK0)
     (try clear HK)
     (try clear HB)
     generalize (w15.setCell ⟨go10, ((ji4) : Int).toNat, none⟩ (.int .i64 (Go.bits .andNot .i64 (rd l0_1 (ji4)) (ji9)))) = w17 at n0_ n1_ n2_ n3_ ⊢; revert n0_ n1_ n2_ n3_; intro HO0_1 BK0 HK HB; have n0_ := am (Kd.R_drew HO0_1.out); have n1_ := am (blk_drew BK0.out); have n2_ := am (Kept.drew HK.out); have n3_ := am (below_drew1 HB.out); clear HO0_1 BK0 HK HB; revert n0_ n1_ n2_ n3_; intro HO0_1 BK0 HK HB; have p543 : 0 ≤ ((ji4) : Int) := dT; have q543 : (ji4) < (y542.length : Int) := (by have h_ : ((ji4) : Int) < ((l0_1.length : Int) : Int) := dT; first | (have e_ := (Kd.R_reads' HO0_1.out).1; omega) | simpa only [Ny542.out, List.length_set] using h_); have ql543 : (((ji4) : Int) < ((l0_1.length : Int) : Int)) = True := eq_true (dT); obtain ⟨ad543, e543, hx543_0⟩ := Kd.at_int (Kd.R_reads' HO0_1.out).2.2 (ji4) p543 q543; obtain rfl : (⟨go10, 0, none⟩ : Addr) = ad543 := (by injection e543)
     (first | simp only [add_plain] at hx543_0 | simp only [add_at] at hx543_0 | simp only [Addr.add, Nat.zero_add] at hx543_0 | skip)
     replace p543 := eq_true p543; replace q543 := eq_true q543; have p13 : 0 ≤ ((ji4) : Int) := dT; have q13 : ((ji4) : Int) < ((l0_1.length : Int) : Int) := dT; obtain ⟨hx13_0, hf13_0⟩ := Kd.R_celln 0 HO0_1.out ((ji4) : Int) p13 q13; replace p13 := eq_true p13; replace q13 := eq_true q13; have HP19 := Kd.R_putn HO0_1.out ((ji4) : Int) (Go.bits .or .i64 (rd y542 (ji4)) (ji9)); rw [← Ny544.out] at HP19; have HQ19 := am HP19; clear HP19; refine start_ (n := 14) (S := fun w' => w'.cell? ⟨g0, 0, none⟩ = some (.int .i64 a0_0) ∧ w'.cell? ⟨g0, 1, none⟩ = some (.slice (some ⟨go10, 0, none⟩) l0_1.length co14) ∧ w'.cell? ⟨go10, ((ji4)).toNat, none⟩ = some (.int .i64 (rd y542 (ji4)))) (ds := [13]) (bA 14 0) (by kernel_rfl) rfl rfl ⟨cz BK0 0, cz BK0 1, hx543_0⟩ (fun hHeld => ?_); refine with_tabW impl_Bits_set.tab2 impl_Bits_set.bits2 (fun HT_ HW_ => ?_); generalize w17.drew = w18 at HO0_1 BK0 HK HB HQ16 HQ19 hf13_0 hx13_0 hx543_0 hHeld ⊢; refine pZ 0 (some 20) (bA 14 1) HT_.out ?_; refine pZ 1 (some 21) (bA 14 3) HT_.out ?_; refine pZ 2 (some 22) (bA 14 7) HT_.out ?_; refine pZ 4 (some 24) (bA 14 23) HT_.out ?_; refine pZ 5 (some 25) (bA 14 55) HT_.out ?_; refine pZ 8 (some 28) (bA 14 311) HT_.out ?_; refine pZ 9 (some 29) (bA 14 823) HT_.out ?_; refine pZ 10 (some 30) (bA 14 1847) HT_.out ?_; refine tZ3 3 (some 23) (bA 14 1855) HT_.out HW_.out hHeld ?_; refine pZ 6 (some 26) (bA 14 1919) HT_.out ?_; refine tZ3 7 (some 27) (bA 14 2047) HT_.out HW_.out hHeld ?_; refine pZ 11 (some 31) (bA 14 4095) HT_.out ?_; refine pZ 12 (some 32) (bA 14 8191) HT_.out ?_; refine lZ 13 none (bA 14 16383) HT_.out (fun K hK => ?_); refine skip_ (w1 := ?_) (by rfl) rfl ?_ ?_
     rotate_left
     ·go_simp
      rfl
     refine hK.out _ _ ?_; clear hK K; refine done_ (done_of HT_.out (by kernel_rfl)) ?_
     try go_wp2
     first | go_end0 | ((try simp only [Exit.inBlock, Exit.then]); refine bodyPost_ret (results_none rfl _ _ _) rfl ?_)
     exact ⟨by first | rfl | (simp [errW_none, errW_some] <;> rfl) | (simp only [← hji4, ← hji7, ← hji9]; first | rfl | (simp [errW_none, errW_some] <;> rfl)) | (simp [*, errW_none, errW_some] <;> rfl), Rz HQ19.out, Bq, by repeat (first | (with_reducible first | exact HK.out | apply Kept.alloc | apply Kept.drewN | apply Kept.drew | refine Kept.setCell ?_ HMgo10.out _ | refine Kept.setCell ?_ (.inr GW0.out) _) | exact HK.out)⟩
    ·replace c11 := Bool.eq_false_iff.mpr c11
     subst c11
     rw [if_neg (show ¬ (false = true) by decide)] at H; obtain rfl := Option.some.inj H
     go_enter Try.func138, Try.ntmps138
     try go_wp2
     obtain ⟨Ao20, co20, eo20⟩ := Kd.R_slice HO0_1.out; subst eo20; have n0_ := am (Kd.R_drew HO0_1.out); have n1_ := am (blk_drew BK0.out); have n2_ := am (Kept.drew HK.out); have n3_ := am (below_drew1 HB.out); clear HO0_1 BK0 HK HB; revert n0_ n1_ n2_ n3_; intro HO0_1 BK0 HK HB; obtain ⟨ad541, e541, hx541_0⟩ := Kd.at_int (Kd.R_reads' HO0_1.out).2.2 (ji4) dT dT; cases e541; have p541 := eT (0 ≤ ((ji4) : Int)); have q541 := eT ((ji4) < (l0_1.length : Int)); have p10 : 0 ≤ ((ji4) : Int) := dT; have q10 : ((ji4) : Int) < ((l0_1.length : Int) : Int) := dT; obtain ⟨go10, co10, eo10, gb10, gl10, cl10, HG10⟩ := Kd.R_form HO0_1.out (by omega)
     (first | cases eo10 | (injection eo10 with ea_ en_ ec_; (first | subst ea_ | (injection ea_ with ea_; subst ea_)); subst ec_; clear en_))
     have GB10 := am gb10; have GG10 := am HG10; clear gb10 gl10 HG10; have HMgo10 := am (show (P0_1_ go10 ∨ w.heap.size ≤ go10) from (HO0_1.out.1 _ rfl))
     (first | simp only [add_plain] at hx541_0 | skip)
     obtain ⟨hx10_0, hf10_0⟩ := Kd.R_celln 0 HO0_1.out ((ji4) : Int) p10 q10; replace p10 := eq_true p10; replace q10 := eq_true q10; have HP22 := Kd.R_putn HO0_1.out ((ji4) : Int) (Go.bits .andNot .i64 (rd l0_1 (ji4)) (ji9)); rw [← Ny542.out] at HP22; have HQ22 := am HP22; clear HP22; refine start_ (n := 14) (S := fun w' => w'.cell? ⟨g0, 0, none⟩ = some (.int .i64 a0_0) ∧ w'.cell? ⟨g0, 1, none⟩ = some (.slice (some ⟨go10, 0, none⟩) l0_1.length co20) ∧ w'.cell? ⟨go10, ((ji4)).toNat, none⟩ = some (.int .i64 (rd l0_1 (ji4)))) (ds := [13]) (bA 14 0) (by kernel_rfl) rfl rfl ⟨cz BK0 0, cz BK0 1, hx541_0⟩ (fun hHeld => ?_); refine with_tabW impl_Bits_set.tab0 impl_Bits_set.bits0 (fun HT_ HW_ => ?_); generalize w.drew = w21 at HO0_1 BK0 HK HB GG10 HQ22 hf10_0 hx10_0 hx541_0 hHeld ⊢; refine pZ 0 (some 6) (bA 14 1) HT_.out ?_; refine pZ 1 (some 7) (bA 14 3) HT_.out ?_; refine pZ 2 (some 8) (bA 14 7) HT_.out ?_; refine pZ 4 (some 10) (bA 14 23) HT_.out ?_; refine pZ 5 (some 11) (bA 14 55) HT_.out ?_; refine pZ 8 (some 14) (bA 14 311) HT_.out ?_; refine pZ 9 (some 15) (bA 14 823) HT_.out ?_; refine pZ 10 (some 16) (bA 14 1847) HT_.out ?_; refine tZ3 3 (some 9) (bA 14 1855) HT_.out HW_.out hHeld ?_; refine pZ 6 (some 12) (bA 14 1919) HT_.out ?_; refine tZ3 7 (some 13) (bA 14 2047) HT_.out HW_.out hHeld ?_; refine pZ 11 (some 17) (bA 14 4095) HT_.out ?_; refine pZ 12 (some 18) (bA 14 8191) HT_.out ?_; refine lZ 13 none (bA 14 16383) HT_.out (fun K hK => ?_); refine skip_ (w1 := ?_) (by rfl) rfl ?_ ?_
     rotate_left
     ·go_simp
      rfl
     refine hK.out _ _ ?_; clear hK K; refine done_ (done_of HT_.out (by kernel_rfl)) ?_
     try go_wp2
     first | go_end0 | ((try simp only [Exit.inBlock, Exit.then]); refine bodyPost_ret (results_none rfl _ _ _) rfl ?_)
     exact ⟨by first | rfl | (simp [errW_none, errW_some] <;> rfl) | (simp only [← hji4, ← hji7, ← hji9]; first | rfl | (simp [errW_none, errW_some] <;> rfl)) | (simp [*, errW_none, errW_some] <;> rfl), Rz HQ22.out, Bq, by repeat (first | (with_reducible first | exact HK.out | apply Kept.alloc | apply Kept.drewN | apply Kept.drew | refine Kept.setCell ?_ HMgo10.out _ | refine Kept.setCell ?_ (.inr GW0.out) _) | exact HK.out)⟩
   ·rw [if_neg c8] at H
    exact absurd H (by simp)
  ·rw [if_neg c6] at H
   exact absurd H (by simp)
 ·rw [if_neg c5] at H
  exact absurd H (by simp)

-- NOT PRINTED: function 63 (impl_madeBits)

-- NOT PRINTED: function 64 (impl_UsedOf_1)

def impl_UsedOf_1.f (a0 : Int) (a1_0 : Int) (a1_1 : Int) (l1_2 : List Int) : Option (Bool) := if 0 ≤ a0 then (if a0 < (l1_2.length : Int) then (some ((rd l1_2 a0) != 3)) else (none)) else (none)
theorem impl_UsedOf_1.calls (a0 : Int) (g1 : Nat) (a1_0 : Int) (a1_1 : Int) (A1_2 : Option Addr) (c1_2 : Nat) (l1_2 : List Int) (r : Bool) (w : World) (hb1 : w.heap[g1]? = some (.cells #[.int .i64 a1_0, .int .i64 a1_1, .slice A1_2 l1_2.length c1_2] 26 (0, 0))) (hr1_2 : Kd.C (Kd.int .i64) w A1_2 l1_2.length l1_2) (hc1_2 : l1_2.length ≤ c1_2) (h : impl_UsedOf_1.f a0 a1_0 a1_1 l1_2 = some r) :
  Calls Try.prog 64 #[.int .i64 a0, .pointer (some ⟨g1, 0, none⟩)] w fun e w' => e = .returned (.bool r) ∧ Drawn0 w w' := by
 have HR1_2 := am hr1_2; have HC1_2 := am hc1_2; clear hr1_2 hc1_2; have BK1 := am hb1; clear hb1; have H : (if 0 ≤ a0 then (if a0 < (l1_2.length : Int) then (some ((rd l1_2 a0) != 3)) else (none)) else (none)) = some r := h; clear h
 by_cases c3 : 0 ≤ a0
 ·rw [if_pos c3] at H
  have c3b0 : decide (0 ≤ a0) = true := decide_eq_true c3; clear c3
  by_cases c4 : a0 < (l1_2.length : Int)
  ·rw [if_pos c4] at H
   have c4b0 : decide (a0 < (l1_2.length : Int)) = true := decide_eq_true c4; clear c4; obtain rfl := Option.some.inj H; obtain ⟨hcz5_0, hcz5_1, hcz5_2, hfz5_0, hfz5_1, hfz5_2⟩ := cf3 (w := w) BK1; obtain ⟨ad554, e554, hx554_0⟩ := Kd.at_int HR1_2.out a0 dT dT; cases e554; have p554 := eT (0 ≤ (a0 : Int)); have q554 := eT (a0 < (l1_2.length : Int))
   go_enter Try.func64, Try.ntmps64
   go_wp2
   go_ret
   exact ⟨by first | rfl | (simp; done) | (simp [*]; done), by repeat (first | exact Drawn0.refl _ | apply Drawn0.step)⟩
  ·rw [if_neg c4] at H
   exact absurd H (by simp)
 ·rw [if_neg c3] at H
  exact absurd H (by simp)

def impl_madeBits_at_impl_UsedOf_1.l0 : Nat → Int → Int → Int → Int → List Int → Int → List Int → Option (Int × List Int)
 | 0, _, _, _, _, _, _, _ => none
 | k + 1, x9, x10, x3000, x3001, x3002, x561000, x561001 => if x10 < x9 then ((impl_UsedOf_1.f x10 x3000 x3001 x3002).bind fun t561 => ((impl_Bits_set.f x561000 x561001 x10 t561).bind fun t562 => (impl_madeBits_at_impl_UsedOf_1.l0 k x9 (wrap64 (x10 + 1)) x3000 x3001 x3002 x561000 t562))) else (some (x561000, x561001))
def impl_madeBits_at_impl_UsedOf_1.f (k : Nat) (a0 : Int)  (a2_0 : Int) (a2_1 : Int) (l2_2 : List Int) : Option (Int × List Int) := (impl_blank.f a0).bind fun bt556 => (impl_madeBits_at_impl_UsedOf_1.l0 k a0 0 a2_0 a2_1 l2_2 bt556.1 bt556.2)
theorem impl_madeBits_at_impl_UsedOf_1.calls (k : Nat) (a0 : Int)  (g2 : Nat) (a2_0 : Int) (a2_1 : Int) (A2_2 : Option Addr) (c2_2 : Nat) (l2_2 : List Int) (r1 : Int) (r2 : List Int) (w : World) (hb2 : w.heap[g2]? = some (.cells #[.int .i64 a2_0, .int .i64 a2_1, .slice A2_2 l2_2.length c2_2] 26 (0, 0))) (hr2_2 : Kd.C (Kd.int .i64) w A2_2 l2_2.length l2_2) (hc2_2 : l2_2.length ≤ c2_2) (h : impl_madeBits_at_impl_UsedOf_1.f k a0 a2_0 a2_1 l2_2 = some (r1, r2)) :
  Calls Try.prog 63 #[.int .i64 a0, .func (.func 64) #[] #[.pointer (some ⟨g2, 0, none⟩)]] w fun e w' => ∃ v1_ : Value, e = .returned (.agg #[.int .i64 r1, v1_]) ∧ Kd.R (Kd.int .i64) 3 w' w.heap.size (fun _ => True) v1_ r2 ∧ Below w.heap.size w w' := by
 have hu38 := Try.underlying38; have HR2_2 := am hr2_2; have HC2_2 := am hc2_2; clear hr2_2 hc2_2; have BK2 := am hb2; clear hb2; have HB := am (Below.refl w.heap.size w); have H : ((impl_blank.f a0).bind fun bt556 => (impl_madeBits_at_impl_UsedOf_1.l0 k a0 0 a2_0 a2_1 l2_2 bt556.1 bt556.2)) = some (r1, r2) := h; clear h; replace H := Option.bind_eq_some_iff.mp H; obtain ⟨⟨t556, t557⟩, A40, H⟩ := H; (try dsimp -simprocs only at H); have A4 := am A40; clear A40; have H' := am H; clear H
 go_enter Try.func63, Try.ntmps63
 go_wp2_with (first | ((with_reducible refine gate_dst (N := 4) rfl ?_); refine bE 4 #[.int .i64 0, .slice none 0 0] 38 ?_; intro gb555 hg w5 hbox hb; have n0_ := Kb BK2 hb; have n1_ := Bc HB hb; have n2_ := am (hbox); have n3_ := Gm HB hg; have n4_ := Gm HB hg; have n5_ := Nl BK2 hg; have n6_ := Ng BK2 hg; clear BK2 HB; revert n0_ n1_ n2_ n3_ n4_ n5_ n6_; intro BK2 HB BK555 GW555 GE555 NB2_555 NB555_2; clear hb hbox hg) | ((with_reducible refine gate_callee (f := 137) rfl ?_); refine gL (some 8) Try.func137 #[.int .i64 a0] ?_; (with_reducible refine (impl_blank.calls a0 t556 t557 _ A4.out).mono ?_); rintro e w6 ⟨v558, rfl, ho0, hb⟩; refine ⟨_, rfl, ?_⟩; have n0_ := Rm ho0 HB; have n1_ := Kb BK2 hb; have n2_ := Kb BK555 hb; have n3_ := Bc HB hb; clear BK2 BK555 HB; revert n0_ n1_ n2_ n3_; intro HO559 BK2 BK555 HB; (try clear hb); (try clear hb2); (try clear hk); (try clear hi); (try clear ho0)) | ((with_reducible refine gate_dst (N := 5) rfl ?_); refine bE 5 #[.int .i64 0, .slice none 0 0] 38 ?_; intro gb560 hg w7 hbox hb; have n0_ := Rb HO559 hb; have n1_ := Kb BK2 hb; have n2_ := Kb BK555 hb; have n3_ := Bc HB hb; have n4_ := am (hbox); have n5_ := Gm HB hg; have n6_ := Gm HB hg; have n7_ := Nl BK2 hg; have n8_ := Ng BK2 hg; have n9_ := Nl BK555 hg; have n10_ := Ng BK555 hg; clear HO559 BK2 BK555 HB; revert n0_ n1_ n2_ n3_ n4_ n5_ n6_ n7_ n8_ n9_ n10_; intro HO559 BK2 BK555 HB BK560 GW560 GE560 NB2_560 NB560_2 NB555_560 NB560_555; clear hb hbox hg; have hnb8 := NB560_2.out; have hnc8 := NB2_560.out; have hnb9 := NB560_555.out; have hnc9 := NB555_560.out; obtain ⟨hcz10_0, hcz10_1, hfz10_0, hfz10_1⟩ := cf2 (w := w7) BK560; obtain ⟨Ao11, co11, eo11⟩ := Kd.R_slice HO559.out; subst eo11))
 (try simp only [aP])
 go_loopg [10] k (fun kq v10 w' => ∃ (x10_1 : Int) (x561001_1 : List Int) (u561001 : Value), v10 = .int .i64 x10_1 ∧ Aside0 (impl_madeBits_at_impl_UsedOf_1.l0 kq a0 x10_1 a2_0 a2_1 l2_2 t556 x561001_1 = some (r1, r2)) ∧ Aside0 (kq ≤ k) ∧ Aside0 (Kd.R (Kd.int .i64) 3 w' w.heap.size (fun _ => True) u561001 x561001_1) ∧ Aside0 (w'.heap[g2]? = some (.cells #[.int .i64 a2_0, .int .i64 a2_1, (.slice A2_2 l2_2.length c2_2)] 26 (0, 0))) ∧ Aside0 (w'.heap[gb555]? = some (.cells #[.int .i64 0, (.slice none 0 0)] 38 (0, 0))) ∧ Aside0 (w'.heap[gb560]? = some (.cells #[.int .i64 t556, u561001] 38 (0, 0))) ∧ Aside0 (Below w.heap.size w w'))
 case atStart => exact ⟨(0), (t557), (.slice Ao11 t557.length co11), wZ, H', ⟨Nat.le_refl _⟩, ⟨Rz (Kd.R_mono (Kd.R_far (p := ⟨gb560, 1, none⟩) (Kd.R_far (p := ⟨gb560, 0, none⟩) (Kd.R_types HO559.out BK560.out (by decide)) (fun _ hk => hk.2) (.int .i64 t556)) (fun _ hk => hk.2) (.slice Ao11 t557.length co11)) (fun _ hk => trivial))⟩, ⟨by (with_reducible repeat (first | refine blk_drewN ?_ _ | refine blk_drew ?_ | refine blk_alloc ?_ _)); refine blk_far ?_ NB2_560.out _; (with_reducible repeat (first | refine blk_drewN ?_ _ | refine blk_drew ?_ | refine blk_alloc ?_ _)); refine blk_far ?_ NB2_560.out _; (with_reducible repeat (first | refine blk_drewN ?_ _ | refine blk_drew ?_ | refine blk_alloc ?_ _)); exact BK2.out⟩, ⟨by (with_reducible repeat (first | refine blk_drewN ?_ _ | refine blk_drew ?_ | refine blk_alloc ?_ _)); refine blk_far ?_ NB555_560.out _; (with_reducible repeat (first | refine blk_drewN ?_ _ | refine blk_drew ?_ | refine blk_alloc ?_ _)); refine blk_far ?_ NB555_560.out _; (with_reducible repeat (first | refine blk_drewN ?_ _ | refine blk_drew ?_ | refine blk_alloc ?_ _)); exact BK555.out⟩, ⟨by (with_reducible repeat (first | refine blk_drewN ?_ _ | refine blk_drew ?_ | refine blk_alloc ?_ _)); refine blk_put (cs := #[.int .i64 t556, .slice none 0 0]) ?_ 1 _ rfl; (with_reducible repeat (first | refine blk_drewN ?_ _ | refine blk_drew ?_ | refine blk_alloc ?_ _)); refine blk_put (cs := #[.int .i64 0, .slice none 0 0]) ?_ 0 _ rfl; (with_reducible repeat (first | refine blk_drewN ?_ _ | refine blk_drew ?_ | refine blk_alloc ?_ _)); exact BK560.out⟩, ⟨Bq⟩⟩
 case round =>
  clear H'
  try clear c1
  try clear c2
  try clear p2
  try clear c6
  try clear c8
  try clear c9
  try clear hcz10_0
  try clear hcz10_1
  try clear hfz10_0
  try clear hfz10_1
  obtain ⟨x10_1, x561001_1, u561001, rfl, HA, HK1, HO_561001, BK2, BK555, BK560, HB⟩ := hrel; cases gk with
  | zero => exact absurd HA.out (by simp [impl_madeBits_at_impl_UsedOf_1.l0])
  | succ k1 =>
   have H := HA.out; clear HA
   simp only [impl_madeBits_at_impl_UsedOf_1.l0] at H
   by_cases c12 : x10_1 < a0
   ·rw [if_pos c12] at H
    have c12b0 : decide (x10_1 < a0) = true := decide_eq_true c12; clear c12; replace H := Option.bind_eq_some_iff.mp H; obtain ⟨t561, A130, H⟩ := H; (try dsimp -simprocs only at H); have A13 := am A130; clear A130; replace H := Option.bind_eq_some_iff.mp H; obtain ⟨t562, A140, H⟩ := H; (try dsimp -simprocs only at H); have A14 := am A140; clear A140; have H' := am H; clear H
    go_wp2_with (first | (go_at_call 64; (with_reducible refine (impl_UsedOf_1.calls x10_1 g2 a2_0 a2_1 A2_2 c2_2 l2_2 t561 _ ?side1 ?side2 ?side3 A13.out).mono ?_); (case side1 => exact Kz BK2.out); (case side2 => exact Cz (Kd.C_below HR2_2.out HB.out)); (case side3 => exact HC2_2.out); rintro e w' ⟨rfl, ⟨nd, rfl⟩⟩; obtain ⟨Ao15, co15, eo15⟩ := Kd.R_slice HO_561001.out; subst eo15) | ((with_reducible refine gate_callee (f := 138) rfl ?_); refine gL (some 17) Try.func138 #[.pointer (some ⟨gb560, 0, none⟩), .int .i64 x10_1, .bool t561] ?_; (with_reducible refine (impl_Bits_set.calls gb560 t556 (fun k_ => some k_ = (.slice Ao15 x561001_1.length co15 : Value).ownBlock) (.slice Ao15 x561001_1.length co15) x561001_1 x10_1 t561 t562 w _ ?side1 ?side2 ?side3 A14.out).mono ?_); (case side1 => repeat (first | (with_reducible first | exact HB.out | apply below_alloc | apply pw_below_drewN | apply below_drew1 | refine below_set ?_ GE2.out | refine below_set ?_ GE555.out | refine below_set ?_ GE560.out) | exact HB.out)); (case side2 => exact Kz BK560.out); (case side3 => exact Kd.R_tight rfl HO_561001.out); rintro e w16 ⟨rfl, hy0, hb, hkp⟩; refine ⟨_, rfl, ?_⟩; have n0_ := am (Kd.R_reok rfl hy0 (fun k_ e_ => HO_561001.out.1 k_ e_)); have n1_ := am (blk_kept (Kz BK2.out) hkp (fun hs_ => (fun e_ => (Kd.R_ne HO_561001.out BK2.out (by decide)) e_) hs_)); have n2_ := am (blk_kept (Kz BK555.out) hkp (fun hs_ => (fun e_ => (Kd.R_ne HO_561001.out BK555.out (by decide)) e_) hs_)); have n3_ := am (blk_kept (Kz BK560.out) hkp (fun hs_ => (fun e_ => (Kd.R_ne HO_561001.out BK560.out (by decide)) e_) hs_)); have n4_ := am (hb); clear HO_561001 BK2 BK555 BK560 HB; revert n0_ n1_ n2_ n3_ n4_; intro HO_561001 BK2 BK555 BK560 HB; (try clear hb); (try clear hkp); (try clear hy0)))
    go_roundg k1
    case measure => have := HK1.out; omega
    case rel => exact ⟨(wrap64 (x10_1 + 1)), (t562), (.slice Ao15 x561001_1.length co15), wZ, H', ⟨by have := HK1.out; omega⟩, ⟨Rz HO_561001.out⟩, ⟨Kz BK2.out⟩, ⟨Kz BK555.out⟩, ⟨Kz BK560.out⟩, ⟨Bq⟩⟩
   ·rw [if_neg c12] at H
    have c12b0 : decide (x10_1 < a0) = false := decide_eq_false c12; clear c12
    simp only [Option.some.injEq, Prod.mk.injEq] at H
    obtain ⟨rfl, rfl⟩ := H; have hnb17 := NB560_2.out; have hnc17 := NB2_560.out; have hnb18 := NB560_555.out; have hnc18 := NB555_560.out; obtain ⟨hcz19_0, hcz19_1, hfz19_0, hfz19_1⟩ := cf2 (w := wr) BK560; have hnb20 := NB555_2.out; have hnc20 := NB2_555.out; obtain ⟨hcz21_0, hcz21_1, hfz21_0, hfz21_1⟩ := cf2 (w := wr) BK555; obtain ⟨Ao22, co22, eo22⟩ := Kd.R_slice HO_561001.out; subst eo22
    go_wp2
    refine bodyPost_ret (results_cell_row rfl _ _ gb555 38 #[.int .i64 t556, .slice Ao22 x561001_1.length co22] (0, 0) _ rfl (by (with_reducible repeat (first | refine blk_drewN ?_ _ | refine blk_drew ?_ | refine blk_alloc ?_ _)); refine blk_put (cs := #[.int .i64 t556, .slice none 0 0]) ?_ 1 _ rfl; (with_reducible repeat (first | refine blk_drewN ?_ _ | refine blk_drew ?_ | refine blk_alloc ?_ _)); refine blk_put (cs := #[.int .i64 0, .slice none 0 0]) ?_ 0 _ rfl; exact Kz BK555.out) Try.underlying38 rfl (by kernel_rfl)) rfl ?_; exact ⟨_, eZ, Rz (Kd.R_mono (Kd.R_far (p := ⟨gb555, 1, none⟩) (Kd.R_far (p := ⟨gb555, 0, none⟩) (Kd.R_types HO_561001.out BK555.out (by decide)) (fun _ hk => hk.2) (.int .i64 t556)) (fun _ hk => hk.2) (.slice Ao22 x561001_1.length co22)) (fun _ hk => trivial)), Bq⟩

def impl_UsedOf.f (k : Nat) (a0_0 : Int) (a0_1 : Int) (l0_2 : List Int) : Option (Int × List Int × List Int × List Int × Bool) := (impl_IsPeeled.f k a0_0 a0_1 l0_2).bind fun t565 => (if t565 = true then ((impl_madeBits_at_impl_UsedOf_1.f k (l0_2.length : Int) a0_0 a0_1 l0_2).bind fun bt566 => ((impl_ranked.f k bt566.1 bt566.2).bind fun bt570 => (some (bt570.1, bt570.2.1, bt570.2.2.1, bt570.2.2.2, true)))) else (some (0, ([] : List Int), ([] : List Int), ([] : List Int), false)))
theorem impl_UsedOf.calls (k : Nat) (a0_0 : Int) (a0_1 : Int) (A0_2 : Option Addr) (c0_2 : Nat) (l0_2 : List Int) (r1 : Int) (r2 : List Int) (r3 : List Int) (r4 : List Int) (r5 : Bool) (w : World) (hr0_2 : Kd.C (Kd.int .i64) w A0_2 l0_2.length l0_2) (hc0_2 : l0_2.length ≤ c0_2) (h : impl_UsedOf.f k a0_0 a0_1 l0_2 = some (r1, r2, r3, r4, r5)) :
  Calls Try.prog 14 #[.agg #[.int .i64 a0_0, .int .i64 a0_1, .slice A0_2 l0_2.length c0_2]] w fun e w' => ∃ v1_ v2_ v3_ : Value, e = .returned (.tuple #[.agg #[.int .i64 r1, v1_, v2_, v3_], .bool r5]) ∧ Kd.R (Kd.int .i64) 3 w' w.heap.size (fun k_ => some k_ ≠ (v2_ : Value).ownBlock ∧ some k_ ≠ (v3_ : Value).ownBlock) v1_ r2 ∧ Kd.R (Kd.int .i64) 3 w' w.heap.size (fun k_ => some k_ ≠ (v1_ : Value).ownBlock ∧ some k_ ≠ (v3_ : Value).ownBlock) v2_ r3 ∧ Kd.R (Kd.int .i64) 3 w' w.heap.size (fun k_ => some k_ ≠ (v1_ : Value).ownBlock ∧ some k_ ≠ (v2_ : Value).ownBlock) v3_ r4 ∧ Below w.heap.size w w' := by
 have hu26 := Try.underlying26; have hu40 := Try.underlying40; have HR0_2 := am hr0_2; have HC0_2 := am hc0_2; clear hr0_2 hc0_2; have HB := am (Below.refl w.heap.size w); have H : ((impl_IsPeeled.f k a0_0 a0_1 l0_2).bind fun t565 => (if t565 = true then ((impl_madeBits_at_impl_UsedOf_1.f k (l0_2.length : Int) a0_0 a0_1 l0_2).bind fun bt566 => ((impl_ranked.f k bt566.1 bt566.2).bind fun bt570 => (some (bt570.1, bt570.2.1, bt570.2.2.1, bt570.2.2.2, true)))) else (some (0, ([] : List Int), ([] : List Int), ([] : List Int), false)))) = some (r1, r2, r3, r4, r5) := h; clear h; replace H := Option.bind_eq_some_iff.mp H; obtain ⟨t565, A20, H⟩ := H; (try dsimp -simprocs only at H); have A2 := am A20; clear A20
 by_cases c3 : t565 = true
 ·subst c3
  rw [if_pos rfl] at H; replace H := Option.bind_eq_some_iff.mp H; obtain ⟨⟨t566, t567⟩, A40, H⟩ := H; (try dsimp -simprocs only at H); have A4 := am A40; clear A40; replace H := Option.bind_eq_some_iff.mp H; obtain ⟨⟨t570, t571, t574, t577⟩, A50, H⟩ := H; (try dsimp -simprocs only at H); have A5 := am A50; clear A50
  simp only [Option.some.injEq, Prod.mk.injEq] at H
  obtain ⟨rfl, rfl, rfl, rfl, rfl⟩ := H
  go_enter Try.func14, Try.ntmps14
  go_wp2_with (first | ((with_reducible refine gate_dst (N := 1) rfl ?_); refine bE 1 #[.int .i64 a0_0, .int .i64 a0_1, .slice A0_2 l0_2.length c0_2] 26 ?_; intro gb563 hg w6 hbox hb; have n0_ := Bb HB hb; have n1_ := am (hbox); have n2_ := Gl HB hg; have n3_ := Gl HB hg; clear HB; revert n0_ n1_ n2_ n3_; intro HB BK563 GW563 GE563; clear hb hbox hg) | ((with_reducible refine gate_dst (N := 2) rfl ?_); refine bE 2 #[.int .i64 0, .slice none 0 0, .slice none 0 0, .slice none 0 0] 40 ?_; intro gb564 hg w7 hbox hb; have n0_ := Kb BK563 hb; have n1_ := Bc HB hb; have n2_ := am (hbox); have n3_ := Gm HB hg; have n4_ := Gm HB hg; have n5_ := Nl BK563 hg; have n6_ := Ng BK563 hg; clear BK563 HB; revert n0_ n1_ n2_ n3_ n4_ n5_ n6_; intro BK563 HB BK564 GW564 GE564 NB563_564 NB564_563; clear hb hbox hg; have hnb8 := NB563_564.out; have hnc8 := NB564_563.out; obtain ⟨hcz9_0, hcz9_1, hcz9_2, hfz9_0, hfz9_1, hfz9_2⟩ := cf3 (w := w7) BK563) | ((with_reducible refine gate_callee (f := 51) rfl ?_); refine gL (some 5) Try.func51 #[.agg #[.int .i64 a0_0, .int .i64 a0_1, .slice A0_2 l0_2.length c0_2]] ?_; (with_reducible refine (impl_IsPeeled.calls k a0_0 a0_1 _ _ l0_2 true _ ?side1 ?side2 A2.out).mono ?_); (case side1 => exact Cz (Kd.C_below HR0_2.out HB.out)); (case side2 => exact HC0_2.out); rintro e w10 ⟨rfl, hb⟩; refine ⟨_, rfl, ?_⟩; have n0_ := Kb BK563 hb; have n1_ := Kb BK564 hb; have n2_ := Bc HB hb; clear BK563 BK564 HB; revert n0_ n1_ n2_; intro BK563 BK564 HB; (try clear hb); (try clear hb2); (try clear hk); (try clear hi); obtain ⟨hcz11_0, hcz11_1, hcz11_2, hfz11_0, hfz11_1, hfz11_2⟩ := cf3 (w := w10) BK563) | ((with_reducible refine gate_callee (f := 63) rfl ?_); refine gL (some 12) Try.func63 #[.int .i64 (l0_2.length : Int), .func (.func 64) #[] #[.pointer (some ⟨gb563, 0, none⟩)]] ?_; (with_reducible refine (impl_madeBits_at_impl_UsedOf_1.calls k (l0_2.length : Int)  gb563 a0_0 a0_1 A0_2 c0_2 l0_2 t566 t567 _ ?side1 ?side2 ?side3 A4.out).mono ?_); (case side1 => exact Kz BK563.out); (case side2 => exact Cz (Kd.C_below HR0_2.out HB.out)); (case side3 => exact HC0_2.out); rintro e w12 ⟨v568, rfl, ho0, hb⟩; refine ⟨_, rfl, ?_⟩; have n0_ := Rm ho0 HB; have n1_ := Kb BK563 hb; have n2_ := Kb BK564 hb; have n3_ := Bc HB hb; clear BK563 BK564 HB; revert n0_ n1_ n2_ n3_; intro HO569 BK563 BK564 HB; (try clear hb); (try clear hb2); (try clear hk); (try clear hi); (try clear ho0); obtain ⟨Ao13, co13, eo13⟩ := Kd.R_slice HO569.out; subst eo13) | ((with_reducible refine gate_callee (f := 62) rfl ?_); refine gL (some 13) Try.func62 #[.agg #[.int .i64 t566, .slice Ao13 t567.length co13]] ?_; (with_reducible refine (impl_ranked.calls k t566 _ _ t567 t570 t571 t574 t577 _ ?side1 ?side2 A5.out).mono ?_); (case side1 => exact Cz ((Kd.R_reads' HO569.out).2.2)); (case side2 => exact (Kd.R_reads' HO569.out).2.1); rintro e w14 ⟨v572, v575, v578, rfl, ho0, ho1, ho2, hb⟩; refine ⟨_, rfl, ?_⟩; have n0_ := am (Kd.R_mono (Kd.R_told (Kd.R_told (Kd.R_told (Kd.R_old (Rz HO569.out) hb) (Kd.R_base ho0)) (Kd.R_base ho1)) (Kd.R_base ho2)) (fun _ h_ => h_.1)); have n1_ := Rm (Kd.R_new' ho0 (Kd.R_lt (Rz HO569.out))) HB; have n2_ := Rm (Kd.R_new' ho1 (Kd.R_lt (Rz HO569.out))) HB; have n3_ := Rm (Kd.R_new' ho2 (Kd.R_lt (Rz HO569.out))) HB; have n4_ := Kb BK563 hb; have n5_ := Kb BK564 hb; have n6_ := Bc HB hb; clear HO569 BK563 BK564 HB; revert n0_ n1_ n2_ n3_ n4_ n5_ n6_; intro HO569 HO573 HO576 HO579 BK563 BK564 HB; (try clear hb); (try clear hb2); (try clear hk); (try clear hi); (try clear ho0); (try clear ho1); (try clear ho2); obtain ⟨hcz15_0, hcz15_1, hcz15_2, hcz15_3, hfz15_0, hfz15_1, hfz15_2, hfz15_3⟩ := cf4 (w := w14) BK564; obtain ⟨Ao16, co16, eo16⟩ := Kd.R_slice HO573.out; subst eo16; obtain ⟨Ao17, co17, eo17⟩ := Kd.R_slice HO576.out; subst eo17; obtain ⟨Ao18, co18, eo18⟩ := Kd.R_slice HO579.out; subst eo18))
  refine bodyPost_ret (results_ct rfl _ _ gb564 40 #[.int .i64 t570, .slice Ao16 t571.length co16, .slice Ao17 t574.length co17, .slice Ao18 t577.length co18] (0, 0) _ rfl (by (with_reducible repeat (first | refine blk_drewN ?_ _ | refine blk_drew ?_ | refine blk_alloc ?_ _)); refine blk_put (cs := #[.int .i64 t570, .slice Ao16 t571.length co16, .slice Ao17 t574.length co17, .slice none 0 0]) ?_ 3 _ rfl; (with_reducible repeat (first | refine blk_drewN ?_ _ | refine blk_drew ?_ | refine blk_alloc ?_ _)); refine blk_put (cs := #[.int .i64 t570, .slice Ao16 t571.length co16, .slice none 0 0, .slice none 0 0]) ?_ 2 _ rfl; (with_reducible repeat (first | refine blk_drewN ?_ _ | refine blk_drew ?_ | refine blk_alloc ?_ _)); refine blk_put (cs := #[.int .i64 t570, .slice none 0 0, .slice none 0 0, .slice none 0 0]) ?_ 1 _ rfl; (with_reducible repeat (first | refine blk_drewN ?_ _ | refine blk_drew ?_ | refine blk_alloc ?_ _)); refine blk_put (cs := #[.int .i64 0, .slice none 0 0, .slice none 0 0, .slice none 0 0]) ?_ 0 _ rfl; exact Kz BK564.out) Try.underlying40 rfl (by kernel_rfl)) rfl ?_; exact ⟨_, _, _, eZ, Rz (Kd.R_mono (Kd.R_far (p := ⟨gb564, 3, none⟩) (Kd.R_far (p := ⟨gb564, 2, none⟩) (Kd.R_far (p := ⟨gb564, 1, none⟩) (Kd.R_far (p := ⟨gb564, 0, none⟩) (Kd.R_types HO573.out BK564.out (by decide)) (fun _ hk => hk.2) (.int .i64 t570)) (fun _ hk => hk.2) (.slice Ao16 t571.length co16)) (fun _ hk => hk.2) (.slice Ao17 t574.length co17)) (fun _ hk => hk.2) (.slice Ao18 t577.length co18)) (fun _ hk => ⟨hk.1.1.1, hk.1.1.2⟩)), Rz (Kd.R_mono (Kd.R_far (p := ⟨gb564, 3, none⟩) (Kd.R_far (p := ⟨gb564, 2, none⟩) (Kd.R_far (p := ⟨gb564, 1, none⟩) (Kd.R_far (p := ⟨gb564, 0, none⟩) (Kd.R_types HO576.out BK564.out (by decide)) (fun _ hk => hk.2) (.int .i64 t570)) (fun _ hk => hk.2) (.slice Ao16 t571.length co16)) (fun _ hk => hk.2) (.slice Ao17 t574.length co17)) (fun _ hk => hk.2) (.slice Ao18 t577.length co18)) (fun _ hk => ⟨hk.1.1.1, hk.1.1.2⟩)), Rz (Kd.R_mono (Kd.R_far (p := ⟨gb564, 3, none⟩) (Kd.R_far (p := ⟨gb564, 2, none⟩) (Kd.R_far (p := ⟨gb564, 1, none⟩) (Kd.R_far (p := ⟨gb564, 0, none⟩) (Kd.R_types HO579.out BK564.out (by decide)) (fun _ hk => hk.2) (.int .i64 t570)) (fun _ hk => hk.2) (.slice Ao16 t571.length co16)) (fun _ hk => hk.2) (.slice Ao17 t574.length co17)) (fun _ hk => hk.2) (.slice Ao18 t577.length co18)) (fun _ hk => ⟨hk.1.1.1, hk.1.1.2⟩)), Bq⟩
 ·replace c3 := Bool.eq_false_iff.mpr c3
  subst c3
  rw [if_neg (show ¬ (false = true) by decide)] at H
  simp only [Option.some.injEq, Prod.mk.injEq] at H
  obtain ⟨rfl, rfl, rfl, rfl, rfl⟩ := H
  go_enter Try.func14, Try.ntmps14
  go_wp2_with (first | ((with_reducible refine gate_dst (N := 1) rfl ?_); refine bE 1 #[.int .i64 a0_0, .int .i64 a0_1, .slice A0_2 l0_2.length c0_2] 26 ?_; intro gb563 hg w19 hbox hb; have n0_ := Bb HB hb; have n1_ := am (hbox); have n2_ := Gl HB hg; have n3_ := Gl HB hg; clear HB; revert n0_ n1_ n2_ n3_; intro HB BK563 GW563 GE563; clear hb hbox hg) | ((with_reducible refine gate_dst (N := 2) rfl ?_); refine bE 2 #[.int .i64 0, .slice none 0 0, .slice none 0 0, .slice none 0 0] 40 ?_; intro gb564 hg w20 hbox hb; have n0_ := Kb BK563 hb; have n1_ := Bc HB hb; have n2_ := am (hbox); have n3_ := Gm HB hg; have n4_ := Gm HB hg; have n5_ := Nl BK563 hg; have n6_ := Ng BK563 hg; clear BK563 HB; revert n0_ n1_ n2_ n3_ n4_ n5_ n6_; intro BK563 HB BK564 GW564 GE564 NB563_564 NB564_563; clear hb hbox hg; have hnb21 := NB563_564.out; have hnc21 := NB564_563.out; obtain ⟨hcz22_0, hcz22_1, hcz22_2, hfz22_0, hfz22_1, hfz22_2⟩ := cf3 (w := w20) BK563) | ((with_reducible refine gate_callee (f := 51) rfl ?_); refine gL (some 5) Try.func51 #[.agg #[.int .i64 a0_0, .int .i64 a0_1, .slice A0_2 l0_2.length c0_2]] ?_; (with_reducible refine (impl_IsPeeled.calls k a0_0 a0_1 _ _ l0_2 false _ ?side1 ?side2 A2.out).mono ?_); (case side1 => exact Cz (Kd.C_below HR0_2.out HB.out)); (case side2 => exact HC0_2.out); rintro e w23 ⟨rfl, hb⟩; refine ⟨_, rfl, ?_⟩; have n0_ := Kb BK563 hb; have n1_ := Kb BK564 hb; have n2_ := Bc HB hb; clear BK563 BK564 HB; revert n0_ n1_ n2_; intro BK563 BK564 HB; (try clear hb); (try clear hb2); (try clear hk); (try clear hi); obtain ⟨hcz24_0, hcz24_1, hcz24_2, hcz24_3, hfz24_0, hfz24_1, hfz24_2, hfz24_3⟩ := cf4 (w := w23) BK564))
  refine bodyPost_ret (results_ct rfl _ _ gb564 40 #[.int .i64 0, .slice none 0 0, .slice none 0 0, .slice none 0 0] (0, 0) _ rfl (by (with_reducible repeat (first | refine blk_drewN ?_ _ | refine blk_drew ?_ | refine blk_alloc ?_ _)); refine blk_put (cs := #[.int .i64 0, .slice none 0 0, .slice none 0 0, .slice none 0 0]) ?_ 3 _ rfl; (with_reducible repeat (first | refine blk_drewN ?_ _ | refine blk_drew ?_ | refine blk_alloc ?_ _)); refine blk_put (cs := #[.int .i64 0, .slice none 0 0, .slice none 0 0, .slice none 0 0]) ?_ 2 _ rfl; (with_reducible repeat (first | refine blk_drewN ?_ _ | refine blk_drew ?_ | refine blk_alloc ?_ _)); refine blk_put (cs := #[.int .i64 0, .slice none 0 0, .slice none 0 0, .slice none 0 0]) ?_ 1 _ rfl; (with_reducible repeat (first | refine blk_drewN ?_ _ | refine blk_drew ?_ | refine blk_alloc ?_ _)); refine blk_put (cs := #[.int .i64 0, .slice none 0 0, .slice none 0 0, .slice none 0 0]) ?_ 0 _ rfl; exact Kz BK564.out) Try.underlying40 rfl (by kernel_rfl)) rfl ?_; exact ⟨_, _, _, eZ, nZ, nZ, nZ, Bq⟩

mutual
def impl_IsBits.j0 : Nat → Bool → Int → List Int → Option (Bool)
 | 0, _, _, _ => none
 | k + 1, x18, x581000, x581001 => if x18 = true then (some false) else (impl_IsBits.l0 k x581001 (x581001.length : Int) 0 x581000 x581001)
def impl_IsBits.l0 : Nat → List Int → Int → Int → Int → List Int → Option (Bool)
 | 0, _, _, _, _, _ => none
 | k + 1, x20, x21, x22, x581000, x581001 => if x22 < x21 then (if 0 ≤ x22 then (if x22 < (x20.length : Int) then ((impl_in.f (rd x20 x22) 0 65535).bind fun t584 => (if t584 = true then (impl_IsBits.l0 k x20 x21 (wrap64 (x22 + 1)) x581000 x581001) else (some false))) else (none)) else (none)) else (if (Int.tmod x581000 16) = 0 then (some true) else (if 0 ≤ (wrap64 ((x581001.length : Int) - 1)) then (if (wrap64 ((x581001.length : Int) - 1)) < (x581001.length : Int) then (if 0 ≤ (Int.tmod x581000 16) then (some ((shr .i64 (rd x581001 (wrap64 ((x581001.length : Int) - 1))) (Int.tmod x581000 16)) == 0)) else (none)) else (none)) else (none)))
end
def impl_IsBits.f (k : Nat) (a0_0 : Int) (l0_1 : List Int) : Option (Bool) := (impl_in.f a0_0 0 4096).bind fun t581 => (if t581 = true then ((impl_words.f a0_0).bind fun t582 => (impl_IsBits.j0 k ((l0_1.length : Int) != t582) a0_0 l0_1)) else (impl_IsBits.j0 k true a0_0 l0_1))
theorem impl_IsBits.calls (k : Nat) (a0_0 : Int) (A0_1 : Option Addr) (c0_1 : Nat) (l0_1 : List Int) (r : Bool) (w : World) (hr0_1 : Kd.C (Kd.int .i64) w A0_1 l0_1.length l0_1) (hc0_1 : l0_1.length ≤ c0_1) (h : impl_IsBits.f k a0_0 l0_1 = some r) :
  Calls Try.prog 65 #[.agg #[.int .i64 a0_0, .slice A0_1 l0_1.length c0_1]] w fun e w' => e = .returned (.bool r) ∧ Below w.heap.size w w' := by
 have hu38 := Try.underlying38; have HR0_1 := am hr0_1; have HC0_1 := am hc0_1; clear hr0_1 hc0_1; have HB := am (Below.refl w.heap.size w); have H : ((impl_in.f a0_0 0 4096).bind fun t581 => (if t581 = true then ((impl_words.f a0_0).bind fun t582 => (impl_IsBits.j0 k ((l0_1.length : Int) != t582) a0_0 l0_1)) else (impl_IsBits.j0 k true a0_0 l0_1))) = some r := h; clear h; have HC2 := am H; clear H
 go_enter Try.func65, Try.ntmps65
 go_upto_region 1 with (first | ((with_reducible refine gate_dst (N := 1) rfl ?_); (try (refine gate_guard (by rfl) ?_; dsimp only)); refine bE 1 #[.int .i64 a0_0, .slice A0_1 l0_1.length c0_1] 38 ?_; intro gb580 hg w3 hbox hb; have n0_ := Bb HB hb; have n1_ := am (hbox); have n2_ := Gl HB hg; have n3_ := Gl HB hg; clear HB; revert n0_ n1_ n2_ n3_; intro HB BK580 GW580 GE580; clear hb hbox hg))
 repeat (go_quiet (first | ((with_reducible refine gate_dst (N := 1) rfl ?_); (try (refine gate_guard (by rfl) ?_; dsimp only)); refine bE 1 #[.int .i64 a0_0, .slice A0_1 l0_1.length c0_1] 38 ?_; intro gb580 hg w3 hbox hb; have n0_ := Bb HB hb; have n1_ := am (hbox); have n2_ := Gl HB hg; have n3_ := Gl HB hg; clear HB; revert n0_ n1_ n2_ n3_; intro HB BK580 GW580 GE580; clear hb hbox hg)); go_upto_region 1 with (first | ((with_reducible refine gate_dst (N := 1) rfl ?_); (try (refine gate_guard (by rfl) ?_; dsimp only)); refine bE 1 #[.int .i64 a0_0, .slice A0_1 l0_1.length c0_1] 38 ?_; intro gb580 hg w3 hbox hb; have n0_ := Bb HB hb; have n1_ := am (hbox); have n2_ := Gl HB hg; have n3_ := Gl HB hg; clear HB; revert n0_ n1_ n2_ n3_; intro HB BK580 GW580 GE580; clear hb hbox hg)))
 (try simp only [aP])
 go_cut [18] (fun v18 wc => ∃ (kq : Nat) (x18_1 : Bool), v18 = .bool x18_1 ∧ Aside0 (impl_IsBits.j0 kq x18_1 a0_0 l0_1 = some r) ∧ Aside0 (kq ≤ k) ∧ Aside0 (wc.heap[gb580]? = some (.cells #[.int .i64 a0_0, (.slice A0_1 l0_1.length c0_1)] 38 (0, 0))) ∧ Aside0 (Below w.heap.size w wc))
 case first =>
  have H := HC2.out; clear HC2; replace H := Option.bind_eq_some_iff.mp H; obtain ⟨t581, A40, H⟩ := H; (try dsimp -simprocs only at H); have A4 := am A40; clear A40
  by_cases c5 : t581 = true
  ·subst c5
   rw [if_pos rfl] at H; replace H := Option.bind_eq_some_iff.mp H; obtain ⟨t582, A60, H⟩ := H; (try dsimp -simprocs only at H); have A6 := am A60; clear A60; have H' := am H; clear H; obtain ⟨hcz7_0, hcz7_1, hfz7_0, hfz7_1⟩ := cf2 (w := w3) BK580
   go_wp2_with (first | (go_at_call 66; (with_reducible refine (impl_in.calls a0_0 0 4096 true _ A4.out).mono ?_); rintro e w' ⟨rfl, ⟨nd, rfl⟩⟩; (try exact yZ)) | (go_at_call 139; (with_reducible refine (impl_words.calls a0_0 t582 _ A6.out).mono ?_); rintro e w' ⟨rfl, ⟨nd, rfl⟩⟩; (try exact yZ)))
   repeat (go_quiet (first | (go_at_call 66; (with_reducible refine (impl_in.calls a0_0 0 4096 true _ A4.out).mono ?_); rintro e w' ⟨rfl, ⟨nd, rfl⟩⟩; (try exact yZ)) | (go_at_call 139; (with_reducible refine (impl_words.calls a0_0 t582 _ A6.out).mono ?_); rintro e w' ⟨rfl, ⟨nd, rfl⟩⟩; (try exact yZ))); try go_wp2_with (first | (go_at_call 66; (with_reducible refine (impl_in.calls a0_0 0 4096 true _ A4.out).mono ?_); rintro e w' ⟨rfl, ⟨nd, rfl⟩⟩; (try exact yZ)) | (go_at_call 139; (with_reducible refine (impl_words.calls a0_0 t582 _ A6.out).mono ?_); rintro e w' ⟨rfl, ⟨nd, rfl⟩⟩; (try exact yZ))))
   go_meet
   case rel => exact ⟨_, (((l0_1.length : Int) != t582)), wZ, H', ⟨by first | omega | exact Nat.le_refl _⟩, ⟨Kz BK580.out⟩, ⟨Bq⟩⟩
  ·replace c5 := Bool.eq_false_iff.mpr c5
   subst c5
   rw [if_neg (show ¬ (false = true) by decide)] at H; have H' := am H; clear H; obtain ⟨hcz8_0, hcz8_1, hfz8_0, hfz8_1⟩ := cf2 (w := w3) BK580
   go_wp2_with (first | (go_at_call 66; (with_reducible refine (impl_in.calls a0_0 0 4096 false _ A4.out).mono ?_); rintro e w' ⟨rfl, ⟨nd, rfl⟩⟩; (try exact yZ)))
   repeat (go_quiet (first | (go_at_call 66; (with_reducible refine (impl_in.calls a0_0 0 4096 false _ A4.out).mono ?_); rintro e w' ⟨rfl, ⟨nd, rfl⟩⟩; (try exact yZ))); try go_wp2_with (first | (go_at_call 66; (with_reducible refine (impl_in.calls a0_0 0 4096 false _ A4.out).mono ?_); rintro e w' ⟨rfl, ⟨nd, rfl⟩⟩; (try exact yZ))))
   go_meet
   case rel => exact ⟨_, (true), wZ, H', ⟨by first | omega | exact Nat.le_refl _⟩, ⟨Kz BK580.out⟩, ⟨Bq⟩⟩
 case rest =>
  clear HC2
  try clear p2
  try clear c5
  try clear c6
  try clear hcz7_0
  try clear hcz7_1
  try clear hcz8_0
  try clear hcz8_1
  try clear hfz7_0
  try clear hfz7_1
  try clear hfz8_0
  try clear hfz8_1
  obtain ⟨kq, x18_1, rfl, HA, HJ1, BK580, HB⟩ := hcut; cases kq with
  | zero => exact absurd HA.out (by simp [impl_IsBits.j0])
  | succ kj1 =>
   have H := HA.out; clear HA
   simp only [impl_IsBits.j0] at H
   by_cases c9 : x18_1 = true
   ·subst c9
    rw [if_pos rfl] at H; obtain rfl := Option.some.inj H
    go_wp2
    repeat (go_quiet (fail); try go_wp2)
    go_ret
    exact ⟨eZ, Bq⟩
   ·replace c9 := Bool.eq_false_iff.mpr c9
    subst c9
    rw [if_neg (show ¬ (false = true) by decide)] at H; have H' := am H; clear H; obtain ⟨hcz10_0, hcz10_1, hfz10_0, hfz10_1⟩ := cf2 (w := wc) BK580
    go_wp2
    repeat (go_quiet (fail); try go_wp2)
    go_loopg [22] kj1 (fun kq v22 w' => ∃ (x22_2 : Int), v22 = .int .i64 x22_2 ∧ Aside0 (impl_IsBits.l0 kq l0_1 (l0_1.length : Int) x22_2 a0_0 l0_1 = some r) ∧ Aside0 (kq ≤ kj1) ∧ Aside0 (w'.heap[gb580]? = some (.cells #[.int .i64 a0_0, (.slice A0_1 l0_1.length c0_1)] 38 (0, 0))) ∧ Aside0 (Below w.heap.size w w'))
    case atStart => exact ⟨(0), wZ, H', ⟨Nat.le_refl _⟩, ⟨Kz BK580.out⟩, ⟨Bq⟩⟩
    case round =>
     clear H'
     try clear p2
     try clear c5
     try clear c6
     try clear c9
     try clear hcz10_0
     try clear hcz10_1
     try clear hcz7_0
     try clear hcz7_1
     try clear hcz8_0
     try clear hcz8_1
     try clear hfz10_0
     try clear hfz10_1
     try clear hfz7_0
     try clear hfz7_1
     try clear hfz8_0
     try clear hfz8_1
     try clear p2
     obtain ⟨x22_2, rfl, HA, HK2, BK580, HB⟩ := hrel; cases gk with
     | zero => exact absurd HA.out (by simp [impl_IsBits.l0])
     | succ k2 =>
      have H := HA.out; clear HA
      simp only [impl_IsBits.l0] at H
      by_cases c11 : x22_2 < (l0_1.length : Int)
      ·rw [if_pos c11] at H
       have c11b0 : decide (x22_2 < (l0_1.length : Int)) = true := decide_eq_true c11; clear c11
       by_cases c12 : 0 ≤ x22_2
       ·rw [if_pos c12] at H
        have c12b0 : decide (0 ≤ x22_2) = true := decide_eq_true c12; clear c12
        by_cases c13 : x22_2 < (l0_1.length : Int)
        ·rw [if_pos c13] at H
         have c13b0 : decide (x22_2 < (l0_1.length : Int)) = true := decide_eq_true c13; clear c13; replace H := Option.bind_eq_some_iff.mp H; obtain ⟨t584, A140, H⟩ := H; (try dsimp -simprocs only at H); have A14 := am A140; clear A140
         by_cases c15 : t584 = true
         ·subst c15
          rw [if_pos rfl] at H; have H' := am H; clear H; have p583 : 0 ≤ (x22_2 : Int) := dT; have q583 : x22_2 < (l0_1.length : Int) := dT; obtain ⟨ad583, e583, hx583_0⟩ := Kd.at_int HR0_1.out x22_2 p583 q583; cases e583; replace hx583_0 := (HB.out.cell (World.block_lt_of_cell? w _ hx583_0)).trans hx583_0; replace p583 := eq_true p583; replace q583 := eq_true q583
          go_wp2_with (first | (go_at_call 66; (with_reducible refine (impl_in.calls (rd l0_1 x22_2) 0 65535 true _ A14.out).mono ?_); rintro e w' ⟨rfl, ⟨nd, rfl⟩⟩; (try exact yZ)))
          repeat (go_quiet (first | (go_at_call 66; (with_reducible refine (impl_in.calls (rd l0_1 x22_2) 0 65535 true _ A14.out).mono ?_); rintro e w' ⟨rfl, ⟨nd, rfl⟩⟩; (try exact yZ))); try go_wp2_with (first | (go_at_call 66; (with_reducible refine (impl_in.calls (rd l0_1 x22_2) 0 65535 true _ A14.out).mono ?_); rintro e w' ⟨rfl, ⟨nd, rfl⟩⟩; (try exact yZ))))
          go_roundg k2
          case measure => have := HJ1.out; have := HK2.out; omega
          case rel => exact ⟨(wrap64 (x22_2 + 1)), wZ, H', ⟨by have := HJ1.out; have := HK2.out; omega⟩, ⟨Kz BK580.out⟩, ⟨Bq⟩⟩
         ·replace c15 := Bool.eq_false_iff.mpr c15
          subst c15
          rw [if_neg (show ¬ (false = true) by decide)] at H; obtain rfl := Option.some.inj H; have p583 : 0 ≤ (x22_2 : Int) := dT; have q583 : x22_2 < (l0_1.length : Int) := dT; obtain ⟨ad583, e583, hx583_0⟩ := Kd.at_int HR0_1.out x22_2 p583 q583; cases e583; replace hx583_0 := (HB.out.cell (World.block_lt_of_cell? w _ hx583_0)).trans hx583_0; replace p583 := eq_true p583; replace q583 := eq_true q583
          go_wp2_with (first | (go_at_call 66; (with_reducible refine (impl_in.calls (rd l0_1 x22_2) 0 65535 false _ A14.out).mono ?_); rintro e w' ⟨rfl, ⟨nd, rfl⟩⟩; (try exact yZ)))
          repeat (go_quiet (first | (go_at_call 66; (with_reducible refine (impl_in.calls (rd l0_1 x22_2) 0 65535 false _ A14.out).mono ?_); rintro e w' ⟨rfl, ⟨nd, rfl⟩⟩; (try exact yZ))); try go_wp2_with (first | (go_at_call 66; (with_reducible refine (impl_in.calls (rd l0_1 x22_2) 0 65535 false _ A14.out).mono ?_); rintro e w' ⟨rfl, ⟨nd, rfl⟩⟩; (try exact yZ))))
          go_ret
          exact ⟨eZ, Bq⟩
        ·rw [if_neg c13] at H
         exact absurd H (by simp)
       ·rw [if_neg c12] at H
        exact absurd H (by simp)
      ·rw [if_neg c11] at H
       have c11b0 : decide (x22_2 < (l0_1.length : Int)) = false := decide_eq_false c11; clear c11
       by_cases c16 : (Int.tmod a0_0 16) = 0
       ·rw [if_pos c16] at H
        have c16b0 : ((Int.tmod a0_0 16) == 0) = true := beq_iff_eq.mpr c16; have c16b1 : ((Int.tmod a0_0 16) != 0) = false := bne_eq_false_iff_eq.mpr c16; clear c16; obtain rfl := Option.some.inj H; obtain ⟨hcz17_0, hcz17_1, hfz17_0, hfz17_1⟩ := cf2 (w := wr) BK580
        go_wp2
        repeat (go_quiet (fail); try go_wp2)
        go_ret
        exact ⟨eZ, Bq⟩
       ·rw [if_neg c16] at H
        have c16b0 : ((Int.tmod a0_0 16) == 0) = false := beq_eq_false_iff_ne.mpr c16; have c16b1 : ((Int.tmod a0_0 16) != 0) = true := bne_iff_ne.mpr c16; obtain ⟨ji18, hji18⟩ : ∃ j_ : Int, (wrap64 ((l0_1.length : Int) - 1)) = j_ := ⟨_, rfl⟩
        replace H : (if 0 ≤ (ji18) then (if (ji18) < (l0_1.length : Int) then (if 0 ≤ (Int.tmod a0_0 16) then (some ((shr .i64 (rd l0_1 (ji18)) (Int.tmod a0_0 16)) == 0)) else (none)) else (none)) else (none)) = some r := by first | (rw [hji18] at H; exact H) | (simp only [hji18] at H ⊢; exact H)
        have hji18w : (IntKind.i64.wrap ((l0_1.length : Int) - 1)) = ji18 := (i64_w _).trans hji18
        by_cases c19 : 0 ≤ (ji18)
        ·rw [if_pos c19] at H
         have c19b0 : decide (0 ≤ (ji18)) = true := decide_eq_true c19; clear c19
         by_cases c20 : (ji18) < (l0_1.length : Int)
         ·rw [if_pos c20] at H
          have c20b0 : decide ((ji18) < (l0_1.length : Int)) = true := decide_eq_true c20; clear c20; obtain ⟨ji21, hji21⟩ : ∃ j_ : Int, (Int.tmod a0_0 16) = j_ := ⟨_, rfl⟩
          replace H : (if 0 ≤ (ji21) then (some ((shr .i64 (rd l0_1 (ji18)) (ji21)) == 0)) else (none)) = some r := by first | (rw [hji21] at H; exact H) | (simp only [hji21] at H ⊢; exact H)
          (try rw [hji21] at c16b0)
          (try rw [hji21] at c16b1)
          by_cases c22 : 0 ≤ (ji21)
          ·rw [if_pos c22] at H
           have c22b0 := eq_true c22; have c22b1 : decide (0 ≤ (ji21)) = true := decide_eq_true c22; clear c22; obtain ⟨ji23, hji23⟩ : ∃ j_ : Int, (shr .i64 (rd l0_1 (ji18)) (ji21)) = j_ := ⟨_, rfl⟩
           replace H : (some ((ji23) == 0)) = some r := by first | (rw [hji23] at H; exact H) | (simp only [hji23] at H ⊢; exact H)
           have hji23_ : ((rd l0_1 (ji18)) / 2 ^ min (ji21).toNat 64) = ji23 := hji23; have hji23z : (ji21) ≤ 64 → ((rd l0_1 (ji18)) / 2 ^ (ji21).toNat) = ji23 := shr_small hji23; obtain rfl := Option.some.inj H; obtain ⟨hcz24_0, hcz24_1, hfz24_0, hfz24_1⟩ := cf2 (w := wr) BK580; have p585 : 0 ≤ ((ji18) : Int) := dT; have q585 : (ji18) < (l0_1.length : Int) := dT; obtain ⟨ad585, e585, hx585_0⟩ := Kd.at_int HR0_1.out (ji18) p585 q585; cases e585; replace hx585_0 := (HB.out.cell (World.block_lt_of_cell? w _ hx585_0)).trans hx585_0; replace p585 := eq_true p585; replace q585 := eq_true q585
           go_wp2
           repeat (go_quiet (fail); try go_wp2)
           go_ret
           exact ⟨by first | rfl | (simp [errW_none, errW_some] <;> rfl) | (simp only [← hji18, ← hji21, ← hji23]; first | rfl | (simp [errW_none, errW_some] <;> rfl)) | (simp [*, errW_none, errW_some] <;> rfl), Bq⟩
          ·rw [if_neg c22] at H
           exact absurd H (by simp)
         ·rw [if_neg c20] at H
          exact absurd H (by simp)
        ·rw [if_neg c19] at H
         exact absurd H (by simp)

def impl_BitAt.f (k : Nat) (a0_0 : Int) (l0_1 : List Int) (a1 : Int) : Option (Bool × Bool) := (impl_IsBits.f k a0_0 l0_1).bind fun t587 => (if t587 = true then ((impl_in.f a1 0 (wrap64 (a0_0 - 1))).bind fun t588 => (if t588 = true then ((impl_Bits_at.f a0_0 l0_1 a1).bind fun t589 => (some (t589, true))) else (some (false, false)))) else (some (false, false)))
theorem impl_BitAt.calls (k : Nat) (a0_0 : Int) (A0_1 : Option Addr) (c0_1 : Nat) (l0_1 : List Int) (a1 : Int) (r1 : Bool) (r2 : Bool) (w : World) (hr0_1 : Kd.C (Kd.int .i64) w A0_1 l0_1.length l0_1) (hc0_1 : l0_1.length ≤ c0_1) (h : impl_BitAt.f k a0_0 l0_1 a1 = some (r1, r2)) :
  Calls Try.prog 15 #[.agg #[.int .i64 a0_0, .slice A0_1 l0_1.length c0_1], .int .i64 a1] w fun e w' => e = .returned (.tuple #[.bool r1, .bool r2]) ∧ Below w.heap.size w w' := by
 have hu38 := Try.underlying38; have HR0_1 := am hr0_1; have HC0_1 := am hc0_1; clear hr0_1 hc0_1; have HB := am (Below.refl w.heap.size w); have H : ((impl_IsBits.f k a0_0 l0_1).bind fun t587 => (if t587 = true then ((impl_in.f a1 0 (wrap64 (a0_0 - 1))).bind fun t588 => (if t588 = true then ((impl_Bits_at.f a0_0 l0_1 a1).bind fun t589 => (some (t589, true))) else (some (false, false)))) else (some (false, false)))) = some (r1, r2) := h; clear h; replace H := Option.bind_eq_some_iff.mp H; obtain ⟨t587, A30, H⟩ := H; (try dsimp -simprocs only at H); have A3 := am A30; clear A30
 by_cases c4 : t587 = true
 ·subst c4
  rw [if_pos rfl] at H; replace H := Option.bind_eq_some_iff.mp H; obtain ⟨t588, A50, H⟩ := H; (try dsimp -simprocs only at H); have A5 := am A50; clear A50
  by_cases c6 : t588 = true
  ·subst c6
   rw [if_pos rfl] at H; replace H := Option.bind_eq_some_iff.mp H; obtain ⟨t589, A70, H⟩ := H; (try dsimp -simprocs only at H); have A7 := am A70; clear A70
   simp only [Option.some.injEq, Prod.mk.injEq] at H
   obtain ⟨rfl, rfl⟩ := H
   go_enter Try.func15, Try.ntmps15
   go_wp2_with (first | ((with_reducible refine gate_dst (N := 2) rfl ?_); refine bE 2 #[.int .i64 a0_0, .slice A0_1 l0_1.length c0_1] 38 ?_; intro gb586 hg w8 hbox hb; have n0_ := Bb HB hb; have n1_ := am (hbox); have n2_ := Gl HB hg; have n3_ := Gl HB hg; clear HB; revert n0_ n1_ n2_ n3_; intro HB BK586 GW586 GE586; clear hb hbox hg; obtain ⟨hcz9_0, hcz9_1, hfz9_0, hfz9_1⟩ := cf2 (w := w8) BK586) | ((with_reducible refine gate_callee (f := 65) rfl ?_); refine gL (some 7) Try.func65 #[.agg #[.int .i64 a0_0, .slice A0_1 l0_1.length c0_1]] ?_; (with_reducible refine (impl_IsBits.calls k a0_0 _ _ l0_1 true _ ?side1 ?side2 A3.out).mono ?_); (case side1 => exact Cz (Kd.C_below HR0_1.out HB.out)); (case side2 => exact HC0_1.out); rintro e w10 ⟨rfl, hb⟩; refine ⟨_, rfl, ?_⟩; have n0_ := Kb BK586 hb; have n1_ := Bc HB hb; clear BK586 HB; revert n0_ n1_; intro BK586 HB; (try clear hb); (try clear hb2); (try clear hk); (try clear hi); obtain ⟨hcz11_0, hcz11_1, hfz11_0, hfz11_1⟩ := cf2 (w := w10) BK586) | (go_at_call 66; (with_reducible refine (impl_in.calls a1 0 (wrap64 (a0_0 - 1)) true _ A5.out).mono ?_); rintro e w' ⟨rfl, ⟨nd, rfl⟩⟩) | ((with_reducible refine gate_callee (f := 67) rfl ?_); refine gL (some 18) Try.func67 #[.pointer (some ⟨gb586, 0, none⟩), .int .i64 a1] ?_; (with_reducible refine (impl_Bits_at.calls gb586 a0_0 A0_1 c0_1 l0_1 a1 t589 _ ?side1 ?side2 ?side3 A7.out).mono ?_); (case side1 => exact Kz BK586.out); (case side2 => exact Cz (Kd.C_below HR0_1.out (Bq))); (case side3 => exact HC0_1.out); rintro e w' ⟨rfl, ⟨nd, rfl⟩⟩; refine ⟨_, rfl, ?_⟩))
   go_ret2
   exact ⟨eZ, Bq⟩
  ·replace c6 := Bool.eq_false_iff.mpr c6
   subst c6
   rw [if_neg (show ¬ (false = true) by decide)] at H
   simp only [Option.some.injEq, Prod.mk.injEq] at H
   obtain ⟨rfl, rfl⟩ := H
   go_enter Try.func15, Try.ntmps15
   go_wp2_with (first | ((with_reducible refine gate_dst (N := 2) rfl ?_); refine bE 2 #[.int .i64 a0_0, .slice A0_1 l0_1.length c0_1] 38 ?_; intro gb586 hg w12 hbox hb; have n0_ := Bb HB hb; have n1_ := am (hbox); have n2_ := Gl HB hg; have n3_ := Gl HB hg; clear HB; revert n0_ n1_ n2_ n3_; intro HB BK586 GW586 GE586; clear hb hbox hg; obtain ⟨hcz13_0, hcz13_1, hfz13_0, hfz13_1⟩ := cf2 (w := w12) BK586) | ((with_reducible refine gate_callee (f := 65) rfl ?_); refine gL (some 7) Try.func65 #[.agg #[.int .i64 a0_0, .slice A0_1 l0_1.length c0_1]] ?_; (with_reducible refine (impl_IsBits.calls k a0_0 _ _ l0_1 true _ ?side1 ?side2 A3.out).mono ?_); (case side1 => exact Cz (Kd.C_below HR0_1.out HB.out)); (case side2 => exact HC0_1.out); rintro e w14 ⟨rfl, hb⟩; refine ⟨_, rfl, ?_⟩; have n0_ := Kb BK586 hb; have n1_ := Bc HB hb; clear BK586 HB; revert n0_ n1_; intro BK586 HB; (try clear hb); (try clear hb2); (try clear hk); (try clear hi); obtain ⟨hcz15_0, hcz15_1, hfz15_0, hfz15_1⟩ := cf2 (w := w14) BK586) | (go_at_call 66; (with_reducible refine (impl_in.calls a1 0 (wrap64 (a0_0 - 1)) false _ A5.out).mono ?_); rintro e w' ⟨rfl, ⟨nd, rfl⟩⟩))
   go_ret2
   exact ⟨eZ, Bq⟩
 ·replace c4 := Bool.eq_false_iff.mpr c4
  subst c4
  rw [if_neg (show ¬ (false = true) by decide)] at H
  simp only [Option.some.injEq, Prod.mk.injEq] at H
  obtain ⟨rfl, rfl⟩ := H
  go_enter Try.func15, Try.ntmps15
  go_wp2_with (first | ((with_reducible refine gate_dst (N := 2) rfl ?_); refine bE 2 #[.int .i64 a0_0, .slice A0_1 l0_1.length c0_1] 38 ?_; intro gb586 hg w16 hbox hb; have n0_ := Bb HB hb; have n1_ := am (hbox); have n2_ := Gl HB hg; have n3_ := Gl HB hg; clear HB; revert n0_ n1_ n2_ n3_; intro HB BK586 GW586 GE586; clear hb hbox hg; obtain ⟨hcz17_0, hcz17_1, hfz17_0, hfz17_1⟩ := cf2 (w := w16) BK586) | ((with_reducible refine gate_callee (f := 65) rfl ?_); refine gL (some 7) Try.func65 #[.agg #[.int .i64 a0_0, .slice A0_1 l0_1.length c0_1]] ?_; (with_reducible refine (impl_IsBits.calls k a0_0 _ _ l0_1 false _ ?side1 ?side2 A3.out).mono ?_); (case side1 => exact Cz (Kd.C_below HR0_1.out HB.out)); (case side2 => exact HC0_1.out); rintro e w18 ⟨rfl, hb⟩; refine ⟨_, rfl, ?_⟩; have n0_ := Kb BK586 hb; have n1_ := Bc HB hb; clear BK586 HB; revert n0_ n1_; intro BK586 HB; (try clear hb); (try clear hb2); (try clear hk); (try clear hi)))
  go_ret2
  exact ⟨eZ, Bq⟩

def slices_Equal_int_int.l0 : Nat → List Int → List Int → Int → Int → Option (Bool)
 | 0, _, _, _, _ => none
 | k + 1, x0, x1, x12, x13 => if x13 < x12 then (if 0 ≤ x13 then (if x13 < (x0.length : Int) then (if x13 < (x1.length : Int) then (if (rd x0 x13) = (rd x1 x13) then (slices_Equal_int_int.l0 k x0 x1 x12 (wrap64 (x13 + 1))) else (some false)) else (none)) else (none)) else (none)) else (some true)
def slices_Equal_int_int.f (k : Nat) (l0 : List Int) (l1 : List Int) : Option (Bool) := if (l0.length : Int) = (l1.length : Int) then (slices_Equal_int_int.l0 k l0 l1 (l0.length : Int) 0) else (some false)
theorem slices_Equal_int_int.calls (k : Nat) (A0 : Option Addr) (c0 : Nat) (l0 : List Int) (A1 : Option Addr) (c1 : Nat) (l1 : List Int) (r : Bool) (w : World) (hr0 : Kd.C (Kd.int .i64) w A0 l0.length l0) (hc0 : l0.length ≤ c0) (hr1 : Kd.C (Kd.int .i64) w A1 l1.length l1) (hc1 : l1.length ≤ c1) (h : slices_Equal_int_int.f k l0 l1 = some r) :
  Calls Try.prog 140 #[.slice A0 l0.length c0, .slice A1 l1.length c1] w fun e w' => e = .returned (.bool r) ∧ Drawn0 w w' := by
 have HR0 := am hr0; have HC0 := am hc0; clear hr0 hc0; have HR1 := am hr1; have HC1 := am hc1; clear hr1 hc1; have H : (if (l0.length : Int) = (l1.length : Int) then (slices_Equal_int_int.l0 k l0 l1 (l0.length : Int) 0) else (some false)) = some r := h; clear h
 by_cases c3 : (l0.length : Int) = (l1.length : Int)
 ·rw [if_pos c3] at H
  have c3b0 : ((l0.length : Int) == (l1.length : Int)) = true := beq_iff_eq.mpr c3; have c3b1 : ((l0.length : Int) != (l1.length : Int)) = false := bne_eq_false_iff_eq.mpr c3
  have c3b2 : (l0.length == l1.length) = true := by first | simpa using c3 | (simp at c3 ⊢; omega)
  clear c3; have H' := am H; clear H
  go_enter Try.func140, Try.ntmps140
  go_wp2
  repeat (go_quiet (fail); try go_wp2)
  go_loopg [13] k (fun kq v13 w' => ∃ (x13_1 : Int), v13 = .int .i64 x13_1 ∧ Aside0 (slices_Equal_int_int.l0 kq l0 l1 (l0.length : Int) x13_1 = some r) ∧ Aside0 (kq ≤ k) ∧ Drawn0 w w')
  case atStart => exact ⟨(0), wZ, H', ⟨Nat.le_refl _⟩, by repeat (first | exact Drawn0.refl _ | apply Drawn0.step)⟩
  case round =>
   clear H'
   try clear c1
   try clear p2
   try clear c3
   try clear c3b0
   try clear c3b1
   try clear c3b2
   obtain ⟨x13_1, rfl, HA, HK1, ⟨m1, rfl⟩⟩ := hrel; cases gk with
   | zero => exact absurd HA.out (by simp [slices_Equal_int_int.l0])
   | succ k1 =>
    have H := HA.out; clear HA
    simp only [slices_Equal_int_int.l0] at H
    by_cases c4 : x13_1 < (l0.length : Int)
    ·rw [if_pos c4] at H
     have c4b0 : decide (x13_1 < (l0.length : Int)) = true := decide_eq_true c4; clear c4
     by_cases c5 : 0 ≤ x13_1
     ·rw [if_pos c5] at H
      have c5b0 : decide (0 ≤ x13_1) = true := decide_eq_true c5; clear c5
      by_cases c6 : x13_1 < (l0.length : Int)
      ·rw [if_pos c6] at H
       have c6b0 : decide (x13_1 < (l0.length : Int)) = true := decide_eq_true c6; clear c6
       by_cases c7 : x13_1 < (l1.length : Int)
       ·rw [if_pos c7] at H
        have c7b0 : decide (x13_1 < (l1.length : Int)) = true := decide_eq_true c7; clear c7
        by_cases c8 : (rd l0 x13_1) = (rd l1 x13_1)
        ·rw [if_pos c8] at H
         have c8b0 : ((rd l0 x13_1) == (rd l1 x13_1)) = true := beq_iff_eq.mpr c8; have c8b1 : ((rd l0 x13_1) != (rd l1 x13_1)) = false := bne_eq_false_iff_eq.mpr c8; clear c8; have H' := am H; clear H; obtain ⟨ad590, e590, hx590_0⟩ := Kd.at_int HR0.out x13_1 dT dT; cases e590; have p590 := eT (0 ≤ (x13_1 : Int)); have q590 := eT (x13_1 < (l0.length : Int)); obtain ⟨ad591, e591, hx591_0⟩ := Kd.at_int HR1.out x13_1 dT dT; cases e591; have p591 := eT (0 ≤ (x13_1 : Int)); have q591 := eT (x13_1 < (l1.length : Int))
         go_wp2
         repeat (go_quiet (fail); try go_wp2)
         go_roundg k1
         case measure => have := HK1.out; omega
         case rel => exact ⟨(wrap64 (x13_1 + 1)), wZ, H', ⟨by have := HK1.out; omega⟩, by repeat (first | exact Drawn0.refl _ | apply Drawn0.step)⟩
        ·rw [if_neg c8] at H
         have c8b0 : ((rd l0 x13_1) == (rd l1 x13_1)) = false := beq_eq_false_iff_ne.mpr c8; have c8b1 : ((rd l0 x13_1) != (rd l1 x13_1)) = true := bne_iff_ne.mpr c8; obtain rfl := Option.some.inj H; obtain ⟨ad590, e590, hx590_0⟩ := Kd.at_int HR0.out x13_1 dT dT; cases e590; have p590 := eT (0 ≤ (x13_1 : Int)); have q590 := eT (x13_1 < (l0.length : Int)); obtain ⟨ad591, e591, hx591_0⟩ := Kd.at_int HR1.out x13_1 dT dT; cases e591; have p591 := eT (0 ≤ (x13_1 : Int)); have q591 := eT (x13_1 < (l1.length : Int))
         go_wp2
         repeat (go_quiet (fail); try go_wp2)
         go_ret
         exact ⟨by first | rfl | (simp; done) | (simp [*]; done), by repeat (first | exact Drawn0.refl _ | apply Drawn0.step)⟩
       ·rw [if_neg c7] at H
        exact absurd H (by simp)
      ·rw [if_neg c6] at H
       exact absurd H (by simp)
     ·rw [if_neg c5] at H
      exact absurd H (by simp)
    ·rw [if_neg c4] at H
     have c4b0 : decide (x13_1 < (l0.length : Int)) = false := decide_eq_false c4; clear c4; obtain rfl := Option.some.inj H
     go_wp2
     repeat (go_quiet (fail); try go_wp2)
     go_ret
     exact ⟨by first | rfl | (simp; done) | (simp [*]; done), by repeat (first | exact Drawn0.refl _ | apply Drawn0.step)⟩
 ·rw [if_neg c3] at H
  have c3b0 : ((l0.length : Int) == (l1.length : Int)) = false := beq_eq_false_iff_ne.mpr c3; have c3b1 : ((l0.length : Int) != (l1.length : Int)) = true := bne_iff_ne.mpr c3
  have c3b2 : (l0.length == l1.length) = false := by first | simpa using c3 | (simp at c3 ⊢; omega)
  obtain rfl := Option.some.inj H
  go_enter Try.func140, Try.ntmps140
  go_wp2
  repeat (go_quiet (fail); try go_wp2)
  go_ret
  exact ⟨by first | rfl | (simp; done) | (simp [*]; done), by repeat (first | exact Drawn0.refl _ | apply Drawn0.step)⟩

end Go.Proofs.Ytmehagedoaopeaa.PF
