import Derived.Test.YthkcgimnagpmaaaCP1
import Derived.Test.YthkcgimnagpmaaaCP2
import Derived.Test.YthkcgimnagpmaaaCP0
import Derived.ProofKit
import Derived.SliceStrings
import Derived.ChangeSlices
import Derived.Lib.Bytes
-- printed by a program of this session (wip/gp) out of the translation; Lean checks it
namespace Go.Proofs.Ythkcgimnagpmaaa.PP
open Go.RowKit Go.Proofs.YthkcgimnagpmaaaW.PrintWords Go.Proofs.YthkcgimnagpmaaaW.PrintLast Go.Proofs.YthkcgimnagpmaaaW.PrintMore Go.Proofs.YthkcgimnagpmaaaSq
attribute [local go_sem] max2_int min2_int max_two min_two max_three min_three max_four min_four   -- for this text's walks alone
attribute [local go_sem] Go.Proofs.YthkcgimnagpmaaaGp.str_geq Go.Proofs.YthkcgimnagpmaaaGp.str_gtr Go.Proofs.YthkcgimnagpmaaaGp.str_leq
set_option linter.unusedVariables false
set_option linter.unusedSimpArgs false

set_option maxHeartbeats 8000000
set_option maxRecDepth 100000
def impl_valuesOk.f (k : Nat) (a0 : Int) (l1 : List ByteArray) (l2 : List Int) (a3 : Int) (a4 : Int) : Option (Bool) := (impl_isSeed.f a0).bind fun t325 => (if t325 = true then ((impl_AreKeys.f k l1).bind fun t326 => (if t326 = true then ((impl_segmentOk.f a3).bind fun t327 => (if t327 = true then ((impl_widthOk.f a4).bind fun t328 => (if t328 = true then (if (l2.length : Int) = (l1.length : Int) then ((slices_ContainsFunc_int_int_at_impl_valuesOk_1.f k l2 a4).bind fun t329 => (some (!t329))) else (some false)) else (some false))) else (some false))) else (some false))) else (some false))
theorem impl_valuesOk.calls (k : Nat) (a0 : Int) (A1 : Option Addr) (c1 : Nat) (l1 : List ByteArray) (A2 : Option Addr) (c2 : Nat) (l2 : List Int) (a3 : Int) (a4 : Int) (r : Bool) (w : World) (hr1 : Kd.C Kd.string w A1 l1.length l1) (hc1 : l1.length ≤ c1) (hr2 : Kd.C (Kd.int .i64) w A2 l2.length l2) (hc2 : l2.length ≤ c2) (h : impl_valuesOk.f k a0 l1 l2 a3 a4 = some r) :
  Calls Try.prog 157 #[.int .i64 a0, .slice A1 l1.length c1, .slice A2 l2.length c2, .int .i64 a3, .int .i64 a4] w fun e w' => e = .returned (.bool r) ∧ Below w.heap.size w w' := by
 have HR1 := am hr1; have HC1 := am hc1; clear hr1 hc1; have HR2 := am hr2; have HC2 := am hc2; clear hr2 hc2; have HB := am (Below.refl w.heap.size w); have H : ((impl_isSeed.f a0).bind fun t325 => (if t325 = true then ((impl_AreKeys.f k l1).bind fun t326 => (if t326 = true then ((impl_segmentOk.f a3).bind fun t327 => (if t327 = true then ((impl_widthOk.f a4).bind fun t328 => (if t328 = true then (if (l2.length : Int) = (l1.length : Int) then ((slices_ContainsFunc_int_int_at_impl_valuesOk_1.f k l2 a4).bind fun t329 => (some (!t329))) else (some false)) else (some false))) else (some false))) else (some false))) else (some false))) = some r := h; clear h; replace H := Option.bind_eq_some_iff.mp H; obtain ⟨t325, A60, H⟩ := H; (try dsimp -simprocs only at H); have A6 := am A60; clear A60
 by_cases c7 : t325 = true
 ·subst c7
  rw [if_pos rfl] at H; replace H := Option.bind_eq_some_iff.mp H; obtain ⟨t326, A80, H⟩ := H; (try dsimp -simprocs only at H); have A8 := am A80; clear A80
  by_cases c9 : t326 = true
  ·subst c9
   rw [if_pos rfl] at H; replace H := Option.bind_eq_some_iff.mp H; obtain ⟨t327, A100, H⟩ := H; (try dsimp -simprocs only at H); have A10 := am A100; clear A100
   by_cases c11 : t327 = true
   ·subst c11
    rw [if_pos rfl] at H; replace H := Option.bind_eq_some_iff.mp H; obtain ⟨t328, A120, H⟩ := H; (try dsimp -simprocs only at H); have A12 := am A120; clear A120
    by_cases c13 : t328 = true
    ·subst c13
     rw [if_pos rfl] at H
     by_cases c14 : (l2.length : Int) = (l1.length : Int)
     ·rw [if_pos c14] at H
      have c14b0 : ((l2.length : Int) == (l1.length : Int)) = true := beq_iff_eq.mpr c14; have c14b1 : ((l2.length : Int) != (l1.length : Int)) = false := bne_eq_false_iff_eq.mpr c14
      have c14b2 : (l2.length == l1.length) = true := by first | simpa using c14 | (simp at c14 ⊢; omega)
      clear c14; replace H := Option.bind_eq_some_iff.mp H; obtain ⟨t329, A150, H⟩ := H; (try dsimp -simprocs only at H); have A15 := am A150; clear A150; obtain rfl := Option.some.inj H
      go_enter Try.func157, Try.ntmps157
      go_wp2_with (first | ((with_reducible refine gate_dst (N := 9) rfl ?_); (try (refine gate_guard (by rfl) ?_; dsimp only)); refine bE 9 #[.int .i64 a4] 3 ?_; intro gb324 hg w16 hbox hb; have n0_ := Bb HB hb; have n1_ := am (hbox); have n2_ := Gl HB hg; have n3_ := Gl HB hg; clear HB; revert n0_ n1_ n2_ n3_; intro HB BK324 GW324 GE324; clear hb hbox hg) | ((with_reducible refine gate_callee (f := 80) rfl ?_); refine gL (some 12) Try.func80 #[.int .i64 a0] ?_; (with_reducible refine (impl_isSeed.calls a0 true _ A6.out).mono ?_); rintro e w' ⟨rfl, ⟨nd, rfl⟩⟩; refine ⟨_, rfl, ?_⟩) | (go_at_call 69; (with_reducible refine (impl_AreKeys.calls k _ _ l1 true _ ?side1 ?side2 A8.out).mono ?_); (case side1 => exact Cz (Kd.C_below HR1.out (Bq))); (case side2 => exact HC1.out); rintro e w' ⟨rfl, ⟨nd, rfl⟩⟩) | (go_at_call 112; (with_reducible refine (impl_segmentOk.calls a3 true _ A10.out).mono ?_); rintro e w' ⟨rfl, ⟨nd, rfl⟩⟩; obtain ⟨hcz17_0, hfz17_0⟩ := cf1 (w := w16) BK324) | (go_at_call 131; (with_reducible refine (impl_widthOk.calls a4 true _ A12.out).mono ?_); rintro e w' ⟨rfl, ⟨nd, rfl⟩⟩) | ((with_reducible refine gate_callee (f := 85) rfl ?_); refine gL (some 38) Try.func85 #[.slice A2 l2.length c2, .func (.func 165) #[] #[.pointer (some ⟨gb324, 0, none⟩)]] ?_; (with_reducible refine (slices_ContainsFunc_int_int_at_impl_valuesOk_1.calls k _ _ l2  gb324 a4 t329 _ ?side1 ?side2 ?side3 A15.out).mono ?_); (case side1 => exact Cz (Kd.C_below HR2.out (Bq))); (case side2 => exact HC2.out); (case side3 => exact Kz BK324.out); rintro e w' ⟨rfl, ⟨nd, rfl⟩⟩; refine ⟨_, rfl, ?_⟩))
      go_ret
      exact ⟨eZ, Bq⟩
     ·rw [if_neg c14] at H
      have c14b0 : ((l2.length : Int) == (l1.length : Int)) = false := beq_eq_false_iff_ne.mpr c14; have c14b1 : ((l2.length : Int) != (l1.length : Int)) = true := bne_iff_ne.mpr c14
      have c14b2 : (l2.length == l1.length) = false := by first | simpa using c14 | (simp at c14 ⊢; omega)
      obtain rfl := Option.some.inj H
      go_enter Try.func157, Try.ntmps157
      go_wp2_with (first | ((with_reducible refine gate_dst (N := 9) rfl ?_); (try (refine gate_guard (by rfl) ?_; dsimp only)); refine bE 9 #[.int .i64 a4] 3 ?_; intro gb324 hg w18 hbox hb; have n0_ := Bb HB hb; have n1_ := am (hbox); have n2_ := Gl HB hg; have n3_ := Gl HB hg; clear HB; revert n0_ n1_ n2_ n3_; intro HB BK324 GW324 GE324; clear hb hbox hg) | ((with_reducible refine gate_callee (f := 80) rfl ?_); refine gL (some 12) Try.func80 #[.int .i64 a0] ?_; (with_reducible refine (impl_isSeed.calls a0 true _ A6.out).mono ?_); rintro e w' ⟨rfl, ⟨nd, rfl⟩⟩; refine ⟨_, rfl, ?_⟩) | (go_at_call 69; (with_reducible refine (impl_AreKeys.calls k _ _ l1 true _ ?side1 ?side2 A8.out).mono ?_); (case side1 => exact Cz (Kd.C_below HR1.out (Bq))); (case side2 => exact HC1.out); rintro e w' ⟨rfl, ⟨nd, rfl⟩⟩) | (go_at_call 112; (with_reducible refine (impl_segmentOk.calls a3 true _ A10.out).mono ?_); rintro e w' ⟨rfl, ⟨nd, rfl⟩⟩; obtain ⟨hcz19_0, hfz19_0⟩ := cf1 (w := w18) BK324) | (go_at_call 131; (with_reducible refine (impl_widthOk.calls a4 true _ A12.out).mono ?_); rintro e w' ⟨rfl, ⟨nd, rfl⟩⟩))
      go_ret
      exact ⟨eZ, Bq⟩
    ·replace c13 := Bool.eq_false_iff.mpr c13
     subst c13
     rw [if_neg (show ¬ (false = true) by decide)] at H; obtain rfl := Option.some.inj H
     go_enter Try.func157, Try.ntmps157
     go_wp2_with (first | ((with_reducible refine gate_dst (N := 9) rfl ?_); (try (refine gate_guard (by rfl) ?_; dsimp only)); refine bE 9 #[.int .i64 a4] 3 ?_; intro gb324 hg w20 hbox hb; have n0_ := Bb HB hb; have n1_ := am (hbox); have n2_ := Gl HB hg; have n3_ := Gl HB hg; clear HB; revert n0_ n1_ n2_ n3_; intro HB BK324 GW324 GE324; clear hb hbox hg) | ((with_reducible refine gate_callee (f := 80) rfl ?_); refine gL (some 12) Try.func80 #[.int .i64 a0] ?_; (with_reducible refine (impl_isSeed.calls a0 true _ A6.out).mono ?_); rintro e w' ⟨rfl, ⟨nd, rfl⟩⟩; refine ⟨_, rfl, ?_⟩) | (go_at_call 69; (with_reducible refine (impl_AreKeys.calls k _ _ l1 true _ ?side1 ?side2 A8.out).mono ?_); (case side1 => exact Cz (Kd.C_below HR1.out (Bq))); (case side2 => exact HC1.out); rintro e w' ⟨rfl, ⟨nd, rfl⟩⟩) | (go_at_call 112; (with_reducible refine (impl_segmentOk.calls a3 true _ A10.out).mono ?_); rintro e w' ⟨rfl, ⟨nd, rfl⟩⟩; obtain ⟨hcz21_0, hfz21_0⟩ := cf1 (w := w20) BK324) | (go_at_call 131; (with_reducible refine (impl_widthOk.calls a4 false _ A12.out).mono ?_); rintro e w' ⟨rfl, ⟨nd, rfl⟩⟩))
     go_ret
     exact ⟨eZ, Bq⟩
   ·replace c11 := Bool.eq_false_iff.mpr c11
    subst c11
    rw [if_neg (show ¬ (false = true) by decide)] at H; obtain rfl := Option.some.inj H
    go_enter Try.func157, Try.ntmps157
    go_wp2_with (first | ((with_reducible refine gate_dst (N := 9) rfl ?_); (try (refine gate_guard (by rfl) ?_; dsimp only)); refine bE 9 #[.int .i64 a4] 3 ?_; intro gb324 hg w22 hbox hb; have n0_ := Bb HB hb; have n1_ := am (hbox); have n2_ := Gl HB hg; have n3_ := Gl HB hg; clear HB; revert n0_ n1_ n2_ n3_; intro HB BK324 GW324 GE324; clear hb hbox hg) | ((with_reducible refine gate_callee (f := 80) rfl ?_); refine gL (some 12) Try.func80 #[.int .i64 a0] ?_; (with_reducible refine (impl_isSeed.calls a0 true _ A6.out).mono ?_); rintro e w' ⟨rfl, ⟨nd, rfl⟩⟩; refine ⟨_, rfl, ?_⟩) | (go_at_call 69; (with_reducible refine (impl_AreKeys.calls k _ _ l1 true _ ?side1 ?side2 A8.out).mono ?_); (case side1 => exact Cz (Kd.C_below HR1.out (Bq))); (case side2 => exact HC1.out); rintro e w' ⟨rfl, ⟨nd, rfl⟩⟩) | (go_at_call 112; (with_reducible refine (impl_segmentOk.calls a3 false _ A10.out).mono ?_); rintro e w' ⟨rfl, ⟨nd, rfl⟩⟩))
    go_ret
    exact ⟨eZ, Bq⟩
  ·replace c9 := Bool.eq_false_iff.mpr c9
   subst c9
   rw [if_neg (show ¬ (false = true) by decide)] at H; obtain rfl := Option.some.inj H
   go_enter Try.func157, Try.ntmps157
   go_wp2_with (first | ((with_reducible refine gate_dst (N := 9) rfl ?_); (try (refine gate_guard (by rfl) ?_; dsimp only)); refine bE 9 #[.int .i64 a4] 3 ?_; intro gb324 hg w23 hbox hb; have n0_ := Bb HB hb; have n1_ := am (hbox); have n2_ := Gl HB hg; have n3_ := Gl HB hg; clear HB; revert n0_ n1_ n2_ n3_; intro HB BK324 GW324 GE324; clear hb hbox hg) | ((with_reducible refine gate_callee (f := 80) rfl ?_); refine gL (some 12) Try.func80 #[.int .i64 a0] ?_; (with_reducible refine (impl_isSeed.calls a0 true _ A6.out).mono ?_); rintro e w' ⟨rfl, ⟨nd, rfl⟩⟩; refine ⟨_, rfl, ?_⟩) | (go_at_call 69; (with_reducible refine (impl_AreKeys.calls k _ _ l1 false _ ?side1 ?side2 A8.out).mono ?_); (case side1 => exact Cz (Kd.C_below HR1.out (Bq))); (case side2 => exact HC1.out); rintro e w' ⟨rfl, ⟨nd, rfl⟩⟩))
   go_ret
   exact ⟨eZ, Bq⟩
 ·replace c7 := Bool.eq_false_iff.mpr c7
  subst c7
  rw [if_neg (show ¬ (false = true) by decide)] at H; obtain rfl := Option.some.inj H
  go_enter Try.func157, Try.ntmps157
  go_wp2_with (first | ((with_reducible refine gate_dst (N := 9) rfl ?_); (try (refine gate_guard (by rfl) ?_; dsimp only)); refine bE 9 #[.int .i64 a4] 3 ?_; intro gb324 hg w24 hbox hb; have n0_ := Bb HB hb; have n1_ := am (hbox); have n2_ := Gl HB hg; have n3_ := Gl HB hg; clear HB; revert n0_ n1_ n2_ n3_; intro HB BK324 GW324 GE324; clear hb hbox hg) | ((with_reducible refine gate_callee (f := 80) rfl ?_); refine gL (some 12) Try.func80 #[.int .i64 a0] ?_; (with_reducible refine (impl_isSeed.calls a0 false _ A6.out).mono ?_); rintro e w' ⟨rfl, ⟨nd, rfl⟩⟩; refine ⟨_, rfl, ?_⟩))
  go_ret
  exact ⟨eZ, Bq⟩

-- NOT PRINTED: function 166 (impl_PeelStep_1)

-- NOT PRINTED: function 158 (impl_PeelStep)

def impl_Table_value.f (a0_0 : Int) (a0_1 : Int) (a0_2 : Int) (l0_3 : List Int) (l1 : List Int) : Option (Int) := if 0 < (l1.length : Int) then (if 0 ≤ (rd l1 0) then (if (rd l1 0) < (l0_3.length : Int) then (if 1 < (l1.length : Int) then (if 0 ≤ (rd l1 1) then (if (rd l1 1) < (l0_3.length : Int) then (if 2 < (l1.length : Int) then (if 0 ≤ (rd l1 2) then (if (rd l1 2) < (l0_3.length : Int) then (some (Go.bits .xor .i64 (Go.bits .xor .i64 (rd l0_3 (rd l1 0)) (rd l0_3 (rd l1 1))) (rd l0_3 (rd l1 2)))) else (none)) else (none)) else (none)) else (none)) else (none)) else (none)) else (none)) else (none)) else (none)
theorem impl_Table_value.calls (g0 : Nat) (a0_0 : Int) (a0_1 : Int) (a0_2 : Int) (A0_3 : Option Addr) (c0_3 : Nat) (l0_3 : List Int) (A1 : Option Addr) (c1 : Nat) (l1 : List Int) (r : Int) (w : World) (hb0 : w.heap[g0]? = some (.cells #[.int .i64 a0_0, .int .i64 a0_1, .int .i64 a0_2, .slice A0_3 l0_3.length c0_3] 70 (0, 0))) (hr0_3 : Kd.C (Kd.int .i64) w A0_3 l0_3.length l0_3) (hc0_3 : l0_3.length ≤ c0_3) (hr1 : Kd.C (Kd.int .i64) w A1 l1.length l1) (hc1 : l1.length ≤ c1) (h : impl_Table_value.f a0_0 a0_1 a0_2 l0_3 l1 = some r) :
  Calls Try.prog 159 #[.pointer (some ⟨g0, 0, none⟩), .slice A1 l1.length c1] w fun e w' => e = .returned (.int .i64 r) ∧ Drawn0 w w' := by
 have HR0_3 := am hr0_3; have HC0_3 := am hc0_3; clear hr0_3 hc0_3; have HR1 := am hr1; have HC1 := am hc1; clear hr1 hc1; have BK0 := am hb0; clear hb0; have H : (if 0 < (l1.length : Int) then (if 0 ≤ (rd l1 0) then (if (rd l1 0) < (l0_3.length : Int) then (if 1 < (l1.length : Int) then (if 0 ≤ (rd l1 1) then (if (rd l1 1) < (l0_3.length : Int) then (if 2 < (l1.length : Int) then (if 0 ≤ (rd l1 2) then (if (rd l1 2) < (l0_3.length : Int) then (some (Go.bits .xor .i64 (Go.bits .xor .i64 (rd l0_3 (rd l1 0)) (rd l0_3 (rd l1 1))) (rd l0_3 (rd l1 2)))) else (none)) else (none)) else (none)) else (none)) else (none)) else (none)) else (none)) else (none)) else (none)) = some r := h; clear h
 by_cases c3 : 0 < (l1.length : Int)
 ·rw [if_pos c3] at H
  have c3b0 : decide (0 < (l1.length : Int)) = true := decide_eq_true c3; have c3b1 : decide (0 < l1.length) = true := decide_eq_true (by omega); clear c3
  by_cases c4 : 0 ≤ (rd l1 0)
  ·rw [if_pos c4] at H
   have c4b0 : decide (0 ≤ (rd l1 0)) = true := decide_eq_true c4; clear c4
   by_cases c5 : (rd l1 0) < (l0_3.length : Int)
   ·rw [if_pos c5] at H
    have c5b0 : decide ((rd l1 0) < (l0_3.length : Int)) = true := decide_eq_true c5; clear c5
    by_cases c6 : 1 < (l1.length : Int)
    ·rw [if_pos c6] at H
     have c6b0 : decide (1 < (l1.length : Int)) = true := decide_eq_true c6; have c6b1 : decide (1 < l1.length) = true := decide_eq_true (by omega); clear c6
     by_cases c7 : 0 ≤ (rd l1 1)
     ·rw [if_pos c7] at H
      have c7b0 : decide (0 ≤ (rd l1 1)) = true := decide_eq_true c7; clear c7
      by_cases c8 : (rd l1 1) < (l0_3.length : Int)
      ·rw [if_pos c8] at H
       have c8b0 : decide ((rd l1 1) < (l0_3.length : Int)) = true := decide_eq_true c8; clear c8
       by_cases c9 : 2 < (l1.length : Int)
       ·rw [if_pos c9] at H
        have c9b0 : decide (2 < (l1.length : Int)) = true := decide_eq_true c9; have c9b1 : decide (2 < l1.length) = true := decide_eq_true (by omega); clear c9
        by_cases c10 : 0 ≤ (rd l1 2)
        ·rw [if_pos c10] at H
         have c10b0 : decide (0 ≤ (rd l1 2)) = true := decide_eq_true c10; clear c10
         by_cases c11 : (rd l1 2) < (l0_3.length : Int)
         ·rw [if_pos c11] at H
          have c11b0 : decide ((rd l1 2) < (l0_3.length : Int)) = true := decide_eq_true c11; clear c11; obtain rfl := Option.some.inj H; obtain ⟨hcz12_0, hcz12_1, hcz12_2, hcz12_3, hfz12_0, hfz12_1, hfz12_2, hfz12_3⟩ := cf4 (w := w) BK0; have p330 : 0 ≤ (0 : Int) := (by omega); have q330 : 0 < (l1.length : Int) := dT; obtain ⟨ad330, e330, hx330_0⟩ := Kd.at_int HR1.out 0 p330 q330; cases e330; have qi330 : (0 < l1.length) = True := eq_true (by omega)
          (try rw [show ((0 : Int)).toNat = 0 from rfl] at hx330_0)
          (try rw [Addr.add_zero'] at hx330_0)
          replace p330 := eq_true p330; replace q330 := eq_true q330; obtain ⟨ad331, e331, hx331_0⟩ := Kd.at_int HR0_3.out (rd l1 0) dT dT; cases e331; have p331 := eT (0 ≤ ((rd l1 0) : Int)); have q331 := eT ((rd l1 0) < (l0_3.length : Int)); have p332 : 0 ≤ (1 : Int) := (by omega); have q332 : 1 < (l1.length : Int) := dT; obtain ⟨ad332, e332, hx332_0⟩ := Kd.at_int HR1.out 1 p332 q332; obtain rfl : ad330 = ad332 := (by injection e332)
          (try simp only [show (1 : Int).toNat = 1 from rfl, Nat.reduceMul, Nat.reduceEqDiff, Go.Addr.add, ↓reduceIte] at hx332_0)
          have qi332 : (1 < l1.length) = True := eq_true (by omega)
          (try rw [show ((1 : Int)).toNat = 1 from rfl] at hx332_0)
          replace p332 := eq_true p332; replace q332 := eq_true q332; have p333 : 0 ≤ ((rd l1 1) : Int) := dT; have q333 : (rd l1 1) < (l0_3.length : Int) := dT; obtain ⟨ad333, e333, hx333_0⟩ := Kd.at_int HR0_3.out (rd l1 1) p333 q333; obtain rfl : ad331 = ad333 := (by injection e333); replace p333 := eq_true p333; replace q333 := eq_true q333; have p334 : 0 ≤ (2 : Int) := (by omega); have q334 : 2 < (l1.length : Int) := dT; obtain ⟨ad334, e334, hx334_0⟩ := Kd.at_int HR1.out 2 p334 q334; obtain rfl : ad330 = ad334 := (by injection e334)
          (try simp only [show (2 : Int).toNat = 2 from rfl, Nat.reduceMul, Nat.reduceEqDiff, Go.Addr.add, ↓reduceIte] at hx334_0)
          have qi334 : (2 < l1.length) = True := eq_true (by omega)
          (try rw [show ((2 : Int)).toNat = 2 from rfl] at hx334_0)
          replace p334 := eq_true p334; replace q334 := eq_true q334; have p335 : 0 ≤ ((rd l1 2) : Int) := dT; have q335 : (rd l1 2) < (l0_3.length : Int) := dT; obtain ⟨ad335, e335, hx335_0⟩ := Kd.at_int HR0_3.out (rd l1 2) p335 q335; obtain rfl : ad331 = ad335 := (by injection e335); replace p335 := eq_true p335; replace q335 := eq_true q335
          go_enter Try.func159, Try.ntmps159
          go_wp2
          repeat (go_quiet (fail); try go_wp2)
          go_ret
          exact ⟨by first | rfl | (simp; done) | (simp [*]; done), by repeat (first | exact Drawn0.refl _ | apply Drawn0.step)⟩
         ·rw [if_neg c11] at H
          exact absurd H (by simp)
        ·rw [if_neg c10] at H
         exact absurd H (by simp)
       ·rw [if_neg c9] at H
        exact absurd H (by simp)
      ·rw [if_neg c8] at H
       exact absurd H (by simp)
     ·rw [if_neg c7] at H
      exact absurd H (by simp)
    ·rw [if_neg c6] at H
     exact absurd H (by simp)
   ·rw [if_neg c5] at H
    exact absurd H (by simp)
  ·rw [if_neg c4] at H
   exact absurd H (by simp)
 ·rw [if_neg c3] at H
  exact absurd H (by simp)

open Go Go.Shelf Go.Proofs.YthkcgimnagpmaaaGp
def impl_TableByPeeling.in3 (e : List Int) (n : Nat) : Bool := decide (2 < e.length) && (decide (0 ≤ rd e 0) && (decide (rd e 0 < (n : Int)) && (decide (0 ≤ rd e 1) && (decide (rd e 1 < (n : Int)) && (decide (0 ≤ rd e 2) && decide (rd e 2 < (n : Int)))))))
theorem impl_TableByPeeling.in3E {e : List Int} {n : Nat} (h : impl_TableByPeeling.in3 e n = true) : 2 < e.length ∧ 0 ≤ rd e 0 ∧ rd e 0 < (n : Int) ∧ 0 ≤ rd e 1 ∧ rd e 1 < (n : Int) ∧ 0 ≤ rd e 2 ∧ rd e 2 < (n : Int) := by
  simp only [impl_TableByPeeling.in3, Bool.and_eq_true, decide_eq_true_eq] at h
  exact ⟨h.1, h.2.1, h.2.2.1, h.2.2.2.1, h.2.2.2.2.1, h.2.2.2.2.2.1, h.2.2.2.2.2.2⟩
def impl_TableByPeeling.ok (E : List (List Int)) (V : List Int) (n : Nat) (s : S51) : Bool := decide (0 ≤ s.f1) && (decide (s.f1 < (n : Int)) && (decide (0 ≤ s.f0) && (decide (s.f0 < (E.length : Int)) && (impl_TableByPeeling.in3 (rd_L2 E s.f0) n && decide (s.f0 < (V.length : Int))))))
def impl_TableByPeeling.sum (m e : List Int) : Int := Go.bits .xor .i64 (Go.bits .xor .i64 (rd m (rd e 0)) (rd m (rd e 1))) (rd m (rd e 2))
def impl_TableByPeeling.step (E : List (List Int)) (V : List Int) (m : List Int) (s : S51) : List Int := (m.set ((s.f1) : Int).toNat 0).set ((s.f1) : Int).toNat (Go.bits .xor .i64 (rd V (s.f0)) (impl_TableByPeeling.sum (m.set ((s.f1) : Int).toNat 0) (rd_L2 E (s.f0))))
theorem impl_TableByPeeling.ord {o0 o1 o2 : Int} {e : List Int} (m : List Int) (h : impl_TableByPeeling.in3 e m.length = true) : impl_Table_value.f o0 o1 o2 m e = some (impl_TableByPeeling.sum m e) := by
  obtain ⟨h2, a0, b0, a1, b1, a2, b2⟩ := impl_TableByPeeling.in3E h
  unfold impl_Table_value.f impl_TableByPeeling.sum
  rw [if_pos (by omega), if_pos a0, if_pos b0, if_pos (by omega), if_pos a1, if_pos b1, if_pos (by omega), if_pos a2, if_pos b2]
theorem impl_TableByPeeling.okE {E : List (List Int)} {V : List Int} {n : Nat} {s : S51} (h : impl_TableByPeeling.ok E V n s = true) : 0 ≤ s.f1 ∧ s.f1 < (n : Int) ∧ 0 ≤ s.f0 ∧ s.f0 < (E.length : Int) ∧ impl_TableByPeeling.in3 (rd_L2 E s.f0) n = true ∧ s.f0 < (V.length : Int) := by
  simp only [impl_TableByPeeling.ok, Bool.and_eq_true, decide_eq_true_eq] at h
  exact ⟨h.1, h.2.1, h.2.2.1, h.2.2.2.1, h.2.2.2.2.1, h.2.2.2.2.2⟩
def impl_TableByPeeling.l0 (xs : List S51) (_ : Int) (V : List Int) (_ : Int) (E : List (List Int)) (o0 o1 o2 : Int) (m : List Int) : Option (Int × Int × Int × List Int × Bool) := if (xs.all (impl_TableByPeeling.ok E V m.length) = true ∧ 0 < m.length ∧ xs.length ≤ 17592186044416) then (some (o0, o1, o2, xs.foldr (fun s m => impl_TableByPeeling.step E V m s) m, true)) else (none)
def impl_TableByPeeling.f (k : Nat) (a0 : Int) (l1 : List ByteArray) (l2 : List Int) (a3 : Int) (a4 : Int) : Option (Int × Int × Int × List Int × Bool) := (impl_valuesOk.f k a0 l1 l2 a3 a4).bind fun t338 => (if t338 = true then ((impl_hyper.f k a0 l1 a3).bind fun bt339 => ((impl_Hyper_order.f k bt339.1 bt339.2).bind fun bt344 => (if bt344.2 = true then (if 0 ≤ bt339.1 then (if (bt339.1 : Int).toNat ≤ 35184372088832 then (impl_TableByPeeling.l0 bt344.1 (wrap64 ((bt344.1.length : Int) - 1)) l2 bt339.1 bt339.2 a0 a3 a4 (List.replicate (bt339.1 : Int).toNat 0)) else (none)) else (none)) else (some (0, 0, 0, ([] : List Int), false))))) else (some (0, 0, 0, ([] : List Int), false)))
def impl_TableByPeeling.T11 : Bool × List (List Nat × List Nat) := (true, [([], []), ([0], [0]), ([], []), ([2], [2]), ([], []), ([], []), ([5], [5]), ([4, 6], [4, 6]), ([7], [7]), ([], []), ([9], [9]), ([], []), ([11], [11]), ([10, 12], [10, 12]), ([13], [13]), ([14], [14]), ([8, 15], [8, 15]), ([1, 3, 0, 1, 2, 3, 4, 5, 6, 7, 8, 9, 10, 11, 12, 13, 14, 15, 16], [1, 3]), ([17, 16, 15, 0, 1, 2, 3, 4, 5, 6, 7, 8, 9, 10, 11, 12, 13, 14, 15, 16], [16, 17])])
def impl_TableByPeeling.B11 : List Nat := [0, 1, 0, 4, 0, 0, 32, 112, 240, 0, 512, 0, 2048, 7680, 15872, 32256, 65520, 131071, 262143]
theorem impl_TableByPeeling.tab11 : rtab .any (opsOf Try.f132 11) = impl_TableByPeeling.T11 := by kernel_rfl
theorem impl_TableByPeeling.bits11 : waitsOk impl_TableByPeeling.T11.2 impl_TableByPeeling.B11 = true := by kernel_rfl
theorem impl_TableByPeeling.calls (k : Nat) (a0 : Int) (A1 : Option Addr) (c1 : Nat) (l1 : List ByteArray) (A2 : Option Addr) (c2 : Nat) (l2 : List Int) (a3 : Int) (a4 : Int) (r1 : Int) (r2 : Int) (r3 : Int) (r4 : List Int) (r5 : Bool) (w : World) (hr1 : Kd.C Kd.string w A1 l1.length l1) (hc1 : l1.length ≤ c1) (hr2 : Kd.C (Kd.int .i64) w A2 l2.length l2) (hc2 : l2.length ≤ c2) (h : impl_TableByPeeling.f k a0 l1 l2 a3 a4 = some (r1, r2, r3, r4, r5)) :
  Calls Try.prog 132 #[.int .i64 a0, .slice A1 l1.length c1, .slice A2 l2.length c2, .int .i64 a3, .int .i64 a4] w fun e w' => ∃ v3_ : Value, e = .returned (.tuple #[.agg #[.int .i64 r1, .int .i64 r2, .int .i64 r3, v3_], .bool r5]) ∧ Kd.R (Kd.int .i64) 3 w' w.heap.size (fun _ => True) v3_ r4 ∧ Below w.heap.size w w' := by
 have hu70 := Try.underlying70; have hu37 := Try.underlying37; have hu51 := Try.underlying51; have HR1 := am hr1; have HC1 := am hc1; clear hr1 hc1; have HR2 := am hr2; have HC2 := am hc2; clear hr2 hc2; have HB := am (Below.refl w.heap.size w); have H : ((impl_valuesOk.f k a0 l1 l2 a3 a4).bind fun t338 => (if t338 = true then ((impl_hyper.f k a0 l1 a3).bind fun bt339 => ((impl_Hyper_order.f k bt339.1 bt339.2).bind fun bt344 => (if bt344.2 = true then (if 0 ≤ bt339.1 then (if (bt339.1 : Int).toNat ≤ 35184372088832 then (impl_TableByPeeling.l0 bt344.1 (wrap64 ((bt344.1.length : Int) - 1)) l2 bt339.1 bt339.2 a0 a3 a4 (List.replicate (bt339.1 : Int).toNat 0)) else (none)) else (none)) else (some (0, 0, 0, ([] : List Int), false))))) else (some (0, 0, 0, ([] : List Int), false)))) = some (r1, r2, r3, r4, r5) := h; clear h; replace H := Option.bind_eq_some_iff.mp H; obtain ⟨t338, A60, H⟩ := H; (try dsimp -simprocs only at H); have A6 := am A60; clear A60
 by_cases c7 : t338 = true
 ·subst c7
  rw [if_pos rfl] at H; replace H := Option.bind_eq_some_iff.mp H; obtain ⟨⟨t339, t340⟩, A80, H⟩ := H; (try dsimp -simprocs only at H); have A8 := am A80; clear A80; replace H := Option.bind_eq_some_iff.mp H; obtain ⟨⟨t344, t345⟩, A90, H⟩ := H; (try dsimp -simprocs only at H); have A9 := am A90; clear A90
  by_cases c10 : t345 = true
  ·subst c10
   rw [if_pos rfl] at H
   by_cases c11 : 0 ≤ t339
   ·rw [if_pos c11] at H
    have c11b0 := eq_true c11; have c11b1 : decide (0 ≤ t339) = true := decide_eq_true c11; clear c11
    by_cases c12 : (t339 : Int).toNat ≤ 35184372088832
    ·rw [if_pos c12] at H
     have c12b0 := eq_true c12; have c12b1 : decide ((t339 : Int).toNat ≤ 35184372088832) = true := decide_eq_true c12; clear c12; obtain ⟨y348, hy348⟩ : ∃ y_ : List Int, y_ = (List.replicate (t339 : Int).toNat 0) := ⟨_, rfl⟩
     replace H : (impl_TableByPeeling.l0 t344 (wrap64 ((t344.length : Int) - 1)) l2 t339 t340 a0 a3 a4 y348) = some (r1, r2, r3, r4, r5) := by first | (rw [hy348]; with_reducible exact H) | (have H2_ := (Option.bind_some _ _).symm.trans H; rw [hy348]; with_reducible exact H2_) | (have H2_ := (Option.bind_some _ _).symm.trans H; with_reducible exact H2_) | with_reducible exact H | (rw [hy348]; exact H) | exact H
     have Ny348 := am hy348; clear hy348; have H' := am H; clear H
     let bp_ : Exit → Act → World → Prop := bodyPost Try.prog Try.f132 (fun _ _ => True); refine calls_marks Try.func132 rfl ?_; simp only [Try.ntmps132, List.size_toArray, List.length_cons, List.length_nil, Nat.reduceAdd, Nat.reduceSub, Array.replicate_succ, Array.replicate_zero, List.push_toArray, List.append_toArray, List.nil_append, List.cons_append]
     go_wp2_with (first | ((with_reducible refine gate_dst (N := 7) rfl ?_); refine bE 7 #[.slice A2 l2.length c2] 32 ?_; intro gb336 hg w13 hbox hb; have n0_ := Bb HB hb; have n1_ := am (hbox); have n2_ := Gl HB hg; have n3_ := Gl HB hg; clear HB; revert n0_ n1_ n2_ n3_; intro HB BK336 GW336 GE336; clear hb hbox hg) | ((with_reducible refine gate_dst (N := 10) rfl ?_); refine bE 10 #[.int .i64 0, .int .i64 0, .int .i64 0, .slice none 0 0] 70 ?_; intro gb337 hg w14 hbox hb; have n0_ := Kb BK336 hb; have n1_ := Bc HB hb; have n2_ := am (hbox); have n3_ := Gm HB hg; have n4_ := Gm HB hg; have n5_ := Nl BK336 hg; have n6_ := Ng BK336 hg; clear BK336 HB; revert n0_ n1_ n2_ n3_ n4_ n5_ n6_; intro BK336 HB BK337 GW337 GE337 NB336_337 NB337_336; clear hb hbox hg; have hnb15 := NB336_337.out; have hnc15 := NB337_336.out; obtain ⟨hcz16_0, hfz16_0⟩ := cf1 (w := w14) BK336) | ((with_reducible refine gate_callee (f := 157) rfl ?_); refine gL (some 23) Try.func157 #[.int .i64 a0, .slice A1 l1.length c1, .slice A2 l2.length c2, .int .i64 a3, .int .i64 a4] ?_; (with_reducible refine (impl_valuesOk.calls k a0 _ _ l1 _ _ l2 a3 a4 true _ ?side1 ?side2 ?side3 ?side4 A6.out).mono ?_); (case side1 => exact Cz (Kd.C_below HR1.out HB.out)); (case side2 => exact HC1.out); (case side3 => exact Cz (Kd.C_below HR2.out HB.out)); (case side4 => exact HC2.out); rintro e w17 ⟨rfl, hb⟩; refine ⟨_, rfl, ?_⟩; have n0_ := Kb BK336 hb; have n1_ := Kb BK337 hb; have n2_ := Bc HB hb; clear BK336 BK337 HB; revert n0_ n1_ n2_; intro BK336 BK337 HB; (try clear hb); (try clear hb2); (try clear hk); (try clear hi)) | ((with_reducible refine gate_callee (f := 116) rfl ?_); refine gL (some 29) Try.func116 #[.int .i64 a0, .slice A1 l1.length c1, .int .i64 a3] ?_; (with_reducible refine (impl_hyper.calls k a0 _ _ l1 a3 t339 t340 _ ?side1 ?side2 A8.out).mono ?_); (case side1 => exact Cz (Kd.C_below HR1.out HB.out)); (case side2 => exact HC1.out); rintro e w18 ⟨v341, rfl, ho0, hb⟩; refine ⟨_, rfl, ?_⟩; have n0_ := am (Kd.S_lower (Kd.S_newB ho0 (g := gb336) (o := .cells #[.slice A2 l2.length c2] 32 (0, 0)) (Kz BK336.out)) (below_size (w := w) (Bq))); have n1_ := Kb BK336 hb; have n2_ := Kb BK337 hb; have n3_ := Bc HB hb; clear BK336 BK337 HB; revert n0_ n1_ n2_ n3_; intro HO342 BK336 BK337 HB; (try clear hb); (try clear hb2); (try clear hk); (try clear hi); (try clear ho0)) | ((with_reducible refine gate_dst (N := 12) rfl ?_); refine bE 12 #[.int .i64 0, .slice none 0 0] 37 ?_; intro gb343 hg w19 hbox hb; have n0_ := am (Kd.S_below (by (with_reducible repeat (first | apply Kd.S_alloc | apply Kd.S_drewN | apply Kd.S_drew)); exact HO342.out) hb); have n1_ := Kb BK336 hb; have n2_ := Kb BK337 hb; have n3_ := Bc HB hb; have n4_ := am (hbox); have n5_ := Gm HB hg; have n6_ := Gm HB hg; have n7_ := Nl BK336 hg; have n8_ := Ng BK336 hg; have n9_ := Nl BK337 hg; have n10_ := Ng BK337 hg; clear HO342 BK336 BK337 HB; revert n0_ n1_ n2_ n3_ n4_ n5_ n6_ n7_ n8_ n9_ n10_; intro HO342 BK336 BK337 HB BK343 GW343 GE343 NB336_343 NB343_336 NB337_343 NB343_337; clear hb hbox hg; have hnb20 := NB343_336.out; have hnc20 := NB336_343.out; have hnb21 := NB343_337.out; have hnc21 := NB337_343.out; obtain ⟨hcz22_0, hcz22_1, hfz22_0, hfz22_1⟩ := cf2 (w := w19) BK343; obtain ⟨Ao23, co23, eo23⟩ := Kd.S_slice HO342.out; subst eo23) | ((with_reducible refine gate_callee (f := 117) rfl ?_); refine gL (some 31) Try.func117 #[.pointer (some ⟨gb343, 0, none⟩)] ?_; (with_reducible refine (impl_Hyper_order.calls k gb343 t339 Ao23 co23 t340 t344 true _ ?side1 ?side2 ?side3 A9.out).mono ?_); (case side1 => (with_reducible repeat (first | refine blk_drewN ?_ _ | refine blk_drew ?_ | refine blk_alloc ?_ _)); refine blk_put (cs := #[.int .i64 t339, .slice none 0 0]) ?_ 1 _ rfl; (with_reducible repeat (first | refine blk_drewN ?_ _ | refine blk_drew ?_ | refine blk_alloc ?_ _)); refine blk_put (cs := #[.int .i64 0, .slice none 0 0]) ?_ 0 _ rfl; exact Kz BK343.out); (case side2 => refine (Kd.S_reads' (e := 32) (base := w.heap.size) (ok := fun k_ => (True ∧ k_ ≠ gb336)) (n := t340.length) (c := co23) ?_).2.2; exact (by (with_reducible repeat (first | apply Kd.S_alloc | apply Kd.S_drewN | apply Kd.S_drew)); exact (Kd.S_mono (Kd.S_far (p := ⟨gb343, 1, none⟩) (Kd.S_far (p := ⟨gb343, 0, none⟩) (Kd.S_types HO342.out BK343.out (by decide)) (fun _ hk => hk.2) (.int .i64 t339)) (fun _ hk => hk.2) (.slice Ao23 t340.length co23)) (fun _ h_ => h_.1)))); (case side3 => exact (Kd.S_reads' HO342.out).2.1); rintro e w24 ⟨v346, rfl, ho0, hb⟩; refine ⟨_, rfl, ?_⟩; have n0_ := am (Kd.S_below (by (with_reducible repeat (first | apply Kd.S_alloc | apply Kd.S_drewN | apply Kd.S_drew)); exact (Kd.S_mono (Kd.S_far (p := ⟨gb343, 1, none⟩) (Kd.S_far (p := ⟨gb343, 0, none⟩) (Kd.S_types HO342.out BK343.out (by decide)) (fun _ hk => hk.2) (.int .i64 t339)) (fun _ hk => hk.2) (.slice Ao23 t340.length co23)) (fun _ h_ => h_.1))) hb); have n1_ := Rm ho0 HB; have n2_ := am (blk_below (g := gb336) (o := .cells #[.slice A2 l2.length c2] 32 (0, 0)) (by (with_reducible repeat (first | refine blk_drewN ?_ _ | refine blk_drew ?_ | refine blk_alloc ?_ _)); refine blk_far ?_ NB336_343.out _; (with_reducible repeat (first | refine blk_drewN ?_ _ | refine blk_drew ?_ | refine blk_alloc ?_ _)); refine blk_far ?_ NB336_343.out _; exact Kz BK336.out) hb); have n3_ := am (blk_below (g := gb337) (o := .cells #[.int .i64 0, .int .i64 0, .int .i64 0, .slice none 0 0] 70 (0, 0)) (by (with_reducible repeat (first | refine blk_drewN ?_ _ | refine blk_drew ?_ | refine blk_alloc ?_ _)); refine blk_far ?_ NB337_343.out _; (with_reducible repeat (first | refine blk_drewN ?_ _ | refine blk_drew ?_ | refine blk_alloc ?_ _)); refine blk_far ?_ NB337_343.out _; exact Kz BK337.out) hb); have n4_ := am (blk_below (g := gb343) (o := .cells #[.int .i64 t339, .slice Ao23 t340.length co23] 37 (0, 0)) (by (with_reducible repeat (first | refine blk_drewN ?_ _ | refine blk_drew ?_ | refine blk_alloc ?_ _)); refine blk_put (cs := #[.int .i64 t339, .slice none 0 0]) ?_ 1 _ rfl; (with_reducible repeat (first | refine blk_drewN ?_ _ | refine blk_drew ?_ | refine blk_alloc ?_ _)); refine blk_put (cs := #[.int .i64 0, .slice none 0 0]) ?_ 0 _ rfl; exact Kz BK343.out) hb); have n5_ := Bc HB hb; clear HO342 BK336 BK337 BK343 HB; revert n0_ n1_ n2_ n3_ n4_ n5_; intro HO342 HO347 BK336 BK337 BK343 HB; (try clear hb); (try clear hb2); (try clear hk); (try clear hi); (try clear ho0); obtain ⟨hcz25_0, hcz25_1, hfz25_0, hfz25_1⟩ := cf2 (w := w24) BK343) | ((with_reducible refine gate_dst (N := 42) rfl ?_); refine Kd.R_make (Kd.int .i64) _ 3 rfl (N := 42) rfl 32 _ _ rfl t339 rfl rfl Try.underlying32 (.int .i64 0) 8 info3 rfl (by decide) (by omega) 0 (ok := fun _ => True) (okp := fun _ => True) rfl (fun _ hk => hk) trivial (dT) (Nat.le_trans (Nat.mul_le_mul_right _ (dT : t339.toNat ≤ 35184372088832)) (by omega)) (Below.refl _ _) (Nat.le_refl _) ?_; intro v349 w26 ho27 hb hg_ hnew_; clear hg_ hnew_; (first | rw [← Ny348.out] at ho27 | (simp only [Int.reduceToNat] at ho27; rw [← Ny348.out] at ho27)); have n0_ := am (Kd.S_elder' (by (with_reducible repeat (first | apply Kd.S_alloc | apply Kd.S_drewN | apply Kd.S_drew)); exact HO342.out) (Kd.R_base ho27) hb); have n1_ := Rb HO347 hb; have n2_ := Rm ho27 HB; have n3_ := Kb BK336 hb; have n4_ := Kb BK337 hb; have n5_ := Kb BK343 hb; have n6_ := Bc HB hb; clear HO342 HO347 BK336 BK337 BK343 HB; revert n0_ n1_ n2_ n3_ n4_ n5_ n6_; intro HO342 HO347 HO350 BK336 BK337 BK343 HB; clear hb ho27; obtain ⟨Ao28, co28, eo28⟩ := Kd.R_slice HO350.out; subst eo28) | ((with_reducible refine gate_dst (N := 15) rfl ?_); refine bE 15 #[.int .i64 0, .int .i64 0, .int .i64 0, .slice none 0 0] 70 ?_; intro gb351 hg w29 hbox hb; have n0_ := am (Kd.S_below (by (with_reducible repeat (first | apply Kd.S_alloc | apply Kd.S_drewN | apply Kd.S_drew)); exact HO342.out) hb); have n1_ := Rb HO347 hb; have n2_ := Rb HO350 hb; have n3_ := Kb BK336 hb; have n4_ := Kb BK337 hb; have n5_ := Kb BK343 hb; have n6_ := Bc HB hb; have n7_ := am (hbox); have n8_ := Gm HB hg; have n9_ := Gm HB hg; have n10_ := Nl BK336 hg; have n11_ := Ng BK336 hg; have n12_ := Nl BK337 hg; have n13_ := Ng BK337 hg; have n14_ := Nl BK343 hg; have n15_ := Ng BK343 hg; clear HO342 HO347 HO350 BK336 BK337 BK343 HB; revert n0_ n1_ n2_ n3_ n4_ n5_ n6_ n7_ n8_ n9_ n10_ n11_ n12_ n13_ n14_ n15_; intro HO342 HO347 HO350 BK336 BK337 BK343 HB BK351 GW351 GE351 NB336_351 NB351_336 NB337_351 NB351_337 NB343_351 NB351_343; clear hb hbox hg; have hnb30 := NB351_336.out; have hnc30 := NB336_351.out; have hnb31 := NB351_337.out; have hnc31 := NB337_351.out; have hnb32 := NB351_343.out; have hnc32 := NB343_351.out; obtain ⟨hcz33_0, hcz33_1, hcz33_2, hcz33_3, hfz33_0, hfz33_1, hfz33_2, hfz33_3⟩ := cf4 (w := w29) BK351; obtain ⟨Ao34, co34, eo34⟩ := Kd.R_slice HO347.out; subst eo34) | ((with_reducible refine gate_callee (f := 158) rfl ?_); refine gL (some 45) Try.func158 #[.slice Ao34 t344.length co34] ?_; (with_reducible refine (Backward.calls Ao34 t344.length co34 _).mono ?_); rintro e wB ⟨gbB, hgB, rfl, hbox, hb⟩; refine ⟨_, rfl, ?_⟩; have n0_ : Aside0 (Kd.R k51 51 wB w.heap.size (fun _ => True) (.slice Ao34 t344.length co34) t344) := Rbl hb ⟨Rz (Kd.R_mono (Kd.R_far (p := ⟨gb351, 3, none⟩) (Kd.R_far (p := ⟨gb351, 2, none⟩) (Kd.R_far (p := ⟨gb351, 1, none⟩) (Kd.R_far (p := ⟨gb351, 0, none⟩) (Kd.R_types HO347.out BK351.out (by decide)) (fun _ hk => hk.2) (.int .i64 a0)) (fun _ hk => hk.2) (.int .i64 a3)) (fun _ hk => hk.2) (.int .i64 a4)) (fun _ hk => hk.2) (.slice Ao28 y348.length co28)) (fun _ hk => trivial))⟩; have n1_ : Aside0 (Kd.S (Kd.slice 3 (Kd.int .i64)) 32 wB w.heap.size (fun k_ => some k_ ≠ ((.slice Ao28 y348.length co28) : Value).ownBlock ∧ k_ ≠ gb336) (.slice Ao23 t340.length co23) t340) := Sbl hb ⟨by (with_reducible repeat (first | apply Kd.S_alloc | apply Kd.S_drewN | apply Kd.S_drew)); exact Kd.S_mono (Kd.S_far (p := ⟨gb351, 3, none⟩) (Kd.S_far (p := ⟨gb351, 2, none⟩) (Kd.S_far (p := ⟨gb351, 1, none⟩) (Kd.S_far (p := ⟨gb351, 0, none⟩) (Kd.S_types HO342.out BK351.out (by decide)) (fun _ hk => hk.2) (.int .i64 a0)) (fun _ hk => hk.2) (.int .i64 a3)) (fun _ hk => hk.2) (.int .i64 a4)) (fun _ hk => hk.2) (.slice Ao28 y348.length co28)) (fun _ hk => ⟨hk.1.2, hk.1.1.2⟩)⟩; have n2_ : Aside0 (Kd.R (Kd.int .i64) 3 wB w.heap.size (fun _ => True) (.slice Ao28 y348.length co28) y348) := Rbl hb ⟨Rz (Kd.R_mono (Kd.R_far (p := ⟨gb351, 3, none⟩) (Kd.R_far (p := ⟨gb351, 2, none⟩) (Kd.R_far (p := ⟨gb351, 1, none⟩) (Kd.R_far (p := ⟨gb351, 0, none⟩) (Kd.R_types HO350.out BK351.out (by decide)) (fun _ hk => hk.2) (.int .i64 a0)) (fun _ hk => hk.2) (.int .i64 a3)) (fun _ hk => hk.2) (.int .i64 a4)) (fun _ hk => hk.2) (.slice Ao28 y348.length co28)) (fun _ hk => trivial))⟩; have n3_ : Aside0 (wB.heap[gb336]? = some (.cells #[(.slice A2 l2.length c2)] 32 (0, 0))) := Kbl hb ⟨by (with_reducible repeat (first | refine blk_drewN ?_ _ | refine blk_drew ?_ | refine blk_alloc ?_ _)); refine blk_far ?_ NB336_351.out _; (with_reducible repeat (first | refine blk_drewN ?_ _ | refine blk_drew ?_ | refine blk_alloc ?_ _)); refine blk_far ?_ NB336_351.out _; (with_reducible repeat (first | refine blk_drewN ?_ _ | refine blk_drew ?_ | refine blk_alloc ?_ _)); refine blk_far ?_ NB336_351.out _; (with_reducible repeat (first | refine blk_drewN ?_ _ | refine blk_drew ?_ | refine blk_alloc ?_ _)); refine blk_far ?_ NB336_351.out _; (with_reducible repeat (first | refine blk_drewN ?_ _ | refine blk_drew ?_ | refine blk_alloc ?_ _)); exact BK336.out⟩; have n4_ : Aside0 (wB.heap[gb337]? = some (.cells #[.int .i64 0, .int .i64 0, .int .i64 0, (.slice none 0 0)] 70 (0, 0))) := Kbl hb ⟨by (with_reducible repeat (first | refine blk_drewN ?_ _ | refine blk_drew ?_ | refine blk_alloc ?_ _)); refine blk_far ?_ NB337_351.out _; (with_reducible repeat (first | refine blk_drewN ?_ _ | refine blk_drew ?_ | refine blk_alloc ?_ _)); refine blk_far ?_ NB337_351.out _; (with_reducible repeat (first | refine blk_drewN ?_ _ | refine blk_drew ?_ | refine blk_alloc ?_ _)); refine blk_far ?_ NB337_351.out _; (with_reducible repeat (first | refine blk_drewN ?_ _ | refine blk_drew ?_ | refine blk_alloc ?_ _)); refine blk_far ?_ NB337_351.out _; (with_reducible repeat (first | refine blk_drewN ?_ _ | refine blk_drew ?_ | refine blk_alloc ?_ _)); exact BK337.out⟩; have n5_ : Aside0 (wB.heap[gb343]? = some (.cells #[.int .i64 t339, (.slice Ao23 t340.length co23)] 37 (0, 0))) := Kbl hb ⟨by (with_reducible repeat (first | refine blk_drewN ?_ _ | refine blk_drew ?_ | refine blk_alloc ?_ _)); refine blk_far ?_ NB343_351.out _; (with_reducible repeat (first | refine blk_drewN ?_ _ | refine blk_drew ?_ | refine blk_alloc ?_ _)); refine blk_far ?_ NB343_351.out _; (with_reducible repeat (first | refine blk_drewN ?_ _ | refine blk_drew ?_ | refine blk_alloc ?_ _)); refine blk_far ?_ NB343_351.out _; (with_reducible repeat (first | refine blk_drewN ?_ _ | refine blk_drew ?_ | refine blk_alloc ?_ _)); refine blk_far ?_ NB343_351.out _; (with_reducible repeat (first | refine blk_drewN ?_ _ | refine blk_drew ?_ | refine blk_alloc ?_ _)); exact BK343.out⟩; have n6_ : Aside0 (wB.heap[gb351]? = some (.cells #[.int .i64 a0, .int .i64 a3, .int .i64 a4, (.slice Ao28 y348.length co28)] 70 (0, 0))) := Kbl hb ⟨by (with_reducible repeat (first | refine blk_drewN ?_ _ | refine blk_drew ?_ | refine blk_alloc ?_ _)); refine blk_put (cs := #[.int .i64 a0, .int .i64 a3, .int .i64 a4, .slice none 0 0]) ?_ 3 _ rfl; (with_reducible repeat (first | refine blk_drewN ?_ _ | refine blk_drew ?_ | refine blk_alloc ?_ _)); refine blk_put (cs := #[.int .i64 a0, .int .i64 a3, .int .i64 0, .slice none 0 0]) ?_ 2 _ rfl; (with_reducible repeat (first | refine blk_drewN ?_ _ | refine blk_drew ?_ | refine blk_alloc ?_ _)); refine blk_put (cs := #[.int .i64 a0, .int .i64 0, .int .i64 0, .slice none 0 0]) ?_ 1 _ rfl; (with_reducible repeat (first | refine blk_drewN ?_ _ | refine blk_drew ?_ | refine blk_alloc ?_ _)); refine blk_put (cs := #[.int .i64 0, .int .i64 0, .int .i64 0, .slice none 0 0]) ?_ 0 _ rfl; (with_reducible repeat (first | refine blk_drewN ?_ _ | refine blk_drew ?_ | refine blk_alloc ?_ _)); exact BK351.out⟩; have n7_ : Aside0 (Below w.heap.size w wB) := Bbl hb ⟨Bq⟩; have nb_ := am hbox; clear hbox hb hgB; clear HO342 HO347 HO350 BK336 BK337 BK343 HB BK351; revert n0_ n1_ n2_ n3_ n4_ n5_ n6_ n7_ nb_; intro HO_44 HO_344001 HO_352003 BK336 BK337 BK343 BK351 HB BKB))
     (try simp only [aP])
     have hq_ := H'.out; unfold impl_TableByPeeling.l0 at hq_; split at hq_
     case isFalse => cases hq_
     case isTrue hc_ =>
      obtain ⟨hall, hpos, hreach⟩ := hc_; have HE_ := Option.some.inj hq_; simp only [Prod.mk.injEq] at HE_; obtain ⟨er0, er1, er2, er3, er4⟩ := HE_; subst er0; subst er1; subst er2; subst er4; clear hq_
      obtain ⟨go40, co40, eo40, gb40, gl40, cl40, HG40⟩ := Kd.R_form HO_352003.out (by omega); (first | cases eo40 | (injection eo40 with ea_ en_ ec_; (first | subst ea_ | (injection ea_ with ea_; subst ea_)); subst ec_; clear en_))
      have hneB : gbB ≠ go40 := fun e_ => Kd.R_ne HO_352003.out BKB.out (by decide) (by rw [e_]; rfl)
      refine range_back t344 gbB Ao34 co34 go40 co28 w.heap.size y348 rfl (by omega) BKB.out (Kd.R_mono (Kd.R_types HO_44.out HG40 (by decide)) (fun _ hk => hk.2)) gl40 hneB (R_int_ok HO_352003.out) (fun m s => impl_TableByPeeling.step t340 l2 m s) 17 ?assign ?body ?done
      case assign =>
       intro l j s W K hK
       have hQ_ : ¬ LetsOut (Exit.then K (fun _ _ _ => False)) := by rintro ⟨a_, w_, h_⟩; simp [Exit.then] at h_
       refine regionIn (by rfl) hQ_ ?_
       (try simp only [aP])
       go_wp2_with (first | ((with_reducible refine gate_dst (N := 17) rfl ?_); refine bE 17 #[.int .i64 0, .int .i64 0] 51 ?_; intro gb353 hg w_ hbox hb; have BX_ := am hbox; have HG_ := am hg; have HB_ := am hb; clear hbox hg hb; obtain ⟨hc0_, hc1_, hf0_, hf1_⟩ := cf2 (w := w_) BX_))
       obtain ⟨h1_, h2_⟩ := box_two HG_.out HB_.out BX_.out; exact hK gb353 _ HG_.out h1_ h2_
      case body =>
       intro l m j s gb353 W hmem hlen hG hgb hbox hR
       obtain ⟨c1_, c2_, c3_, c4_, c5_, c6_⟩ := impl_TableByPeeling.okE (List.all_eq_true.1 hall s hmem); rw [← hlen] at c2_ c5_
       have hord := impl_TableByPeeling.ord (o0 := a0) (o1 := a3) (o2 := a4) (e := rd_L2 t340 s.f0) (m.set ((s.f1) : Int).toNat 0) (by rw [List.length_set]; exact c5_)
       obtain ⟨y354, hy1_⟩ : ∃ y_ : List Int, y_ = (m.set ((s.f1) : Int).toNat 0) := ⟨_, rfl⟩; rw [← hy1_] at hord; obtain ⟨t357, ht_⟩ : ∃ t_ : Int, t_ = impl_TableByPeeling.sum y354 (rd_L2 t340 s.f0) := ⟨_, rfl⟩; rw [← ht_] at hord; have A44 := am hord; obtain ⟨y358, hy2_⟩ : ∃ y_ : List Int, y_ = (y354.set ((s.f1) : Int).toNat (Go.bits .xor .i64 (rd l2 (s.f0)) t357)) := ⟨_, rfl⟩
       have hst_ : impl_TableByPeeling.step t340 l2 m s = y358 := by rw [hy2_, ht_, hy1_]; rfl
       have hyl_ : y358.length = m.length := by rw [hy2_, hy1_, List.length_set, List.length_set]
       have Ny354 := am hy1_; have Ny358 := am hy2_; clear hy1_ hy2_ ht_ hord
       have c38b0 : decide (0 ≤ (s.f1)) = true := by first | exact decide_eq_true (by omega) | exact beq_eq_false_iff_ne.mpr c6_ | exact bne_iff_ne.mpr c6_ | exact fun h_ => c6_ (by rw [h_]; rfl)
       have c39b0 : decide ((s.f1) < (m.length : Int)) = true := by first | exact decide_eq_true (by omega) | exact beq_eq_false_iff_ne.mpr c6_ | exact bne_iff_ne.mpr c6_ | exact fun h_ => c6_ (by rw [h_]; rfl)
       have c41b0 : decide (0 ≤ (s.f0)) = true := by first | exact decide_eq_true (by omega) | exact beq_eq_false_iff_ne.mpr c6_ | exact bne_iff_ne.mpr c6_ | exact fun h_ => c6_ (by rw [h_]; rfl)
       have c42b0 : decide ((s.f0) < (l2.length : Int)) = true := by first | exact decide_eq_true (by omega) | exact beq_eq_false_iff_ne.mpr c6_ | exact bne_iff_ne.mpr c6_ | exact fun h_ => c6_ (by rw [h_]; rfl)
       have c43b0 : decide ((s.f0) < (t340.length : Int)) = true := by first | exact decide_eq_true (by omega) | exact beq_eq_false_iff_ne.mpr c6_ | exact bne_iff_ne.mpr c6_ | exact fun h_ => c6_ (by rw [h_]; rfl)
       have n0_ := am (Kd.R_grown (Kd.R_mono (Kd.R_bound (Kd.R_types HO_44.out HG40 (by decide))) (fun k_ hk => (⟨by have := hk.2.2.1; omega, hk.1.2⟩ : k_ ≠ gb353 ∧ k_ ≠ go40))) hG (fun k_ hk e_ => hk.2 (Option.some.inj e_)))
       have n1_ : Aside0 (Kd.S (Kd.slice 3 (Kd.int .i64)) 32 W w.heap.size (fun k_ => some k_ ≠ (.slice (some ⟨go40, 0, none⟩) m.length co28 : Value).ownBlock ∧ k_ ≠ gb336) (.slice Ao23 t340.length co23) t340) := ⟨Kd.S_mono (Kd.S_grown HO_344001.out hG (fun k_ hk => by first | exact hk | exact hk.1)) (fun k_ hk => by first | exact hk | exact ⟨hk.1, hk.2⟩)⟩
       have n2_ : Aside0 (Kd.R (Kd.int .i64) 3 W w.heap.size (fun _ => True) (.slice (some ⟨go40, 0, none⟩) m.length co28) m) := ⟨Kd.R_mono hR (fun _ _ => trivial)⟩
       have n3_ : Aside0 (W.heap[gb336]? = some (.cells #[(.slice A2 l2.length c2)] 32 (0, 0))) := ⟨by first | exact blk_grown BK336.out hG (Kd.R_ne HO_352003.out BK336.out (by decide)) | (rw [hlen]; exact blk_grown BK336.out hG (Kd.R_ne HO_352003.out BK336.out (by decide)))⟩
       have n4_ : Aside0 (W.heap[gb337]? = some (.cells #[.int .i64 0, .int .i64 0, .int .i64 0, (.slice none 0 0)] 70 (0, 0))) := ⟨by first | exact blk_grown BK337.out hG (Kd.R_ne HO_352003.out BK337.out (by decide)) | (rw [hlen]; exact blk_grown BK337.out hG (Kd.R_ne HO_352003.out BK337.out (by decide)))⟩
       have n5_ : Aside0 (W.heap[gb343]? = some (.cells #[.int .i64 t339, (.slice Ao23 t340.length co23)] 37 (0, 0))) := ⟨by first | exact blk_grown BK343.out hG (Kd.R_ne HO_352003.out BK343.out (by decide)) | (rw [hlen]; exact blk_grown BK343.out hG (Kd.R_ne HO_352003.out BK343.out (by decide)))⟩
       have n6_ : Aside0 (W.heap[gb351]? = some (.cells #[.int .i64 a0, .int .i64 a3, .int .i64 a4, (.slice (some ⟨go40, 0, none⟩) m.length co28)] 70 (0, 0))) := ⟨by first | exact blk_grown BK351.out hG (Kd.R_ne HO_352003.out BK351.out (by decide)) | (rw [hlen]; exact blk_grown BK351.out hG (Kd.R_ne HO_352003.out BK351.out (by decide)))⟩
       have n7_ : Aside0 (Below w.heap.size w W) := ⟨HB.out.grown hG (below_size (w := w) HB.out) (fun k_ e_ => by cases e_; exact gb40)⟩
       have NB336_353 := am (show gb336 ≠ gb353 by have := blk_lt BK336.out; omega)
       have NB353_336 := am (show gb353 ≠ gb336 by have := blk_lt BK336.out; omega)
       have NB337_353 := am (show gb337 ≠ gb353 by have := blk_lt BK337.out; omega)
       have NB353_337 := am (show gb353 ≠ gb337 by have := blk_lt BK337.out; omega)
       have NB343_353 := am (show gb343 ≠ gb353 by have := blk_lt BK343.out; omega)
       have NB353_343 := am (show gb353 ≠ gb343 by have := blk_lt BK343.out; omega)
       have NB351_353 := am (show gb351 ≠ gb353 by have := blk_lt BK351.out; omega)
       have NB353_351 := am (show gb353 ≠ gb351 by have := blk_lt BK351.out; omega)
       obtain ⟨cl_, HGW_⟩ := Kd.R_typed hR go40 rfl
       have GB40 := am gb40; have GG40 := am HGW_; have nx_ := am hbox; clear hbox HGW_ BKB HO_44 HO_344001 HO_352003 BK336 BK337 BK343 BK351 HB; revert n0_ n1_ n2_ n3_ n4_ n5_ n6_ n7_ nx_; intro HO_44 HO_344001 HO_352003 BK336 BK337 BK343 BK351 HB BK353
       have HLN := am hlen; have HYL := am hyl_; have HST := am hst_; have HALL := am hall; clear hlen hyl_ hst_ hall hG hR c5_
       (try simp only [aP, List.setIfInBounds_toArray, List.set_cons_zero, List.set_cons_succ])
       refine wpIn_block ?_; refine wpIn_seq ?_; refine regionIn (by rfl) (by rintro ⟨a_, w_, h_⟩; simp [Exit.then, Exit.inBlock] at h_) ?_
       have hnb53 := NB351_336.out
       have hnc53 := NB336_351.out
       have hnb54 := NB351_337.out
       have hnc54 := NB337_351.out
       have hnb55 := NB351_343.out
       have hnc55 := NB343_351.out
       obtain ⟨hcz56_0, hcz56_1, hcz56_2, hcz56_3, hfz56_0, hfz56_1, hfz56_2, hfz56_3⟩ := cf4 (w := W) BK351
       obtain ⟨hcz57_0, hcz57_1, hfz57_0, hfz57_1⟩ := cf2 (w := W) BK353
       have p40 : 0 ≤ ((s.f1) : Int) := dT
       have q40 : ((s.f1) : Int) < ((m.length : Int) : Int) := dT
       obtain ⟨hx40_0, hf40_0⟩ := Kd.R_celln 0 HO_352003.out ((s.f1) : Int) p40 q40
       replace p40 := eq_true p40
       replace q40 := eq_true q40
       obtain ⟨hy58_, hz58_⟩ := Kd.R_celln 0 HO_352003.out ((s.f1) : Int) (dT) (dT)
       have HP58 := Kd.R_putg HO_352003.out ((s.f1) : Int) 0
       go_wp2_with (first | ((with_reducible refine gate_store (t := 3) (p := 52) rfl ?_); refine store_event (t := 3) (p := 52) (v := ?vo_w59) (w1 := (W.setCell ⟨go40, ((s.f1) : Int).toNat, none⟩ (.int .i64 0))) ?hg ?ho ?hn ?hr ?_; (case ho => rfl); (case hg => rfl); (case hn => rfl); (case hr => first | (go_simp; done) | (go_simp; rfl)); intro w59 hw; have hg : W.grownBy w59 (some go40) := (by rw [hw]; exact HP58.2); have hp_ : Kd.R (Kd.int .i64) 3 w59 w.heap.size (fun _ => True) (.slice (some ⟨go40, 0, none⟩) m.length co28) y354 := (by rw [hw, Ny354.out]; exact HP58.1); clear HP58; have n0_ := am (Kd.R_over' (v := (.slice (some ⟨go40, 0, none⟩) m.length co28)) (Rz HO_44.out) (Kd.R_typed HO_352003.out) (by decide) hg); have n1_ := am (Kd.S_after (v := (.slice (some ⟨go40, 0, none⟩) m.length co28)) (v1 := (.slice (some ⟨go40, 0, none⟩) m.length co28)) (ok := (fun k_ => k_ ≠ gb336)) (by (with_reducible repeat (first | apply Kd.S_alloc | apply Kd.S_drewN | apply Kd.S_drew)); exact Kd.S_mono HO_344001.out (fun _ hk => ⟨hk.2, hk.1⟩)) hg (.inl rfl)); have n2_ := am (hp_); have n3_ := am (blk_grown (g := gb336) (o := .cells #[.slice A2 l2.length c2] 32 (0, 0)) (Kz BK336.out) hg (Kd.R_ne HO_352003.out BK336.out (by decide))); have n4_ := am (blk_grown (g := gb337) (o := .cells #[.int .i64 0, .int .i64 0, .int .i64 0, .slice none 0 0] 70 (0, 0)) (Kz BK337.out) hg (Kd.R_ne HO_352003.out BK337.out (by decide))); have n5_ := am (blk_grown (g := gb343) (o := .cells #[.int .i64 t339, .slice Ao23 t340.length co23] 37 (0, 0)) (Kz BK343.out) hg (Kd.R_ne HO_352003.out BK343.out (by decide))); have n6_ := am (blk_grown (g := gb351) (o := .cells #[.int .i64 a0, .int .i64 a3, .int .i64 a4, .slice (some ⟨go40, 0, none⟩) m.length co28] 70 (0, 0)) (Kz BK351.out) hg (Kd.R_ne HO_352003.out BK351.out (by decide))); have n7_ := am (blk_grown (g := gb353) (o := .cells #[.int .i64 (s.f0), .int .i64 (s.f1)] 51 (0, 0)) (Kz BK353.out) hg (Kd.R_ne HO_352003.out BK353.out (by decide))); have n8_ := am ((by rw [hw]; exact below_set (HB.out) GB40.out : Below w.heap.size w w59)); clear HO_44 HO_344001 HO_352003 BK336 BK337 BK343 BK351 BK353 HB; revert n0_ n1_ n2_ n3_ n4_ n5_ n6_ n7_ n8_; intro HO_44 HO_344001 HO_352003 BK336 BK337 BK343 BK351 BK353 HB; have HGW := am hg; clear hg hw hp_))
       have n0_ := am (Kd.R_drew HO_44.out); have n1_ := am (Kd.S_drew HO_344001.out); have n2_ := am (Kd.R_drew HO_352003.out); have n3_ := am (blk_drew BK336.out); have n4_ := am (blk_drew BK337.out); have n5_ := am (blk_drew BK343.out); have n6_ := am (blk_drew BK351.out); have n7_ := am (blk_drew BK353.out); have n8_ := am (below_drew1 HB.out); clear HO_44 HO_344001 HO_352003 BK336 BK337 BK343 BK351 BK353 HB; revert n0_ n1_ n2_ n3_ n4_ n5_ n6_ n7_ n8_; intro HO_44 HO_344001 HO_352003 BK336 BK337 BK343 BK351 BK353 HB; have p355 : 0 ≤ ((s.f0) : Int) := dT; have q355 : (s.f0) < (l2.length : Int) := dT; obtain ⟨ad355, e355, hx355_0⟩ := Kd.at_int HR2.out (s.f0) p355 q355; have hw355_0 := hx355_0; cases e355; replace hx355_0 := (HB.out.cell (World.block_lt_of_cell? w _ hx355_0)).trans hx355_0; replace p355 := eq_true p355; replace q355 := eq_true q355; have p356 : 0 ≤ ((s.f0) : Int) := dT; have q356 : (s.f0) < (t340.length : Int) := dT; obtain ⟨ad356, A356_0, c356_0, e356, hx356_0, hl356_0, hi356_0⟩ := at_L2 (Kd.S_reads' HO_344001.out).2.2 (s.f0) p356 q356; cases e356; obtain ⟨ce356, hce356, hMe356, hcc356⟩ := Kd.S_get HO_344001.out [] (s.f0) p356 (by first | exact q356 | exact dT | (have e_ := (Kd.S_reads' HO_344001.out).1; omega)); obtain ⟨ve356_0, rfl, ge356_0⟩ := hMe356; have hv356_0 := hcc356 0 _ rfl; rw [Nat.add_zero, show ((Kd.slice 3 (Kd.int .i64))).sz = 1 from rfl, Nat.mul_one] at hv356_0; replace hv356_0 := Option.some.inj (hv356_0.symm.trans hx356_0); rw [hv356_0] at ge356_0; have HL356_0 := am (show Kd.R (Kd.int .i64) 3 _ _ _ _ (rd_L2 t340 (s.f0)) from ge356_0); clear hv356_0 ge356_0; clear hcc356 hce356; have HR356_0 := am hi356_0; have HC356_0 := am hl356_0; clear hi356_0 hl356_0; replace p356 := eq_true p356; replace q356 := eq_true q356; replace HGW := am (grown_drew HGW.out); refine startIn (m := 19) (S := fun w' => w'.cell? ⟨gb351, 0, none⟩ = some (.int .i64 a0) ∧ w'.cell? ⟨gb351, 1, none⟩ = some (.int .i64 a3) ∧ w'.cell? ⟨gb351, 2, none⟩ = some (.int .i64 a4) ∧ w'.cell? ⟨gb351, 3, none⟩ = some (.slice (some ⟨go40, 0, none⟩) m.length co28) ∧ w'.cell? ⟨gb353, 0, none⟩ = some (.int .i64 (s.f0)) ∧ w'.cell? ⟨gb353, 1, none⟩ = some (.int .i64 (s.f1)) ∧ w'.cell? ⟨gb336, 0, none⟩ = some (.slice (some ad355) l2.length c2) ∧ w'.cell? ⟨gb343, 0, none⟩ = some (.int .i64 t339) ∧ w'.cell? ⟨gb343, 1, none⟩ = some (.slice (some ad356) t340.length co23) ∧ w'.cell? (ad355.add ((s.f0)).toNat) = some (.int .i64 (rd l2 (s.f0))) ∧ w'.cell? (ad356.add ((s.f0)).toNat) = some (.slice A356_0 (rd_L2 t340 (s.f0)).length c356_0)) (ds := [18]) (bA 19 0) (by kernel_rfl) rfl rfl ⟨cz BK351 0, cz BK351 1, cz BK351 2, cz BK351 3, cz BK353 0, cz BK353 1, cz BK336 0, cz BK343 0, cz BK343 1, ((HB.out.cell (World.block_lt_of_cell? w _ hw355_0)).trans hw355_0), hx356_0⟩ (by rfl) (by rintro ⟨a_, w_, h_⟩; simp [Exit.then, Exit.inBlock] at h_) (fun hHeld => ?_); refine with_tabW impl_TableByPeeling.tab11 impl_TableByPeeling.bits11 (fun HT_ HW_ => ?_)
       generalize w59.drew = w60 at HGW HO_44 HO_344001 HO_352003 BK336 BK337 BK343 BK351 BK353 HB HL356_0 HR356_0 hx355_0 hx356_0 hHeld ⊢; refine pZ 0 (some 53) (bA 19 1) HT_.out ?_; refine pZ 2 (some 55) (bA 19 5) HT_.out ?_; refine pZ 5 (some 58) (bA 19 37) HT_.out ?_; refine pZ 9 (some 62) (bA 19 549) HT_.out ?_; refine pZ 11 (some 64) (bA 19 2597) HT_.out ?_; refine take_ (i := 1) (N := some 54) (v := ?_) (a' := ?_) (bA 19 2599) rfl rfl (take_ofW HT_.out HW_.out (by kernel_rfl)) (fun _ _ _ h => h) (Or.inl ⟨by rfl, ?_⟩) hHeld ?_ ?_
       rotate_left
       ·rintro w' ⟨s0, s1, s2, s3, s4, s5, s6, s7, s8, s9, s10⟩
        go_simp
        with_reducible rfl
       rotate_left
       ·simp only [aP, i64_w, i32_w]
        rfl
       refine take_ (i := 3) (N := some 56) (v := ?_) (a' := ?_) (bA 19 2607) rfl rfl (take_ofW HT_.out HW_.out (by kernel_rfl)) (fun _ _ _ h => h) (Or.inl ⟨by rfl, ?_⟩) hHeld ?_ ?_
       rotate_left
       ·rintro w' ⟨s0, s1, s2, s3, s4, s5, s6, s7, s8, s9, s10⟩
        go_simp
        with_reducible rfl
       rotate_left
       ·simp only [aP, i64_w, i32_w]
        rfl
       refine take_ (i := 4) (N := some 57) (v := ?_) (a' := ?_) (bA 19 2623) rfl rfl (take_ofW HT_.out HW_.out (by kernel_rfl)) (fun _ _ _ h => h) (Or.inl ⟨by rfl, ?_⟩) hHeld ?_ ?_
       rotate_left
       ·rintro w' ⟨s0, s1, s2, s3, s4, s5, s6, s7, s8, s9, s10⟩
        go_simp
        with_reducible rfl
       rotate_left
       ·simp only [aP, i64_w, i32_w]
        rfl
       refine take_ (i := 6) (N := some 59) (v := ?_) (a' := ?_) (bA 19 2687) rfl rfl (take_ofW HT_.out HW_.out (by kernel_rfl)) (fun _ _ _ h => h) (Or.inl ⟨by rfl, ?_⟩) hHeld ?_ ?_
       rotate_left
       ·rintro w' ⟨s0, s1, s2, s3, s4, s5, s6, s7, s8, s9, s10⟩
        go_simp
        with_reducible rfl
       rotate_left
       ·simp only [aP, i64_w, i32_w]
        rfl
       refine pZ 7 (some 60) (bA 19 2815) HT_.out ?_; refine take_ (i := 8) (N := some 61) (v := ?_) (a' := ?_) (bA 19 3071) rfl rfl (take_ofW HT_.out HW_.out (by kernel_rfl)) (fun _ _ _ h => h) (Or.inl ⟨by rfl, ?_⟩) hHeld ?_ ?_
       rotate_left
       ·rintro w' ⟨s0, s1, s2, s3, s4, s5, s6, s7, s8, s9, s10⟩
        go_simp
        with_reducible rfl
       rotate_left
       ·simp only [aP, i64_w, i32_w]
        rfl
       refine take_ (i := 10) (N := some 63) (v := ?_) (a' := ?_) (bA 19 4095) rfl rfl (take_ofW HT_.out HW_.out (by kernel_rfl)) (fun _ _ _ h => h) (Or.inl ⟨by rfl, ?_⟩) hHeld ?_ ?_
       rotate_left
       ·rintro w' ⟨s0, s1, s2, s3, s4, s5, s6, s7, s8, s9, s10⟩
        go_simp
        with_reducible rfl
       rotate_left
       ·simp only [aP, i64_w, i32_w]
        rfl
       refine take_ (i := 12) (N := some 65) (v := ?_) (a' := ?_) (bA 19 8191) rfl rfl (take_ofW HT_.out HW_.out (by kernel_rfl)) (fun _ _ _ h => h) (Or.inl ⟨by rfl, ?_⟩) hHeld ?_ ?_
       rotate_left
       ·rintro w' ⟨s0, s1, s2, s3, s4, s5, s6, s7, s8, s9, s10⟩
        go_simp
        with_reducible rfl
       rotate_left
       ·simp only [aP, i64_w, i32_w]
        rfl
       refine pZ 13 (some 66) (bA 19 16383) HT_.out ?_; refine take_ (i := 14) (N := some 67) (v := ?_) (a' := ?_) (bA 19 32767) rfl rfl (take_ofW HT_.out HW_.out (by kernel_rfl)) (fun _ _ _ h => h) (Or.inl ⟨by rfl, ?_⟩) hHeld ?_ ?_
       rotate_left
       ·rintro w' ⟨s0, s1, s2, s3, s4, s5, s6, s7, s8, s9, s10⟩
        go_simp
        with_reducible rfl
       rotate_left
       ·simp only [aP, i64_w, i32_w]
        rfl
       refine oZ 15 (some 68) (bA 19 65535) HT_.out (fun K hK => ?_); refine goes_ Try.func159 (by kernel_rfl) rfl #[.pointer (some ⟨gb351, 0, none⟩), .slice A356_0 (rd_L2 t340 (s.f0)).length c356_0] (by rfl) rfl rfl (by (try simp only [List.map_toArray, List.map_cons, List.map_nil]); first | done | (rw [show y354.length = m.length from (Kd.R_reads' HO_352003.out).1.symm] <;> rfl) | rfl | (simp only [List.length_drop, List.length_take]; rfl)) ?_
       with_reducible refine (impl_Table_value.calls gb351 a0 a3 a4 (some ⟨go40, 0, none⟩) co28 y354 _ _ (rd_L2 t340 (s.f0)) t357 _ ?side1 ?side2 ?side3 ?side4 ?side5 A44.out).mono ?_
       (case side1 => rw [show y354.length = m.length from (Kd.R_reads' HO_352003.out).1.symm]; exact Kz BK351.out)
       (case side2 => exact Cz ((Kd.R_reads' HO_352003.out).2.2))
       (case side3 => rw [show y354.length = m.length from (Kd.R_reads' HO_352003.out).1.symm]; exact (Kd.R_reads' HO_352003.out).2.1)
       (case side4 => repeat (first | exact (by repeat (first | (with_reducible exact HR356_0.out) | (with_reducible refine Kd.C_alloc ?_ _) | (with_reducible refine Kd.C_drewN ?_ _) | (with_reducible refine Kd.C_drew ?_) | exact HR356_0.out)) | (with_reducible refine Kd.C_alloc ?_ _) | (with_reducible refine Kd.C_drewN ?_ _) | (with_reducible refine Kd.C_drew ?_)))
       (case side5 => exact HC356_0.out)
       rintro e w' ⟨rfl, ⟨nd, rfl⟩⟩; refine ⟨_, rfl, ?_⟩; have p45 : 0 ≤ ((s.f1) : Int) := dT; have q45 : ((s.f1) : Int) < ((m.length : Int) : Int) := dT; obtain ⟨hx45_0, hf45_0⟩ := Kd.R_celln 0 HO_352003.out ((s.f1) : Int) p45 q45; replace p45 := eq_true p45; replace q45 := eq_true q45; have HP61 := Kd.R_putn HO_352003.out ((s.f1) : Int) (Go.bits .xor .i64 (rd l2 (s.f0)) t357); rw [← Ny358.out] at HP61; have HQ61 := am HP61; clear HP61; refine hK.out _ _ ⟨cz BK351 0, cz BK351 1, cz BK351 2, cz BK351 3, cz BK353 0, cz BK353 1, cz BK336 0, cz BK343 0, cz BK343 1, ((HB.out.cell (World.block_lt_of_cell? w _ hw355_0)).trans hw355_0), hHeld.2.2.2.2.2.2.2.2.2.2⟩ (fun hHeld => ?_); clear hK K; refine norm_ (a' := ?_) ?_ ?_; rotate_left; show Act.put _ (some 68) _ = _; simp only [aP, i64_w, i32_w]; rfl; refine pZ 16 (some 69) (bA 19 131071) HT_.out ?_; refine pZ 17 (some 70) (bA 19 262143) HT_.out ?_; refine lZ 18 none (bA 19 524287) HT_.out (fun K hK => ?_); refine skip_ (w1 := ?_) (by rfl) rfl ?_ ?_
       rotate_left
       ·go_simp
        rfl
       refine hK.out _ _ ?_; clear hK K; refine done_ (done_of HT_.out (by kernel_rfl)) ?_
       simp only [Exit.inBlock, Exit.then]
       rw [HST.out]
       refine ⟨by trivial, by repeat (first | exact HGW.out | apply grown_set | apply grown_drewN | apply grown_drew), HYL.out.trans HLN.out, ?_⟩
       refine R_int_ok (ok := fun _ => True) ?_
       first | exact HQ61.out | exact Rz HQ61.out
      case done =>
       intro D m W hD hm hlen hG hR hK
       obtain rfl : r4 = m := (hm.trans er3).symm
       have n2_ : Aside0 (Kd.R (Kd.int .i64) 3 W w.heap.size (fun _ => True) (.slice (some ⟨go40, 0, none⟩) r4.length co28) r4) := ⟨Kd.R_mono hR (fun _ _ => trivial)⟩
       have n3_ : Aside0 (W.heap[gb336]? = some (.cells #[(.slice A2 l2.length c2)] 32 (0, 0))) := ⟨by first | exact blk_grown BK336.out hG (Kd.R_ne HO_352003.out BK336.out (by decide)) | (rw [hlen]; exact blk_grown BK336.out hG (Kd.R_ne HO_352003.out BK336.out (by decide)))⟩
       have n4_ : Aside0 (W.heap[gb337]? = some (.cells #[.int .i64 0, .int .i64 0, .int .i64 0, (.slice none 0 0)] 70 (0, 0))) := ⟨by first | exact blk_grown BK337.out hG (Kd.R_ne HO_352003.out BK337.out (by decide)) | (rw [hlen]; exact blk_grown BK337.out hG (Kd.R_ne HO_352003.out BK337.out (by decide)))⟩
       have n5_ : Aside0 (W.heap[gb343]? = some (.cells #[.int .i64 t339, (.slice Ao23 t340.length co23)] 37 (0, 0))) := ⟨by first | exact blk_grown BK343.out hG (Kd.R_ne HO_352003.out BK343.out (by decide)) | (rw [hlen]; exact blk_grown BK343.out hG (Kd.R_ne HO_352003.out BK343.out (by decide)))⟩
       have n6_ : Aside0 (W.heap[gb351]? = some (.cells #[.int .i64 a0, .int .i64 a3, .int .i64 a4, (.slice (some ⟨go40, 0, none⟩) r4.length co28)] 70 (0, 0))) := ⟨by first | exact blk_grown BK351.out hG (Kd.R_ne HO_352003.out BK351.out (by decide)) | (rw [hlen]; exact blk_grown BK351.out hG (Kd.R_ne HO_352003.out BK351.out (by decide)))⟩
       have n7_ : Aside0 (Below w.heap.size w W) := ⟨HB.out.grown hG (below_size (w := w) HB.out) (fun k_ e_ => by cases e_; exact gb40)⟩
       have hneD : D ≠ gb337 := by have := blk_lt BK337.out; omega
       have hneG : D ≠ go40 := by omega
       have hDb : w.heap.size ≤ D := Nat.le_trans (below_size (w := w) HB.out) hD
       have HLN := am hlen; have HD_ := am hD; have HK_ := am hK; clear hlen hD hK hm hall hG hR BKB HO_44 HO_344001 HO_352003 BK336 BK337 BK343 BK351 HB; revert n2_ n3_ n4_ n5_ n6_ n7_; intro HO_352003 BK336 BK337 BK343 BK351 HB
       have hnb62 := NB351_336.out
       have hnc62 := NB336_351.out
       have hnb63 := NB351_337.out
       have hnc63 := NB337_351.out
       have hnb64 := NB351_343.out
       have hnc64 := NB343_351.out
       obtain ⟨hcz65_0, hcz65_1, hcz65_2, hcz65_3, hfz65_0, hfz65_1, hfz65_2, hfz65_3⟩ := cf4 (w := W) BK351
       have hnb66 := NB337_336.out
       have hnc66 := NB336_337.out
       have hnb67 := NB337_343.out
       have hnc67 := NB343_337.out
       obtain ⟨hcz68_0, hcz68_1, hcz68_2, hcz68_3, hfz68_0, hfz68_1, hfz68_2, hfz68_3⟩ := cf4 (w := W) BK337
       go_wp2
       refine bodyPostM_mark (D := D) rfl (by repeat (first | exact HK_.out | refine (Below.heap_setCell _ _ _ D hneD).trans ?_)) (results_ct rfl _ _ gb337 70 #[.int .i64 a0, .int .i64 a3, .int .i64 a4, .slice (some ⟨go40, 0, none⟩) r4.length co28] (0, 0) _ rfl ((World.putObj_heap_other hneD.symm).trans (by (with_reducible repeat (first | refine blk_drewN ?_ _ | refine blk_drew ?_ | refine blk_alloc ?_ _)); refine blk_put (cs := #[.int .i64 a0, .int .i64 a3, .int .i64 a4, .slice none 0 0]) ?_ 3 _ rfl; (with_reducible repeat (first | refine blk_drewN ?_ _ | refine blk_drew ?_ | refine blk_alloc ?_ _)); refine blk_put (cs := #[.int .i64 a0, .int .i64 a3, .int .i64 0, .slice none 0 0]) ?_ 2 _ rfl; (with_reducible repeat (first | refine blk_drewN ?_ _ | refine blk_drew ?_ | refine blk_alloc ?_ _)); refine blk_put (cs := #[.int .i64 a0, .int .i64 0, .int .i64 0, .slice none 0 0]) ?_ 1 _ rfl; (with_reducible repeat (first | refine blk_drewN ?_ _ | refine blk_drew ?_ | refine blk_alloc ?_ _)); refine blk_put (cs := #[.int .i64 0, .int .i64 0, .int .i64 0, .slice none 0 0]) ?_ 0 _ rfl; exact Kz BK337.out)) Try.underlying70 rfl (by kernel_rfl)) ?_; refine ⟨_, eZ, ?_, ?_⟩
       ·refine Kd.R_mono (R_only (w := _) (R_int_ok (ok := fun _ => True) ?_) (grownBy_putObj' _ D _) (fun r_ e_ => by cases e_; exact hneG)) (fun _ _ => trivial)
        exact Rz (Kd.R_mono (Kd.R_far (p := ⟨gb337, 3, none⟩) (Kd.R_far (p := ⟨gb337, 2, none⟩) (Kd.R_far (p := ⟨gb337, 1, none⟩) (Kd.R_far (p := ⟨gb337, 0, none⟩) (Kd.R_types HO_352003.out BK337.out (by decide)) (fun _ hk => hk.2) (.int .i64 a0)) (fun _ hk => hk.2) (.int .i64 a3)) (fun _ hk => hk.2) (.int .i64 a4)) (fun _ hk => hk.2) (.slice (some ⟨go40, 0, none⟩) r4.length co28)) (fun _ hk => trivial))
       ·refine Below.grown (w := _) (?_ : Below w.heap.size w _) (grownBy_putObj' _ D _) ?_ (fun k_ e_ => by cases e_; exact hDb)
        ·exact Bq
        ·exact below_size (w := w) Bq
    ·rw [if_neg c12] at H
     exact absurd H (by simp)
   ·rw [if_neg c11] at H
    exact absurd H (by simp)
  ·replace c10 := Bool.eq_false_iff.mpr c10
   subst c10
   rw [if_neg (show ¬ (false = true) by decide)] at H
   simp only [Option.some.injEq, Prod.mk.injEq] at H
   obtain ⟨rfl, rfl, rfl, rfl, rfl⟩ := H
   let bp_ : Exit → Act → World → Prop := bodyPost Try.prog Try.f132 (fun _ _ => True); refine calls_marks Try.func132 rfl ?_; simp only [Try.ntmps132, List.size_toArray, List.length_cons, List.length_nil, Nat.reduceAdd, Nat.reduceSub, Array.replicate_succ, Array.replicate_zero, List.push_toArray, List.append_toArray, List.nil_append, List.cons_append]
   go_wp2_with (first | ((with_reducible refine gate_dst (N := 7) rfl ?_); refine bE 7 #[.slice A2 l2.length c2] 32 ?_; intro gb336 hg w70 hbox hb; have n0_ := Bb HB hb; have n1_ := am (hbox); have n2_ := Gl HB hg; have n3_ := Gl HB hg; clear HB; revert n0_ n1_ n2_ n3_; intro HB BK336 GW336 GE336; clear hb hbox hg) | ((with_reducible refine gate_dst (N := 10) rfl ?_); refine bE 10 #[.int .i64 0, .int .i64 0, .int .i64 0, .slice none 0 0] 70 ?_; intro gb337 hg w71 hbox hb; have n0_ := Kb BK336 hb; have n1_ := Bc HB hb; have n2_ := am (hbox); have n3_ := Gm HB hg; have n4_ := Gm HB hg; have n5_ := Nl BK336 hg; have n6_ := Ng BK336 hg; clear BK336 HB; revert n0_ n1_ n2_ n3_ n4_ n5_ n6_; intro BK336 HB BK337 GW337 GE337 NB336_337 NB337_336; clear hb hbox hg; have hnb72 := NB336_337.out; have hnc72 := NB337_336.out; obtain ⟨hcz73_0, hfz73_0⟩ := cf1 (w := w71) BK336) | ((with_reducible refine gate_callee (f := 157) rfl ?_); refine gL (some 23) Try.func157 #[.int .i64 a0, .slice A1 l1.length c1, .slice A2 l2.length c2, .int .i64 a3, .int .i64 a4] ?_; (with_reducible refine (impl_valuesOk.calls k a0 _ _ l1 _ _ l2 a3 a4 true _ ?side1 ?side2 ?side3 ?side4 A6.out).mono ?_); (case side1 => exact Cz (Kd.C_below HR1.out HB.out)); (case side2 => exact HC1.out); (case side3 => exact Cz (Kd.C_below HR2.out HB.out)); (case side4 => exact HC2.out); rintro e w74 ⟨rfl, hb⟩; refine ⟨_, rfl, ?_⟩; have n0_ := Kb BK336 hb; have n1_ := Kb BK337 hb; have n2_ := Bc HB hb; clear BK336 BK337 HB; revert n0_ n1_ n2_; intro BK336 BK337 HB; (try clear hb); (try clear hb2); (try clear hk); (try clear hi)) | ((with_reducible refine gate_callee (f := 116) rfl ?_); refine gL (some 29) Try.func116 #[.int .i64 a0, .slice A1 l1.length c1, .int .i64 a3] ?_; (with_reducible refine (impl_hyper.calls k a0 _ _ l1 a3 t339 t340 _ ?side1 ?side2 A8.out).mono ?_); (case side1 => exact Cz (Kd.C_below HR1.out HB.out)); (case side2 => exact HC1.out); rintro e w75 ⟨v341, rfl, ho0, hb⟩; refine ⟨_, rfl, ?_⟩; have n0_ := am (Kd.S_lower (Kd.S_newB ho0 (g := gb336) (o := .cells #[.slice A2 l2.length c2] 32 (0, 0)) (Kz BK336.out)) (below_size (w := w) (Bq))); have n1_ := Kb BK336 hb; have n2_ := Kb BK337 hb; have n3_ := Bc HB hb; clear BK336 BK337 HB; revert n0_ n1_ n2_ n3_; intro HO342 BK336 BK337 HB; (try clear hb); (try clear hb2); (try clear hk); (try clear hi); (try clear ho0)) | ((with_reducible refine gate_dst (N := 12) rfl ?_); refine bE 12 #[.int .i64 0, .slice none 0 0] 37 ?_; intro gb343 hg w76 hbox hb; have n0_ := am (Kd.S_below (by (with_reducible repeat (first | apply Kd.S_alloc | apply Kd.S_drewN | apply Kd.S_drew)); exact HO342.out) hb); have n1_ := Kb BK336 hb; have n2_ := Kb BK337 hb; have n3_ := Bc HB hb; have n4_ := am (hbox); have n5_ := Gm HB hg; have n6_ := Gm HB hg; have n7_ := Nl BK336 hg; have n8_ := Ng BK336 hg; have n9_ := Nl BK337 hg; have n10_ := Ng BK337 hg; clear HO342 BK336 BK337 HB; revert n0_ n1_ n2_ n3_ n4_ n5_ n6_ n7_ n8_ n9_ n10_; intro HO342 BK336 BK337 HB BK343 GW343 GE343 NB336_343 NB343_336 NB337_343 NB343_337; clear hb hbox hg; have hnb77 := NB343_336.out; have hnc77 := NB336_343.out; have hnb78 := NB343_337.out; have hnc78 := NB337_343.out; obtain ⟨hcz79_0, hcz79_1, hfz79_0, hfz79_1⟩ := cf2 (w := w76) BK343; obtain ⟨Ao80, co80, eo80⟩ := Kd.S_slice HO342.out; subst eo80) | ((with_reducible refine gate_callee (f := 117) rfl ?_); refine gL (some 31) Try.func117 #[.pointer (some ⟨gb343, 0, none⟩)] ?_; (with_reducible refine (impl_Hyper_order.calls k gb343 t339 Ao80 co80 t340 t344 false _ ?side1 ?side2 ?side3 A9.out).mono ?_); (case side1 => (with_reducible repeat (first | refine blk_drewN ?_ _ | refine blk_drew ?_ | refine blk_alloc ?_ _)); refine blk_put (cs := #[.int .i64 t339, .slice none 0 0]) ?_ 1 _ rfl; (with_reducible repeat (first | refine blk_drewN ?_ _ | refine blk_drew ?_ | refine blk_alloc ?_ _)); refine blk_put (cs := #[.int .i64 0, .slice none 0 0]) ?_ 0 _ rfl; exact Kz BK343.out); (case side2 => refine (Kd.S_reads' (e := 32) (base := w.heap.size) (ok := fun k_ => (True ∧ k_ ≠ gb336)) (n := t340.length) (c := co80) ?_).2.2; exact (by (with_reducible repeat (first | apply Kd.S_alloc | apply Kd.S_drewN | apply Kd.S_drew)); exact (Kd.S_mono (Kd.S_far (p := ⟨gb343, 1, none⟩) (Kd.S_far (p := ⟨gb343, 0, none⟩) (Kd.S_types HO342.out BK343.out (by decide)) (fun _ hk => hk.2) (.int .i64 t339)) (fun _ hk => hk.2) (.slice Ao80 t340.length co80)) (fun _ h_ => h_.1)))); (case side3 => exact (Kd.S_reads' HO342.out).2.1); rintro e w81 ⟨v346, rfl, ho0, hb⟩; refine ⟨_, rfl, ?_⟩; have n0_ := am (Kd.S_below (by (with_reducible repeat (first | apply Kd.S_alloc | apply Kd.S_drewN | apply Kd.S_drew)); exact (Kd.S_mono (Kd.S_far (p := ⟨gb343, 1, none⟩) (Kd.S_far (p := ⟨gb343, 0, none⟩) (Kd.S_types HO342.out BK343.out (by decide)) (fun _ hk => hk.2) (.int .i64 t339)) (fun _ hk => hk.2) (.slice Ao80 t340.length co80)) (fun _ h_ => h_.1))) hb); have n1_ := Rm ho0 HB; have n2_ := am (blk_below (g := gb336) (o := .cells #[.slice A2 l2.length c2] 32 (0, 0)) (by (with_reducible repeat (first | refine blk_drewN ?_ _ | refine blk_drew ?_ | refine blk_alloc ?_ _)); refine blk_far ?_ NB336_343.out _; (with_reducible repeat (first | refine blk_drewN ?_ _ | refine blk_drew ?_ | refine blk_alloc ?_ _)); refine blk_far ?_ NB336_343.out _; exact Kz BK336.out) hb); have n3_ := am (blk_below (g := gb337) (o := .cells #[.int .i64 0, .int .i64 0, .int .i64 0, .slice none 0 0] 70 (0, 0)) (by (with_reducible repeat (first | refine blk_drewN ?_ _ | refine blk_drew ?_ | refine blk_alloc ?_ _)); refine blk_far ?_ NB337_343.out _; (with_reducible repeat (first | refine blk_drewN ?_ _ | refine blk_drew ?_ | refine blk_alloc ?_ _)); refine blk_far ?_ NB337_343.out _; exact Kz BK337.out) hb); have n4_ := am (blk_below (g := gb343) (o := .cells #[.int .i64 t339, .slice Ao80 t340.length co80] 37 (0, 0)) (by (with_reducible repeat (first | refine blk_drewN ?_ _ | refine blk_drew ?_ | refine blk_alloc ?_ _)); refine blk_put (cs := #[.int .i64 t339, .slice none 0 0]) ?_ 1 _ rfl; (with_reducible repeat (first | refine blk_drewN ?_ _ | refine blk_drew ?_ | refine blk_alloc ?_ _)); refine blk_put (cs := #[.int .i64 0, .slice none 0 0]) ?_ 0 _ rfl; exact Kz BK343.out) hb); have n5_ := Bc HB hb; clear HO342 BK336 BK337 BK343 HB; revert n0_ n1_ n2_ n3_ n4_ n5_; intro HO342 HO347 BK336 BK337 BK343 HB; (try clear hb); (try clear hb2); (try clear hk); (try clear hi); (try clear ho0); obtain ⟨hcz82_0, hcz82_1, hcz82_2, hcz82_3, hfz82_0, hfz82_1, hfz82_2, hfz82_3⟩ := cf4 (w := w81) BK337))
   refine bodyPostM_ret (results_ct rfl _ _ gb337 70 #[.int .i64 0, .int .i64 0, .int .i64 0, .slice none 0 0] (0, 0) _ rfl (by (with_reducible repeat (first | refine blk_drewN ?_ _ | refine blk_drew ?_ | refine blk_alloc ?_ _)); refine blk_put (cs := #[.int .i64 0, .int .i64 0, .int .i64 0, .slice none 0 0]) ?_ 3 _ rfl; (with_reducible repeat (first | refine blk_drewN ?_ _ | refine blk_drew ?_ | refine blk_alloc ?_ _)); refine blk_put (cs := #[.int .i64 0, .int .i64 0, .int .i64 0, .slice none 0 0]) ?_ 2 _ rfl; (with_reducible repeat (first | refine blk_drewN ?_ _ | refine blk_drew ?_ | refine blk_alloc ?_ _)); refine blk_put (cs := #[.int .i64 0, .int .i64 0, .int .i64 0, .slice none 0 0]) ?_ 1 _ rfl; (with_reducible repeat (first | refine blk_drewN ?_ _ | refine blk_drew ?_ | refine blk_alloc ?_ _)); refine blk_put (cs := #[.int .i64 0, .int .i64 0, .int .i64 0, .slice none 0 0]) ?_ 0 _ rfl; exact Kz BK337.out) Try.underlying70 rfl (by kernel_rfl)) rfl ?_; exact ⟨_, eZ, nZ, Bq⟩
 ·replace c7 := Bool.eq_false_iff.mpr c7
  subst c7
  rw [if_neg (show ¬ (false = true) by decide)] at H
  simp only [Option.some.injEq, Prod.mk.injEq] at H
  obtain ⟨rfl, rfl, rfl, rfl, rfl⟩ := H
  let bp_ : Exit → Act → World → Prop := bodyPost Try.prog Try.f132 (fun _ _ => True); refine calls_marks Try.func132 rfl ?_; simp only [Try.ntmps132, List.size_toArray, List.length_cons, List.length_nil, Nat.reduceAdd, Nat.reduceSub, Array.replicate_succ, Array.replicate_zero, List.push_toArray, List.append_toArray, List.nil_append, List.cons_append]
  go_wp2_with (first | ((with_reducible refine gate_dst (N := 7) rfl ?_); refine bE 7 #[.slice A2 l2.length c2] 32 ?_; intro gb336 hg w83 hbox hb; have n0_ := Bb HB hb; have n1_ := am (hbox); have n2_ := Gl HB hg; have n3_ := Gl HB hg; clear HB; revert n0_ n1_ n2_ n3_; intro HB BK336 GW336 GE336; clear hb hbox hg) | ((with_reducible refine gate_dst (N := 10) rfl ?_); refine bE 10 #[.int .i64 0, .int .i64 0, .int .i64 0, .slice none 0 0] 70 ?_; intro gb337 hg w84 hbox hb; have n0_ := Kb BK336 hb; have n1_ := Bc HB hb; have n2_ := am (hbox); have n3_ := Gm HB hg; have n4_ := Gm HB hg; have n5_ := Nl BK336 hg; have n6_ := Ng BK336 hg; clear BK336 HB; revert n0_ n1_ n2_ n3_ n4_ n5_ n6_; intro BK336 HB BK337 GW337 GE337 NB336_337 NB337_336; clear hb hbox hg; have hnb85 := NB336_337.out; have hnc85 := NB337_336.out; obtain ⟨hcz86_0, hfz86_0⟩ := cf1 (w := w84) BK336) | ((with_reducible refine gate_callee (f := 157) rfl ?_); refine gL (some 23) Try.func157 #[.int .i64 a0, .slice A1 l1.length c1, .slice A2 l2.length c2, .int .i64 a3, .int .i64 a4] ?_; (with_reducible refine (impl_valuesOk.calls k a0 _ _ l1 _ _ l2 a3 a4 false _ ?side1 ?side2 ?side3 ?side4 A6.out).mono ?_); (case side1 => exact Cz (Kd.C_below HR1.out HB.out)); (case side2 => exact HC1.out); (case side3 => exact Cz (Kd.C_below HR2.out HB.out)); (case side4 => exact HC2.out); rintro e w87 ⟨rfl, hb⟩; refine ⟨_, rfl, ?_⟩; have n0_ := Kb BK336 hb; have n1_ := Kb BK337 hb; have n2_ := Bc HB hb; clear BK336 BK337 HB; revert n0_ n1_ n2_; intro BK336 BK337 HB; (try clear hb); (try clear hb2); (try clear hk); (try clear hi); obtain ⟨hcz88_0, hcz88_1, hcz88_2, hcz88_3, hfz88_0, hfz88_1, hfz88_2, hfz88_3⟩ := cf4 (w := w87) BK337))
  refine bodyPostM_ret (results_ct rfl _ _ gb337 70 #[.int .i64 0, .int .i64 0, .int .i64 0, .slice none 0 0] (0, 0) _ rfl (by (with_reducible repeat (first | refine blk_drewN ?_ _ | refine blk_drew ?_ | refine blk_alloc ?_ _)); refine blk_put (cs := #[.int .i64 0, .int .i64 0, .int .i64 0, .slice none 0 0]) ?_ 3 _ rfl; (with_reducible repeat (first | refine blk_drewN ?_ _ | refine blk_drew ?_ | refine blk_alloc ?_ _)); refine blk_put (cs := #[.int .i64 0, .int .i64 0, .int .i64 0, .slice none 0 0]) ?_ 2 _ rfl; (with_reducible repeat (first | refine blk_drewN ?_ _ | refine blk_drew ?_ | refine blk_alloc ?_ _)); refine blk_put (cs := #[.int .i64 0, .int .i64 0, .int .i64 0, .slice none 0 0]) ?_ 1 _ rfl; (with_reducible repeat (first | refine blk_drewN ?_ _ | refine blk_drew ?_ | refine blk_alloc ?_ _)); refine blk_put (cs := #[.int .i64 0, .int .i64 0, .int .i64 0, .slice none 0 0]) ?_ 0 _ rfl; exact Kz BK337.out) Try.underlying70 rfl (by kernel_rfl)) rfl ?_; exact ⟨_, eZ, nZ, Bq⟩
mutual
def impl_PrintFilterOf.j0 : Nat → Int → List ByteArray → Int → Int → Bool → Option (Int × Int × Int × List Int × Bool)
 | 0, _, _, _, _, _ => none
 | k + 1, x0, x1, x2, x3, x25 => if x25 = true then (some (0, 0, 0, ([] : List Int), false)) else (impl_PrintFilterOf.l0 k x0 x1 x2 x3 (([] : List Int)) x1 (x1.length : Int) 0)
def impl_PrintFilterOf.l0 : Nat → Int → List ByteArray → Int → Int → List Int → List ByteArray → Int → Int → Option (Int × Int × Int × List Int × Bool)
 | 0, _, _, _, _, _, _, _, _ => none
 | k + 1, x0, x1, x2, x3, x10, x28, x29, x30 => if x30 < x29 then (if 0 ≤ x30 then (if x30 < (x28.length : Int) then (if 0 ≤ x3 then ((impl_place.f k x0 9 (rdOf ByteArray.empty x28 x30) (shl .i64 1 x3)).bind fun t367 => (if x10.length < 17592186044416 then (impl_PrintFilterOf.l0 k x0 x1 x2 x3 (x10 ++ [t367]) x28 x29 (wrap64 (x30 + 1))) else (none))) else (none)) else (none)) else (none)) else ((impl_TableByPeeling.f k x0 x1 x10 x2 x3).bind fun bt371 => (some (bt371.1, bt371.2.1, bt371.2.2.1, bt371.2.2.2.1, bt371.2.2.2.2)))
end
def impl_PrintFilterOf.f (k : Nat) (a0 : Int) (l1 : List ByteArray) (a2 : Int) (a3 : Int) : Option (Int × Int × Int × List Int × Bool) := (impl_isSeed.f a0).bind fun t360 => (if t360 = true then ((impl_widthOk.f a3).bind fun t361 => (if t361 = true then ((impl_AreKeys.f k l1).bind fun t362 => (impl_PrintFilterOf.j0 k a0 l1 a2 a3 (!t362))) else (impl_PrintFilterOf.j0 k a0 l1 a2 a3 true))) else (impl_PrintFilterOf.j0 k a0 l1 a2 a3 true))
theorem impl_PrintFilterOf.calls (k : Nat) (a0 : Int) (A1 : Option Addr) (c1 : Nat) (l1 : List ByteArray) (a2 : Int) (a3 : Int) (r1 : Int) (r2 : Int) (r3 : Int) (r4 : List Int) (r5 : Bool) (w : World) (hr1 : Kd.C Kd.string w A1 l1.length l1) (hc1 : l1.length ≤ c1) (h : impl_PrintFilterOf.f k a0 l1 a2 a3 = some (r1, r2, r3, r4, r5)) :
  Calls Try.prog 59 #[.int .i64 a0, .slice A1 l1.length c1, .int .i64 a2, .int .i64 a3] w fun e w' => ∃ v3_ : Value, e = .returned (.tuple #[.agg #[.int .i64 r1, .int .i64 r2, .int .i64 r3, v3_], .bool r5]) ∧ Kd.R (Kd.int .i64) 3 w' w.heap.size (fun _ => True) v3_ r4 ∧ Below w.heap.size w w' := by
 have hu70 := Try.underlying70; have HR1 := am hr1; have HC1 := am hc1; clear hr1 hc1; have HB := am (Below.refl w.heap.size w); have H : ((impl_isSeed.f a0).bind fun t360 => (if t360 = true then ((impl_widthOk.f a3).bind fun t361 => (if t361 = true then ((impl_AreKeys.f k l1).bind fun t362 => (impl_PrintFilterOf.j0 k a0 l1 a2 a3 (!t362))) else (impl_PrintFilterOf.j0 k a0 l1 a2 a3 true))) else (impl_PrintFilterOf.j0 k a0 l1 a2 a3 true))) = some (r1, r2, r3, r4, r5) := h; clear h; have HC5 := am H; clear H
 go_enter Try.func59, Try.ntmps59
 go_upto_region 1 with (first | ((with_reducible refine gate_dst (N := 8) rfl ?_); refine bE 8 #[.int .i64 0, .int .i64 0, .int .i64 0, .slice none 0 0] 70 ?_; intro gb359 hg w6 hbox hb; have n0_ := Bb HB hb; have n1_ := am (hbox); have n2_ := Gl HB hg; have n3_ := Gl HB hg; clear HB; revert n0_ n1_ n2_ n3_; intro HB BK359 GW359 GE359; clear hb hbox hg))
 (try simp only [aP])
 go_cut [25] (fun v25 wc => ∃ (kq : Nat) (x25_4 : Bool), v25 = .bool x25_4 ∧ Aside0 (impl_PrintFilterOf.j0 kq a0 l1 a2 a3 x25_4 = some (r1, r2, r3, r4, r5)) ∧ Aside0 (kq ≤ k) ∧ Aside0 (wc.heap[gb359]? = some (.cells #[.int .i64 0, .int .i64 0, .int .i64 0, (.slice none 0 0)] 70 (0, 0))) ∧ Aside0 (Below w.heap.size w wc))
 case first =>
  have H := HC5.out; clear HC5; replace H := Option.bind_eq_some_iff.mp H; obtain ⟨t360, A70, H⟩ := H; (try dsimp -simprocs only at H); have A7 := am A70; clear A70
  by_cases c8 : t360 = true
  ·subst c8
   rw [if_pos rfl] at H; replace H := Option.bind_eq_some_iff.mp H; obtain ⟨t361, A90, H⟩ := H; (try dsimp -simprocs only at H); have A9 := am A90; clear A90
   by_cases c10 : t361 = true
   ·subst c10
    rw [if_pos rfl] at H; replace H := Option.bind_eq_some_iff.mp H; obtain ⟨t362, A110, H⟩ := H; (try dsimp -simprocs only at H); have A11 := am A110; clear A110; have H' := am H; clear H
    go_wp2_with (first | ((with_reducible refine gate_callee (f := 80) rfl ?_); refine gL (some 14) Try.func80 #[.int .i64 a0] ?_; (with_reducible refine (impl_isSeed.calls a0 true _ A7.out).mono ?_); rintro e w' ⟨rfl, ⟨nd, rfl⟩⟩; refine ⟨_, rfl, ?_⟩) | (go_at_call 131; (with_reducible refine (impl_widthOk.calls a3 true _ A9.out).mono ?_); rintro e w' ⟨rfl, ⟨nd, rfl⟩⟩) | (go_at_call 69; (with_reducible refine (impl_AreKeys.calls k _ _ l1 t362 _ ?side1 ?side2 A11.out).mono ?_); (case side1 => exact Cz (Kd.C_below HR1.out (Bq))); (case side2 => exact HC1.out); rintro e w' ⟨rfl, ⟨nd, rfl⟩⟩))
    go_meet
    case rel => exact ⟨_, (!t362), wZ, H', ⟨by first | omega | exact Nat.le_refl _⟩, ⟨Kz BK359.out⟩, ⟨Bq⟩⟩
   ·replace c10 := Bool.eq_false_iff.mpr c10
    subst c10
    rw [if_neg (show ¬ (false = true) by decide)] at H; have H' := am H; clear H
    go_wp2_with (first | ((with_reducible refine gate_callee (f := 80) rfl ?_); refine gL (some 14) Try.func80 #[.int .i64 a0] ?_; (with_reducible refine (impl_isSeed.calls a0 true _ A7.out).mono ?_); rintro e w' ⟨rfl, ⟨nd, rfl⟩⟩; refine ⟨_, rfl, ?_⟩) | (go_at_call 131; (with_reducible refine (impl_widthOk.calls a3 false _ A9.out).mono ?_); rintro e w' ⟨rfl, ⟨nd, rfl⟩⟩))
    go_meet
    case rel => exact ⟨_, (true), wZ, H', ⟨by first | omega | exact Nat.le_refl _⟩, ⟨Kz BK359.out⟩, ⟨Bq⟩⟩
  ·replace c8 := Bool.eq_false_iff.mpr c8
   subst c8
   rw [if_neg (show ¬ (false = true) by decide)] at H; have H' := am H; clear H
   go_wp2_with (first | ((with_reducible refine gate_callee (f := 80) rfl ?_); refine gL (some 14) Try.func80 #[.int .i64 a0] ?_; (with_reducible refine (impl_isSeed.calls a0 false _ A7.out).mono ?_); rintro e w' ⟨rfl, ⟨nd, rfl⟩⟩; refine ⟨_, rfl, ?_⟩))
   go_meet
   case rel => exact ⟨_, (true), wZ, H', ⟨by first | omega | exact Nat.le_refl _⟩, ⟨Kz BK359.out⟩, ⟨Bq⟩⟩
 case rest =>
  clear HC5
  try clear c1
  try clear p2
  try clear c5
  try clear c8
  try clear c10
  obtain ⟨kq, x25_4, rfl, HA, HJ4, BK359, HB⟩ := hcut; cases kq with
  | zero => exact absurd HA.out (by simp [impl_PrintFilterOf.j0])
  | succ kj4 =>
   have H := HA.out; clear HA
   simp only [impl_PrintFilterOf.j0] at H
   by_cases c12 : x25_4 = true
   ·subst c12
    rw [if_pos rfl] at H
    simp only [Option.some.injEq, Prod.mk.injEq] at H
    obtain ⟨rfl, rfl, rfl, rfl, rfl⟩ := H; obtain ⟨hcz13_0, hcz13_1, hcz13_2, hcz13_3, hfz13_0, hfz13_1, hfz13_2, hfz13_3⟩ := cf4 (w := wc) BK359
    go_wp2
    refine bodyPost_ret (results_ct rfl _ _ gb359 70 #[.int .i64 0, .int .i64 0, .int .i64 0, .slice none 0 0] (0, 0) _ rfl (by (with_reducible repeat (first | refine blk_drewN ?_ _ | refine blk_drew ?_ | refine blk_alloc ?_ _)); refine blk_put (cs := #[.int .i64 0, .int .i64 0, .int .i64 0, .slice none 0 0]) ?_ 3 _ rfl; (with_reducible repeat (first | refine blk_drewN ?_ _ | refine blk_drew ?_ | refine blk_alloc ?_ _)); refine blk_put (cs := #[.int .i64 0, .int .i64 0, .int .i64 0, .slice none 0 0]) ?_ 2 _ rfl; (with_reducible repeat (first | refine blk_drewN ?_ _ | refine blk_drew ?_ | refine blk_alloc ?_ _)); refine blk_put (cs := #[.int .i64 0, .int .i64 0, .int .i64 0, .slice none 0 0]) ?_ 1 _ rfl; (with_reducible repeat (first | refine blk_drewN ?_ _ | refine blk_drew ?_ | refine blk_alloc ?_ _)); refine blk_put (cs := #[.int .i64 0, .int .i64 0, .int .i64 0, .slice none 0 0]) ?_ 0 _ rfl; exact Kz BK359.out) Try.underlying70 rfl (by kernel_rfl)) rfl ?_; exact ⟨_, eZ, nZ, Bq⟩
   ·replace c12 := Bool.eq_false_iff.mpr c12
    subst c12
    rw [if_neg (show ¬ (false = true) by decide)] at H; obtain ⟨y363, hy363⟩ : ∃ y_ : List Int, y_ = (([] : List Int)) := ⟨_, rfl⟩
    replace H : (impl_PrintFilterOf.l0 kj4 a0 l1 a2 a3 y363 l1 (l1.length : Int) 0) = some (r1, r2, r3, r4, r5) := by first | (rw [hy363]; with_reducible exact H) | (have H2_ := (Option.bind_some _ _).symm.trans H; rw [hy363]; with_reducible exact H2_) | (have H2_ := (Option.bind_some _ _).symm.trans H; with_reducible exact H2_) | with_reducible exact H | (rw [hy363]; exact H) | exact H
    have Ny363 := am hy363; clear hy363; have H' := am H; clear H
    go_wp2_with (first | ((with_reducible refine gate_dst (N := 27) rfl ?_); refine Kd.R_lit (Kd.int .i64) _ 3 ?hg (N := 27) ?hd (xs := ([] : List Int)) (inner := []) (ok := fun _ => True) (okp := fun _ => True) ?hr ?hp (fun _ hk => hk) trivial (Below.refl _ _) (Nat.le_refl _) (by simp) ?_; (case hd => rfl); (case hg => rfl); (case hr => first | (go_simp; done) | (go_simp; rfl)); (case hp => exact (Reps.none _ _)); intro v364 w14 ho15 hb hg_ hnew_; clear hg_ hnew_; (first | rw [← Ny363.out] at ho15 | (simp only [Int.reduceToNat] at ho15; rw [← Ny363.out] at ho15)); have n0_ := Rm ho15 HB; have n1_ := Kb BK359 hb; have n2_ := Bc HB hb; clear BK359 HB; revert n0_ n1_ n2_; intro HO365 BK359 HB; clear hb ho15))
    (try simp only [aP])
    go_loopg [10, 30] kj4 (fun kq v10 v30 w' => ∃ (x10_2 : List Int) (x30_2 : Int), v30 = .int .i64 x30_2 ∧ Aside0 (impl_PrintFilterOf.l0 kq a0 l1 a2 a3 x10_2 l1 (l1.length : Int) x30_2 = some (r1, r2, r3, r4, r5)) ∧ Aside0 (kq ≤ kj4) ∧ Aside0 (Kd.R (Kd.int .i64) 3 w' w.heap.size (fun _ => True) v10 x10_2) ∧ Aside0 (w'.heap[gb359]? = some (.cells #[.int .i64 0, .int .i64 0, .int .i64 0, (.slice none 0 0)] 70 (0, 0))) ∧ Aside0 (Below w.heap.size w w'))
    case atStart => exact ⟨(y363), (0), wZ, H', ⟨Nat.le_refl _⟩, ⟨Rz HO365.out⟩, ⟨Kz BK359.out⟩, ⟨Bq⟩⟩
    case round =>
     clear H'
     try clear c1
     try clear p2
     try clear c5
     try clear c8
     try clear c10
     try clear c12
     try clear hcz13_0
     try clear hcz13_1
     try clear hcz13_2
     try clear hcz13_3
     try clear hfz13_0
     try clear hfz13_1
     try clear hfz13_2
     try clear hfz13_3
     try clear p2
     obtain ⟨x10_2, x30_2, rfl, HA, HK2, HO_10, BK359, HB⟩ := hrel; cases gk with
     | zero => exact absurd HA.out (by simp [impl_PrintFilterOf.l0])
     | succ k2 =>
      have H := HA.out; clear HA
      simp only [impl_PrintFilterOf.l0] at H
      by_cases c16 : x30_2 < (l1.length : Int)
      ·rw [if_pos c16] at H
       have c16b0 : decide (x30_2 < (l1.length : Int)) = true := decide_eq_true c16; clear c16
       by_cases c17 : 0 ≤ x30_2
       ·rw [if_pos c17] at H
        have c17b0 : decide (0 ≤ x30_2) = true := decide_eq_true c17; clear c17
        by_cases c18 : x30_2 < (l1.length : Int)
        ·rw [if_pos c18] at H
         have c18b0 : decide (x30_2 < (l1.length : Int)) = true := decide_eq_true c18; clear c18
         by_cases c19 : 0 ≤ a3
         ·rw [if_pos c19] at H
          have c19b0 := eq_true c19; have c19b1 : decide (0 ≤ a3) = true := decide_eq_true c19; clear c19; obtain ⟨ji20, hji20⟩ : ∃ j_ : Int, (shl .i64 1 a3) = j_ := ⟨_, rfl⟩
          replace H : ((impl_place.f k2 a0 9 (rdOf ByteArray.empty l1 x30_2) (ji20)).bind fun t367 => (if x10_2.length < 17592186044416 then (impl_PrintFilterOf.l0 k2 a0 l1 a2 a3 (x10_2 ++ [t367]) l1 (l1.length : Int) (wrap64 (x30_2 + 1))) else (none))) = some (r1, r2, r3, r4, r5) := by first | (rw [hji20] at H; exact H) | (simp only [hji20] at H ⊢; exact H)
          have hji20_ : (IntKind.i64.wrap (1 * 2 ^ min a3.toNat 64)) = ji20 := hji20; have hji20z : a3 ≤ 64 → (IntKind.i64.wrap (1 * 2 ^ a3.toNat)) = ji20 := shl_small hji20
          have hji20u : (IntKind.i64.wrap (2 ^ min a3.toNat 64)) = ji20 := by have h_ := hji20_; rw [Int.one_mul] at h_; exact h_
          have hji20v : a3 ≤ 64 → (IntKind.i64.wrap (2 ^ a3.toNat)) = ji20 := fun hle_ => by have h_ := hji20z hle_; rw [Int.one_mul] at h_; exact h_
          have hji20y : (wrap64 (1 * 2 ^ min a3.toNat 64)) = ji20 := (i64_w _).symm.trans hji20_
          have hji20x : a3 ≤ 64 → (wrap64 (1 * 2 ^ a3.toNat)) = ji20 := fun h_ => (i64_w _).symm.trans (hji20z h_)
          replace H := Option.bind_eq_some_iff.mp H; obtain ⟨t367, A210, H⟩ := H; (try dsimp -simprocs only at H); have A21 := am A210; clear A210
          by_cases c22 : x10_2.length < 17592186044416
          ·rw [if_pos c22] at H
           have LMc22 := am c22; clear c22; obtain ⟨y368, hy368⟩ : ∃ y_ : List Int, y_ = (x10_2 ++ [t367]) := ⟨_, rfl⟩
           replace H : (impl_PrintFilterOf.l0 k2 a0 l1 a2 a3 y368 l1 (l1.length : Int) (wrap64 (x30_2 + 1))) = some (r1, r2, r3, r4, r5) := by first | (rw [hy368]; with_reducible exact H) | (have H2_ := (Option.bind_some _ _).symm.trans H; rw [hy368]; with_reducible exact H2_) | (have H2_ := (Option.bind_some _ _).symm.trans H; with_reducible exact H2_) | with_reducible exact H | (rw [hy368]; exact H) | exact H
           have Ny368 := am hy368; clear hy368; have H' := am H; clear H; have p366 : 0 ≤ (x30_2 : Int) := dT; have q366 : x30_2 < (l1.length : Int) := dT; obtain ⟨ad366, e366, hx366_0⟩ := Kd.at_string HR1.out x30_2 p366 q366; cases e366; replace hx366_0 := (HB.out.cell (World.block_lt_of_cell? w _ hx366_0)).trans hx366_0; replace p366 := eq_true p366; replace q366 := eq_true q366
           go_wp2_with (first | ((with_reducible refine gate_callee (f := 73) rfl ?_); refine goesL_ (some 39) rfl rfl Try.func73 (by kernel_rfl) rfl #[.int .i64 a0, .int .i64 9, .string (rdOf ByteArray.empty l1 x30_2), .int .i64 ji20] rfl (by (try simp only [List.map_toArray, List.map_cons, List.map_nil]); first | done | (simp only [hji20]; rfl) | rfl | (simp only [List.length_drop, List.length_take]; rfl)) ?_; (with_reducible refine (impl_place.calls k2 a0 9 (rdOf ByteArray.empty l1 x30_2) ji20 t367 _ A21.out).mono ?_); rintro e w' ⟨rfl, ⟨nd, rfl⟩⟩; refine ⟨_, rfl, ?_⟩) | ((with_reducible refine gate_builtin (b := .append) (xs := #[.tmp 34, .tmp 40]) rfl ?_); at_builtin; refine Kd.R_append (Kd.int .i64) (w0 := w) w.heap.size rfl (.tmp 34) (.tmp 40) 32 3 (.int .i64 0) 8 rfl Try.underlying32 info3 rfl (by decide) (by omega) u10 x10_2 t367 [.int .i64 t367] (fun _ => True) (fun _ => False) rfl rfl ?aP (fun _ hk => hk.elim) ?aF ?aO ?aB ?aS ?aL ?_; (case aP => exact rfl); (case aB => exact (Bq)); (case aF => exact (fun _ _ => trivial)); (case aO => exact (Rz HO_10.out)); (case aS => exact (below_size (w := w) (Bq))); (case aL => have := LMc22.out; omega); intro v369 w23 ho hb hg hat; rw [← Ny368.out] at ho; have n0_ := am (blk_grown (g := gb359) (o := .cells #[.int .i64 0, .int .i64 0, .int .i64 0, .slice none 0 0] 70 (0, 0)) (Kz BK359.out) hg (Kd.R_ne HO_10.out BK359.out (by decide))); have n1_ := am (hb); have n2_ := am (ho); clear BK359 HB HO_10; revert n0_ n1_ n2_; intro BK359 HB HO370; clear ho hb hg hat))
           go_roundg k2
           case measure => have := HJ4.out; have := HK2.out; omega
           case rel => exact ⟨(y368), (wrap64 (x30_2 + 1)), wZ, H', ⟨by have := HJ4.out; have := HK2.out; omega⟩, ⟨Rz HO370.out⟩, ⟨Kz BK359.out⟩, ⟨Bq⟩⟩
          ·rw [if_neg c22] at H
           exact absurd H (by simp)
         ·rw [if_neg c19] at H
          exact absurd H (by simp)
        ·rw [if_neg c18] at H
         exact absurd H (by simp)
       ·rw [if_neg c17] at H
        exact absurd H (by simp)
      ·rw [if_neg c16] at H
       have c16b0 : decide (x30_2 < (l1.length : Int)) = false := decide_eq_false c16; clear c16; replace H := Option.bind_eq_some_iff.mp H; obtain ⟨⟨t371, t372, t373, t374, t377⟩, A240, H⟩ := H; (try dsimp -simprocs only at H); have A24 := am A240; clear A240
       simp only [Option.some.injEq, Prod.mk.injEq] at H
       obtain ⟨rfl, rfl, rfl, rfl, rfl⟩ := H; obtain ⟨Ao25, co25, eo25⟩ := Kd.R_slice HO_10.out; subst eo25
       go_wp2_with (first | ((with_reducible refine gate_callee (f := 132) rfl ?_); refine gL (some 48) Try.func132 #[.int .i64 a0, .slice A1 l1.length c1, .slice Ao25 x10_2.length co25, .int .i64 a2, .int .i64 a3] ?_; (with_reducible refine (impl_TableByPeeling.calls k2 a0 _ _ l1 _ _ x10_2 a2 a3 t371 t372 t373 t374 t377 _ ?side1 ?side2 ?side3 ?side4 A24.out).mono ?_); (case side1 => exact Cz (Kd.C_below HR1.out HB.out)); (case side2 => exact HC1.out); (case side3 => exact Cz ((Kd.R_reads' HO_10.out).2.2)); (case side4 => exact (Kd.R_reads' HO_10.out).2.1); rintro e w26 ⟨v375, rfl, ho0, hb⟩; refine ⟨_, rfl, ?_⟩; have n0_ := Re HO_10 (Kd.R_base ho0) hb; have n1_ := Rm (Kd.R_new' ho0 (Kd.R_lt (Rz HO_10.out))) HB; have n2_ := Kb BK359 hb; have n3_ := Bc HB hb; clear HO_10 BK359 HB; revert n0_ n1_ n2_ n3_; intro HO_10 HO376 BK359 HB; (try clear hb); (try clear hb2); (try clear hk); (try clear hi); (try clear ho0); obtain ⟨hcz27_0, hcz27_1, hcz27_2, hcz27_3, hfz27_0, hfz27_1, hfz27_2, hfz27_3⟩ := cf4 (w := w26) BK359; obtain ⟨Ao28, co28, eo28⟩ := Kd.R_slice HO376.out; subst eo28))
       refine bodyPost_ret (results_ct rfl _ _ gb359 70 #[.int .i64 t371, .int .i64 t372, .int .i64 t373, .slice Ao28 t374.length co28] (0, 0) _ rfl (by (with_reducible repeat (first | refine blk_drewN ?_ _ | refine blk_drew ?_ | refine blk_alloc ?_ _)); refine blk_put (cs := #[.int .i64 t371, .int .i64 t372, .int .i64 t373, .slice none 0 0]) ?_ 3 _ rfl; (with_reducible repeat (first | refine blk_drewN ?_ _ | refine blk_drew ?_ | refine blk_alloc ?_ _)); refine blk_put (cs := #[.int .i64 t371, .int .i64 t372, .int .i64 0, .slice none 0 0]) ?_ 2 _ rfl; (with_reducible repeat (first | refine blk_drewN ?_ _ | refine blk_drew ?_ | refine blk_alloc ?_ _)); refine blk_put (cs := #[.int .i64 t371, .int .i64 0, .int .i64 0, .slice none 0 0]) ?_ 1 _ rfl; (with_reducible repeat (first | refine blk_drewN ?_ _ | refine blk_drew ?_ | refine blk_alloc ?_ _)); refine blk_put (cs := #[.int .i64 0, .int .i64 0, .int .i64 0, .slice none 0 0]) ?_ 0 _ rfl; exact Kz BK359.out) Try.underlying70 rfl (by kernel_rfl)) rfl ?_; exact ⟨_, eZ, Rz (Kd.R_mono (Kd.R_far (p := ⟨gb359, 3, none⟩) (Kd.R_far (p := ⟨gb359, 2, none⟩) (Kd.R_far (p := ⟨gb359, 1, none⟩) (Kd.R_far (p := ⟨gb359, 0, none⟩) (Kd.R_types HO376.out BK359.out (by decide)) (fun _ hk => hk.2) (.int .i64 t371)) (fun _ hk => hk.2) (.int .i64 t372)) (fun _ hk => hk.2) (.int .i64 t373)) (fun _ hk => hk.2) (.slice Ao28 t374.length co28)) (fun _ hk => trivial)), Bq⟩

def laws_eqIntS.l0 : Nat → List Int → List Int → Int → Option (Bool)
 | 0, _, _, _ => none
 | k + 1, x0, x1, x5 => if x5 < (x0.length : Int) then (if 0 ≤ x5 then (if x5 < (x1.length : Int) then (if (rd x0 x5) = (rd x1 x5) then (laws_eqIntS.l0 k x0 x1 (wrap64 (x5 + 1))) else (some false)) else (none)) else (none)) else (some true)
def laws_eqIntS.f (k : Nat) (l0 : List Int) (l1 : List Int) : Option (Bool) := if (l0.length : Int) = (l1.length : Int) then (laws_eqIntS.l0 k l0 l1 0) else (some false)
theorem laws_eqIntS.calls (k : Nat) (A0 : Option Addr) (c0 : Nat) (l0 : List Int) (A1 : Option Addr) (c1 : Nat) (l1 : List Int) (r : Bool) (w : World) (hr0 : Kd.C (Kd.int .i64) w A0 l0.length l0) (hc0 : l0.length ≤ c0) (hr1 : Kd.C (Kd.int .i64) w A1 l1.length l1) (hc1 : l1.length ≤ c1) (h : laws_eqIntS.f k l0 l1 = some r) :
  Calls Try.prog 133 #[.slice A0 l0.length c0, .slice A1 l1.length c1] w fun e w' => e = .returned (.bool r) ∧ Drawn0 w w' := by
 have HR0 := am hr0; have HC0 := am hc0; clear hr0 hc0; have HR1 := am hr1; have HC1 := am hc1; clear hr1 hc1; have H : (if (l0.length : Int) = (l1.length : Int) then (laws_eqIntS.l0 k l0 l1 0) else (some false)) = some r := h; clear h
 by_cases c3 : (l0.length : Int) = (l1.length : Int)
 ·rw [if_pos c3] at H
  have c3b0 : ((l0.length : Int) == (l1.length : Int)) = true := beq_iff_eq.mpr c3; have c3b1 : ((l0.length : Int) != (l1.length : Int)) = false := bne_eq_false_iff_eq.mpr c3
  have c3b2 : (l0.length == l1.length) = true := by first | simpa using c3 | (simp at c3 ⊢; omega)
  clear c3; have H' := am H; clear H
  go_enter Try.func133, Try.ntmps133
  go_wp2
  repeat (go_quiet (fail); try go_wp2)
  go_loopg [5] k (fun kq v5 w' => ∃ (x5_1 : Int), v5 = .int .i64 x5_1 ∧ Aside0 (laws_eqIntS.l0 kq l0 l1 x5_1 = some r) ∧ Aside0 (kq ≤ k) ∧ Drawn0 w w')
  case atStart => exact ⟨(0), wZ, H', ⟨Nat.le_refl _⟩, by repeat (first | exact Drawn0.refl _ | apply Drawn0.step)⟩
  case round =>
   clear H'
   try clear c1
   try clear p2
   try clear c3
   try clear c3b0
   try clear c3b1
   try clear c3b2
   obtain ⟨x5_1, rfl, HA, HK1, ⟨m1, rfl⟩⟩ := hrel; cases gk with
   | zero => exact absurd HA.out (by simp [laws_eqIntS.l0])
   | succ k1 =>
    have H := HA.out; clear HA
    simp only [laws_eqIntS.l0] at H
    by_cases c4 : x5_1 < (l0.length : Int)
    ·rw [if_pos c4] at H
     have c4b0 : decide (x5_1 < (l0.length : Int)) = true := decide_eq_true c4; clear c4
     by_cases c5 : 0 ≤ x5_1
     ·rw [if_pos c5] at H
      have c5b0 : decide (0 ≤ x5_1) = true := decide_eq_true c5; clear c5
      by_cases c6 : x5_1 < (l1.length : Int)
      ·rw [if_pos c6] at H
       have c6b0 : decide (x5_1 < (l1.length : Int)) = true := decide_eq_true c6; clear c6
       by_cases c7 : (rd l0 x5_1) = (rd l1 x5_1)
       ·rw [if_pos c7] at H
        have c7b0 : ((rd l0 x5_1) == (rd l1 x5_1)) = true := beq_iff_eq.mpr c7; have c7b1 : ((rd l0 x5_1) != (rd l1 x5_1)) = false := bne_eq_false_iff_eq.mpr c7; clear c7; have H' := am H; clear H; obtain ⟨ad378, e378, hx378_0⟩ := Kd.at_int HR0.out x5_1 dT dT; cases e378; have p378 := eT (0 ≤ (x5_1 : Int)); have q378 := eT (x5_1 < (l0.length : Int)); obtain ⟨ad379, e379, hx379_0⟩ := Kd.at_int HR1.out x5_1 dT dT; cases e379; have p379 := eT (0 ≤ (x5_1 : Int)); have q379 := eT (x5_1 < (l1.length : Int))
        go_wp2
        repeat (go_quiet (fail); try go_wp2)
        go_roundg k1
        case measure => have := HK1.out; omega
        case rel => exact ⟨(wrap64 (x5_1 + 1)), wZ, H', ⟨by have := HK1.out; omega⟩, by repeat (first | exact Drawn0.refl _ | apply Drawn0.step)⟩
       ·rw [if_neg c7] at H
        have c7b0 : ((rd l0 x5_1) == (rd l1 x5_1)) = false := beq_eq_false_iff_ne.mpr c7; have c7b1 : ((rd l0 x5_1) != (rd l1 x5_1)) = true := bne_iff_ne.mpr c7; obtain rfl := Option.some.inj H; obtain ⟨ad378, e378, hx378_0⟩ := Kd.at_int HR0.out x5_1 dT dT; cases e378; have p378 := eT (0 ≤ (x5_1 : Int)); have q378 := eT (x5_1 < (l0.length : Int)); obtain ⟨ad379, e379, hx379_0⟩ := Kd.at_int HR1.out x5_1 dT dT; cases e379; have p379 := eT (0 ≤ (x5_1 : Int)); have q379 := eT (x5_1 < (l1.length : Int))
        go_wp2
        repeat (go_quiet (fail); try go_wp2)
        go_ret
        exact ⟨by first | rfl | (simp; done) | (simp [*]; done), by repeat (first | exact Drawn0.refl _ | apply Drawn0.step)⟩
      ·rw [if_neg c6] at H
       exact absurd H (by simp)
     ·rw [if_neg c5] at H
      exact absurd H (by simp)
    ·rw [if_neg c4] at H
     have c4b0 : decide (x5_1 < (l0.length : Int)) = false := decide_eq_false c4; clear c4; obtain rfl := Option.some.inj H
     go_wp2
     repeat (go_quiet (fail); try go_wp2)
     go_ret
     exact ⟨by first | rfl | (simp; done) | (simp [*]; done), by repeat (first | exact Drawn0.refl _ | apply Drawn0.step)⟩
 ·rw [if_neg c3] at H
  have c3b0 : ((l0.length : Int) == (l1.length : Int)) = false := beq_eq_false_iff_ne.mpr c3; have c3b1 : ((l0.length : Int) != (l1.length : Int)) = true := bne_iff_ne.mpr c3
  have c3b2 : (l0.length == l1.length) = false := by first | simpa using c3 | (simp at c3 ⊢; omega)
  obtain rfl := Option.some.inj H
  go_enter Try.func133, Try.ntmps133
  go_wp2
  repeat (go_quiet (fail); try go_wp2)
  go_ret
  exact ⟨by first | rfl | (simp; done) | (simp [*]; done), by repeat (first | exact Drawn0.refl _ | apply Drawn0.step)⟩

def laws_eqTable.f (k : Nat) (a0_0 : Int) (a0_1 : Int) (a0_2 : Int) (l0_3 : List Int) (a1_0 : Int) (a1_1 : Int) (a1_2 : Int) (l1_3 : List Int) : Option (Bool) := if a0_0 = a1_0 then (if a0_1 = a1_1 then (if a0_2 = a1_2 then ((laws_eqIntS.f k l0_3 l1_3).bind fun t382 => (if t382 = true then (some true) else (some false))) else (some false)) else (some false)) else (some false)
theorem laws_eqTable.calls (k : Nat) (a0_0 : Int) (a0_1 : Int) (a0_2 : Int) (A0_3 : Option Addr) (c0_3 : Nat) (l0_3 : List Int) (a1_0 : Int) (a1_1 : Int) (a1_2 : Int) (A1_3 : Option Addr) (c1_3 : Nat) (l1_3 : List Int) (r : Bool) (w : World) (hr0_3 : Kd.C (Kd.int .i64) w A0_3 l0_3.length l0_3) (hc0_3 : l0_3.length ≤ c0_3) (hr1_3 : Kd.C (Kd.int .i64) w A1_3 l1_3.length l1_3) (hc1_3 : l1_3.length ≤ c1_3) (h : laws_eqTable.f k a0_0 a0_1 a0_2 l0_3 a1_0 a1_1 a1_2 l1_3 = some r) :
  Calls Try.prog 60 #[.agg #[.int .i64 a0_0, .int .i64 a0_1, .int .i64 a0_2, .slice A0_3 l0_3.length c0_3], .agg #[.int .i64 a1_0, .int .i64 a1_1, .int .i64 a1_2, .slice A1_3 l1_3.length c1_3]] w fun e w' => e = .returned (.bool r) ∧ Below w.heap.size w w' := by
 have hu70 := Try.underlying70; have HR0_3 := am hr0_3; have HC0_3 := am hc0_3; clear hr0_3 hc0_3; have HR1_3 := am hr1_3; have HC1_3 := am hc1_3; clear hr1_3 hc1_3; have HB := am (Below.refl w.heap.size w); have H : (if a0_0 = a1_0 then (if a0_1 = a1_1 then (if a0_2 = a1_2 then ((laws_eqIntS.f k l0_3 l1_3).bind fun t382 => (if t382 = true then (some true) else (some false))) else (some false)) else (some false)) else (some false)) = some r := h; clear h
 by_cases c3 : a0_0 = a1_0
 ·rw [if_pos c3] at H
  have c3b0 : (a0_0 == a1_0) = true := beq_iff_eq.mpr c3; have c3b1 : (a0_0 != a1_0) = false := bne_eq_false_iff_eq.mpr c3; clear c3
  by_cases c4 : a0_1 = a1_1
  ·rw [if_pos c4] at H
   have c4b0 : (a0_1 == a1_1) = true := beq_iff_eq.mpr c4; have c4b1 : (a0_1 != a1_1) = false := bne_eq_false_iff_eq.mpr c4; clear c4
   by_cases c5 : a0_2 = a1_2
   ·rw [if_pos c5] at H
    have c5b0 : (a0_2 == a1_2) = true := beq_iff_eq.mpr c5; have c5b1 : (a0_2 != a1_2) = false := bne_eq_false_iff_eq.mpr c5; clear c5; replace H := Option.bind_eq_some_iff.mp H; obtain ⟨t382, A60, H⟩ := H; (try dsimp -simprocs only at H); have A6 := am A60; clear A60
    by_cases c7 : t382 = true
    ·subst c7
     rw [if_pos rfl] at H; obtain rfl := Option.some.inj H
     go_enter Try.func60, Try.ntmps60
     go_wp2_with (first | ((with_reducible refine gate_dst (N := 2) rfl ?_); refine bE 2 #[.int .i64 a0_0, .int .i64 a0_1, .int .i64 a0_2, .slice A0_3 l0_3.length c0_3] 70 ?_; intro gb380 hg w8 hbox hb; have n0_ := Bb HB hb; have n1_ := am (hbox); have n2_ := Gl HB hg; have n3_ := Gl HB hg; clear HB; revert n0_ n1_ n2_ n3_; intro HB BK380 GW380 GE380; clear hb hbox hg) | ((with_reducible refine gate_dst (N := 3) rfl ?_); refine bE 3 #[.int .i64 a1_0, .int .i64 a1_1, .int .i64 a1_2, .slice A1_3 l1_3.length c1_3] 70 ?_; intro gb381 hg w9 hbox hb; have n0_ := Kb BK380 hb; have n1_ := Bc HB hb; have n2_ := am (hbox); have n3_ := Gm HB hg; have n4_ := Gm HB hg; have n5_ := Nl BK380 hg; have n6_ := Ng BK380 hg; clear BK380 HB; revert n0_ n1_ n2_ n3_ n4_ n5_ n6_; intro BK380 HB BK381 GW381 GE381 NB380_381 NB381_380; clear hb hbox hg; have hnb10 := NB380_381.out; have hnc10 := NB381_380.out; obtain ⟨hcz11_0, hcz11_1, hcz11_2, hcz11_3, hfz11_0, hfz11_1, hfz11_2, hfz11_3⟩ := cf4 (w := w9) BK380; obtain ⟨hcz12_0, hcz12_1, hcz12_2, hcz12_3, hfz12_0, hfz12_1, hfz12_2, hfz12_3⟩ := cf4 (w := w9) BK381) | ((with_reducible refine gate_callee (f := 133) rfl ?_); refine gL (some 24) Try.func133 #[.slice A0_3 l0_3.length c0_3, .slice A1_3 l1_3.length c1_3] ?_; (with_reducible refine (laws_eqIntS.calls k _ _ l0_3 _ _ l1_3 true _ ?side1 ?side2 ?side3 ?side4 A6.out).mono ?_); (case side1 => exact Cz (Kd.C_below HR0_3.out HB.out)); (case side2 => exact HC0_3.out); (case side3 => exact Cz (Kd.C_below HR1_3.out HB.out)); (case side4 => exact HC1_3.out); rintro e w' ⟨rfl, ⟨nd, rfl⟩⟩; refine ⟨_, rfl, ?_⟩))
     go_ret
     exact ⟨eZ, Bq⟩
    ·replace c7 := Bool.eq_false_iff.mpr c7
     subst c7
     rw [if_neg (show ¬ (false = true) by decide)] at H; obtain rfl := Option.some.inj H
     go_enter Try.func60, Try.ntmps60
     go_wp2_with (first | ((with_reducible refine gate_dst (N := 2) rfl ?_); refine bE 2 #[.int .i64 a0_0, .int .i64 a0_1, .int .i64 a0_2, .slice A0_3 l0_3.length c0_3] 70 ?_; intro gb380 hg w13 hbox hb; have n0_ := Bb HB hb; have n1_ := am (hbox); have n2_ := Gl HB hg; have n3_ := Gl HB hg; clear HB; revert n0_ n1_ n2_ n3_; intro HB BK380 GW380 GE380; clear hb hbox hg) | ((with_reducible refine gate_dst (N := 3) rfl ?_); refine bE 3 #[.int .i64 a1_0, .int .i64 a1_1, .int .i64 a1_2, .slice A1_3 l1_3.length c1_3] 70 ?_; intro gb381 hg w14 hbox hb; have n0_ := Kb BK380 hb; have n1_ := Bc HB hb; have n2_ := am (hbox); have n3_ := Gm HB hg; have n4_ := Gm HB hg; have n5_ := Nl BK380 hg; have n6_ := Ng BK380 hg; clear BK380 HB; revert n0_ n1_ n2_ n3_ n4_ n5_ n6_; intro BK380 HB BK381 GW381 GE381 NB380_381 NB381_380; clear hb hbox hg; have hnb15 := NB380_381.out; have hnc15 := NB381_380.out; obtain ⟨hcz16_0, hcz16_1, hcz16_2, hcz16_3, hfz16_0, hfz16_1, hfz16_2, hfz16_3⟩ := cf4 (w := w14) BK380; obtain ⟨hcz17_0, hcz17_1, hcz17_2, hcz17_3, hfz17_0, hfz17_1, hfz17_2, hfz17_3⟩ := cf4 (w := w14) BK381) | ((with_reducible refine gate_callee (f := 133) rfl ?_); refine gL (some 24) Try.func133 #[.slice A0_3 l0_3.length c0_3, .slice A1_3 l1_3.length c1_3] ?_; (with_reducible refine (laws_eqIntS.calls k _ _ l0_3 _ _ l1_3 false _ ?side1 ?side2 ?side3 ?side4 A6.out).mono ?_); (case side1 => exact Cz (Kd.C_below HR0_3.out HB.out)); (case side2 => exact HC0_3.out); (case side3 => exact Cz (Kd.C_below HR1_3.out HB.out)); (case side4 => exact HC1_3.out); rintro e w' ⟨rfl, ⟨nd, rfl⟩⟩; refine ⟨_, rfl, ?_⟩))
     go_ret
     exact ⟨eZ, Bq⟩
   ·rw [if_neg c5] at H
    have c5b0 : (a0_2 == a1_2) = false := beq_eq_false_iff_ne.mpr c5; have c5b1 : (a0_2 != a1_2) = true := bne_iff_ne.mpr c5; obtain rfl := Option.some.inj H
    go_enter Try.func60, Try.ntmps60
    go_wp2_with (first | ((with_reducible refine gate_dst (N := 2) rfl ?_); refine bE 2 #[.int .i64 a0_0, .int .i64 a0_1, .int .i64 a0_2, .slice A0_3 l0_3.length c0_3] 70 ?_; intro gb380 hg w18 hbox hb; have n0_ := Bb HB hb; have n1_ := am (hbox); have n2_ := Gl HB hg; have n3_ := Gl HB hg; clear HB; revert n0_ n1_ n2_ n3_; intro HB BK380 GW380 GE380; clear hb hbox hg) | ((with_reducible refine gate_dst (N := 3) rfl ?_); refine bE 3 #[.int .i64 a1_0, .int .i64 a1_1, .int .i64 a1_2, .slice A1_3 l1_3.length c1_3] 70 ?_; intro gb381 hg w19 hbox hb; have n0_ := Kb BK380 hb; have n1_ := Bc HB hb; have n2_ := am (hbox); have n3_ := Gm HB hg; have n4_ := Gm HB hg; have n5_ := Nl BK380 hg; have n6_ := Ng BK380 hg; clear BK380 HB; revert n0_ n1_ n2_ n3_ n4_ n5_ n6_; intro BK380 HB BK381 GW381 GE381 NB380_381 NB381_380; clear hb hbox hg; have hnb20 := NB380_381.out; have hnc20 := NB381_380.out; obtain ⟨hcz21_0, hcz21_1, hcz21_2, hcz21_3, hfz21_0, hfz21_1, hfz21_2, hfz21_3⟩ := cf4 (w := w19) BK380; obtain ⟨hcz22_0, hcz22_1, hcz22_2, hcz22_3, hfz22_0, hfz22_1, hfz22_2, hfz22_3⟩ := cf4 (w := w19) BK381))
    go_ret
    exact ⟨eZ, Bq⟩
  ·rw [if_neg c4] at H
   have c4b0 : (a0_1 == a1_1) = false := beq_eq_false_iff_ne.mpr c4; have c4b1 : (a0_1 != a1_1) = true := bne_iff_ne.mpr c4; obtain rfl := Option.some.inj H
   go_enter Try.func60, Try.ntmps60
   go_wp2_with (first | ((with_reducible refine gate_dst (N := 2) rfl ?_); refine bE 2 #[.int .i64 a0_0, .int .i64 a0_1, .int .i64 a0_2, .slice A0_3 l0_3.length c0_3] 70 ?_; intro gb380 hg w23 hbox hb; have n0_ := Bb HB hb; have n1_ := am (hbox); have n2_ := Gl HB hg; have n3_ := Gl HB hg; clear HB; revert n0_ n1_ n2_ n3_; intro HB BK380 GW380 GE380; clear hb hbox hg) | ((with_reducible refine gate_dst (N := 3) rfl ?_); refine bE 3 #[.int .i64 a1_0, .int .i64 a1_1, .int .i64 a1_2, .slice A1_3 l1_3.length c1_3] 70 ?_; intro gb381 hg w24 hbox hb; have n0_ := Kb BK380 hb; have n1_ := Bc HB hb; have n2_ := am (hbox); have n3_ := Gm HB hg; have n4_ := Gm HB hg; have n5_ := Nl BK380 hg; have n6_ := Ng BK380 hg; clear BK380 HB; revert n0_ n1_ n2_ n3_ n4_ n5_ n6_; intro BK380 HB BK381 GW381 GE381 NB380_381 NB381_380; clear hb hbox hg; have hnb25 := NB380_381.out; have hnc25 := NB381_380.out; obtain ⟨hcz26_0, hcz26_1, hcz26_2, hcz26_3, hfz26_0, hfz26_1, hfz26_2, hfz26_3⟩ := cf4 (w := w24) BK380; obtain ⟨hcz27_0, hcz27_1, hcz27_2, hcz27_3, hfz27_0, hfz27_1, hfz27_2, hfz27_3⟩ := cf4 (w := w24) BK381))
   go_ret
   exact ⟨eZ, Bq⟩
 ·rw [if_neg c3] at H
  have c3b0 : (a0_0 == a1_0) = false := beq_eq_false_iff_ne.mpr c3; have c3b1 : (a0_0 != a1_0) = true := bne_iff_ne.mpr c3; obtain rfl := Option.some.inj H
  go_enter Try.func60, Try.ntmps60
  go_wp2_with (first | ((with_reducible refine gate_dst (N := 2) rfl ?_); refine bE 2 #[.int .i64 a0_0, .int .i64 a0_1, .int .i64 a0_2, .slice A0_3 l0_3.length c0_3] 70 ?_; intro gb380 hg w28 hbox hb; have n0_ := Bb HB hb; have n1_ := am (hbox); have n2_ := Gl HB hg; have n3_ := Gl HB hg; clear HB; revert n0_ n1_ n2_ n3_; intro HB BK380 GW380 GE380; clear hb hbox hg) | ((with_reducible refine gate_dst (N := 3) rfl ?_); refine bE 3 #[.int .i64 a1_0, .int .i64 a1_1, .int .i64 a1_2, .slice A1_3 l1_3.length c1_3] 70 ?_; intro gb381 hg w29 hbox hb; have n0_ := Kb BK380 hb; have n1_ := Bc HB hb; have n2_ := am (hbox); have n3_ := Gm HB hg; have n4_ := Gm HB hg; have n5_ := Nl BK380 hg; have n6_ := Ng BK380 hg; clear BK380 HB; revert n0_ n1_ n2_ n3_ n4_ n5_ n6_; intro BK380 HB BK381 GW381 GE381 NB380_381 NB381_380; clear hb hbox hg; have hnb30 := NB380_381.out; have hnc30 := NB381_380.out; obtain ⟨hcz31_0, hcz31_1, hcz31_2, hcz31_3, hfz31_0, hfz31_1, hfz31_2, hfz31_3⟩ := cf4 (w := w29) BK380; obtain ⟨hcz32_0, hcz32_1, hcz32_2, hcz32_3, hfz32_0, hfz32_1, hfz32_2, hfz32_3⟩ := cf4 (w := w29) BK381))
  go_ret
  exact ⟨eZ, Bq⟩

def laws_eqStringS.l0 : Nat → List ByteArray → List ByteArray → Int → Option (Bool)
 | 0, _, _, _ => none
 | k + 1, x0, x1, x5 => if x5 < (x0.length : Int) then (if 0 ≤ x5 then (if x5 < (x1.length : Int) then (if (rdOf ByteArray.empty x0 x5).toList = (rdOf ByteArray.empty x1 x5).toList then (laws_eqStringS.l0 k x0 x1 (wrap64 (x5 + 1))) else (some false)) else (none)) else (none)) else (some true)
def laws_eqStringS.f (k : Nat) (l0 : List ByteArray) (l1 : List ByteArray) : Option (Bool) := if (l0.length : Int) = (l1.length : Int) then (laws_eqStringS.l0 k l0 l1 0) else (some false)
theorem laws_eqStringS.calls (k : Nat) (A0 : Option Addr) (c0 : Nat) (l0 : List ByteArray) (A1 : Option Addr) (c1 : Nat) (l1 : List ByteArray) (r : Bool) (w : World) (hr0 : Kd.C Kd.string w A0 l0.length l0) (hc0 : l0.length ≤ c0) (hr1 : Kd.C Kd.string w A1 l1.length l1) (hc1 : l1.length ≤ c1) (h : laws_eqStringS.f k l0 l1 = some r) :
  Calls Try.prog 61 #[.slice A0 l0.length c0, .slice A1 l1.length c1] w fun e w' => e = .returned (.bool r) ∧ Drawn0 w w' := by
 have HR0 := am hr0; have HC0 := am hc0; clear hr0 hc0; have HR1 := am hr1; have HC1 := am hc1; clear hr1 hc1; have H : (if (l0.length : Int) = (l1.length : Int) then (laws_eqStringS.l0 k l0 l1 0) else (some false)) = some r := h; clear h
 by_cases c3 : (l0.length : Int) = (l1.length : Int)
 ·rw [if_pos c3] at H
  have c3b0 : ((l0.length : Int) == (l1.length : Int)) = true := beq_iff_eq.mpr c3; have c3b1 : ((l0.length : Int) != (l1.length : Int)) = false := bne_eq_false_iff_eq.mpr c3
  have c3b2 : (l0.length == l1.length) = true := by first | simpa using c3 | (simp at c3 ⊢; omega)
  clear c3; have H' := am H; clear H
  go_enter Try.func61, Try.ntmps61
  go_wp2
  repeat (go_quiet (fail); try go_wp2)
  go_loopg [5] k (fun kq v5 w' => ∃ (x5_1 : Int), v5 = .int .i64 x5_1 ∧ Aside0 (laws_eqStringS.l0 kq l0 l1 x5_1 = some r) ∧ Aside0 (kq ≤ k) ∧ Drawn0 w w')
  case atStart => exact ⟨(0), wZ, H', ⟨Nat.le_refl _⟩, by repeat (first | exact Drawn0.refl _ | apply Drawn0.step)⟩
  case round =>
   clear H'
   try clear c1
   try clear p2
   try clear c3
   try clear c3b0
   try clear c3b1
   try clear c3b2
   obtain ⟨x5_1, rfl, HA, HK1, ⟨m1, rfl⟩⟩ := hrel; cases gk with
   | zero => exact absurd HA.out (by simp [laws_eqStringS.l0])
   | succ k1 =>
    have H := HA.out; clear HA
    simp only [laws_eqStringS.l0] at H
    by_cases c4 : x5_1 < (l0.length : Int)
    ·rw [if_pos c4] at H
     have c4b0 : decide (x5_1 < (l0.length : Int)) = true := decide_eq_true c4; clear c4
     by_cases c5 : 0 ≤ x5_1
     ·rw [if_pos c5] at H
      have c5b0 : decide (0 ≤ x5_1) = true := decide_eq_true c5; clear c5
      by_cases c6 : x5_1 < (l1.length : Int)
      ·rw [if_pos c6] at H
       have c6b0 : decide (x5_1 < (l1.length : Int)) = true := decide_eq_true c6; clear c6
       by_cases c7 : (rdOf ByteArray.empty l0 x5_1).toList = (rdOf ByteArray.empty l1 x5_1).toList
       ·rw [if_pos c7] at H
        have c7b0 : ((rdOf ByteArray.empty l0 x5_1).toList == (rdOf ByteArray.empty l1 x5_1).toList) = true := beq_iff_eq.mpr c7; have c7b1 : ((rdOf ByteArray.empty l0 x5_1).toList != (rdOf ByteArray.empty l1 x5_1).toList) = false := bne_eq_false_iff_eq.mpr c7; clear c7; have H' := am H; clear H; obtain ⟨ad383, e383, hx383_0⟩ := Kd.at_string HR0.out x5_1 dT dT; cases e383; have p383 := eT (0 ≤ (x5_1 : Int)); have q383 := eT (x5_1 < (l0.length : Int)); obtain ⟨ad384, e384, hx384_0⟩ := Kd.at_string HR1.out x5_1 dT dT; cases e384; have p384 := eT (0 ≤ (x5_1 : Int)); have q384 := eT (x5_1 < (l1.length : Int))
        go_wp2
        repeat (go_quiet (fail); try go_wp2)
        go_roundg k1
        case measure => have := HK1.out; omega
        case rel => exact ⟨(wrap64 (x5_1 + 1)), wZ, H', ⟨by have := HK1.out; omega⟩, by repeat (first | exact Drawn0.refl _ | apply Drawn0.step)⟩
       ·rw [if_neg c7] at H
        have c7b0 : ((rdOf ByteArray.empty l0 x5_1).toList == (rdOf ByteArray.empty l1 x5_1).toList) = false := beq_eq_false_iff_ne.mpr c7; have c7b1 : ((rdOf ByteArray.empty l0 x5_1).toList != (rdOf ByteArray.empty l1 x5_1).toList) = true := bne_iff_ne.mpr c7; obtain rfl := Option.some.inj H; obtain ⟨ad383, e383, hx383_0⟩ := Kd.at_string HR0.out x5_1 dT dT; cases e383; have p383 := eT (0 ≤ (x5_1 : Int)); have q383 := eT (x5_1 < (l0.length : Int)); obtain ⟨ad384, e384, hx384_0⟩ := Kd.at_string HR1.out x5_1 dT dT; cases e384; have p384 := eT (0 ≤ (x5_1 : Int)); have q384 := eT (x5_1 < (l1.length : Int))
        go_wp2
        repeat (go_quiet (fail); try go_wp2)
        go_ret
        exact ⟨by first | rfl | (simp; done) | (simp [*]; done), by repeat (first | exact Drawn0.refl _ | apply Drawn0.step)⟩
      ·rw [if_neg c6] at H
       exact absurd H (by simp)
     ·rw [if_neg c5] at H
      exact absurd H (by simp)
    ·rw [if_neg c4] at H
     have c4b0 : decide (x5_1 < (l0.length : Int)) = false := decide_eq_false c4; clear c4; obtain rfl := Option.some.inj H
     go_wp2
     repeat (go_quiet (fail); try go_wp2)
     go_ret
     exact ⟨by first | rfl | (simp; done) | (simp [*]; done), by repeat (first | exact Drawn0.refl _ | apply Drawn0.step)⟩
 ·rw [if_neg c3] at H
  have c3b0 : ((l0.length : Int) == (l1.length : Int)) = false := beq_eq_false_iff_ne.mpr c3; have c3b1 : ((l0.length : Int) != (l1.length : Int)) = true := bne_iff_ne.mpr c3
  have c3b2 : (l0.length == l1.length) = false := by first | simpa using c3 | (simp at c3 ⊢; omega)
  obtain rfl := Option.some.inj H
  go_enter Try.func61, Try.ntmps61
  go_wp2
  repeat (go_quiet (fail); try go_wp2)
  go_ret
  exact ⟨by first | rfl | (simp; done) | (simp [*]; done), by repeat (first | exact Drawn0.refl _ | apply Drawn0.step)⟩

def laws_markText.l0 : Nat → Int → ByteArray → Option (ByteArray)
 | 0, _, _ => none
 | k + 1, x0, x3 => if x0 > 0 then ((some (([(wrap64 (48 + (Int.tmod x0 10))) % 256] : List Int) : List Int)).bind fun y385 => (if (strOfNums y385).size + x3.size ≤ 9223372036854775807 then (laws_markText.l0 k (wrap64 (Int.tdiv x0 10)) ((strOfNums y385) ++ x3)) else (none))) else (if 1 + x3.size ≤ 9223372036854775807 then (some ((⟨#[109]⟩ : ByteArray) ++ x3)) else (none))
def laws_markText.f (k : Nat) (a0 : Int) : Option (ByteArray) := if a0 ≤ 0 then (some (⟨#[109, 48]⟩ : ByteArray)) else (laws_markText.l0 k a0 (⟨#[]⟩ : ByteArray))
theorem laws_markText.calls (k : Nat) (a0 : Int) (r : ByteArray) (w : World) (h : laws_markText.f k a0 = some r) :
  Calls Try.prog 134 #[.int .i64 a0] w fun e w' => e = .returned (.string r) ∧ Below w.heap.size w w' := by
 have HB := am (Below.refl w.heap.size w); have H : (if a0 ≤ 0 then (some (⟨#[109, 48]⟩ : ByteArray)) else (laws_markText.l0 k a0 (⟨#[]⟩ : ByteArray))) = some r := h; clear h
 by_cases c2 : a0 ≤ 0
 ·rw [if_pos c2] at H
  have c2b0 : decide (a0 ≤ 0) = true := decide_eq_true c2; clear c2; obtain rfl := Option.some.inj H
  go_enter Try.func134, Try.ntmps134
  go_wp2
  go_ret
  exact ⟨eZ, Bz HB.out⟩
 ·rw [if_neg c2] at H
  have c2b0 : decide (a0 ≤ 0) = false := decide_eq_false c2; clear c2; have H' := am H; clear H
  go_enter Try.func134, Try.ntmps134
  go_wp2
  go_loopg [0, 3] k (fun kq v0 v3 w' => ∃ (x0_1 : Int) (x3_1 : ByteArray), v0 = .int .i64 x0_1 ∧ v3 = .string x3_1 ∧ Aside0 (laws_markText.l0 kq x0_1 x3_1 = some r) ∧ Aside0 (kq ≤ k) ∧ Aside0 (Below w.heap.size w w'))
  case atStart => exact ⟨(a0), ((⟨#[]⟩ : ByteArray)), wZ, wZ, H', ⟨Nat.le_refl _⟩, ⟨Bz HB.out⟩⟩
  case round =>
   clear H'
   try clear c1
   try clear c2
   try clear c2b0
   try clear p2
   obtain ⟨x0_1, x3_1, rfl, rfl, HA, HK1, HB⟩ := hrel; cases gk with
   | zero => exact absurd HA.out (by simp [laws_markText.l0])
   | succ k1 =>
    have H := HA.out; clear HA
    simp only [laws_markText.l0] at H
    by_cases c3 : x0_1 > 0
    ·rw [if_pos c3] at H
     have c3b0 : decide (0 < x0_1) = true := decide_eq_true c3; clear c3; obtain ⟨y385, hy385⟩ : ∃ y_ : List Int, y_ = (([(wrap64 (48 + (Int.tmod x0_1 10))) % 256] : List Int)) := ⟨_, rfl⟩
     replace H : (if (strOfNums y385).size + x3_1.size ≤ 9223372036854775807 then (laws_markText.l0 k1 (wrap64 (Int.tdiv x0_1 10)) ((strOfNums y385) ++ x3_1)) else (none)) = some r := by first | (rw [hy385]; with_reducible exact H) | (have H2_ := (Option.bind_some _ _).symm.trans H; rw [hy385]; with_reducible exact H2_) | (have H2_ := (Option.bind_some _ _).symm.trans H; with_reducible exact H2_) | with_reducible exact H | (rw [hy385]; exact H) | exact H
     have Ny385 := am hy385; clear hy385
     by_cases c4 : (strOfNums y385).size + x3_1.size ≤ 9223372036854775807
     ·rw [if_pos c4] at H
      have c4b0 := eq_true c4; have c4b1 : decide ((strOfNums y385).size + x3_1.size ≤ 9223372036854775807) = true := decide_eq_true c4
      try have c4b2 : (9223372036854775807 < (strOfNums y385).size + x3_1.size) = False := eq_false (Nat.not_lt.2 c4)
      have H' := am H; clear H
      go_wp2_with (first | ((with_reducible refine gate_dst (N := 12) rfl ?_); refine Kd.R_lit (Kd.int .u8) _ 5 ?hg (N := 12) ?hd (xs := ([(wrap64 (48 + (Int.tmod x0_1 10))) % 256] : List Int)) (inner := [.int .u8 ((wrap64 (48 + (Int.tmod x0_1 10))) % 256)]) (ok := fun _ => True) (okp := fun _ => True) ?hr ?hp (fun _ hk => hk) trivial (Below.refl _ _) (Nat.le_refl _) (by simp) ?_; (case hd => rfl); (case hg => rfl); (case hr => first | (go_simp; done) | (go_simp; rfl)); (case hp => exact (Reps.one (show Kd.M (Kd.int .u8) _ _ _ ((wrap64 (48 + (Int.tmod x0_1 10))) % 256) [.int .u8 ((wrap64 (48 + (Int.tmod x0_1 10))) % 256)] from rfl) (Reps.none _ _))); intro v386 w5 ho6 hb hg_ hnew_; clear hg_ hnew_; (first | rw [← Ny385.out] at ho6 | (simp only [Int.reduceToNat] at ho6; rw [← Ny385.out] at ho6)); have n0_ := Rl ho6 HB; have n1_ := Bb HB hb; clear HB; revert n0_ n1_; intro HO387 HB; clear hb ho6; have hcv7 := own_string (P := Try.prog) Try.underlying22 Try.underlying5 Try.underlying9 (Kd.own_of_R HO387.out)))
      go_roundg k1
      case measure => have := HK1.out; omega
      case rel => exact ⟨(wrap64 (Int.tdiv x0_1 10)), ((strOfNums y385) ++ x3_1), wZ, wZ, H', ⟨by have := HK1.out; omega⟩, ⟨Bz HB.out⟩⟩
     ·rw [if_neg c4] at H
      exact absurd H (by simp)
    ·rw [if_neg c3] at H
     have c3b0 : decide (0 < x0_1) = false := decide_eq_false c3; clear c3
     by_cases c8 : 1 + x3_1.size ≤ 9223372036854775807
     ·rw [if_pos c8] at H
      have c8b0 := eq_true c8; have c8b1 : decide (1 + x3_1.size ≤ 9223372036854775807) = true := decide_eq_true c8
      try have c8b2 : (9223372036854775807 < 1 + x3_1.size) = False := eq_false (Nat.not_lt.2 c8)
      obtain rfl := Option.some.inj H
      go_wp2
      go_ret
      exact ⟨eZ, Bz HB.out⟩
     ·rw [if_neg c8] at H
      exact absurd H (by simp)

def laws_markStringS.l0 : Nat → List ByteArray → Int → Int → Option (Int × List ByteArray)
 | 0, _, _, _ => none
 | k + 1, x0, x1, x5 => if x5 < (x0.length : Int) then ((laws_markText.f k x1).bind fun t388 => (if 0 ≤ x5 then (laws_markStringS.l0 k (x0.set (x5 : Int).toNat t388) (wrap64 (x1 + 1)) (wrap64 (x5 + 1))) else (none))) else (some (x1, x0))
def laws_markStringS.f (k : Nat) (l0 : List ByteArray) (a1 : Int) : Option (Int × List ByteArray) := laws_markStringS.l0 k l0 a1 0
theorem laws_markStringS.calls (k : Nat) (P0_ : Nat → Prop) (u9000_ : Value) (l0 : List ByteArray) (a1 : Int) (r1 : Int) (r2 : List ByteArray) (w0 w : World) (hB : Below w0.heap.size w0 w) (ho0 : Kd.R Kd.string 9 w w0.heap.size P0_ u9000_ l0) (h : laws_markStringS.f k l0 a1 = some (r1, r2)) :
  Calls Try.prog 62 #[u9000_, .int .i64 a1] w fun e w' => e = .returned (.int .i64 r1) ∧ Kd.R Kd.string 9 w' w0.heap.size (fun k_ => (P0_ k_ ∨ w.heap.size ≤ k_)) u9000_ r2 ∧ Below w0.heap.size w0 w' ∧ Kept w w' (fun k_ => P0_ k_) := by
 have HO0 := am (show Kd.R Kd.string 9 w w0.heap.size (fun k_ => (P0_ k_ ∨ w.heap.size ≤ k_)) u9000_ l0 from Kd.R_mono ho0 (fun k_ hk => (.inl hk))); have HK := am (Kept.refl w (fun k_ => P0_ k_)); have HW0 := am hB.size; have HB := am hB; clear hB; have H : (laws_markStringS.l0 k l0 a1 0) = some (r1, r2) := h; clear h; have H' := am H; clear H
 go_enter Try.func62, Try.ntmps62
 go_wp2
 go_loopg [1, 5] k (fun kq v1 v5 w' => ∃ (x0_1 : List ByteArray) (x1_1 : Int) (x5_1 : Int), v1 = .int .i64 x1_1 ∧ v5 = .int .i64 x5_1 ∧ Aside0 (laws_markStringS.l0 kq x0_1 x1_1 x5_1 = some (r1, r2)) ∧ Aside0 (kq ≤ k) ∧ Aside0 (Kd.R Kd.string 9 w' w0.heap.size (fun k_ => (P0_ k_ ∨ w.heap.size ≤ k_)) u9000_ x0_1) ∧ Aside0 (Kept w w' (fun k_ => P0_ k_)) ∧ Aside0 (Below w0.heap.size w0 w'))
 case atStart => exact ⟨(l0), (a1), (0), wZ, wZ, H', ⟨Nat.le_refl _⟩, ⟨Rz HO0.out⟩, ⟨by repeat (first | (with_reducible first | exact HK.out | apply Kept.alloc | apply Kept.drewN | apply Kept.drew) | exact HK.out)⟩, ⟨Bz HB.out⟩⟩
 case round =>
  clear H'
  try clear p2
  obtain ⟨x0_1, x1_1, x5_1, rfl, rfl, HA, HK1, HO_0, HK, HB⟩ := hrel; cases gk with
  | zero => exact absurd HA.out (by simp [laws_markStringS.l0])
  | succ k1 =>
   have H := HA.out; clear HA
   simp only [laws_markStringS.l0] at H
   by_cases c3 : x5_1 < (x0_1.length : Int)
   ·rw [if_pos c3] at H
    have c3b0 : decide (x5_1 < (x0_1.length : Int)) = true := decide_eq_true c3; clear c3; replace H := Option.bind_eq_some_iff.mp H; obtain ⟨t388, A40, H⟩ := H; (try dsimp -simprocs only at H); have A4 := am A40; clear A40
    by_cases c5 : 0 ≤ x5_1
    ·rw [if_pos c5] at H
     have c5b0 : decide (0 ≤ x5_1) = true := decide_eq_true c5; clear c5; obtain ⟨y389, hy389⟩ : ∃ y_ : List ByteArray, y_ = (x0_1.set (x5_1 : Int).toNat t388) := ⟨_, rfl⟩
     replace H : (laws_markStringS.l0 k1 y389 (wrap64 (x1_1 + 1)) (wrap64 (x5_1 + 1))) = some (r1, r2) := by first | (rw [hy389]; with_reducible exact H) | (have H2_ := (Option.bind_some _ _).symm.trans H; rw [hy389]; with_reducible exact H2_) | (have H2_ := (Option.bind_some _ _).symm.trans H; with_reducible exact H2_) | with_reducible exact H | (rw [hy389]; exact H) | exact H
     have Ny389 := am hy389; clear hy389; have H' := am H; clear H; obtain ⟨Ao7, co7, eo7⟩ := Kd.R_slice HO_0.out; subst eo7
     go_wp2_with (first | ((with_reducible refine gate_callee (f := 134) rfl ?_); refine gL (some 15) Try.func134 #[.int .i64 x1_1] ?_; (with_reducible refine (laws_markText.calls k1 x1_1 t388 _ A4.out).mono ?_); rintro e w8 ⟨rfl, hb⟩; refine ⟨_, rfl, ?_⟩; have n0_ := Rb HO_0 hb; have n1_ := am (Kept.below (S := (fun k_ => P0_ k_)) (by repeat (first | (with_reducible first | exact HK.out | apply Kept.alloc | apply Kept.drewN | apply Kept.drew) | exact HK.out)) hb); have n2_ := Bb HB hb; clear HO_0 HK HB; revert n0_ n1_ n2_; intro HO_0 HK HB; (try clear hb); (try clear hb2); (try clear hk); (try clear hi); have p6 : 0 ≤ (x5_1 : Int) := dT; have q6 : (x5_1 : Int) < ((x0_1.length : Int) : Int) := dT; obtain ⟨go6, co6, eo6, gb6, gl6, cl6, HG6⟩ := Kd.R_form HO_0.out (by omega); (first | cases eo6 | (injection eo6 with ea_ en_ ec_; (first | subst ea_ | (injection ea_ with ea_; subst ea_)); subst ec_; clear en_)); have GB6 := am gb6; have GG6 := am HG6; clear gb6 gl6 HG6; have HMgo6 := am (show (P0_ go6 ∨ w.heap.size ≤ go6) from (HO_0.out.1 _ rfl)); obtain ⟨hx6_0, hf6_0⟩ := Kd.R_celln (⟨#[]⟩ : ByteArray) HO_0.out (x5_1 : Int) p6 q6; replace p6 := eq_true p6; replace q6 := eq_true q6; obtain ⟨hy9_, hz9_⟩ := Kd.R_celln (⟨#[]⟩ : ByteArray) HO_0.out (x5_1 : Int) (dT) (dT); have HP9 := Kd.R_putg HO_0.out (x5_1 : Int) t388) | ((with_reducible refine gate_store (t := 9) (p := 16) rfl ?_); refine store_event (t := 9) (p := 16) (v := ?vo_w10) (w1 := (w8.setCell ⟨go6, (x5_1 : Int).toNat, none⟩ (.string t388))) ?hg ?ho ?hn ?hr ?_; (case ho => rfl); (case hg => rfl); (case hn => rfl); (case hr => first | (go_simp; done) | (go_simp; rfl)); intro w10 hw; have hg : w8.grownBy w10 (some go6) := (by rw [hw]; exact HP9.2); have hp_ : Kd.R Kd.string 9 w10 w0.heap.size (fun k_ => (P0_ k_ ∨ w.heap.size ≤ k_)) (.slice (some ⟨go6, 0, none⟩) x0_1.length co7) y389 := (by rw [hw, Ny389.out]; exact HP9.1); clear HP9; have n0_ := am (hp_); have n1_ := am ((by rw [hw]; exact below_set (HB.out) GB6.out : Below w0.heap.size w0 w10)); have n2_ := am (Kept.of_grown (S := (fun k_ => P0_ k_)) hg (by repeat (first | (with_reducible first | exact HK.out | apply Kept.alloc | apply Kept.drewN | apply Kept.drew) | exact HK.out)) (fun k_ e_ => (HO_0.out.1 k_ e_))); clear HO_0 HB HK; revert n0_ n1_ n2_; intro HO_0 HB HK; clear hg hw hp_))
     go_roundg k1
     case measure => have := HK1.out; omega
     case rel => exact ⟨(y389), (wrap64 (x1_1 + 1)), (wrap64 (x5_1 + 1)), wZ, wZ, H', ⟨by have := HK1.out; omega⟩, ⟨Rz HO_0.out⟩, ⟨by repeat (first | (with_reducible first | exact HK.out | apply Kept.alloc | apply Kept.drewN | apply Kept.drew) | exact HK.out)⟩, ⟨Bz HB.out⟩⟩
    ·rw [if_neg c5] at H
     exact absurd H (by simp)
   ·rw [if_neg c3] at H
    have c3b0 : decide (x5_1 < (x0_1.length : Int)) = false := decide_eq_false c3; clear c3
    simp only [Option.some.injEq, Prod.mk.injEq] at H
    obtain ⟨rfl, rfl⟩ := H; obtain ⟨Ao11, co11, eo11⟩ := Kd.R_slice HO_0.out; subst eo11
    go_wp2
    go_ret
    exact ⟨eZ, Rz HO_0.out, Bz HB.out, by repeat (first | (with_reducible first | exact HK.out | apply Kept.alloc | apply Kept.drewN | apply Kept.drew) | exact HK.out)⟩

def laws_markIntS.l0 : Nat → List Int → Int → Int → Option (Int × List Int)
 | 0, _, _, _ => none
 | k + 1, x0, x1, x5 => if x5 < (x0.length : Int) then (if 0 ≤ x5 then (laws_markIntS.l0 k (x0.set (x5 : Int).toNat x1) (wrap64 (x1 + 1)) (wrap64 (x5 + 1))) else (none)) else (some (x1, x0))
def laws_markIntS.f (k : Nat) (l0 : List Int) (a1 : Int) : Option (Int × List Int) := laws_markIntS.l0 k l0 a1 0
theorem laws_markIntS.calls (k : Nat) (P0_ : Nat → Prop) (u9000_ : Value) (l0 : List Int) (a1 : Int) (r1 : Int) (r2 : List Int) (w0 w : World) (hB : Below w0.heap.size w0 w) (ho0 : Kd.R (Kd.int .i64) 3 w w0.heap.size P0_ u9000_ l0) (h : laws_markIntS.f k l0 a1 = some (r1, r2)) :
  Calls Try.prog 135 #[u9000_, .int .i64 a1] w fun e w' => e = .returned (.int .i64 r1) ∧ Kd.R (Kd.int .i64) 3 w' w0.heap.size (fun k_ => (P0_ k_ ∨ w.heap.size ≤ k_)) u9000_ r2 ∧ Below w0.heap.size w0 w' ∧ Kept w w' (fun k_ => P0_ k_) := by
 have HO0 := am (show Kd.R (Kd.int .i64) 3 w w0.heap.size (fun k_ => (P0_ k_ ∨ w.heap.size ≤ k_)) u9000_ l0 from Kd.R_mono ho0 (fun k_ hk => (.inl hk))); have HK := am (Kept.refl w (fun k_ => P0_ k_)); have HW0 := am hB.size; have HB := am hB; clear hB; have H : (laws_markIntS.l0 k l0 a1 0) = some (r1, r2) := h; clear h; have H' := am H; clear H
 go_enter Try.func135, Try.ntmps135
 go_wp2
 go_loopg [1, 5] k (fun kq v1 v5 w' => ∃ (x0_1 : List Int) (x1_1 : Int) (x5_1 : Int), v1 = .int .i64 x1_1 ∧ v5 = .int .i64 x5_1 ∧ Aside0 (laws_markIntS.l0 kq x0_1 x1_1 x5_1 = some (r1, r2)) ∧ Aside0 (kq ≤ k) ∧ Aside0 (Kd.R (Kd.int .i64) 3 w' w0.heap.size (fun k_ => (P0_ k_ ∨ w.heap.size ≤ k_)) u9000_ x0_1) ∧ Aside0 (Kept w w' (fun k_ => P0_ k_)) ∧ Aside0 (Below w0.heap.size w0 w'))
 case atStart => exact ⟨(l0), (a1), (0), wZ, wZ, H', ⟨Nat.le_refl _⟩, ⟨Rz HO0.out⟩, ⟨by repeat (first | (with_reducible first | exact HK.out | apply Kept.alloc | apply Kept.drewN | apply Kept.drew) | exact HK.out)⟩, ⟨Bz HB.out⟩⟩
 case round =>
  clear H'
  try clear c1
  try clear p2
  obtain ⟨x0_1, x1_1, x5_1, rfl, rfl, HA, HK1, HO_0, HK, HB⟩ := hrel; cases gk with
  | zero => exact absurd HA.out (by simp [laws_markIntS.l0])
  | succ k1 =>
   have H := HA.out; clear HA
   simp only [laws_markIntS.l0] at H
   by_cases c3 : x5_1 < (x0_1.length : Int)
   ·rw [if_pos c3] at H
    have c3b0 : decide (x5_1 < (x0_1.length : Int)) = true := decide_eq_true c3; clear c3
    by_cases c4 : 0 ≤ x5_1
    ·rw [if_pos c4] at H
     have c4b0 : decide (0 ≤ x5_1) = true := decide_eq_true c4; clear c4; obtain ⟨y390, hy390⟩ : ∃ y_ : List Int, y_ = (x0_1.set (x5_1 : Int).toNat x1_1) := ⟨_, rfl⟩
     replace H : (laws_markIntS.l0 k1 y390 (wrap64 (x1_1 + 1)) (wrap64 (x5_1 + 1))) = some (r1, r2) := by first | (rw [hy390]; with_reducible exact H) | (have H2_ := (Option.bind_some _ _).symm.trans H; rw [hy390]; with_reducible exact H2_) | (have H2_ := (Option.bind_some _ _).symm.trans H; with_reducible exact H2_) | with_reducible exact H | (rw [hy390]; exact H) | exact H
     have Ny390 := am hy390; clear hy390; have H' := am H; clear H; obtain ⟨Ao6, co6, eo6⟩ := Kd.R_slice HO_0.out; subst eo6; have p5 : 0 ≤ (x5_1 : Int) := dT; have q5 : (x5_1 : Int) < ((x0_1.length : Int) : Int) := dT; obtain ⟨go5, co5, eo5, gb5, gl5, cl5, HG5⟩ := Kd.R_form HO_0.out (by omega)
     (first | cases eo5 | (injection eo5 with ea_ en_ ec_; (first | subst ea_ | (injection ea_ with ea_; subst ea_)); subst ec_; clear en_))
     have GB5 := am gb5; have GG5 := am HG5; clear gb5 gl5 HG5; have HMgo5 := am (show (P0_ go5 ∨ w.heap.size ≤ go5) from (HO_0.out.1 _ rfl)); obtain ⟨hx5_0, hf5_0⟩ := Kd.R_celln 0 HO_0.out (x5_1 : Int) p5 q5; replace p5 := eq_true p5; replace q5 := eq_true q5; have HP7 := Kd.R_putg HO_0.out (x5_1 : Int) x1_1
     go_wp2_with (first | ((with_reducible refine gate_store (t := 3) (p := 15) rfl ?_); refine store_event (t := 3) (p := 15) (v := ?vo_w8) (w1 := (wr.setCell ⟨go5, (x5_1 : Int).toNat, none⟩ (.int .i64 x1_1))) ?hg ?ho ?hn ?hr ?_; (case ho => rfl); (case hg => rfl); (case hn => rfl); (case hr => first | (go_simp; done) | (go_simp; rfl)); intro w8 hw; have hg : wr.grownBy w8 (some go5) := (by rw [hw]; exact HP7.2); have hp_ : Kd.R (Kd.int .i64) 3 w8 w0.heap.size (fun k_ => (P0_ k_ ∨ w.heap.size ≤ k_)) (.slice (some ⟨go5, 0, none⟩) x0_1.length co6) y390 := (by rw [hw, Ny390.out]; exact HP7.1); clear HP7; have n0_ := am (hp_); have n1_ := am ((by rw [hw]; exact below_set (HB.out) GB5.out : Below w0.heap.size w0 w8)); have n2_ := am (Kept.of_grown (S := (fun k_ => P0_ k_)) hg (by repeat (first | (with_reducible first | exact HK.out | apply Kept.alloc | apply Kept.drewN | apply Kept.drew) | exact HK.out)) (fun k_ e_ => (HO_0.out.1 k_ e_))); clear HO_0 HB HK; revert n0_ n1_ n2_; intro HO_0 HB HK; clear hg hw hp_))
     go_roundg k1
     case measure => have := HK1.out; omega
     case rel => exact ⟨(y390), (wrap64 (x1_1 + 1)), (wrap64 (x5_1 + 1)), wZ, wZ, H', ⟨by have := HK1.out; omega⟩, ⟨Rz HO_0.out⟩, ⟨by repeat (first | (with_reducible first | exact HK.out | apply Kept.alloc | apply Kept.drewN | apply Kept.drew) | exact HK.out)⟩, ⟨Bz HB.out⟩⟩
    ·rw [if_neg c4] at H
     exact absurd H (by simp)
   ·rw [if_neg c3] at H
    have c3b0 : decide (x5_1 < (x0_1.length : Int)) = false := decide_eq_false c3; clear c3
    simp only [Option.some.injEq, Prod.mk.injEq] at H
    obtain ⟨rfl, rfl⟩ := H; obtain ⟨Ao9, co9, eo9⟩ := Kd.R_slice HO_0.out; subst eo9
    go_wp2
    go_ret
    exact ⟨eZ, Rz HO_0.out, Bz HB.out, by repeat (first | (with_reducible first | exact HK.out | apply Kept.alloc | apply Kept.drewN | apply Kept.drew) | exact HK.out)⟩

def laws_markTable.f (k : Nat) (a0_0 : Int) (a0_1 : Int) (a0_2 : Int) (l0_3 : List Int) (a1 : Int) : Option (Int × List Int) := (laws_markIntS.f k l0_3 a1).bind fun bt392 => (some (bt392.1, bt392.2))
theorem laws_markTable.calls (k : Nat) (a0_0 : Int) (a0_1 : Int) (a0_2 : Int) (P0_3_ : Nat → Prop) (u9000_ : Value) (l0_3 : List Int) (a1 : Int) (r1 : Int) (r2 : List Int) (w0 w : World) (hB : Below w0.heap.size w0 w) (ho0_3 : Kd.R (Kd.int .i64) 3 w w0.heap.size P0_3_ u9000_ l0_3) (h : laws_markTable.f k a0_0 a0_1 a0_2 l0_3 a1 = some (r1, r2)) :
  Calls Try.prog 63 #[.agg #[.int .i64 a0_0, .int .i64 a0_1, .int .i64 a0_2, u9000_], .int .i64 a1] w fun e w' => e = .returned (.int .i64 r1) ∧ Kd.R (Kd.int .i64) 3 w' w0.heap.size (fun k_ => (P0_3_ k_ ∨ w.heap.size ≤ k_)) u9000_ r2 ∧ Below w0.heap.size w0 w' ∧ Kept w w' (fun k_ => P0_3_ k_) := by
 have hu70 := Try.underlying70; have HO0_3 := am (show Kd.R (Kd.int .i64) 3 w w0.heap.size (fun k_ => (P0_3_ k_ ∨ w.heap.size ≤ k_)) u9000_ l0_3 from Kd.R_mono ho0_3 (fun k_ hk => (.inl hk))); have HK := am (Kept.refl w (fun k_ => P0_3_ k_)); have HW0 := am hB.size; have HB := am hB; clear hB; have H : ((laws_markIntS.f k l0_3 a1).bind fun bt392 => (some (bt392.1, bt392.2))) = some (r1, r2) := h; clear h; replace H := Option.bind_eq_some_iff.mp H; obtain ⟨⟨t392, t393⟩, A30, H⟩ := H; (try dsimp -simprocs only at H); have A3 := am A30; clear A30
 simp only [Option.some.injEq, Prod.mk.injEq] at H
 obtain ⟨rfl, rfl⟩ := H; obtain ⟨Ao4, co4, eo4⟩ := Kd.R_slice HO0_3.out; subst eo4
 go_enter Try.func63, Try.ntmps63
 go_wp2_with (first | ((with_reducible refine gate_dst (N := 2) rfl ?_); refine bE 2 #[.int .i64 a0_0, .int .i64 a0_1, .int .i64 a0_2, .slice Ao4 l0_3.length co4] 70 ?_; intro gb391 hg w5 hbox hb; have n0_ := Rb HO0_3 hb; have n1_ := am (Kept.below (S := (fun k_ => P0_3_ k_)) (by repeat (first | (with_reducible first | exact HK.out | apply Kept.alloc | apply Kept.drewN | apply Kept.drew) | exact HK.out)) hb); have n2_ := Bb HB hb; have n3_ := am (hbox); have n4_ := am ((by rw [hg]; exact (by first | exact HK.out.1 | exact (show Kept w _ (fun k_ => P0_3_ k_) from by repeat (first | (with_reducible first | exact HK.out | apply Kept.alloc | apply Kept.drewN | apply Kept.drew) | exact HK.out)).1) : w.heap.size ≤ gb391)); have n5_ := am ((by rw [hg]; exact (below_size (Bz HB.out)) : w0.heap.size ≤ gb391)); clear HO0_3 HK HB; revert n0_ n1_ n2_ n3_ n4_ n5_; intro HO0_3 HK HB BK391 GW391 GE391; clear hb hbox hg; obtain ⟨hcz6_0, hcz6_1, hcz6_2, hcz6_3, hfz6_0, hfz6_1, hfz6_2, hfz6_3⟩ := cf4 (w := w5) BK391) | ((with_reducible refine gate_callee (f := 135) rfl ?_); refine gL (some 8) Try.func135 #[.slice Ao4 l0_3.length co4, .int .i64 a1] ?_; (with_reducible refine (laws_markIntS.calls k (fun k_ => some k_ = (.slice Ao4 l0_3.length co4 : Value).ownBlock) (.slice Ao4 l0_3.length co4) l0_3 a1 t392 t393 w0 _ ?side1 ?side2 A3.out).mono ?_); (case side1 => repeat (first | (with_reducible first | exact HB.out | apply below_alloc | apply pw_below_drewN | apply below_drew1 | refine below_set ?_ GE391.out) | exact HB.out)); (case side2 => exact Kd.R_tight rfl HO0_3.out); rintro e w7 ⟨rfl, hy0, hb, hkp⟩; refine ⟨_, rfl, ?_⟩; have n0_ := am (Kd.R_reok rfl hy0 (fun k_ e_ => HO0_3.out.1 k_ e_)); have n1_ := am (blk_kept (Kz BK391.out) hkp (fun hs_ => (fun e_ => (Kd.R_ne HO0_3.out BK391.out (by decide)) e_) hs_)); have n2_ := am (Kept.then_ (S := (fun k_ => P0_3_ k_)) (by repeat (first | (with_reducible first | exact HK.out | apply Kept.alloc | apply Kept.drewN | apply Kept.drew | refine Kept.setCell ?_ (.inr GW391.out) _) | exact HK.out)) hkp (fun k_ hs_ => (fun e_ => (HO0_3.out.1 k_ e_.symm)) hs_)); have n3_ := am (hb); clear HO0_3 BK391 HK HB; revert n0_ n1_ n2_ n3_; intro HO0_3 BK391 HK HB; (try clear hb); (try clear hkp); (try clear hy0)))
 go_ret
 exact ⟨eZ, Rz HO0_3.out, Bq, by repeat (first | (with_reducible first | exact HK.out | apply Kept.alloc | apply Kept.drewN | apply Kept.drew | refine Kept.setCell ?_ (.inr GW391.out) _) | exact HK.out)⟩

def laws_heldIntS.l0 : Nat → List Int → Int → Int → Option (Int)
 | 0, _, _, _ => none
 | k + 1, x0, x1, x5 => if x5 < (x0.length : Int) then (if 0 ≤ x5 then (if (rd x0 x5) = x1 then (laws_heldIntS.l0 k x0 (wrap64 (x1 + 1)) (wrap64 (x5 + 1))) else (some (-1))) else (none)) else (some x1)
def laws_heldIntS.f (k : Nat) (l0 : List Int) (a1 : Int) : Option (Int) := laws_heldIntS.l0 k l0 a1 0
theorem laws_heldIntS.calls (k : Nat) (A0 : Option Addr) (c0 : Nat) (l0 : List Int) (a1 : Int) (r : Int) (w : World) (hr0 : Kd.C (Kd.int .i64) w A0 l0.length l0) (hc0 : l0.length ≤ c0) (h : laws_heldIntS.f k l0 a1 = some r) :
  Calls Try.prog 136 #[.slice A0 l0.length c0, .int .i64 a1] w fun e w' => e = .returned (.int .i64 r) ∧ Drawn0 w w' := by
 have HR0 := am hr0; have HC0 := am hc0; clear hr0 hc0; have H : (laws_heldIntS.l0 k l0 a1 0) = some r := h; clear h; have H' := am H; clear H
 go_enter Try.func136, Try.ntmps136
 go_wp2
 go_loopg [1, 5] k (fun kq v1 v5 w' => ∃ (x1_1 : Int) (x5_1 : Int), v1 = .int .i64 x1_1 ∧ v5 = .int .i64 x5_1 ∧ Aside0 (laws_heldIntS.l0 kq l0 x1_1 x5_1 = some r) ∧ Aside0 (kq ≤ k) ∧ Drawn0 w w')
 case atStart => exact ⟨(a1), (0), wZ, wZ, H', ⟨Nat.le_refl _⟩, by repeat (first | exact Drawn0.refl _ | apply Drawn0.step)⟩
 case round =>
  clear H'
  try clear c1
  try clear p2
  obtain ⟨x1_1, x5_1, rfl, rfl, HA, HK1, ⟨m1, rfl⟩⟩ := hrel; cases gk with
  | zero => exact absurd HA.out (by simp [laws_heldIntS.l0])
  | succ k1 =>
   have H := HA.out; clear HA
   simp only [laws_heldIntS.l0] at H
   by_cases c3 : x5_1 < (l0.length : Int)
   ·rw [if_pos c3] at H
    have c3b0 : decide (x5_1 < (l0.length : Int)) = true := decide_eq_true c3; clear c3
    by_cases c4 : 0 ≤ x5_1
    ·rw [if_pos c4] at H
     have c4b0 : decide (0 ≤ x5_1) = true := decide_eq_true c4; clear c4
     by_cases c5 : (rd l0 x5_1) = x1_1
     ·rw [if_pos c5] at H
      have c5b0 : ((rd l0 x5_1) == x1_1) = true := beq_iff_eq.mpr c5; have c5b1 : ((rd l0 x5_1) != x1_1) = false := bne_eq_false_iff_eq.mpr c5; clear c5; have H' := am H; clear H; obtain ⟨ad394, e394, hx394_0⟩ := Kd.at_int HR0.out x5_1 dT dT; cases e394; have p394 := eT (0 ≤ (x5_1 : Int)); have q394 := eT (x5_1 < (l0.length : Int))
      go_wp2
      go_roundg k1
      case measure => have := HK1.out; omega
      case rel => exact ⟨(wrap64 (x1_1 + 1)), (wrap64 (x5_1 + 1)), wZ, wZ, H', ⟨by have := HK1.out; omega⟩, by repeat (first | exact Drawn0.refl _ | apply Drawn0.step)⟩
     ·rw [if_neg c5] at H
      have c5b0 : ((rd l0 x5_1) == x1_1) = false := beq_eq_false_iff_ne.mpr c5; have c5b1 : ((rd l0 x5_1) != x1_1) = true := bne_iff_ne.mpr c5; obtain rfl := Option.some.inj H; obtain ⟨ad394, e394, hx394_0⟩ := Kd.at_int HR0.out x5_1 dT dT; cases e394; have p394 := eT (0 ≤ (x5_1 : Int)); have q394 := eT (x5_1 < (l0.length : Int))
      go_wp2
      go_ret
      exact ⟨by first | rfl | (simp; done) | (simp [*]; done), by repeat (first | exact Drawn0.refl _ | apply Drawn0.step)⟩
    ·rw [if_neg c4] at H
     exact absurd H (by simp)
   ·rw [if_neg c3] at H
    have c3b0 : decide (x5_1 < (l0.length : Int)) = false := decide_eq_false c3; clear c3; obtain rfl := Option.some.inj H
    go_wp2
    go_ret
    exact ⟨by first | rfl | (simp; done) | (simp [*]; done), by repeat (first | exact Drawn0.refl _ | apply Drawn0.step)⟩

def laws_heldTable.f (k : Nat) (a0_0 : Int) (a0_1 : Int) (a0_2 : Int) (l0_3 : List Int) (a1 : Int) : Option (Int) := (laws_heldIntS.f k l0_3 a1).bind fun t396 => (if t396 < 0 then (some (-1)) else (some t396))
theorem laws_heldTable.calls (k : Nat) (a0_0 : Int) (a0_1 : Int) (a0_2 : Int) (A0_3 : Option Addr) (c0_3 : Nat) (l0_3 : List Int) (a1 : Int) (r : Int) (w : World) (hr0_3 : Kd.C (Kd.int .i64) w A0_3 l0_3.length l0_3) (hc0_3 : l0_3.length ≤ c0_3) (h : laws_heldTable.f k a0_0 a0_1 a0_2 l0_3 a1 = some r) :
  Calls Try.prog 64 #[.agg #[.int .i64 a0_0, .int .i64 a0_1, .int .i64 a0_2, .slice A0_3 l0_3.length c0_3], .int .i64 a1] w fun e w' => e = .returned (.int .i64 r) ∧ Below w.heap.size w w' := by
 have hu70 := Try.underlying70; have HR0_3 := am hr0_3; have HC0_3 := am hc0_3; clear hr0_3 hc0_3; have HB := am (Below.refl w.heap.size w); have H : ((laws_heldIntS.f k l0_3 a1).bind fun t396 => (if t396 < 0 then (some (-1)) else (some t396))) = some r := h; clear h; replace H := Option.bind_eq_some_iff.mp H; obtain ⟨t396, A30, H⟩ := H; (try dsimp -simprocs only at H); have A3 := am A30; clear A30
 by_cases c4 : t396 < 0
 ·rw [if_pos c4] at H
  have c4b0 : decide (t396 < 0) = true := decide_eq_true c4; clear c4; obtain rfl := Option.some.inj H
  go_enter Try.func64, Try.ntmps64
  go_wp2_with (first | ((with_reducible refine gate_dst (N := 2) rfl ?_); refine bE 2 #[.int .i64 a0_0, .int .i64 a0_1, .int .i64 a0_2, .slice A0_3 l0_3.length c0_3] 70 ?_; intro gb395 hg w5 hbox hb; have n0_ := Bb HB hb; have n1_ := am (hbox); have n2_ := Gl HB hg; have n3_ := Gl HB hg; clear HB; revert n0_ n1_ n2_ n3_; intro HB BK395 GW395 GE395; clear hb hbox hg; obtain ⟨hcz6_0, hcz6_1, hcz6_2, hcz6_3, hfz6_0, hfz6_1, hfz6_2, hfz6_3⟩ := cf4 (w := w5) BK395) | ((with_reducible refine gate_callee (f := 136) rfl ?_); refine gL (some 8) Try.func136 #[.slice A0_3 l0_3.length c0_3, .int .i64 a1] ?_; (with_reducible refine (laws_heldIntS.calls k _ _ l0_3 a1 t396 _ ?side1 ?side2 A3.out).mono ?_); (case side1 => exact Cz (Kd.C_below HR0_3.out HB.out)); (case side2 => exact HC0_3.out); rintro e w' ⟨rfl, ⟨nd, rfl⟩⟩; refine ⟨_, rfl, ?_⟩))
  go_ret
  exact ⟨eZ, Bq⟩
 ·rw [if_neg c4] at H
  have c4b0 : decide (t396 < 0) = false := decide_eq_false c4; clear c4; obtain rfl := Option.some.inj H
  go_enter Try.func64, Try.ntmps64
  go_wp2_with (first | ((with_reducible refine gate_dst (N := 2) rfl ?_); refine bE 2 #[.int .i64 a0_0, .int .i64 a0_1, .int .i64 a0_2, .slice A0_3 l0_3.length c0_3] 70 ?_; intro gb395 hg w7 hbox hb; have n0_ := Bb HB hb; have n1_ := am (hbox); have n2_ := Gl HB hg; have n3_ := Gl HB hg; clear HB; revert n0_ n1_ n2_ n3_; intro HB BK395 GW395 GE395; clear hb hbox hg; obtain ⟨hcz8_0, hcz8_1, hcz8_2, hcz8_3, hfz8_0, hfz8_1, hfz8_2, hfz8_3⟩ := cf4 (w := w7) BK395) | ((with_reducible refine gate_callee (f := 136) rfl ?_); refine gL (some 8) Try.func136 #[.slice A0_3 l0_3.length c0_3, .int .i64 a1] ?_; (with_reducible refine (laws_heldIntS.calls k _ _ l0_3 a1 t396 _ ?side1 ?side2 A3.out).mono ?_); (case side1 => exact Cz (Kd.C_below HR0_3.out HB.out)); (case side2 => exact HC0_3.out); rintro e w' ⟨rfl, ⟨nd, rfl⟩⟩; refine ⟨_, rfl, ?_⟩))
  go_ret
  exact ⟨eZ, Bq⟩

end Go.Proofs.Ythkcgimnagpmaaa.PP
-- printed by a program of this session (wip/gp) out of the translation; Lean checks it
namespace Go.Proofs.Ythkcgimnagpmaaa.PP
open Go.RowKit Go.Proofs.YthkcgimnagpmaaaW.PrintWords Go.Proofs.YthkcgimnagpmaaaW.PrintLast Go.Proofs.YthkcgimnagpmaaaW.PrintMore Go.Proofs.YthkcgimnagpmaaaSq
attribute [local go_sem] max2_int min2_int max_two min_two max_three min_three max_four min_four   -- for this text's walks alone
attribute [local go_sem] Go.Proofs.YthkcgimnagpmaaaGp.str_geq Go.Proofs.YthkcgimnagpmaaaGp.str_gtr Go.Proofs.YthkcgimnagpmaaaGp.str_leq
set_option linter.unusedVariables false
set_option linter.unusedSimpArgs false

set_option maxHeartbeats 8000000
set_option maxRecDepth 100000
mutual
def laws_FnExactPrintFilterOf.j0 : Nat → Int → List ByteArray → Int → Int → Bool → List ByteArray → Bool → Bool → Int → Int → Int → List Int → Int → Int → Int → List Int → Option (Bool)
 | 0, _, _, _, _, _, _, _, _, _, _, _, _, _, _, _, _ => none
 | k + 1, x0, x1, x2, x3, x11, x12, x14, x52, x409000, x409001, x409002, x409003, x420000, x420001, x420002, x420003 => if x52 = true then (some false) else ((laws_toStringS.f k x1).bind fun t421 => ((laws_eqStringS.f k x12 t421).bind fun t424 => (if t424 = true then ((laws_markStringS.f k x12 1).bind fun bt425 => (if bt425.1 < 0 then (laws_FnExactPrintFilterOf.j1 k x0 x1 x2 x3 x11 true x409000 x409001 x409002 x409003 x420000 x420001 x420002 x420003) else ((laws_eqTable.f k x420000 x420001 x420002 x420003 x409000 x409001 x409002 x409003).bind fun t427 => (if t427 = true then (laws_FnExactPrintFilterOf.j1 k x0 x1 x2 x3 x11 (x14 != x11) x409000 x409001 x409002 x409003 x420000 x420001 x420002 x420003) else (laws_FnExactPrintFilterOf.j1 k x0 x1 x2 x3 x11 true x409000 x409001 x409002 x409003 x420000 x420001 x420002 x420003))))) else (some false))))
def laws_FnExactPrintFilterOf.j1 : Nat → Int → List ByteArray → Int → Int → Bool → Bool → Int → Int → Int → List Int → Int → Int → Int → List Int → Option (Bool)
 | 0, _, _, _, _, _, _, _, _, _, _, _, _, _, _ => none
 | k + 1, x0, x1, x2, x3, x11, x73, x409000, x409001, x409002, x409003, x420000, x420001, x420002, x420003 => if x73 = true then (some false) else ((laws_markTable.f k x420000 x420001 x420002 x420003 1).bind fun bt428 => ((laws_heldTable.f k x420000 x420001 x420002 bt428.2 1).bind fun t430 => (if t430 < 0 then (some false) else (if t430 = bt428.1 then ((laws_toStringS.f k x1).bind fun t431 => ((impl_PrintFilterOf.f k x0 t431 x2 x3).bind fun bt434 => ((laws_eqTable.f k bt434.1 bt434.2.1 bt434.2.2.1 bt434.2.2.2.1 x409000 x409001 x409002 x409003).bind fun t442 => (if t442 = true then (laws_FnExactPrintFilterOf.j2 k bt428.1 (bt434.2.2.2.2 != x11) x420000 x420001 x420002 bt428.2) else (laws_FnExactPrintFilterOf.j2 k bt428.1 true x420000 x420001 x420002 bt428.2))))) else (some false)))))
def laws_FnExactPrintFilterOf.j2 : Nat → Int → Bool → Int → Int → Int → List Int → Option (Bool)
 | 0, _, _, _, _, _, _ => none
 | k + 1, x16, x102, x420000, x420001, x420002, x420003 => if x102 = true then (some false) else ((laws_heldTable.f k x420000 x420001 x420002 x420003 1).bind fun t443 => (if t443 < 0 then (some false) else (if t443 = x16 then (some true) else (some false))))
end
def laws_FnExactPrintFilterOf.f (k : Nat) (a0 : Int) (l1 : List ByteArray) (a2 : Int) (a3 : Int) : Option (Bool) := (laws_szStringS.f k l1 1048576).bind fun t397 => (if t397 < 0 then (some true) else ((laws_toStringS.f k l1).bind fun t398 => ((spec_PrintFilterOf.f k a0 t398 a2 a3).bind fun bt401 => ((laws_toStringS.f k l1).bind fun t409 => ((impl_PrintFilterOf.f k a0 t409 a2 a3).bind fun bt412 => ((laws_eqTable.f k bt412.1 bt412.2.1 bt412.2.2.1 bt412.2.2.2.1 bt401.1 bt401.2.1 bt401.2.2.1 bt401.2.2.2.1).bind fun t420 => (if t420 = true then (laws_FnExactPrintFilterOf.j0 k a0 l1 a2 a3 bt401.2.2.2.2 t409 bt412.2.2.2.2 (bt412.2.2.2.2 != bt401.2.2.2.2) bt401.1 bt401.2.1 bt401.2.2.1 bt401.2.2.2.1 bt412.1 bt412.2.1 bt412.2.2.1 bt412.2.2.2.1) else (laws_FnExactPrintFilterOf.j0 k a0 l1 a2 a3 bt401.2.2.2.2 t409 bt412.2.2.2.2 true bt401.1 bt401.2.1 bt401.2.2.1 bt401.2.2.2.1 bt412.1 bt412.2.1 bt412.2.2.1 bt412.2.2.2.1))))))))
theorem laws_FnExactPrintFilterOf.j0.dead (k : Nat) (y0 : Int) (y1 : List ByteArray) (y2 : Int) (y3 : Int) (y4 : Bool) (y5 : List ByteArray) (y6 : Bool) (y8 : Int) (y9 : Int) (y10 : Int) (y11 : List Int) (y12 : Int) (y13 : Int) (y14 : Int) (y15 : List Int) : laws_FnExactPrintFilterOf.j0 k y0 y1 y2 y3 y4 y5 y6 true y8 y9 y10 y11 y12 y13 y14 y15 ≠ some true := by cases k <;> simp [laws_FnExactPrintFilterOf.j0]
theorem laws_FnExactPrintFilterOf.j1.dead (k : Nat) (y0 : Int) (y1 : List ByteArray) (y2 : Int) (y3 : Int) (y4 : Bool) (y6 : Int) (y7 : Int) (y8 : Int) (y9 : List Int) (y10 : Int) (y11 : Int) (y12 : Int) (y13 : List Int) : laws_FnExactPrintFilterOf.j1 k y0 y1 y2 y3 y4 true y6 y7 y8 y9 y10 y11 y12 y13 ≠ some true := by cases k <;> simp [laws_FnExactPrintFilterOf.j1]
theorem laws_FnExactPrintFilterOf.j2.dead (k : Nat) (y0 : Int) (y2 : Int) (y3 : Int) (y4 : Int) (y5 : List Int) : laws_FnExactPrintFilterOf.j2 k y0 true y2 y3 y4 y5 ≠ some true := by cases k <;> simp [laws_FnExactPrintFilterOf.j2]
theorem laws_FnExactPrintFilterOf.calls (k : Nat) (a0 : Int) (A1 : Option Addr) (c1 : Nat) (l1 : List ByteArray) (a2 : Int) (a3 : Int) (r : Bool) (w : World) (hr1 : Kd.C Kd.string w A1 l1.length l1) (hc1 : l1.length ≤ c1) (h : laws_FnExactPrintFilterOf.f k a0 l1 a2 a3 = some r) (hT_ : r = true) :
  Calls Try.prog 11 #[.int .i64 a0, .slice A1 l1.length c1, .int .i64 a2, .int .i64 a3] w fun e w' => e = .returned (.bool r) ∧ Below w.heap.size w w' := by
 have hu70 := Try.underlying70; have HR1 := am hr1; have HC1 := am hc1; clear hr1 hc1; have HB := am (Below.refl w.heap.size w); have H : ((laws_szStringS.f k l1 1048576).bind fun t397 => (if t397 < 0 then (some true) else ((laws_toStringS.f k l1).bind fun t398 => ((spec_PrintFilterOf.f k a0 t398 a2 a3).bind fun bt401 => ((laws_toStringS.f k l1).bind fun t409 => ((impl_PrintFilterOf.f k a0 t409 a2 a3).bind fun bt412 => ((laws_eqTable.f k bt412.1 bt412.2.1 bt412.2.2.1 bt412.2.2.2.1 bt401.1 bt401.2.1 bt401.2.2.1 bt401.2.2.2.1).bind fun t420 => (if t420 = true then (laws_FnExactPrintFilterOf.j0 k a0 l1 a2 a3 bt401.2.2.2.2 t409 bt412.2.2.2.2 (bt412.2.2.2.2 != bt401.2.2.2.2) bt401.1 bt401.2.1 bt401.2.2.1 bt401.2.2.2.1 bt412.1 bt412.2.1 bt412.2.2.1 bt412.2.2.2.1) else (laws_FnExactPrintFilterOf.j0 k a0 l1 a2 a3 bt401.2.2.2.2 t409 bt412.2.2.2.2 true bt401.1 bt401.2.1 bt401.2.2.1 bt401.2.2.2.1 bt412.1 bt412.2.1 bt412.2.2.1 bt412.2.2.2.1))))))))) = some r := h; clear h; have HQT_ := am hT_; clear hT_; replace H := Option.bind_eq_some_iff.mp H; obtain ⟨t397, A50, H⟩ := H; (try dsimp -simprocs only at H); have A5 := am A50; clear A50
 by_cases c6 : t397 < 0
 ·rw [if_pos c6] at H
  have c6b0 : decide (t397 < 0) = true := decide_eq_true c6; clear c6; obtain rfl := Option.some.inj H
  go_enter Try.func11, Try.ntmps11
  go_wp2_with (first | ((with_reducible refine gate_callee (f := 56) rfl ?_); refine gL (some 22) Try.func56 #[.slice A1 l1.length c1, .int .i64 1048576] ?_; (with_reducible refine (laws_szStringS.calls k _ _ l1 1048576 t397 _ ?side1 ?side2 A5.out).mono ?_); (case side1 => exact Cz HR1.out); (case side2 => exact HC1.out); rintro e w' ⟨rfl, ⟨nd, rfl⟩⟩; refine ⟨_, rfl, ?_⟩))
  go_ret
  exact ⟨eZ, Bz HB.out⟩
 ·rw [if_neg c6] at H
  have c6b0 : decide (t397 < 0) = false := decide_eq_false c6; clear c6; replace H := Option.bind_eq_some_iff.mp H; obtain ⟨t398, A70, H⟩ := H; (try dsimp -simprocs only at H); have A7 := am A70; clear A70; replace H := Option.bind_eq_some_iff.mp H; obtain ⟨⟨t401, t402, t403, t404, t407⟩, A80, H⟩ := H; (try dsimp -simprocs only at H); have A8 := am A80; clear A80; replace H := Option.bind_eq_some_iff.mp H; obtain ⟨t409, A90, H⟩ := H; (try dsimp -simprocs only at H); have A9 := am A90; clear A90; replace H := Option.bind_eq_some_iff.mp H; obtain ⟨⟨t412, t413, t414, t415, t418⟩, A100, H⟩ := H; (try dsimp -simprocs only at H); have A10 := am A100; clear A100; have HC11 := am H; clear H
  go_enter Try.func11, Try.ntmps11
  go_upto_region 8 with (first | ((with_reducible refine gate_callee (f := 56) rfl ?_); refine gL (some 22) Try.func56 #[.slice A1 l1.length c1, .int .i64 1048576] ?_; (with_reducible refine (laws_szStringS.calls k _ _ l1 1048576 t397 _ ?side1 ?side2 A5.out).mono ?_); (case side1 => exact Cz HR1.out); (case side2 => exact HC1.out); rintro e w' ⟨rfl, ⟨nd, rfl⟩⟩; refine ⟨_, rfl, ?_⟩) | ((with_reducible refine gate_callee (f := 58) rfl ?_); refine gL (some 28) Try.func58 #[.slice A1 l1.length c1] ?_; (with_reducible refine (laws_toStringS.calls k _ _ l1 t398 _ ?side1 ?side2 A7.out).mono ?_); (case side1 => exact Cz HR1.out); (case side2 => exact HC1.out); rintro e w12 ⟨v399, rfl, ho0, hb⟩; refine ⟨_, rfl, ?_⟩; have n0_ := Rl ho0 HB; have n1_ := Bb HB hb; clear HB; revert n0_ n1_; intro HO400 HB; (try clear hb); (try clear hb2); (try clear hk); (try clear hi); (try clear ho0); obtain ⟨Ao13, co13, eo13⟩ := Kd.R_slice HO400.out; subst eo13) | ((with_reducible refine gate_callee (f := 57) rfl ?_); refine gL (some 31) Try.func57 #[.int .i64 a0, .slice Ao13 t398.length co13, .int .i64 a2, .int .i64 a3] ?_; (with_reducible refine (spec_PrintFilterOf.calls k a0 _ _ t398 a2 a3 t401 t402 t403 t404 t407 _ ?side1 ?side2 A8.out).mono ?_); (case side1 => exact Cz ((Kd.R_reads' HO400.out).2.2)); (case side2 => exact (Kd.R_reads' HO400.out).2.1); rintro e w14 ⟨v405, rfl, ho0, hb⟩; refine ⟨_, rfl, ?_⟩; have n0_ := Rb HO400 hb; have n1_ := Rl ho0 HB; have n2_ := Bb HB hb; clear HO400 HB; revert n0_ n1_ n2_; intro HO400 HO406 HB; (try clear hb); (try clear hb2); (try clear hk); (try clear hi); (try clear ho0)) | ((with_reducible refine gate_dst (N := 10) rfl ?_); refine bE 10 #[.int .i64 0, .int .i64 0, .int .i64 0, .slice none 0 0] 70 ?_; intro gb408 hg w15 hbox hb; have n0_ := Rb HO400 hb; have n1_ := Rb HO406 hb; have n2_ := Bb HB hb; have n3_ := am (hbox); have n4_ := Gl HB hg; have n5_ := Gl HB hg; clear HO400 HO406 HB; revert n0_ n1_ n2_ n3_ n4_ n5_; intro HO400 HO406 HB BK408 GW408 GE408; clear hb hbox hg; obtain ⟨hcz16_0, hcz16_1, hcz16_2, hcz16_3, hfz16_0, hfz16_1, hfz16_2, hfz16_3⟩ := cf4 (w := w15) BK408; obtain ⟨Ao17, co17, eo17⟩ := Kd.R_slice HO406.out; subst eo17) | ((with_reducible refine gate_callee (f := 58) rfl ?_); refine gL (some 35) Try.func58 #[.slice A1 l1.length c1] ?_; (with_reducible refine (laws_toStringS.calls k _ _ l1 t409 _ ?side1 ?side2 A9.out).mono ?_); (case side1 => exact Kd.C_below HR1.out (Bq)); (case side2 => exact HC1.out); rintro e w18 ⟨v410, rfl, ho0, hb⟩; refine ⟨_, rfl, ?_⟩; have n0_ := am (Kd.R_elder' (Rz (Kd.R_mono (Kd.R_far (p := ⟨gb408, 3, none⟩) (Kd.R_far (p := ⟨gb408, 2, none⟩) (Kd.R_far (p := ⟨gb408, 1, none⟩) (Kd.R_far (p := ⟨gb408, 0, none⟩) (Kd.R_types HO400.out BK408.out (by decide)) (fun _ hk => hk.2) (.int .i64 t401)) (fun _ hk => hk.2) (.int .i64 t402)) (fun _ hk => hk.2) (.int .i64 t403)) (fun _ hk => hk.2) (.slice Ao17 t404.length co17)) (fun _ h_ => h_.1))) (Kd.R_base ho0) hb); have n1_ := am (Kd.R_below (Rz (Kd.R_mono (Kd.R_far (p := ⟨gb408, 3, none⟩) (Kd.R_far (p := ⟨gb408, 2, none⟩) (Kd.R_far (p := ⟨gb408, 1, none⟩) (Kd.R_far (p := ⟨gb408, 0, none⟩) (Kd.R_types HO406.out BK408.out (by decide)) (fun _ hk => hk.2) (.int .i64 t401)) (fun _ hk => hk.2) (.int .i64 t402)) (fun _ hk => hk.2) (.int .i64 t403)) (fun _ hk => hk.2) (.slice Ao17 t404.length co17)) (fun _ h_ => h_.1))) hb); have n2_ := am (Kd.R_lower (Kd.R_new' ho0 (Kd.R_lt (Rz (Kd.R_mono (Kd.R_far (p := ⟨gb408, 3, none⟩) (Kd.R_far (p := ⟨gb408, 2, none⟩) (Kd.R_far (p := ⟨gb408, 1, none⟩) (Kd.R_far (p := ⟨gb408, 0, none⟩) (Kd.R_types HO400.out BK408.out (by decide)) (fun _ hk => hk.2) (.int .i64 t401)) (fun _ hk => hk.2) (.int .i64 t402)) (fun _ hk => hk.2) (.int .i64 t403)) (fun _ hk => hk.2) (.slice Ao17 t404.length co17)) (fun _ h_ => h_.1))))) (below_size (w := w) (Bq))); have n3_ := am (blk_below (g := gb408) (o := .cells #[.int .i64 t401, .int .i64 t402, .int .i64 t403, .slice Ao17 t404.length co17] 70 (0, 0)) (by (with_reducible repeat (first | refine blk_drewN ?_ _ | refine blk_drew ?_ | refine blk_alloc ?_ _)); refine blk_put (cs := #[.int .i64 t401, .int .i64 t402, .int .i64 t403, .slice none 0 0]) ?_ 3 _ rfl; (with_reducible repeat (first | refine blk_drewN ?_ _ | refine blk_drew ?_ | refine blk_alloc ?_ _)); refine blk_put (cs := #[.int .i64 t401, .int .i64 t402, .int .i64 0, .slice none 0 0]) ?_ 2 _ rfl; (with_reducible repeat (first | refine blk_drewN ?_ _ | refine blk_drew ?_ | refine blk_alloc ?_ _)); refine blk_put (cs := #[.int .i64 t401, .int .i64 0, .int .i64 0, .slice none 0 0]) ?_ 1 _ rfl; (with_reducible repeat (first | refine blk_drewN ?_ _ | refine blk_drew ?_ | refine blk_alloc ?_ _)); refine blk_put (cs := #[.int .i64 0, .int .i64 0, .int .i64 0, .slice none 0 0]) ?_ 0 _ rfl; exact Kz BK408.out) hb); have n4_ := Bc HB hb; clear HO400 HO406 BK408 HB; revert n0_ n1_ n2_ n3_ n4_; intro HO400 HO406 HO411 BK408 HB; (try clear hb); (try clear hb2); (try clear hk); (try clear hi); (try clear ho0); obtain ⟨Ao19, co19, eo19⟩ := Kd.R_slice HO411.out; subst eo19) | ((with_reducible refine gate_callee (f := 59) rfl ?_); refine gL (some 41) Try.func59 #[.int .i64 a0, .slice Ao19 t409.length co19, .int .i64 a2, .int .i64 a3] ?_; (with_reducible refine (impl_PrintFilterOf.calls k a0 _ _ t409 a2 a3 t412 t413 t414 t415 t418 _ ?side1 ?side2 A10.out).mono ?_); (case side1 => exact Cz ((Kd.R_reads' HO411.out).2.2)); (case side2 => exact (Kd.R_reads' HO411.out).2.1); rintro e w20 ⟨v416, rfl, ho0, hb⟩; refine ⟨_, rfl, ?_⟩; have n0_ := Rb HO400 hb; have n1_ := Re HO406 (Kd.R_base ho0) hb; have n2_ := Rb HO411 hb; have n3_ := Rm (Kd.R_new' ho0 (Kd.R_lt (Rz HO406.out))) HB; have n4_ := Kb BK408 hb; have n5_ := Bc HB hb; clear HO400 HO406 HO411 BK408 HB; revert n0_ n1_ n2_ n3_ n4_ n5_; intro HO400 HO406 HO411 HO417 BK408 HB; (try clear hb); (try clear hb2); (try clear hk); (try clear hi); (try clear ho0)) | ((with_reducible refine gate_dst (N := 13) rfl ?_); refine bE 13 #[.int .i64 0, .int .i64 0, .int .i64 0, .slice none 0 0] 70 ?_; intro gb419 hg w21 hbox hb; have n0_ := Rb HO400 hb; have n1_ := Rb HO406 hb; have n2_ := Rb HO411 hb; have n3_ := Rb HO417 hb; have n4_ := Kb BK408 hb; have n5_ := Bc HB hb; have n6_ := am (hbox); have n7_ := Gm HB hg; have n8_ := Gm HB hg; have n9_ := Nl BK408 hg; have n10_ := Ng BK408 hg; clear HO400 HO406 HO411 HO417 BK408 HB; revert n0_ n1_ n2_ n3_ n4_ n5_ n6_ n7_ n8_ n9_ n10_; intro HO400 HO406 HO411 HO417 BK408 HB BK419 GW419 GE419 NB408_419 NB419_408; clear hb hbox hg; have hnb22 := NB419_408.out; have hnc22 := NB408_419.out; obtain ⟨hcz23_0, hcz23_1, hcz23_2, hcz23_3, hfz23_0, hfz23_1, hfz23_2, hfz23_3⟩ := cf4 (w := w21) BK419; obtain ⟨Ao24, co24, eo24⟩ := Kd.R_slice HO417.out; subst eo24))
  (try simp only [aP])
  go_cut [52] (fun v52 wc => ∃ (kq : Nat) (x52_10 : Bool), v52 = .bool x52_10 ∧ Aside0 (laws_FnExactPrintFilterOf.j0 kq a0 l1 a2 a3 t407 t409 t418 x52_10 t401 t402 t403 t404 t412 t413 t414 t415 = some r) ∧ Aside0 (kq ≤ k) ∧ Aside0 (Kd.R Kd.string 9 wc w.heap.size (fun _ => True) (.slice Ao19 t409.length co19) t409) ∧ Aside0 (Kd.R (Kd.int .i64) 3 wc w.heap.size (fun k_ => some k_ ≠ ((.slice Ao24 t415.length co24) : Value).ownBlock) (.slice Ao17 t404.length co17) t404) ∧ Aside0 (Kd.R (Kd.int .i64) 3 wc w.heap.size (fun k_ => some k_ ≠ ((.slice Ao17 t404.length co17) : Value).ownBlock) (.slice Ao24 t415.length co24) t415) ∧ Aside0 (wc.heap[gb408]? = some (.cells #[.int .i64 t401, .int .i64 t402, .int .i64 t403, (.slice Ao17 t404.length co17)] 70 (0, 0))) ∧ Aside0 (wc.heap[gb419]? = some (.cells #[.int .i64 t412, .int .i64 t413, .int .i64 t414, (.slice Ao24 t415.length co24)] 70 (0, 0))) ∧ Aside0 (Below w.heap.size w wc))
  case first =>
   have H := HC11.out; clear HC11; replace H := Option.bind_eq_some_iff.mp H; obtain ⟨t420, A250, H⟩ := H; (try dsimp -simprocs only at H); have A25 := am A250; clear A250
   by_cases c26 : t420 = true
   ·subst c26
    rw [if_pos rfl] at H; have H' := am H; clear H; have hnb27 := NB419_408.out; have hnc27 := NB408_419.out; obtain ⟨hcz28_0, hcz28_1, hcz28_2, hcz28_3, hfz28_0, hfz28_1, hfz28_2, hfz28_3⟩ := cf4 (w := w21) BK419; obtain ⟨hcz29_0, hcz29_1, hcz29_2, hcz29_3, hfz29_0, hfz29_1, hfz29_2, hfz29_3⟩ := cf4 (w := w21) BK408
    go_wp2_with (first | ((with_reducible refine gate_callee (f := 60) rfl ?_); refine gL (some 46) Try.func60 #[.agg #[.int .i64 t412, .int .i64 t413, .int .i64 t414, .slice Ao24 t415.length co24], .agg #[.int .i64 t401, .int .i64 t402, .int .i64 t403, .slice Ao17 t404.length co17]] ?_; (with_reducible refine (laws_eqTable.calls k t412 t413 t414 _ _ t415 t401 t402 t403 _ _ t404 true _ ?side1 ?side2 ?side3 ?side4 A25.out).mono ?_); (case side1 => refine (Kd.R_reads' (e := 3) (base := w.heap.size) (ok := fun k_ => (True ∧ some k_ ≠ (.slice Ao17 t404.length co17 : Value).ownBlock)) (n := t415.length) (c := co24) ?_).2.2; exact (Rz (Kd.R_mono (Kd.R_far (p := ⟨gb419, 3, none⟩) (Kd.R_far (p := ⟨gb419, 2, none⟩) (Kd.R_far (p := ⟨gb419, 1, none⟩) (Kd.R_far (p := ⟨gb419, 0, none⟩) (Kd.R_types HO417.out BK419.out (by decide)) (fun _ hk => hk.2) (.int .i64 t412)) (fun _ hk => hk.2) (.int .i64 t413)) (fun _ hk => hk.2) (.int .i64 t414)) (fun _ hk => hk.2) (.slice Ao24 t415.length co24)) (fun _ h_ => h_.1)))); (case side2 => exact (Kd.R_reads' HO417.out).2.1); (case side3 => refine (Kd.R_reads' (e := 3) (base := w.heap.size) (ok := fun k_ => (True ∧ some k_ ≠ (.slice Ao24 t415.length co24 : Value).ownBlock)) (n := t404.length) (c := co17) ?_).2.2; exact (Rz (Kd.R_mono (Kd.R_far (p := ⟨gb419, 3, none⟩) (Kd.R_far (p := ⟨gb419, 2, none⟩) (Kd.R_far (p := ⟨gb419, 1, none⟩) (Kd.R_far (p := ⟨gb419, 0, none⟩) (Kd.R_types HO406.out BK419.out (by decide)) (fun _ hk => hk.2) (.int .i64 t412)) (fun _ hk => hk.2) (.int .i64 t413)) (fun _ hk => hk.2) (.int .i64 t414)) (fun _ hk => hk.2) (.slice Ao24 t415.length co24)) (fun _ h_ => h_.1)))); (case side4 => exact (Kd.R_reads' HO406.out).2.1); rintro e w30 ⟨rfl, hb⟩; refine ⟨_, rfl, ?_⟩; have n0_ := am (Kd.R_below (Rz (Kd.R_mono (Kd.R_far (p := ⟨gb419, 3, none⟩) (Kd.R_far (p := ⟨gb419, 2, none⟩) (Kd.R_far (p := ⟨gb419, 1, none⟩) (Kd.R_far (p := ⟨gb419, 0, none⟩) (Kd.R_types HO400.out BK419.out (by decide)) (fun _ hk => hk.2) (.int .i64 t412)) (fun _ hk => hk.2) (.int .i64 t413)) (fun _ hk => hk.2) (.int .i64 t414)) (fun _ hk => hk.2) (.slice Ao24 t415.length co24)) (fun _ h_ => h_.1))) hb); have n1_ := am (Kd.R_below (Rz (Kd.R_mono (Kd.R_far (p := ⟨gb419, 3, none⟩) (Kd.R_far (p := ⟨gb419, 2, none⟩) (Kd.R_far (p := ⟨gb419, 1, none⟩) (Kd.R_far (p := ⟨gb419, 0, none⟩) (Kd.R_types HO406.out BK419.out (by decide)) (fun _ hk => hk.2) (.int .i64 t412)) (fun _ hk => hk.2) (.int .i64 t413)) (fun _ hk => hk.2) (.int .i64 t414)) (fun _ hk => hk.2) (.slice Ao24 t415.length co24)) (fun _ h_ => h_.1))) hb); have n2_ := am (Kd.R_below (Rz (Kd.R_mono (Kd.R_far (p := ⟨gb419, 3, none⟩) (Kd.R_far (p := ⟨gb419, 2, none⟩) (Kd.R_far (p := ⟨gb419, 1, none⟩) (Kd.R_far (p := ⟨gb419, 0, none⟩) (Kd.R_types HO411.out BK419.out (by decide)) (fun _ hk => hk.2) (.int .i64 t412)) (fun _ hk => hk.2) (.int .i64 t413)) (fun _ hk => hk.2) (.int .i64 t414)) (fun _ hk => hk.2) (.slice Ao24 t415.length co24)) (fun _ h_ => h_.1))) hb); have n3_ := am (Kd.R_below (Rz (Kd.R_mono (Kd.R_far (p := ⟨gb419, 3, none⟩) (Kd.R_far (p := ⟨gb419, 2, none⟩) (Kd.R_far (p := ⟨gb419, 1, none⟩) (Kd.R_far (p := ⟨gb419, 0, none⟩) (Kd.R_types HO417.out BK419.out (by decide)) (fun _ hk => hk.2) (.int .i64 t412)) (fun _ hk => hk.2) (.int .i64 t413)) (fun _ hk => hk.2) (.int .i64 t414)) (fun _ hk => hk.2) (.slice Ao24 t415.length co24)) (fun _ h_ => h_.1))) hb); have n4_ := am (blk_below (g := gb408) (o := .cells #[.int .i64 t401, .int .i64 t402, .int .i64 t403, .slice Ao17 t404.length co17] 70 (0, 0)) (by (with_reducible repeat (first | refine blk_drewN ?_ _ | refine blk_drew ?_ | refine blk_alloc ?_ _)); refine blk_far ?_ NB408_419.out _; (with_reducible repeat (first | refine blk_drewN ?_ _ | refine blk_drew ?_ | refine blk_alloc ?_ _)); refine blk_far ?_ NB408_419.out _; (with_reducible repeat (first | refine blk_drewN ?_ _ | refine blk_drew ?_ | refine blk_alloc ?_ _)); refine blk_far ?_ NB408_419.out _; (with_reducible repeat (first | refine blk_drewN ?_ _ | refine blk_drew ?_ | refine blk_alloc ?_ _)); refine blk_far ?_ NB408_419.out _; exact Kz BK408.out) hb); have n5_ := am (blk_below (g := gb419) (o := .cells #[.int .i64 t412, .int .i64 t413, .int .i64 t414, .slice Ao24 t415.length co24] 70 (0, 0)) (by (with_reducible repeat (first | refine blk_drewN ?_ _ | refine blk_drew ?_ | refine blk_alloc ?_ _)); refine blk_put (cs := #[.int .i64 t412, .int .i64 t413, .int .i64 t414, .slice none 0 0]) ?_ 3 _ rfl; (with_reducible repeat (first | refine blk_drewN ?_ _ | refine blk_drew ?_ | refine blk_alloc ?_ _)); refine blk_put (cs := #[.int .i64 t412, .int .i64 t413, .int .i64 0, .slice none 0 0]) ?_ 2 _ rfl; (with_reducible repeat (first | refine blk_drewN ?_ _ | refine blk_drew ?_ | refine blk_alloc ?_ _)); refine blk_put (cs := #[.int .i64 t412, .int .i64 0, .int .i64 0, .slice none 0 0]) ?_ 1 _ rfl; (with_reducible repeat (first | refine blk_drewN ?_ _ | refine blk_drew ?_ | refine blk_alloc ?_ _)); refine blk_put (cs := #[.int .i64 0, .int .i64 0, .int .i64 0, .slice none 0 0]) ?_ 0 _ rfl; exact Kz BK419.out) hb); have n6_ := Bc HB hb; clear HO400 HO406 HO411 HO417 BK408 BK419 HB; revert n0_ n1_ n2_ n3_ n4_ n5_ n6_; intro HO400 HO406 HO411 HO417 BK408 BK419 HB; (try clear hb); (try clear hb2); (try clear hk); (try clear hi)))
    go_meet
    case rel => exact ⟨_, ((t418 != t407)), wZ, H', ⟨by first | omega | exact Nat.le_refl _⟩, ⟨Rz (Kd.R_mono HO411.out (fun _ hk => trivial))⟩, ⟨Rz (Kd.R_mono HO406.out (fun _ hk => hk.2))⟩, ⟨Rz (Kd.R_mono HO417.out (fun _ hk => hk.2))⟩, ⟨Kz BK408.out⟩, ⟨Kz BK419.out⟩, ⟨Bq⟩⟩
   ·replace c26 := Bool.eq_false_iff.mpr c26
    subst c26
    rw [if_neg (show ¬ (false = true) by decide)] at H; exact absurd (H.trans (congrArg some HQT_.out)) (laws_FnExactPrintFilterOf.j0.dead _ _ _ _ _ _ _ _ _ _ _ _ _ _ _ _)
  case rest =>
   clear HC11
   try clear c1
   try clear c2
   try clear p2
   try clear c5
   try clear c6
   try clear c6b0
   try clear c11
   try clear c22
   try clear c26
   try clear c27
   try clear hcz16_0
   try clear hcz16_1
   try clear hcz16_2
   try clear hcz16_3
   try clear hcz23_0
   try clear hcz23_1
   try clear hcz23_2
   try clear hcz23_3
   try clear hcz28_0
   try clear hcz28_1
   try clear hcz28_2
   try clear hcz28_3
   try clear hcz29_0
   try clear hcz29_1
   try clear hcz29_2
   try clear hcz29_3
   try clear hfz16_0
   try clear hfz16_1
   try clear hfz16_2
   try clear hfz16_3
   try clear hfz23_0
   try clear hfz23_1
   try clear hfz23_2
   try clear hfz23_3
   try clear hfz28_0
   try clear hfz28_1
   try clear hfz28_2
   try clear hfz28_3
   try clear hfz29_0
   try clear hfz29_1
   try clear hfz29_2
   try clear hfz29_3
   obtain ⟨kq, x52_10, rfl, HA, HJ10, HO_12, HO_409003, HO_420003, BK408, BK419, HB⟩ := hcut; cases kq with
   | zero => exact absurd HA.out (by simp [laws_FnExactPrintFilterOf.j0])
   | succ kj10 =>
    have H := HA.out; clear HA
    simp only [laws_FnExactPrintFilterOf.j0] at H
    by_cases c31 : x52_10 = true
    ·subst c31
     rw [if_pos rfl] at H; exact absurd (Option.some.inj H) (by rw [HQT_.out]; decide)
    ·replace c31 := Bool.eq_false_iff.mpr c31
     subst c31
     rw [if_neg (show ¬ (false = true) by decide)] at H; replace H := Option.bind_eq_some_iff.mp H; obtain ⟨t421, A320, H⟩ := H; (try dsimp -simprocs only at H); have A32 := am A320; clear A320; replace H := Option.bind_eq_some_iff.mp H; obtain ⟨t424, A330, H⟩ := H; (try dsimp -simprocs only at H); have A33 := am A330; clear A330
     by_cases c34 : t424 = true
     ·subst c34
      rw [if_pos rfl] at H; replace H := Option.bind_eq_some_iff.mp H; obtain ⟨⟨t425, t426⟩, A350, H⟩ := H; (try dsimp -simprocs only at H); have A35 := am A350; clear A350; have HC36 := am H; clear H
      go_upto_region 14 with (first | ((with_reducible refine gate_callee (f := 58) rfl ?_); refine gL (some 55) Try.func58 #[.slice A1 l1.length c1] ?_; (with_reducible refine (laws_toStringS.calls kj10 _ _ l1 t421 _ ?side1 ?side2 A32.out).mono ?_); (case side1 => exact Cz (Kd.C_below HR1.out HB.out)); (case side2 => exact HC1.out); rintro e w37 ⟨v422, rfl, ho0, hb⟩; refine ⟨_, rfl, ?_⟩; have n0_ := Re HO_12 (Kd.R_base ho0) hb; have n1_ := Rb HO_409003 hb; have n2_ := Rb HO_420003 hb; have n3_ := Rm (Kd.R_new' ho0 (Kd.R_lt (Rz HO_12.out))) HB; have n4_ := Kb BK408 hb; have n5_ := Kb BK419 hb; have n6_ := Bc HB hb; clear HO_12 HO_409003 HO_420003 BK408 BK419 HB; revert n0_ n1_ n2_ n3_ n4_ n5_ n6_; intro HO_12 HO_409003 HO_420003 HO423 BK408 BK419 HB; (try clear hb); (try clear hb2); (try clear hk); (try clear hi); (try clear ho0); obtain ⟨Ao38, co38, eo38⟩ := Kd.R_slice HO423.out; subst eo38) | ((with_reducible refine gate_callee (f := 61) rfl ?_); refine gL (some 56) Try.func61 #[.slice Ao19 t409.length co19, .slice Ao38 t421.length co38] ?_; (with_reducible refine (laws_eqStringS.calls kj10 _ _ t409 _ _ t421 true _ ?side1 ?side2 ?side3 ?side4 A33.out).mono ?_); (case side1 => exact Cz ((Kd.R_reads' HO_12.out).2.2)); (case side2 => exact (Kd.R_reads' HO_12.out).2.1); (case side3 => exact Cz ((Kd.R_reads' HO423.out).2.2)); (case side4 => exact (Kd.R_reads' HO423.out).2.1); rintro e w' ⟨rfl, ⟨nd, rfl⟩⟩; refine ⟨_, rfl, ?_⟩) | ((with_reducible refine gate_callee (f := 62) rfl ?_); refine gL (some 60) Try.func62 #[.slice Ao19 t409.length co19, .int .i64 1] ?_; (with_reducible refine (laws_markStringS.calls kj10 (fun k_ => some k_ = (.slice Ao19 t409.length co19 : Value).ownBlock) (.slice Ao19 t409.length co19) t409 1 t425 t426 w _ ?side1 ?side2 A35.out).mono ?_); (case side1 => repeat (first | (with_reducible first | exact HB.out | apply below_alloc | apply pw_below_drewN | apply below_drew1 | refine below_set ?_ GE408.out | refine below_set ?_ GE419.out) | exact HB.out)); (case side2 => exact Kd.R_tight rfl HO_12.out); rintro e w39 ⟨rfl, hy0, hb, hkp⟩; refine ⟨_, rfl, ?_⟩; have n0_ := am (Kd.R_reok rfl hy0 (fun k_ e_ => HO_12.out.1 k_ e_)); have n1_ := am (Kd.R_mono (ok' := fun k_ => some k_ ≠ (.slice Ao24 t415.length co24 : Value).ownBlock) (Kd.R_keptB ((Kd.R_apart' HO_409003.out (Kd.R_typed HO_12.out) (by decide))) hkp (fun k_ hk_ hs_ => (hk_.2) hs_)) (fun k_ hk_ => hk_.1.1)); have n2_ := am (Kd.R_mono (ok' := fun k_ => some k_ ≠ (.slice Ao17 t404.length co17 : Value).ownBlock) (Kd.R_keptB ((Kd.R_apart' HO_420003.out (Kd.R_typed HO_12.out) (by decide))) hkp (fun k_ hk_ hs_ => (hk_.2) hs_)) (fun k_ hk_ => hk_.1.1)); have n3_ := am (blk_kept (Kz BK408.out) hkp (fun hs_ => (fun e_ => (Kd.R_ne HO_12.out BK408.out (by decide)) e_) hs_)); have n4_ := am (blk_kept (Kz BK419.out) hkp (fun hs_ => (fun e_ => (Kd.R_ne HO_12.out BK419.out (by decide)) e_) hs_)); have n5_ := am (Kd.R_mono (ok' := fun k_ => some k_ ≠ (.slice Ao19 t409.length co19 : Value).ownBlock) (Kd.R_keptB (HO423.out) hkp (fun k_ hk_ hs_ => (hk_.2) hs_)) (fun k_ hk_ => hk_.1.2)); have n6_ := am (hb); clear HO_12 HO_409003 HO_420003 BK408 BK419 HO423 HB; revert n0_ n1_ n2_ n3_ n4_ n5_ n6_; intro HO_12 HO_409003 HO_420003 BK408 BK419 HO423 HB; (try clear hb); (try clear hkp); (try clear hy0)))
      (try simp only [aP])
      go_cut [73] (fun v73 wc => ∃ (kq : Nat) (x73_35 : Bool), v73 = .bool x73_35 ∧ Aside0 (laws_FnExactPrintFilterOf.j1 kq a0 l1 a2 a3 t407 x73_35 t401 t402 t403 t404 t412 t413 t414 t415 = some r) ∧ Aside0 (kq ≤ kj10) ∧ Aside0 (Kd.R (Kd.int .i64) 3 wc w.heap.size (fun k_ => some k_ ≠ ((.slice Ao24 t415.length co24) : Value).ownBlock) (.slice Ao17 t404.length co17) t404) ∧ Aside0 (Kd.R (Kd.int .i64) 3 wc w.heap.size (fun k_ => some k_ ≠ ((.slice Ao17 t404.length co17) : Value).ownBlock) (.slice Ao24 t415.length co24) t415) ∧ Aside0 (wc.heap[gb408]? = some (.cells #[.int .i64 t401, .int .i64 t402, .int .i64 t403, (.slice Ao17 t404.length co17)] 70 (0, 0))) ∧ Aside0 (wc.heap[gb419]? = some (.cells #[.int .i64 t412, .int .i64 t413, .int .i64 t414, (.slice Ao24 t415.length co24)] 70 (0, 0))) ∧ Aside0 (Below w.heap.size w wc))
      case first =>
       have H := HC36.out; clear HC36
       by_cases c40 : t425 < 0
       ·rw [if_pos c40] at H
        have c40b0 : decide (t425 < 0) = true := decide_eq_true c40; clear c40
        (first | rw [c40b0] | (simp only [i64_w, i32_w]; rw [c40b0]) | skip)
        exact absurd (H.trans (congrArg some HQT_.out)) (laws_FnExactPrintFilterOf.j1.dead _ _ _ _ _ _ _ _ _ _ _ _ _ _)
       ·rw [if_neg c40] at H
        have c40b0 : decide (t425 < 0) = false := decide_eq_false c40; clear c40
        (first | rw [c40b0] | (simp only [i64_w, i32_w]; rw [c40b0]) | skip)
        replace H := Option.bind_eq_some_iff.mp H; obtain ⟨t427, A410, H⟩ := H; (try dsimp -simprocs only at H); have A41 := am A410; clear A410
        by_cases c42 : t427 = true
        ·subst c42
         rw [if_pos rfl] at H; have H' := am H; clear H; have hnb43 := NB419_408.out; have hnc43 := NB408_419.out; obtain ⟨hcz44_0, hcz44_1, hcz44_2, hcz44_3, hfz44_0, hfz44_1, hfz44_2, hfz44_3⟩ := cf4 (w := w39) BK419; obtain ⟨hcz45_0, hcz45_1, hcz45_2, hcz45_3, hfz45_0, hfz45_1, hfz45_2, hfz45_3⟩ := cf4 (w := w39) BK408
         go_wp2_with (first | (go_at_call 60; (with_reducible refine (laws_eqTable.calls kj10 t412 t413 t414 _ _ t415 t401 t402 t403 _ _ t404 true _ ?side1 ?side2 ?side3 ?side4 A41.out).mono ?_); (case side1 => exact Cz ((Kd.R_reads' HO_420003.out).2.2)); (case side2 => exact (Kd.R_reads' HO_420003.out).2.1); (case side3 => exact Cz ((Kd.R_reads' HO_409003.out).2.2)); (case side4 => exact (Kd.R_reads' HO_409003.out).2.1); rintro e w46 ⟨rfl, hb⟩; have n0_ := Rb HO_12 hb; have n1_ := Rb HO_409003 hb; have n2_ := Rb HO_420003 hb; have n3_ := Rb HO423 hb; have n4_ := Kb BK408 hb; have n5_ := Kb BK419 hb; have n6_ := Bc HB hb; clear HO_12 HO_409003 HO_420003 HO423 BK408 BK419 HB; revert n0_ n1_ n2_ n3_ n4_ n5_ n6_; intro HO_12 HO_409003 HO_420003 HO423 BK408 BK419 HB; (try clear hb); (try clear hb2); (try clear hk); (try clear hi)))
         go_meet
         case rel => exact ⟨_, ((t418 != t407)), wZ, H', ⟨by have := HJ10.out; first | omega | exact Nat.le_refl _⟩, ⟨Rz HO_409003.out⟩, ⟨Rz HO_420003.out⟩, ⟨Kz BK408.out⟩, ⟨Kz BK419.out⟩, ⟨Bq⟩⟩
        ·replace c42 := Bool.eq_false_iff.mpr c42
         subst c42
         rw [if_neg (show ¬ (false = true) by decide)] at H; exact absurd (H.trans (congrArg some HQT_.out)) (laws_FnExactPrintFilterOf.j1.dead _ _ _ _ _ _ _ _ _ _ _ _ _ _)
      case rest =>
       clear HC36
       try clear c1
       try clear c2
       try clear p2
       try clear c3
       try clear c4
       try clear c5
       try clear c6
       try clear c6b0
       try clear c11
       try clear c22
       try clear c26
       try clear c27
       try clear c31
       try clear c34
       try clear c40
       try clear c40b0
       try clear c42
       try clear c43
       try clear hcz16_0
       try clear hcz16_1
       try clear hcz16_2
       try clear hcz16_3
       try clear hcz23_0
       try clear hcz23_1
       try clear hcz23_2
       try clear hcz23_3
       try clear hcz28_0
       try clear hcz28_1
       try clear hcz28_2
       try clear hcz28_3
       try clear hcz29_0
       try clear hcz29_1
       try clear hcz29_2
       try clear hcz29_3
       try clear hcz44_0
       try clear hcz44_1
       try clear hcz44_2
       try clear hcz44_3
       try clear hcz45_0
       try clear hcz45_1
       try clear hcz45_2
       try clear hcz45_3
       try clear hfz16_0
       try clear hfz16_1
       try clear hfz16_2
       try clear hfz16_3
       try clear hfz23_0
       try clear hfz23_1
       try clear hfz23_2
       try clear hfz23_3
       try clear hfz28_0
       try clear hfz28_1
       try clear hfz28_2
       try clear hfz28_3
       try clear hfz29_0
       try clear hfz29_1
       try clear hfz29_2
       try clear hfz29_3
       try clear hfz44_0
       try clear hfz44_1
       try clear hfz44_2
       try clear hfz44_3
       try clear hfz45_0
       try clear hfz45_1
       try clear hfz45_2
       try clear hfz45_3
       try clear p2
       obtain ⟨kq, x73_35, rfl, HA, HJ35, HO_409003, HO_420003, BK408, BK419, HB⟩ := hcut; cases kq with
       | zero => exact absurd HA.out (by simp [laws_FnExactPrintFilterOf.j1])
       | succ kj35 =>
        have H := HA.out; clear HA
        simp only [laws_FnExactPrintFilterOf.j1] at H
        by_cases c47 : x73_35 = true
        ·subst c47
         rw [if_pos rfl] at H; exact absurd (Option.some.inj H) (by rw [HQT_.out]; decide)
        ·replace c47 := Bool.eq_false_iff.mpr c47
         subst c47
         rw [if_neg (show ¬ (false = true) by decide)] at H; replace H := Option.bind_eq_some_iff.mp H; obtain ⟨⟨t428, t429⟩, A480, H⟩ := H; (try dsimp -simprocs only at H); have A48 := am A480; clear A480; replace H := Option.bind_eq_some_iff.mp H; obtain ⟨t430, A490, H⟩ := H; (try dsimp -simprocs only at H); have A49 := am A490; clear A490
         by_cases c50 : t430 < 0
         ·rw [if_pos c50] at H
          have c50b0 : decide (t430 < 0) = true := decide_eq_true c50; clear c50; exact absurd (Option.some.inj H) (by rw [HQT_.out]; decide)
         ·rw [if_neg c50] at H
          have c50b0 : decide (t430 < 0) = false := decide_eq_false c50; clear c50
          by_cases c51 : t430 = t428
          ·rw [if_pos c51] at H
           have c51b0 : (t430 == t428) = true := beq_iff_eq.mpr c51; have c51b1 : (t430 != t428) = false := bne_eq_false_iff_eq.mpr c51; clear c51; replace H := Option.bind_eq_some_iff.mp H; obtain ⟨t431, A520, H⟩ := H; (try dsimp -simprocs only at H); have A52 := am A520; clear A520; replace H := Option.bind_eq_some_iff.mp H; obtain ⟨⟨t434, t435, t436, t437, t440⟩, A530, H⟩ := H; (try dsimp -simprocs only at H); have A53 := am A530; clear A530; have HC54 := am H; clear H; have hnb55 := NB419_408.out; have hnc55 := NB408_419.out; obtain ⟨hcz56_0, hcz56_1, hcz56_2, hcz56_3, hfz56_0, hfz56_1, hfz56_2, hfz56_3⟩ := cf4 (w := wc) BK419
           go_upto_region 25 with (first | ((with_reducible refine gate_callee (f := 63) rfl ?_); refine gL (some 76) Try.func63 #[.agg #[.int .i64 t412, .int .i64 t413, .int .i64 t414, .slice Ao24 t415.length co24], .int .i64 1] ?_; (with_reducible refine (laws_markTable.calls kj35 t412 t413 t414 (fun k_ => some k_ = (.slice Ao24 t415.length co24 : Value).ownBlock) (.slice Ao24 t415.length co24) t415 1 t428 t429 w _ ?side1 ?side2 A48.out).mono ?_); (case side1 => repeat (first | (with_reducible first | exact HB.out | apply below_alloc | apply pw_below_drewN | apply below_drew1 | refine below_set ?_ GE408.out | refine below_set ?_ GE419.out) | exact HB.out)); (case side2 => exact Kd.R_tight rfl HO_420003.out); rintro e w57 ⟨rfl, hy0, hb, hkp⟩; refine ⟨_, rfl, ?_⟩; have n0_ := am (Kd.R_mono (ok' := fun k_ => some k_ ≠ (.slice Ao24 t415.length co24 : Value).ownBlock) (Kd.R_keptB (HO_409003.out) hkp (fun k_ hk_ hs_ => (hk_) hs_)) (fun k_ hk_ => hk_.1)); have n1_ := am (Kd.R_reok rfl hy0 (fun k_ e_ => HO_420003.out.1 k_ e_)); have n2_ := am (blk_kept (Kz BK408.out) hkp (fun hs_ => (fun e_ => (Kd.R_ne HO_420003.out BK408.out (by decide)) e_) hs_)); have n3_ := am (blk_kept (Kz BK419.out) hkp (fun hs_ => (fun e_ => (Kd.R_ne HO_420003.out BK419.out (by decide)) e_) hs_)); have n4_ := am (hb); clear HO_409003 HO_420003 BK408 BK419 HB; revert n0_ n1_ n2_ n3_ n4_; intro HO_409003 HO_420003 BK408 BK419 HB; (try clear hb); (try clear hkp); (try clear hy0); obtain ⟨hcz58_0, hcz58_1, hcz58_2, hcz58_3, hfz58_0, hfz58_1, hfz58_2, hfz58_3⟩ := cf4 (w := w57) BK419) | ((with_reducible refine gate_callee (f := 64) rfl ?_); refine goesL_ (some 79) rfl rfl Try.func64 (by kernel_rfl) rfl #[.agg #[.int .i64 t412, .int .i64 t413, .int .i64 t414, .slice Ao24 t429.length co24], .int .i64 1] rfl (by (try simp only [List.map_toArray, List.map_cons, List.map_nil]); first | done | (rw [show t429.length = t415.length from (Kd.R_reads' HO_420003.out).1.symm] <;> rfl) | rfl | (simp only [List.length_drop, List.length_take]; rfl)) ?_; (with_reducible refine (laws_heldTable.calls kj35 t412 t413 t414 _ _ t429 1 t430 _ ?side1 ?side2 A49.out).mono ?_); (case side1 => exact Cz ((Kd.R_reads' HO_420003.out).2.2)); (case side2 => rw [show t429.length = t415.length from (Kd.R_reads' HO_420003.out).1.symm]; exact (Kd.R_reads' HO_420003.out).2.1); rintro e w59 ⟨rfl, hb⟩; refine ⟨_, rfl, ?_⟩; have n0_ := Rb HO_409003 hb; have n1_ := Rb HO_420003 hb; have n2_ := Kb BK408 hb; have n3_ := Kb BK419 hb; have n4_ := Bc HB hb; clear HO_409003 HO_420003 BK408 BK419 HB; revert n0_ n1_ n2_ n3_ n4_; intro HO_409003 HO_420003 BK408 BK419 HB; (try clear hb); (try clear hb2); (try clear hk); (try clear hi)) | ((with_reducible refine gate_callee (f := 58) rfl ?_); refine gL (some 88) Try.func58 #[.slice A1 l1.length c1] ?_; (with_reducible refine (laws_toStringS.calls kj35 _ _ l1 t431 _ ?side1 ?side2 A52.out).mono ?_); (case side1 => exact Cz (Kd.C_below HR1.out HB.out)); (case side2 => exact HC1.out); rintro e w60 ⟨v432, rfl, ho0, hb⟩; refine ⟨_, rfl, ?_⟩; have n0_ := Rb HO_409003 hb; have n1_ := Rb HO_420003 hb; have n2_ := Rm ho0 HB; have n3_ := Kb BK408 hb; have n4_ := Kb BK419 hb; have n5_ := Bc HB hb; clear HO_409003 HO_420003 BK408 BK419 HB; revert n0_ n1_ n2_ n3_ n4_ n5_; intro HO_409003 HO_420003 HO433 BK408 BK419 HB; (try clear hb); (try clear hb2); (try clear hk); (try clear hi); (try clear ho0); obtain ⟨Ao61, co61, eo61⟩ := Kd.R_slice HO433.out; subst eo61) | ((with_reducible refine gate_callee (f := 59) rfl ?_); refine gL (some 91) Try.func59 #[.int .i64 a0, .slice Ao61 t431.length co61, .int .i64 a2, .int .i64 a3] ?_; (with_reducible refine (impl_PrintFilterOf.calls kj35 a0 _ _ t431 a2 a3 t434 t435 t436 t437 t440 _ ?side1 ?side2 A53.out).mono ?_); (case side1 => exact Cz ((Kd.R_reads' HO433.out).2.2)); (case side2 => exact (Kd.R_reads' HO433.out).2.1); rintro e w62 ⟨v438, rfl, ho0, hb⟩; refine ⟨_, rfl, ?_⟩; have n0_ := Re HO_409003 (Kd.R_base ho0) hb; have n1_ := Re HO_420003 (Kd.R_base ho0) hb; have n2_ := Rb HO433 hb; have n3_ := Rm (Kd.R_new' (Kd.R_new' ho0 (Kd.R_lt (Rz HO_409003.out))) (Kd.R_lt (Rz HO_420003.out))) HB; have n4_ := Kb BK408 hb; have n5_ := Kb BK419 hb; have n6_ := Bc HB hb; clear HO_409003 HO_420003 HO433 BK408 BK419 HB; revert n0_ n1_ n2_ n3_ n4_ n5_ n6_; intro HO_409003 HO_420003 HO433 HO439 BK408 BK419 HB; (try clear hb); (try clear hb2); (try clear hk); (try clear hi); (try clear ho0)) | ((with_reducible refine gate_dst (N := 18) rfl ?_); refine bE 18 #[.int .i64 0, .int .i64 0, .int .i64 0, .slice none 0 0] 70 ?_; intro gb441 hg w63 hbox hb; have n0_ := Rb HO_409003 hb; have n1_ := Rb HO_420003 hb; have n2_ := Rb HO433 hb; have n3_ := Rb HO439 hb; have n4_ := Kb BK408 hb; have n5_ := Kb BK419 hb; have n6_ := Bc HB hb; have n7_ := am (hbox); have n8_ := Gm HB hg; have n9_ := Gm HB hg; have n10_ := Nl BK408 hg; have n11_ := Ng BK408 hg; have n12_ := Nl BK419 hg; have n13_ := Ng BK419 hg; clear HO_409003 HO_420003 HO433 HO439 BK408 BK419 HB; revert n0_ n1_ n2_ n3_ n4_ n5_ n6_ n7_ n8_ n9_ n10_ n11_ n12_ n13_; intro HO_409003 HO_420003 HO433 HO439 BK408 BK419 HB BK441 GW441 GE441 NB408_441 NB441_408 NB419_441 NB441_419; clear hb hbox hg; have hnb64 := NB441_408.out; have hnc64 := NB408_441.out; have hnb65 := NB441_419.out; have hnc65 := NB419_441.out; obtain ⟨hcz66_0, hcz66_1, hcz66_2, hcz66_3, hfz66_0, hfz66_1, hfz66_2, hfz66_3⟩ := cf4 (w := w63) BK441; obtain ⟨Ao67, co67, eo67⟩ := Kd.R_slice HO439.out; subst eo67))
           (try simp only [aP])
           go_cut [102] (fun v102 wc => ∃ (kq : Nat) (x102_53 : Bool), v102 = .bool x102_53 ∧ Aside0 (laws_FnExactPrintFilterOf.j2 kq t428 x102_53 t412 t413 t414 t429 = some r) ∧ Aside0 (kq ≤ kj35) ∧ Aside0 (Kd.R (Kd.int .i64) 3 wc w.heap.size (fun k_ => some k_ ≠ ((.slice Ao24 t415.length co24) : Value).ownBlock ∧ some k_ ≠ ((.slice Ao67 t437.length co67) : Value).ownBlock) (.slice Ao17 t404.length co17) t404) ∧ Aside0 (Kd.R (Kd.int .i64) 3 wc w.heap.size (fun k_ => some k_ ≠ ((.slice Ao17 t404.length co17) : Value).ownBlock ∧ some k_ ≠ ((.slice Ao67 t437.length co67) : Value).ownBlock) (.slice Ao24 t415.length co24) t429) ∧ Aside0 (Kd.R (Kd.int .i64) 3 wc w.heap.size (fun k_ => some k_ ≠ ((.slice Ao17 t404.length co17) : Value).ownBlock ∧ some k_ ≠ ((.slice Ao24 t415.length co24) : Value).ownBlock) (.slice Ao67 t437.length co67) t437) ∧ Aside0 (wc.heap[gb408]? = some (.cells #[.int .i64 t401, .int .i64 t402, .int .i64 t403, (.slice Ao17 t404.length co17)] 70 (0, 0))) ∧ Aside0 (wc.heap[gb419]? = some (.cells #[.int .i64 t412, .int .i64 t413, .int .i64 t414, (.slice Ao24 t415.length co24)] 70 (0, 0))) ∧ Aside0 (wc.heap[gb441]? = some (.cells #[.int .i64 t434, .int .i64 t435, .int .i64 t436, (.slice Ao67 t437.length co67)] 70 (0, 0))) ∧ Aside0 (Below w.heap.size w wc))
           case first =>
            have H := HC54.out; clear HC54; replace H := Option.bind_eq_some_iff.mp H; obtain ⟨t442, A680, H⟩ := H; (try dsimp -simprocs only at H); have A68 := am A680; clear A680
            by_cases c69 : t442 = true
            ·subst c69
             rw [if_pos rfl] at H; have H' := am H; clear H; have hnb70 := NB441_408.out; have hnc70 := NB408_441.out; have hnb71 := NB441_419.out; have hnc71 := NB419_441.out; obtain ⟨hcz72_0, hcz72_1, hcz72_2, hcz72_3, hfz72_0, hfz72_1, hfz72_2, hfz72_3⟩ := cf4 (w := w63) BK441; have hnb73 := NB408_419.out; have hnc73 := NB419_408.out; obtain ⟨hcz74_0, hcz74_1, hcz74_2, hcz74_3, hfz74_0, hfz74_1, hfz74_2, hfz74_3⟩ := cf4 (w := w63) BK408
             go_wp2_with (first | ((with_reducible refine gate_callee (f := 60) rfl ?_); refine gL (some 96) Try.func60 #[.agg #[.int .i64 t434, .int .i64 t435, .int .i64 t436, .slice Ao67 t437.length co67], .agg #[.int .i64 t401, .int .i64 t402, .int .i64 t403, .slice Ao17 t404.length co17]] ?_; (with_reducible refine (laws_eqTable.calls kj35 t434 t435 t436 _ _ t437 t401 t402 t403 _ _ t404 true _ ?side1 ?side2 ?side3 ?side4 A68.out).mono ?_); (case side1 => refine (Kd.R_reads' (e := 3) (base := w.heap.size) (ok := fun k_ => ((True ∧ some k_ ≠ (.slice Ao17 t404.length co17 : Value).ownBlock) ∧ some k_ ≠ (.slice Ao24 t415.length co24 : Value).ownBlock)) (n := t437.length) (c := co67) ?_).2.2; exact (Rz (Kd.R_mono (Kd.R_far (p := ⟨gb441, 3, none⟩) (Kd.R_far (p := ⟨gb441, 2, none⟩) (Kd.R_far (p := ⟨gb441, 1, none⟩) (Kd.R_far (p := ⟨gb441, 0, none⟩) (Kd.R_types HO439.out BK441.out (by decide)) (fun _ hk => hk.2) (.int .i64 t434)) (fun _ hk => hk.2) (.int .i64 t435)) (fun _ hk => hk.2) (.int .i64 t436)) (fun _ hk => hk.2) (.slice Ao67 t437.length co67)) (fun _ h_ => h_.1)))); (case side2 => exact (Kd.R_reads' HO439.out).2.1); (case side3 => refine (Kd.R_reads' (e := 3) (base := w.heap.size) (ok := fun k_ => (some k_ ≠ (.slice Ao24 t415.length co24 : Value).ownBlock ∧ some k_ ≠ (.slice Ao67 t437.length co67 : Value).ownBlock)) (n := t404.length) (c := co17) ?_).2.2; exact (Rz (Kd.R_mono (Kd.R_far (p := ⟨gb441, 3, none⟩) (Kd.R_far (p := ⟨gb441, 2, none⟩) (Kd.R_far (p := ⟨gb441, 1, none⟩) (Kd.R_far (p := ⟨gb441, 0, none⟩) (Kd.R_types HO_409003.out BK441.out (by decide)) (fun _ hk => hk.2) (.int .i64 t434)) (fun _ hk => hk.2) (.int .i64 t435)) (fun _ hk => hk.2) (.int .i64 t436)) (fun _ hk => hk.2) (.slice Ao67 t437.length co67)) (fun _ h_ => h_.1)))); (case side4 => exact (Kd.R_reads' HO_409003.out).2.1); rintro e w75 ⟨rfl, hb⟩; refine ⟨_, rfl, ?_⟩; have n0_ := am (Kd.R_below (Rz (Kd.R_mono (Kd.R_far (p := ⟨gb441, 3, none⟩) (Kd.R_far (p := ⟨gb441, 2, none⟩) (Kd.R_far (p := ⟨gb441, 1, none⟩) (Kd.R_far (p := ⟨gb441, 0, none⟩) (Kd.R_types HO_409003.out BK441.out (by decide)) (fun _ hk => hk.2) (.int .i64 t434)) (fun _ hk => hk.2) (.int .i64 t435)) (fun _ hk => hk.2) (.int .i64 t436)) (fun _ hk => hk.2) (.slice Ao67 t437.length co67)) (fun _ h_ => h_.1))) hb); have n1_ := am (Kd.R_below (Rz (Kd.R_mono (Kd.R_far (p := ⟨gb441, 3, none⟩) (Kd.R_far (p := ⟨gb441, 2, none⟩) (Kd.R_far (p := ⟨gb441, 1, none⟩) (Kd.R_far (p := ⟨gb441, 0, none⟩) (Kd.R_types HO_420003.out BK441.out (by decide)) (fun _ hk => hk.2) (.int .i64 t434)) (fun _ hk => hk.2) (.int .i64 t435)) (fun _ hk => hk.2) (.int .i64 t436)) (fun _ hk => hk.2) (.slice Ao67 t437.length co67)) (fun _ h_ => h_.1))) hb); have n2_ := am (Kd.R_below (Rz (Kd.R_mono (Kd.R_far (p := ⟨gb441, 3, none⟩) (Kd.R_far (p := ⟨gb441, 2, none⟩) (Kd.R_far (p := ⟨gb441, 1, none⟩) (Kd.R_far (p := ⟨gb441, 0, none⟩) (Kd.R_types HO433.out BK441.out (by decide)) (fun _ hk => hk.2) (.int .i64 t434)) (fun _ hk => hk.2) (.int .i64 t435)) (fun _ hk => hk.2) (.int .i64 t436)) (fun _ hk => hk.2) (.slice Ao67 t437.length co67)) (fun _ h_ => h_.1))) hb); have n3_ := am (Kd.R_below (Rz (Kd.R_mono (Kd.R_far (p := ⟨gb441, 3, none⟩) (Kd.R_far (p := ⟨gb441, 2, none⟩) (Kd.R_far (p := ⟨gb441, 1, none⟩) (Kd.R_far (p := ⟨gb441, 0, none⟩) (Kd.R_types HO439.out BK441.out (by decide)) (fun _ hk => hk.2) (.int .i64 t434)) (fun _ hk => hk.2) (.int .i64 t435)) (fun _ hk => hk.2) (.int .i64 t436)) (fun _ hk => hk.2) (.slice Ao67 t437.length co67)) (fun _ h_ => h_.1))) hb); have n4_ := am (blk_below (g := gb408) (o := .cells #[.int .i64 t401, .int .i64 t402, .int .i64 t403, .slice Ao17 t404.length co17] 70 (0, 0)) (by (with_reducible repeat (first | refine blk_drewN ?_ _ | refine blk_drew ?_ | refine blk_alloc ?_ _)); refine blk_far ?_ NB408_441.out _; (with_reducible repeat (first | refine blk_drewN ?_ _ | refine blk_drew ?_ | refine blk_alloc ?_ _)); refine blk_far ?_ NB408_441.out _; (with_reducible repeat (first | refine blk_drewN ?_ _ | refine blk_drew ?_ | refine blk_alloc ?_ _)); refine blk_far ?_ NB408_441.out _; (with_reducible repeat (first | refine blk_drewN ?_ _ | refine blk_drew ?_ | refine blk_alloc ?_ _)); refine blk_far ?_ NB408_441.out _; exact Kz BK408.out) hb); have n5_ := am (blk_below (g := gb419) (o := .cells #[.int .i64 t412, .int .i64 t413, .int .i64 t414, .slice Ao24 t415.length co24] 70 (0, 0)) (by (with_reducible repeat (first | refine blk_drewN ?_ _ | refine blk_drew ?_ | refine blk_alloc ?_ _)); refine blk_far ?_ NB419_441.out _; (with_reducible repeat (first | refine blk_drewN ?_ _ | refine blk_drew ?_ | refine blk_alloc ?_ _)); refine blk_far ?_ NB419_441.out _; (with_reducible repeat (first | refine blk_drewN ?_ _ | refine blk_drew ?_ | refine blk_alloc ?_ _)); refine blk_far ?_ NB419_441.out _; (with_reducible repeat (first | refine blk_drewN ?_ _ | refine blk_drew ?_ | refine blk_alloc ?_ _)); refine blk_far ?_ NB419_441.out _; exact Kz BK419.out) hb); have n6_ := am (blk_below (g := gb441) (o := .cells #[.int .i64 t434, .int .i64 t435, .int .i64 t436, .slice Ao67 t437.length co67] 70 (0, 0)) (by (with_reducible repeat (first | refine blk_drewN ?_ _ | refine blk_drew ?_ | refine blk_alloc ?_ _)); refine blk_put (cs := #[.int .i64 t434, .int .i64 t435, .int .i64 t436, .slice none 0 0]) ?_ 3 _ rfl; (with_reducible repeat (first | refine blk_drewN ?_ _ | refine blk_drew ?_ | refine blk_alloc ?_ _)); refine blk_put (cs := #[.int .i64 t434, .int .i64 t435, .int .i64 0, .slice none 0 0]) ?_ 2 _ rfl; (with_reducible repeat (first | refine blk_drewN ?_ _ | refine blk_drew ?_ | refine blk_alloc ?_ _)); refine blk_put (cs := #[.int .i64 t434, .int .i64 0, .int .i64 0, .slice none 0 0]) ?_ 1 _ rfl; (with_reducible repeat (first | refine blk_drewN ?_ _ | refine blk_drew ?_ | refine blk_alloc ?_ _)); refine blk_put (cs := #[.int .i64 0, .int .i64 0, .int .i64 0, .slice none 0 0]) ?_ 0 _ rfl; exact Kz BK441.out) hb); have n7_ := Bc HB hb; clear HO_409003 HO_420003 HO433 HO439 BK408 BK419 BK441 HB; revert n0_ n1_ n2_ n3_ n4_ n5_ n6_ n7_; intro HO_409003 HO_420003 HO433 HO439 BK408 BK419 BK441 HB; (try clear hb); (try clear hb2); (try clear hk); (try clear hi)))
             go_meet
             case rel => exact ⟨_, ((t440 != t407)), wZ, H', ⟨by have := HJ10.out; have := HJ35.out; first | omega | exact Nat.le_refl _⟩, ⟨Rz HO_409003.out⟩, ⟨Rz HO_420003.out⟩, ⟨Rz (Kd.R_mono HO439.out (fun _ hk => ⟨hk.1.2, hk.2⟩))⟩, ⟨Kz BK408.out⟩, ⟨Kz BK419.out⟩, ⟨Kz BK441.out⟩, ⟨Bq⟩⟩
            ·replace c69 := Bool.eq_false_iff.mpr c69
             subst c69
             rw [if_neg (show ¬ (false = true) by decide)] at H; exact absurd (H.trans (congrArg some HQT_.out)) (laws_FnExactPrintFilterOf.j2.dead _ _ _ _ _ _)
           case rest =>
            clear HC54
            try clear c1
            try clear c2
            try clear p2
            try clear c3
            try clear c4
            try clear c5
            try clear c6
            try clear c6b0
            try clear c7
            try clear c11
            try clear c22
            try clear c26
            try clear c27
            try clear c31
            try clear c34
            try clear c40
            try clear c40b0
            try clear c42
            try clear c43
            try clear c47
            try clear c50
            try clear c50b0
            try clear c51
            try clear c51b0
            try clear c51b1
            try clear c55
            try clear c56
            try clear c57
            try clear c58
            try clear c59
            try clear c60
            try clear c61
            try clear c62
            try clear c63
            try clear c64
            try clear c65
            try clear c69
            try clear c70
            try clear c71
            try clear c73
            try clear hcz16_0
            try clear hcz16_1
            try clear hcz16_2
            try clear hcz16_3
            try clear hcz23_0
            try clear hcz23_1
            try clear hcz23_2
            try clear hcz23_3
            try clear hcz28_0
            try clear hcz28_1
            try clear hcz28_2
            try clear hcz28_3
            try clear hcz29_0
            try clear hcz29_1
            try clear hcz29_2
            try clear hcz29_3
            try clear hcz44_0
            try clear hcz44_1
            try clear hcz44_2
            try clear hcz44_3
            try clear hcz45_0
            try clear hcz45_1
            try clear hcz45_2
            try clear hcz45_3
            try clear hcz56_0
            try clear hcz56_1
            try clear hcz56_2
            try clear hcz56_3
            try clear hcz58_0
            try clear hcz58_1
            try clear hcz58_2
            try clear hcz58_3
            try clear hcz66_0
            try clear hcz66_1
            try clear hcz66_2
            try clear hcz66_3
            try clear hcz72_0
            try clear hcz72_1
            try clear hcz72_2
            try clear hcz72_3
            try clear hcz74_0
            try clear hcz74_1
            try clear hcz74_2
            try clear hcz74_3
            try clear hfz16_0
            try clear hfz16_1
            try clear hfz16_2
            try clear hfz16_3
            try clear hfz23_0
            try clear hfz23_1
            try clear hfz23_2
            try clear hfz23_3
            try clear hfz28_0
            try clear hfz28_1
            try clear hfz28_2
            try clear hfz28_3
            try clear hfz29_0
            try clear hfz29_1
            try clear hfz29_2
            try clear hfz29_3
            try clear hfz44_0
            try clear hfz44_1
            try clear hfz44_2
            try clear hfz44_3
            try clear hfz45_0
            try clear hfz45_1
            try clear hfz45_2
            try clear hfz45_3
            try clear hfz56_0
            try clear hfz56_1
            try clear hfz56_2
            try clear hfz56_3
            try clear hfz58_0
            try clear hfz58_1
            try clear hfz58_2
            try clear hfz58_3
            try clear hfz66_0
            try clear hfz66_1
            try clear hfz66_2
            try clear hfz66_3
            try clear hfz72_0
            try clear hfz72_1
            try clear hfz72_2
            try clear hfz72_3
            try clear hfz74_0
            try clear hfz74_1
            try clear hfz74_2
            try clear hfz74_3
            try clear p2
            obtain ⟨kq, x102_53, rfl, HA, HJ53, HO_409003, HO_420003, HO_442003, BK408, BK419, BK441, HB⟩ := hcut; have hl420003_53 := (Kd.R_reads' HO_420003.out).1; rw [hl420003_53] at HO_420003
            (try simp only [hl420003_53])
            (try simp only [hl420003_53] at BK408)
            (try simp only [hl420003_53] at BK419)
            (try simp only [hl420003_53] at BK441)
            (try simp only [hl420003_53] at HO_409003)
            (try simp only [hl420003_53] at HO_442003)
            cases kq with
            | zero => exact absurd HA.out (by simp [laws_FnExactPrintFilterOf.j2])
            | succ kj53 =>
             have H := HA.out; clear HA
             simp only [laws_FnExactPrintFilterOf.j2] at H
             by_cases c76 : x102_53 = true
             ·subst c76
              rw [if_pos rfl] at H; exact absurd (Option.some.inj H) (by rw [HQT_.out]; decide)
             ·replace c76 := Bool.eq_false_iff.mpr c76
              subst c76
              rw [if_neg (show ¬ (false = true) by decide)] at H; replace H := Option.bind_eq_some_iff.mp H; obtain ⟨t443, A770, H⟩ := H; (try dsimp -simprocs only at H); have A77 := am A770; clear A770
              by_cases c78 : t443 < 0
              ·rw [if_pos c78] at H
               have c78b0 : decide (t443 < 0) = true := decide_eq_true c78; clear c78; exact absurd (Option.some.inj H) (by rw [HQT_.out]; decide)
              ·rw [if_neg c78] at H
               have c78b0 : decide (t443 < 0) = false := decide_eq_false c78; clear c78
               by_cases c79 : t443 = t428
               ·rw [if_pos c79] at H
                have c79b0 : (t443 == t428) = true := beq_iff_eq.mpr c79; have c79b1 : (t443 != t428) = false := bne_eq_false_iff_eq.mpr c79; clear c79; obtain rfl := Option.some.inj H; have hnb80 := NB419_408.out; have hnc80 := NB408_419.out; have hnb81 := NB419_441.out; have hnc81 := NB441_419.out; obtain ⟨hcz82_0, hcz82_1, hcz82_2, hcz82_3, hfz82_0, hfz82_1, hfz82_2, hfz82_3⟩ := cf4 (w := wc) BK419
                go_wp2_with (first | ((with_reducible refine gate_callee (f := 64) rfl ?_); refine gL (some 105) Try.func64 #[.agg #[.int .i64 t412, .int .i64 t413, .int .i64 t414, .slice Ao24 t429.length co24], .int .i64 1] ?_; (with_reducible refine (laws_heldTable.calls kj53 t412 t413 t414 _ _ t429 1 t443 _ ?side1 ?side2 A77.out).mono ?_); (case side1 => exact Cz ((Kd.R_reads' HO_420003.out).2.2)); (case side2 => exact (Kd.R_reads' HO_420003.out).2.1); rintro e w83 ⟨rfl, hb⟩; refine ⟨_, rfl, ?_⟩; have n0_ := Rb HO_409003 hb; have n1_ := Rb HO_420003 hb; have n2_ := Rb HO_442003 hb; have n3_ := Kb BK408 hb; have n4_ := Kb BK419 hb; have n5_ := Kb BK441 hb; have n6_ := Bc HB hb; clear HO_409003 HO_420003 HO_442003 BK408 BK419 BK441 HB; revert n0_ n1_ n2_ n3_ n4_ n5_ n6_; intro HO_409003 HO_420003 HO_442003 BK408 BK419 BK441 HB; (try clear hb); (try clear hb2); (try clear hk); (try clear hi)))
                go_ret
                exact ⟨eZ, Bq⟩
               ·rw [if_neg c79] at H
                have c79b0 : (t443 == t428) = false := beq_eq_false_iff_ne.mpr c79; have c79b1 : (t443 != t428) = true := bne_iff_ne.mpr c79; exact absurd (Option.some.inj H) (by rw [HQT_.out]; decide)
          ·rw [if_neg c51] at H
           have c51b0 : (t430 == t428) = false := beq_eq_false_iff_ne.mpr c51; have c51b1 : (t430 != t428) = true := bne_iff_ne.mpr c51; exact absurd (Option.some.inj H) (by rw [HQT_.out]; decide)
     ·replace c34 := Bool.eq_false_iff.mpr c34
      subst c34
      rw [if_neg (show ¬ (false = true) by decide)] at H; exact absurd (Option.some.inj H) (by rw [HQT_.out]; decide)

def laws_FnExactPrintFilterOf.Pure : Prop := ∀ (a0 : Int) (l1 : List ByteArray) (a2 : Int) (a3 : Int), (Lit.int .i64 a0).wf = true → l1.length ≤ maxLen → (∀ x ∈ l1, x.size ≤ maxLen) → (Lit.int .i64 a2).wf = true → (Lit.int .i64 a3).wf = true → ∃ k, laws_FnExactPrintFilterOf.f k a0 l1 a2 a3 = some true
theorem laws_FnExactPrintFilterOf.walk (P : laws_FnExactPrintFilterOf.Pure) (a0 : Int) (A1 : Option Addr) (c1 : Nat) (l1 : List ByteArray) (a2 : Int) (a3 : Int) (w : World) (hw0 : (Lit.int .i64 a0).wf = true) (hr1 : Kd.C Kd.string w A1 l1.length l1) (hc1 : l1.length ≤ c1) (hm1 : l1.length ≤ maxLen) (hw1 : ∀ x ∈ l1, x.size ≤ maxLen) (hw2 : (Lit.int .i64 a2).wf = true) (hw3 : (Lit.int .i64 a3).wf = true) :
  Calls Try.prog 11 #[.int .i64 a0, .slice A1 l1.length c1, .int .i64 a2, .int .i64 a3] w fun e w' => e = .returned (.bool true) ∧ Below w.heap.size w w' := by
 obtain ⟨k, h⟩ := P a0 l1 a2 a3 hw0 hm1 hw1 hw2 hw3; refine (laws_FnExactPrintFilterOf.calls k a0 A1 c1 l1 a2 a3 true w hr1 hc1 h rfl).mono ?_; rintro e w' ⟨rfl, hd⟩; exact ⟨rfl, hd⟩

end Go.Proofs.Ythkcgimnagpmaaa.PP
namespace Go.Proofs.YthkcgimnagpmaaaGp
open Go Go.ChangeShapes Go.WideShapes Go.RowKit Go.Proofs.YthkcgimnagpmaaaW.PrintWords
open Go.WideElems
section
variable {H : Type} {enc : TypeId × Value → H} {P : Program} {w : World} {base : Nat} {held : Bool}

theorem leaf_int {spare : Nat → Bool} {t : TypeId} {fuel : Nat} {c : Value} {x : DataW H × List MemPlace} {k : IntKind} (ht : P.underlying t = some (.int k)) (h : DataW.trod enc P w base spare held fuel t [c] = some x) :
    ∃ n, c = .int k n ∧ (Lit.int k n).wf = true := by
  obtain ⟨n, e, _, hw⟩ := DataW.trod_int ht h
  exact ⟨n, by simpa using e, hw⟩

theorem leaf_strs {t e : TypeId} {fuel : Nat} {c : Value} {x : DataW H × List MemPlace} (ht : P.underlying t = some (.slice e)) (he : P.underlying e = some .string) (hc : P.cellsOf e = 1)
    (h : DataW.trod enc P w base (fun _ => true) held fuel t [c] = some x) :
    ∃ (A : Option Addr) (l : List ByteArray) (cap : Nat), c = .slice A l.length cap ∧ Kd.string.C w A l.length l ∧ l.length ≤ cap ∧ l.length ≤ maxLen ∧ ∀ s ∈ l, s.size ≤ maxLen := by
  rcases open_strings ht he hc h with ⟨hcs, _⟩ | ⟨a, len, cap, ss, hcs, _, hl, hm, hz, _, hcell, hw⟩
  · obtain rfl : c = .slice none 0 0 := by simpa using hcs
    refine ⟨none, [], 0, rfl, Kd.C_of_reads (d := ByteArray.empty) (h1 := fun _ => rfl) ⟨rfl, by simp, fun hn => absurd hn (by simp)⟩, Nat.le_refl _, Nat.zero_le _, fun s hs => by simp at hs⟩
  · obtain rfl : c = .slice (some a) len cap := by simpa using hcs
    simp only [if_true] at hz
    have e : (ss.take len).length = len := by simp; omega
    refine ⟨some a, ss.take len, cap, by rw [e], Kd.C_of_reads (d := ByteArray.empty) (h1 := fun _ => rfl) ⟨rfl, ?_, fun _ => ⟨a, rfl, fun j hj => ?_⟩⟩, by rw [e]; exact hl, by rw [e]; exact Nat.le_trans hl hm, fun s hs => hw s (List.mem_of_mem_take hs)⟩
    · rw [e]; have := Nat.le_trans hl hm; simpa [maxLen] using this
    · rw [e] at hj
      rw [hcell j (by omega)]
      simp [List.getD, hj]
end
end Go.Proofs.YthkcgimnagpmaaaGp
namespace Go.Proofs.YthkcgimnagpmaaaQ
open Go Go.RowKit Go.Proofs.YthkcgimnagpmaaaW.PrintWords Go.Proofs.YthkcgimnagpmaaaGp

theorem ev_succ {α : Type} {g : Nat → Option α} {r : α} (h : Ev (fun k => g (k + 1)) r) : Ev g r := Ev.step (f := fun k => g (k + 1)) (fun _ => rfl) h
theorem ev_some' {α : Type} {o : Option α} {r : α} (h : o = some r) : Ev (fun _ => o) r := h ▸ Ev.now r
theorem ev_some {α : Type} {a r : α} (h : a = r) : Ev (fun _ => some a) r := h ▸ Ev.now a
theorem ev_pos {α : Type} {c : Prop} [Decidable c] {f g : Nat → Option α} {r : α} (h : c) (k : Ev f r) : Ev (fun n => if c then f n else g n) r := by simpa only [if_pos h] using k
theorem ev_neg {α : Type} {c : Prop} [Decidable c] {f g : Nat → Option α} {r : α} (h : ¬ c) (k : Ev g r) : Ev (fun n => if c then f n else g n) r := by simpa only [if_neg h] using k
theorem ev_bind {α β : Type} {g : Nat → Option α} {f : Nat → α → Option β} {r : β} (a : α) (h : Ev g a) (k : Ev (fun n => f n a) r) : Ev (fun n => (g n).bind (f n)) r := Ev.bind h k
theorem w64 {x : Int} (h0 : -9223372036854775808 ≤ x) (h1 : x ≤ 9223372036854775807) : wrap64 x = x := by unfold wrap64; omega
theorem winc {i : Nat} (h : (i : Int) < 9223372036854775807) : wrap64 ((i : Int) + 1) = ((i + 1 : Nat) : Int) := by unfold wrap64; omega
theorem wdec {i : Nat} (h : (i : Int) < 9223372036854775807) : wrap64 (((i + 1 : Nat) : Int) - 1) = (i : Int) := by unfold wrap64; omega
theorem maxLen_eq : maxLen = 9223372036854775807 := by unfold maxLen; rfl
section
variable {α : Type} {d : α} {pre t : List α} {s : α}
theorem rdOf_mid : rdOf d (pre ++ s :: t) ((pre.length : Nat) : Int) = s := by simp [rdOf]
theorem rdOf_last {p : α} : rdOf d ((pre ++ [p]) ++ s :: t) ((pre.length : Nat) : Int) = p := by simp [rdOf]
theorem rdOf_get {xs : List α} {i : Nat} (h : i < xs.length) : rdOf d xs (i : Int) = xs[i] := by simp [rdOf, h]
theorem lt_mid : ((pre.length : Nat) : Int) < ((pre ++ s :: t).length : Int) := by simp; omega
theorem not_lt_end : ¬ ((pre.length : Nat) : Int) < ((pre ++ ([] : List α)).length : Int) := by simp
theorem set_mid {x : α} : (pre ++ s :: t).set ((pre.length : Nat) : Int).toNat x = pre ++ x :: t := by simp
theorem app_one : (pre ++ [s]) ++ t = pre ++ s :: t := by simp
theorem len_one : ((pre ++ [s]).length : Int) = ((pre.length + 1 : Nat) : Int) := by simp
end
theorem rd_mid {pre t : List Int} {s : Int} : rd (pre ++ s :: t) ((pre.length : Nat) : Int) = s := by simp [rd]
theorem rd_get {xs : List Int} {i : Nat} (h : i < xs.length) : rd xs (i : Int) = xs[i] := by simp [rd, h]

theorem tl (s : ByteArray) : s.toList = s.data.toList := Lib.toList_data s
theorem tl_inj {x y : ByteArray} : x.toList = y.toList ↔ x = y := by
  rw [tl, tl]
  exact ⟨fun h => ByteArray.ext (Array.toList_inj.1 h), fun h => h ▸ rfl⟩
theorem size_len (s : ByteArray) : s.size = s.data.toList.length := (data_length s).symm
theorem bt_mid {s : ByteArray} {pre t : List UInt8} {c : UInt8} (h : s.data.toList = pre ++ c :: t) : bt s ((pre.length : Nat) : Int) = (c.toNat : Int) := by
  have hs : pre.length < s.size := by rw [size_len, h]; simp
  have hg : s[pre.length]'hs = c := by
    have : s.data.toList[pre.length]'(by rw [h]; simp) = c := by simp [h]
    rw [← this]; rfl
  unfold bt
  rw [dif_pos (by simpa using hs)]
  simp only [Int.toNat_natCast, hg]
theorem lt_size {s : ByteArray} {pre t : List UInt8} {c : UInt8} (h : s.data.toList = pre ++ c :: t) : ((pre.length : Nat) : Int) < (s.size : Int) := by rw [size_len, h]; simp; omega
theorem not_lt_size {s : ByteArray} {pre : List UInt8} (h : s.data.toList = pre ++ []) : ¬ ((pre.length : Nat) : Int) < (s.size : Int) := by rw [size_len, h]; simp
def lessS (a b : ByteArray) : Bool := Op.bytesLess a.toList b.toList
end Go.Proofs.YthkcgimnagpmaaaQ
namespace Go.Proofs.YthkcgimnagpmaaaQ
open Go Go.RowKit Go.Proofs.YthkcgimnagpmaaaW.PrintWords Go.Proofs.YthkcgimnagpmaaaGp Go.Proofs.Ythkcgimnagpmaaa.PP

theorem tdiv10 {x : Int} (h : 0 < x) : 0 ≤ Int.tdiv x 10 ∧ Int.tdiv x 10 < x ∧ Int.tmod x 10 = x % 10 ∧ Int.tdiv x 10 = x / 10 := by
  rw [Int.tdiv_eq_ediv_of_nonneg (by omega), Int.tmod_eq_emod_of_nonneg (by omega)]
  omega
theorem strOf1 (n : Int) : (strOfNums [n]).size = 1 := by simp [strOfNums, ByteArray.size]
theorem markText_l0 : ∀ (n : Nat) (x : Int) (s : ByteArray), x ≤ n → 0 ≤ x → x ≤ 9223372036854775807 → (s.size : Int) + x ≤ 4611686018427387904 → ∃ r, Ev (fun k => laws_markText.l0 k x s) r := by
  intro n
  induction n with
  | zero =>
    intro x s hx h0 h1 h2
    refine ⟨(⟨#[109]⟩ : ByteArray) ++ s, ev_succ ?_⟩
    simp only [laws_markText.l0]
    exact ev_neg (by omega) (ev_pos (by omega) (Ev.now _))
  | succ n ih =>
    intro x s hx h0 h1 h2
    by_cases c : x > 0
    · obtain ⟨q0, q1, q2, q3⟩ := tdiv10 c
      obtain ⟨r, hr⟩ := ih (Int.tdiv x 10) (strOfNums [(wrap64 (48 + (Int.tmod x 10))) % 256] ++ s) (by omega) (by omega) (by omega) (by simp only [ByteArray.size_append, strOf1]; omega)
      refine ⟨r, ev_succ ?_⟩
      simp only [laws_markText.l0, Option.bind_some, strOf1]
      refine ev_pos c (ev_pos (by omega) ?_)
      rw [w64 (x := Int.tdiv x 10) (by omega) (by omega)]
      exact hr
    · refine ⟨(⟨#[109]⟩ : ByteArray) ++ s, ev_succ ?_⟩
      simp only [laws_markText.l0]
      exact ev_neg c (ev_pos (by omega) (Ev.now _))
theorem markText_f (x : Int) (h : x ≤ 4611686018427387904) : ∃ r, Ev (fun k => laws_markText.f k x) r := by
  unfold laws_markText.f
  by_cases c : x ≤ 0
  · exact ⟨_, ev_pos c (Ev.now _)⟩
  · obtain ⟨r, hr⟩ := markText_l0 x.toNat x ⟨#[]⟩ (by omega) (by omega) (by omega) (by
      have : (⟨#[]⟩ : ByteArray).size = 0 := rfl
      omega)
    exact ⟨r, ev_neg c hr⟩
open Classical in
noncomputable def mark (x : Int) : ByteArray := if h : ∃ r, Ev (fun k => laws_markText.f k x) r then Classical.choose h else ⟨#[]⟩
theorem mark_ev (x : Int) (h : x ≤ 4611686018427387904) : Ev (fun k => laws_markText.f k x) (mark x) := by
  unfold mark
  rw [dif_pos (markText_f x h)]
  exact Classical.choose_spec (markText_f x h)
noncomputable def marks : Nat → Int → List ByteArray
  | 0, _ => []
  | n + 1, a => mark a :: marks n (a + 1)
theorem markStringS_l0 : ∀ (t pre : List ByteArray) (a : Int), 0 ≤ a → a + (t.length : Int) ≤ 4611686018427387904 → ((pre.length + t.length : Nat) : Int) ≤ 4611686018427387904 →
    Ev (fun k => laws_markStringS.l0 k (pre ++ t) a (pre.length : Int)) (a + (t.length : Int), pre ++ marks t.length a) := by
  intro t
  induction t with
  | nil =>
    intro pre a h0 h1 h2
    refine ev_succ ?_
    simp only [laws_markStringS.l0]
    exact ev_neg not_lt_end (ev_some (by simp [marks]))
  | cons s t ih =>
    intro pre a h0 h1 h2
    simp only [List.length_cons] at h1 h2
    refine ev_succ ?_
    simp only [laws_markStringS.l0]
    refine ev_pos lt_mid (ev_bind _ (mark_ev a (by omega)) (ev_pos (by omega) ?_))
    simp only [set_mid]
    rw [winc (by omega), w64 (x := a + 1) (by omega) (by omega)]
    have := ih (pre ++ [mark a]) (a + 1) (by omega) (by omega) (by simp; omega)
    rw [len_one, app_one] at this
    simp only [List.length_cons, marks]
    rw [show ((t.length + 1 : Nat) : Int) = 1 + (t.length : Int) from by omega, ← Int.add_assoc]
    simpa using this
theorem markStringS_f (l : List ByteArray) (a : Int) (h0 : 0 ≤ a) (h1 : a + (l.length : Int) ≤ 4611686018427387904) : Ev (fun k => laws_markStringS.f k l a) (a + (l.length : Int), marks l.length a) := by
  unfold laws_markStringS.f
  have := markStringS_l0 l [] a h0 h1 (by simp; omega)
  exact this

end Go.Proofs.YthkcgimnagpmaaaQ
namespace Go.Proofs.YthkcgimnagpmaaaQ
open Go Go.RowKit Go.Proofs.YthkcgimnagpmaaaW.PrintWords Go.Proofs.YthkcgimnagpmaaaGp Go.Proofs.Ythkcgimnagpmaaa.PP

def sumSz : List ByteArray → Int
  | [] => 0
  | s :: t => (s.size : Int) + sumSz t
theorem sumSz_nonneg : ∀ l, 0 ≤ sumSz l
  | [] => Int.le_refl _
  | s :: t => by have := sumSz_nonneg t; simp only [sumSz]; omega
theorem size_le_sumSz {s : ByteArray} : ∀ {l : List ByteArray}, s ∈ l → (s.size : Int) ≤ sumSz l
  | x :: t, h => by
    have := sumSz_nonneg t
    rcases List.mem_cons.1 h with rfl | h
    · simp only [sumSz]; omega
    · have := size_le_sumSz h; simp only [sumSz]; omega

def neg1 (x : Int) : Int := if x < 0 then -1 else x
theorem neg1_id {x : Int} (h : 0 ≤ x) : neg1 x = x := by unfold neg1; exact if_neg (by omega)
theorem szStringS_l0 (x0 : List ByteArray) : ∀ (t pre : List ByteArray) (a : Int), x0 = pre ++ t → (∀ s ∈ t, s.size ≤ maxLen) → 0 ≤ a → a ≤ 1048576 → (x0.length : Int) ≤ 9223372036854775806 →
    Ev (fun k => laws_szStringS.l0 k x0 a (pre.length : Int)) (neg1 (a - sumSz t)) := by
  intro t
  induction t with
  | nil =>
    intro pre a h hs h0 h1 hl
    subst h
    refine ev_succ ?_
    simp only [laws_szStringS.l0, not_lt_end, if_false]
    exact ev_some (by rw [show a - sumSz [] = a from by simp [sumSz], neg1_id h0])
  | cons s t ih =>
    intro pre a h hs h0 h1 hl
    have hm : ((pre.length : Nat) : Int) < (x0.length : Int) := by rw [h]; exact lt_mid
    have hr : rdOf ByteArray.empty x0 (pre.length : Int) = s := by rw [h]; exact rdOf_mid
    have hz : s.size ≤ maxLen := hs s (by simp)
    rw [maxLen_eq] at hz
    have hp := sumSz_nonneg t
    have hw : wrap64 (a - (s.size : Int)) = a - (s.size : Int) := w64 (by omega) (by omega)
    refine ev_succ ?_
    simp only [laws_szStringS.l0, hr, hw]
    refine ev_pos hm (ev_pos (by omega) ?_)
    by_cases c : a - (s.size : Int) < 0
    · refine ev_pos c (ev_some ?_)
      unfold neg1
      rw [if_pos (by simp only [sumSz]; omega)]
    · refine ev_neg c ?_
      have := ih (pre ++ [s]) (a - (s.size : Int)) (by rw [h]; simp) (fun x hx => hs x (by simp [hx])) (by omega) (by omega) hl
      rw [winc (by omega)]
      rw [len_one] at this
      simp only [sumSz]
      rw [show a - ((s.size : Int) + sumSz t) = a - (s.size : Int) - sumSz t from by omega]
      exact this

def left1 (a : Int) (l : List ByteArray) : Int := neg1 (a - (l.length : Int) - sumSz l)
theorem szStringS_f (l : List ByteArray) (a : Int) (hl : l.length ≤ maxLen) (hs : ∀ s ∈ l, s.size ≤ maxLen) (h0 : 0 ≤ a) (h1 : a ≤ 1048576) : Ev (fun k => laws_szStringS.f k l a) (left1 a l) := by
  rw [maxLen_eq] at hl
  have hp := sumSz_nonneg l
  have hw : wrap64 (a - (l.length : Int)) = a - (l.length : Int) := w64 (by omega) (by omega)
  unfold laws_szStringS.f left1
  simp only [hw]
  by_cases c : a - (l.length : Int) < 0
  · exact ev_pos c (ev_some (by unfold neg1; rw [if_pos (by omega)]))
  · refine ev_neg c ?_
    have := szStringS_l0 l l [] (a - (l.length : Int)) rfl hs (by omega) (by omega) (by omega)
    exact this
theorem left1_ok {a : Int} {l : List ByteArray} (h : ¬ left1 a l < 0) : left1 a l = a - (l.length : Int) - sumSz l ∧ (l.length : Int) + sumSz l ≤ a := by
  unfold left1 neg1 at h ⊢
  split at h
  · omega
  · rename_i c; rw [if_neg c]; omega
theorem toStringS_l0 (x0 : List ByteArray) (hl : (x0.length : Int) ≤ 1048576) : ∀ (t pre r : List ByteArray), x0 = pre ++ t → r.length = t.length →
    Ev (fun k => laws_toStringS.l0 k x0 (pre ++ r) (pre.length : Int)) x0 := by
  intro t
  induction t with
  | nil =>
    intro pre r h hr
    obtain rfl := List.length_eq_zero_iff.1 hr
    refine ev_succ ?_
    simp only [laws_toStringS.l0]
    refine ev_neg (by rw [h]; exact not_lt_end) (ev_some h.symm)
  | cons s t ih =>
    intro pre r h hr
    cases r with
    | nil => simp at hr
    | cons q r =>
      have hm : ((pre.length : Nat) : Int) < (x0.length : Int) := by rw [h]; exact lt_mid
      have hg : rdOf ByteArray.empty x0 (pre.length : Int) = s := by rw [h]; exact rdOf_mid
      refine ev_succ ?_
      simp only [laws_toStringS.l0, hg, set_mid]
      refine ev_pos hm (ev_pos (by omega) (ev_pos lt_mid ?_))
      rw [winc (by omega)]
      have := ih (pre ++ [s]) r (by rw [h]; simp) (by simpa using hr)
      rw [len_one, app_one] at this
      exact this
theorem toStringS_f (l : List ByteArray) (hl : (l.length : Int) ≤ 1048576) : Ev (fun k => laws_toStringS.f k l) l := by
  unfold laws_toStringS.f
  refine ev_pos (by omega) (ev_pos (by simp only [Int.toNat_natCast]; omega) ?_)
  simp only [Int.toNat_natCast]
  have := toStringS_l0 l hl l [] (List.replicate l.length (⟨#[]⟩ : ByteArray)) rfl (by simp)
  exact this

theorem eqStringS_l0 (x0 x1 : List ByteArray) (hl : (x0.length : Int) ≤ 9223372036854775806) : ∀ (t u pre pre' : List ByteArray), x0 = pre ++ t → x1 = pre' ++ u → pre.length = pre'.length → t.length = u.length →
    Ev (fun k => laws_eqStringS.l0 k x0 x1 (pre.length : Int)) (decide (t = u)) := by
  intro t
  induction t with
  | nil =>
    intro u pre pre' h h' hp hu
    obtain rfl := List.length_eq_zero_iff.1 hu.symm
    refine ev_succ ?_
    simp only [laws_eqStringS.l0]
    exact ev_neg (by rw [h]; exact not_lt_end) (ev_some (by simp))
  | cons s t ih =>
    intro u pre pre' h h' hp hu
    cases u with
    | nil => simp at hu
    | cons q u =>
      have hm : ((pre.length : Nat) : Int) < (x0.length : Int) := by rw [h]; exact lt_mid
      have hm' : ((pre.length : Nat) : Int) < (x1.length : Int) := by rw [h', hp]; exact lt_mid
      have hg : rdOf ByteArray.empty x0 (pre.length : Int) = s := by rw [h]; exact rdOf_mid
      have hg' : rdOf ByteArray.empty x1 (pre.length : Int) = q := by rw [h', hp]; exact rdOf_mid
      refine ev_succ ?_
      simp only [laws_eqStringS.l0, hg, hg', tl_inj]
      refine ev_pos hm (ev_pos (by omega) (ev_pos hm' ?_))
      by_cases c : s = q
      · refine ev_pos c ?_
        rw [winc (by omega)]
        have := ih u (pre ++ [s]) (pre' ++ [q]) (by rw [h]; simp) (by rw [h']; simp) (by simp [hp]) (by simpa using hu)
        rw [len_one] at this
        rw [show decide (s :: t = q :: u) = decide (t = u) from by simp [c]]
        exact this
      · exact ev_neg c (ev_some (by simp [c]))
theorem eqStringS_f (a b : List ByteArray) (hl : (a.length : Int) ≤ 9223372036854775806) : Ev (fun k => laws_eqStringS.f k a b) (decide (a = b)) := by
  unfold laws_eqStringS.f
  by_cases c : a.length = b.length
  · refine ev_pos (by omega) ?_
    exact eqStringS_l0 a b hl a b [] [] rfl rfl rfl c
  · exact ev_neg (by omega) (ev_some (by
      have : ¬ a = b := fun e => c (by rw [e])
      simp [this]))

end Go.Proofs.YthkcgimnagpmaaaQ
namespace Go.Proofs.YthkcgimnagpmaaaQ
open Go Go.RowKit Go.Proofs.YthkcgimnagpmaaaW.PrintWords Go.Proofs.YthkcgimnagpmaaaGp Go.Proofs.Ythkcgimnagpmaaa.PP

theorem eqIntS_l0 (x0 x1 : List Int) (hl : (x0.length : Int) ≤ 9223372036854775806) : ∀ (t u pre pre' : List Int), x0 = pre ++ t → x1 = pre' ++ u → pre.length = pre'.length → t.length = u.length →
    Ev (fun k => laws_eqIntS.l0 k x0 x1 (pre.length : Int)) (decide (t = u)) := by
  intro t
  induction t with
  | nil =>
    intro u pre pre' h h' hp hu
    obtain rfl := List.length_eq_zero_iff.1 hu.symm
    refine ev_succ ?_
    simp only [laws_eqIntS.l0]
    exact ev_neg (by rw [h]; exact not_lt_end) (ev_some (by simp))
  | cons s t ih =>
    intro u pre pre' h h' hp hu
    cases u with
    | nil => simp at hu
    | cons q u =>
      have hm : ((pre.length : Nat) : Int) < (x0.length : Int) := by rw [h]; exact lt_mid
      have hm' : ((pre.length : Nat) : Int) < (x1.length : Int) := by rw [h', hp]; exact lt_mid
      have hg : rd x0 (pre.length : Int) = s := by rw [h]; exact rd_mid
      have hg' : rd x1 (pre.length : Int) = q := by rw [h', hp]; exact rd_mid
      refine ev_succ ?_
      simp only [laws_eqIntS.l0, hg, hg']
      refine ev_pos hm (ev_pos (by omega) (ev_pos hm' ?_))
      by_cases c : s = q
      · refine ev_pos c ?_
        rw [winc (by omega)]
        have := ih u (pre ++ [s]) (pre' ++ [q]) (by rw [h]; simp) (by rw [h']; simp) (by simp [hp]) (by simpa using hu)
        rw [len_one] at this
        rw [show decide (s :: t = q :: u) = decide (t = u) from by simp [c]]
        exact this
      · exact ev_neg c (ev_some (by simp [c]))
theorem eqIntS_f (a b : List Int) (hl : (a.length : Int) ≤ 9223372036854775806) : Ev (fun k => laws_eqIntS.f k a b) (decide (a = b)) := by
  unfold laws_eqIntS.f
  by_cases c : a.length = b.length
  · refine ev_pos (by omega) ?_
    exact eqIntS_l0 a b hl a b [] [] rfl rfl rfl c
  · exact ev_neg (by omega) (ev_some (by
      have : ¬ a = b := fun e => c (by rw [e])
      simp [this]))

end Go.Proofs.YthkcgimnagpmaaaQ
namespace Go.Proofs.YthkcgimnagpmaaaQ
open Go Go.RowKit Go.Proofs.YthkcgimnagpmaaaW.PrintWords Go.Proofs.YthkcgimnagpmaaaGp Go.Proofs.Ythkcgimnagpmaaa.PP

def counts : Nat → Int → List Int
  | 0, _ => []
  | n + 1, a => a :: counts n (a + 1)
theorem markIntS_l0 : ∀ (t pre : List Int) (a : Int), 0 ≤ a → a + (t.length : Int) ≤ 4611686018427387904 → ((pre.length + t.length : Nat) : Int) ≤ 4611686018427387904 →
    Ev (fun k => laws_markIntS.l0 k (pre ++ t) a (pre.length : Int)) (a + (t.length : Int), pre ++ counts t.length a) := by
  intro t
  induction t with
  | nil =>
    intro pre a h0 h1 h2
    refine ev_succ ?_
    simp only [laws_markIntS.l0]
    exact ev_neg not_lt_end (ev_some (by simp [counts]))
  | cons s t ih =>
    intro pre a h0 h1 h2
    simp only [List.length_cons] at h1 h2
    refine ev_succ ?_
    simp only [laws_markIntS.l0]
    refine ev_pos lt_mid (ev_pos (by omega) ?_)
    simp only [set_mid]
    rw [winc (by omega), w64 (x := a + 1) (by omega) (by omega)]
    have := ih (pre ++ [a]) (a + 1) (by omega) (by omega) (by simp; omega)
    rw [len_one, app_one] at this
    simp only [List.length_cons, counts]
    rw [show ((t.length + 1 : Nat) : Int) = 1 + (t.length : Int) from by omega, ← Int.add_assoc]
    simpa using this
theorem markIntS_f (l : List Int) (a : Int) (h0 : 0 ≤ a) (h1 : a + (l.length : Int) ≤ 4611686018427387904) : Ev (fun k => laws_markIntS.f k l a) (a + (l.length : Int), counts l.length a) := by
  unfold laws_markIntS.f
  have := markIntS_l0 l [] a h0 h1 (by simp; omega)
  exact this
theorem heldIntS_l0 : ∀ (n : Nat) (pre : List Int) (a : Int), 0 ≤ a → a + (n : Int) ≤ 4611686018427387904 → ((pre.length + n : Nat) : Int) ≤ 4611686018427387904 →
    Ev (fun k => laws_heldIntS.l0 k (pre ++ counts n a) a (pre.length : Int)) (a + (n : Int)) := by
  intro n
  induction n with
  | zero =>
    intro pre a h0 h1 h2
    refine ev_succ ?_
    simp only [laws_heldIntS.l0, counts]
    exact ev_neg not_lt_end (ev_some (by simp))
  | succ n ih =>
    intro pre a h0 h1 h2
    refine ev_succ ?_
    simp only [laws_heldIntS.l0, counts, rd_mid]
    refine ev_pos lt_mid (ev_pos (by omega) (ev_pos trivial ?_))
    rw [winc (by omega), w64 (x := a + 1) (by omega) (by omega)]
    have := ih (pre ++ [a]) (a + 1) (by omega) (by omega) (by simp; omega)
    rw [len_one, app_one] at this
    rw [show a + ((n + 1 : Nat) : Int) = a + 1 + (n : Int) from by omega]
    exact this
theorem heldIntS_f (n : Nat) (a : Int) (h0 : 0 ≤ a) (h1 : a + (n : Int) ≤ 4611686018427387904) : Ev (fun k => laws_heldIntS.f k (counts n a) a) (a + (n : Int)) := by
  unfold laws_heldIntS.f
  have := heldIntS_l0 n [] a h0 h1 (by simp; omega)
  exact this
end Go.Proofs.YthkcgimnagpmaaaQ
namespace Go.Proofs.YthkcgimnagpmaaaQ
open Go Go.RowKit

abbrev Edges := List (List Int)
def edg (E : Edges) (i : Nat) : List Int := E.getD i []
def degOf (E : Edges) (L : List Nat) (p : Int) : Nat := (L.map fun i => (edg E i).count p).sum
def placesL (P : Nat) : List Int := (List.range P).map Int.ofNat
def freeL (P : Nat) (E : Edges) (L : List Nat) : List Int := (placesL P).filter fun p => degOf E L p == 1
def withE (E : Edges) (L : List Nat) (p : Int) : Option Nat := L.find? fun i => (edg E i).contains p
def dropE (L : List Nat) (i : Nat) : List Nat := L.filter fun j => j != i
def goodE (P : Nat) (E : Edges) : Prop := ∀ e ∈ E, ∀ p ∈ e, 0 ≤ p ∧ p < (P : Int)
theorem degOf_nil (E : Edges) (p : Int) : degOf E [] p = 0 := rfl
theorem degOf_cons (E : Edges) (i : Nat) (L : List Nat) (p : Int) : degOf E (i :: L) p = (edg E i).count p + degOf E L p := by simp [degOf]
theorem degOf_sub {E : Edges} {S L : List Nat} (h : S.Sublist L) (p : Int) : degOf E S p ≤ degOf E L p := by
  induction h with
  | slnil => exact Nat.le_refl _
  | cons i _ ih => rw [degOf_cons]; omega
  | cons_cons i _ ih => rw [degOf_cons, degOf_cons]; omega
theorem degOf_mem {E : Edges} {L : List Nat} {i : Nat} {p : Int} (h : i ∈ L) (hp : p ∈ edg E i) : 1 ≤ degOf E L p := by
  have : 0 < (edg E i).count p := List.count_pos_iff.2 hp
  have h2 := degOf_sub (E := E) (List.singleton_sublist.2 h) p
  rw [degOf_cons, degOf_nil] at h2
  omega
theorem degOf_two {E : Edges} : ∀ {L : List Nat} {i j : Nat} {p : Int}, i ∈ L → j ∈ L → i ≠ j → p ∈ edg E i → p ∈ edg E j → 2 ≤ degOf E L p
  | [], _, _, _, h, _, _, _, _ => by cases h
  | x :: L, i, j, p, hi, hj, hne, pi, pj => by
    rw [degOf_cons]
    rcases List.mem_cons.1 hi with e1 | h1
    · have a : 0 < (edg E x).count p := List.count_pos_iff.2 (e1 ▸ pi)
      rcases List.mem_cons.1 hj with e2 | h2
      · exact absurd (e1.trans e2.symm) hne
      · have := degOf_mem h2 pj
        omega
    · rcases List.mem_cons.1 hj with e2 | h2
      · have a : 0 < (edg E x).count p := List.count_pos_iff.2 (e2 ▸ pj)
        have := degOf_mem h1 pi
        omega
      · have := degOf_two h1 h2 hne pi pj
        omega
theorem degOf_pos {E : Edges} {L : List Nat} {p : Int} (h : 1 ≤ degOf E L p) : ∃ i ∈ L, p ∈ edg E i := by
  induction L with
  | nil => rw [degOf_nil] at h; omega
  | cons i L ih =>
    rw [degOf_cons] at h
    by_cases c : p ∈ edg E i
    · exact ⟨i, by simp, c⟩
    · rw [List.count_eq_zero_of_not_mem c] at h
      obtain ⟨j, hj, hp⟩ := ih (by omega)
      exact ⟨j, by simp [hj], hp⟩
theorem withE_some {E : Edges} {L : List Nat} {p : Int} {i : Nat} (h : withE E L p = some i) : i ∈ L ∧ p ∈ edg E i := by
  have h1 := List.mem_of_find?_eq_some h
  have h2 := List.find?_some h
  exact ⟨h1, by simpa using h2⟩
theorem withE_ex {E : Edges} {L : List Nat} {p : Int} (h : 1 ≤ degOf E L p) : ∃ i, withE E L p = some i := by
  obtain ⟨i, hi, hp⟩ := degOf_pos h
  cases hw : withE E L p with
  | some j => exact ⟨j, rfl⟩
  | none => exact absurd (by simpa using hp) (by simpa using List.find?_eq_none.1 hw i hi)
theorem mem_freeL {P : Nat} {E : Edges} {L : List Nat} {p : Int} : p ∈ freeL P E L ↔ (0 ≤ p ∧ p < (P : Int)) ∧ degOf E L p = 1 := by
  simp only [freeL, placesL, List.mem_filter, List.mem_map, List.mem_range, beq_iff_eq]
  constructor
  · rintro ⟨⟨i, hi, rfl⟩, h⟩
    exact ⟨⟨Int.natCast_nonneg i, Int.ofNat_lt.2 hi⟩, h⟩
  · rintro ⟨h, e⟩
    exact ⟨⟨p.toNat, by omega, Int.toNat_of_nonneg h.1⟩, e⟩
theorem mem_dropE {L : List Nat} {i j : Nat} : j ∈ dropE L i ↔ j ∈ L ∧ j ≠ i := by simp [dropE]
theorem dropE_sub (L : List Nat) (i : Nat) : (dropE L i).Sublist L := List.filter_sublist
theorem dropE_len {L : List Nat} (hn : L.Nodup) {i : Nat} (h : i ∈ L) : (dropE L i).length + 1 = L.length := by
  have : dropE L i = L.erase i := (hn.erase_eq_filter i).symm
  rw [this, List.length_erase_of_mem h]
  have := List.length_pos_of_mem h
  omega
def stepE (P : Nat) (E : Edges) (L : List Nat) (c : Nat) : Option (Nat × Int) :=
  if (freeL P E L).length = 0 then none else let p := (freeL P E L).getD (c % (freeL P E L).length) 0; some ((withE E L p).getD 0, p)
def peelC (P : Nat) (E : Edges) : List Nat → List Nat → List (Nat × Int) × List Nat
  | [], L => ([], L)
  | c :: cs, L => match stepE P E L c with
    | none => ([], L)
    | some (i, p) => ((i, p) :: (peelC P E cs (dropE L i)).1, (peelC P E cs (dropE L i)).2)
theorem stepE_none {P : Nat} {E : Edges} {L : List Nat} {c : Nat} : stepE P E L c = none ↔ freeL P E L = [] := by
  unfold stepE
  split
  · rename_i h; simp [List.length_eq_zero_iff.1 h]
  · rename_i h; simp; intro e; rw [e] at h; exact h rfl
theorem stepE_some {P : Nat} {E : Edges} {L : List Nat} {c i : Nat} {p : Int} (h : stepE P E L c = some (i, p)) : p ∈ freeL P E L ∧ degOf E L p = 1 ∧ withE E L p = some i := by
  unfold stepE at h
  split at h
  · cases h
  · rename_i hl
    simp only [Option.some.injEq, Prod.mk.injEq] at h
    obtain ⟨h1, h2⟩ := h
    have hm : c % (freeL P E L).length < (freeL P E L).length := Nat.mod_lt _ (by omega)
    have hp : p ∈ freeL P E L := by rw [← h2, List.getD_eq_getElem?_getD, List.getElem?_eq_getElem hm]; exact List.getElem_mem hm
    have hd := (mem_freeL.1 hp).2
    obtain ⟨j, hj⟩ := withE_ex (E := E) (L := L) (p := p) (by omega)
    rw [h2, hj] at h1
    exact ⟨hp, hd, by rw [hj]; simpa using h1⟩
theorem peelC_cons_none {P : Nat} {E : Edges} {L : List Nat} (c : Nat) (cs : List Nat) (h : freeL P E L = []) : peelC P E (c :: cs) L = ([], L) := by
  rw [peelC, stepE_none.2 h]
theorem peelC_cons_some {P : Nat} {E : Edges} {L : List Nat} {c i : Nat} {p : Int} (cs : List Nat) (h : stepE P E L c = some (i, p)) : peelC P E (c :: cs) L = ((i, p) :: (peelC P E cs (dropE L i)).1, (peelC P E cs (dropE L i)).2) := by
  rw [peelC, h]
theorem nodup_drop {L : List Nat} (h : L.Nodup) (i : Nat) : (dropE L i).Nodup := (dropE_sub L i).nodup h
theorem peelC_len {P : Nat} {E : Edges} : ∀ (cs L : List Nat), L.Nodup → (peelC P E cs L).1.length + (peelC P E cs L).2.length = L.length
  | [], L, _ => by simp [peelC]
  | c :: cs, L, hn => by
    cases h : stepE P E L c with
    | none => rw [peelC_cons_none c cs (stepE_none.1 h)]; simp
    | some q =>
      obtain ⟨i, p⟩ := q
      rw [peelC_cons_some cs h]
      have h1 := (withE_some (stepE_some h).2.2).1
      have := peelC_len (P := P) (E := E) cs (dropE L i) (nodup_drop hn i)
      have := dropE_len hn h1
      simp only [List.length_cons]
      omega
theorem freeL_nil {P : Nat} {E : Edges} : freeL P E [] = [] := by
  rw [List.eq_nil_iff_forall_not_mem]
  intro p hp
  have := (mem_freeL.1 hp).2
  rw [degOf_nil] at this
  cases this
def allE (E : Edges) : List Nat := List.range E.length
def peelAll (P : Nat) (E : Edges) : List (Nat × Int) × List Nat := peelC P E (List.replicate E.length 0) (allE E)
def coreE (P : Nat) (E : Edges) : List Nat := (peelAll P E).2
theorem allE_nodup (E : Edges) : (allE E).Nodup := List.nodup_range
end Go.Proofs.YthkcgimnagpmaaaQ
namespace Go.Proofs.YthkcgimnagpmaaaQ
open Go Go.RowKit Go.Proofs.YthkcgimnagpmaaaW.PrintWords

def castL (L : List Nat) : List Int := L.map Int.ofNat
theorem castL_len (L : List Nat) : (castL L).length = L.length := by simp [castL]
theorem castL_app (L M : List Nat) : castL (L ++ M) = castL L ++ castL M := by simp [castL]
theorem rd_castmid {pre t : List Nat} {j : Nat} : rd (castL (pre ++ j :: t)) (pre.length : Int) = (j : Int) := by
  simp [rd, castL]
def cntL (ps : List Int) (m : Nat) : List Int := (List.range m).map fun i => ((ps.count (Int.ofNat i) : Nat) : Int)
theorem cntL_len (ps : List Int) (m : Nat) : (cntL ps m).length = m := by simp [cntL]
theorem cntL_get (ps : List Int) {m i : Nat} (h : i < m) : (cntL ps m)[i]'(by rw [cntL_len]; exact h) = ((ps.count (Int.ofNat i) : Nat) : Int) := by simp [cntL]
theorem cntL_rd (ps : List Int) {m : Nat} {p : Int} (h0 : 0 ≤ p) (h1 : p < (m : Int)) : rd (cntL ps m) p = ((ps.count p : Nat) : Int) := by
  have hlt : p.toNat < (cntL ps m).length := by rw [cntL_len]; omega
  unfold rd
  rw [List.getD_eq_getElem?_getD, List.getElem?_eq_getElem hlt, Option.getD_some, cntL_get _ (by omega), show Int.ofNat p.toNat = p from by simp; omega]
theorem cntL_nil (m : Nat) : cntL [] m = List.replicate m 0 := by
  apply List.ext_getElem
  · simp [cntL]
  · intro i h1 h2
    simp [cntL]
theorem cntL_set (ps : List Int) {m : Nat} {p : Int} (h0 : 0 ≤ p) : (cntL ps m).set p.toNat (((ps.count p : Nat) : Int) + 1) = cntL (ps ++ [p]) m := by
  apply List.ext_getElem
  · simp [cntL]
  · intro i g1 g2
    rw [List.getElem_set]
    simp only [cntL, List.getElem_map, List.getElem_range, List.count_append]
    by_cases c : p.toNat = i
    · rw [if_pos c]
      have : Int.ofNat i = p := by simp; omega
      rw [this]; simp
    · rw [if_neg c]
      have : ¬ p = (i : Int) := by omega
      simp [this]
def plsL (E : Edges) (L : List Nat) : List Int := L.flatMap (edg E)
theorem degOf_pls (E : Edges) (L : List Nat) (p : Int) : (plsL E L).count p = degOf E L p := by
  induction L with
  | nil => rfl
  | cons i L ih => rw [degOf_cons, plsL, List.flatMap_cons, List.count_append, ← ih, plsL]
structure GoodH (P : Nat) (E : Edges) : Prop where
  rng : goodE P E
  len : E.length ≤ 1000
  row : ∀ e ∈ E, e.length ≤ 3
  plc : P ≤ 1000
theorem GoodH.edge {P : Nat} {E : Edges} (h : GoodH P E) (i : Nat) : (edg E i).length ≤ 3 ∧ ∀ p ∈ edg E i, 0 ≤ p ∧ p < (P : Int) := by
  unfold edg
  by_cases c : i < E.length
  · rw [List.getD_eq_getElem?_getD, List.getElem?_eq_getElem c, Option.getD_some]
    exact ⟨h.row _ (List.getElem_mem c), h.rng _ (List.getElem_mem c)⟩
  · rw [List.getD_eq_getElem?_getD, List.getElem?_eq_none (by omega)]
    simp
theorem plsL_len {P : Nat} {E : Edges} (h : GoodH P E) (L : List Nat) : (plsL E L).length ≤ 3 * L.length := by
  induction L with
  | nil => simp [plsL]
  | cons i L ih =>
    have := (h.edge i).1
    simp only [plsL, List.flatMap_cons, List.length_append, List.length_cons] at ih ⊢
    omega
theorem count_le_len (l : List Int) (p : Int) : l.count p ≤ l.length := List.count_le_length

def freeUp (ps : List Int) (i : Nat) : List Int := ((List.range i).map Int.ofNat).filter fun p => ps.count p == 1
theorem freeUp_succ (ps : List Int) (i : Nat) : freeUp ps (i + 1) = if ps.count (i : Int) = 1 then freeUp ps i ++ [(i : Int)] else freeUp ps i := by
  unfold freeUp
  rw [List.range_succ, List.map_append, List.filter_append]
  by_cases c : ps.count (i : Int) = 1
  · rw [if_pos c]; simp [c]
  · rw [if_neg c]; simp [c]
theorem freeUp_len (ps : List Int) (i : Nat) : (freeUp ps i).length ≤ i := by
  unfold freeUp
  refine Nat.le_trans (List.length_filter_le _ _) (by simp)
theorem freeL_up (P : Nat) (E : Edges) (L : List Nat) : freeUp (plsL E L) P = freeL P E L := by
  unfold freeUp freeL placesL
  refine List.filter_congr fun p _ => ?_
  rw [degOf_pls]
def Rg (n : Nat) (L : List Nat) : Prop := L.Sublist (List.range n)
theorem Rg.lt {n : Nat} {L : List Nat} (h : Rg n L) {i : Nat} (hi : i ∈ L) : i < n := List.mem_range.1 (h.subset hi)
theorem Rg.nodup {n : Nat} {L : List Nat} (h : Rg n L) : L.Nodup := List.Sublist.nodup h List.nodup_range
theorem Rg.len {n : Nat} {L : List Nat} (h : Rg n L) : L.length ≤ n := by
  have := List.Sublist.length_le h
  simpa using this
theorem Rg.drop {n : Nat} {L : List Nat} (h : Rg n L) (i : Nat) : Rg n (dropE L i) := (dropE_sub L i).trans h
theorem Rg.all (n : Nat) : Rg n (List.range n) := List.Sublist.refl _
theorem sub_filter : ∀ {L M : List Nat}, L.Sublist M → M.Nodup → M.filter (fun i => L.contains i) = L := by
  intro L M h
  induction h with
  | slnil => intro _; rfl
  | @cons L M a hs ih =>
    intro hn
    rw [List.nodup_cons] at hn
    have : ¬ a ∈ L := fun c => hn.1 (hs.subset c)
    rw [List.filter_cons_of_neg (by simpa using this)]
    exact ih hn.2
  | @cons_cons L M a hs ih =>
    intro hn
    rw [List.nodup_cons] at hn
    rw [List.filter_cons_of_pos (by simp)]
    congr 1
    rw [← ih hn.2]
    refine List.filter_congr fun x hx => ?_
    have : ¬ x = a := fun e => hn.1 (e ▸ hx)
    rw [ih hn.2, Bool.eq_iff_iff]
    simp [this]
theorem Rg.filter {n : Nat} {L : List Nat} (h : Rg n L) : (List.range n).filter (fun i => L.contains i) = L := sub_filter h List.nodup_range
def upTo (L : List Nat) (i : Nat) : List Nat := (List.range i).filter fun j => L.contains j
theorem upTo_succ (L : List Nat) (i : Nat) : upTo L (i + 1) = if i ∈ L then upTo L i ++ [i] else upTo L i := by
  unfold upTo
  rw [List.range_succ, List.filter_append]
  by_cases c : i ∈ L
  · rw [if_pos c]; simp [c]
  · rw [if_neg c]; simp [c]
theorem upTo_all {n : Nat} {L : List Nat} (h : Rg n L) : upTo L n = L := h.filter
theorem upTo_len (L : List Nat) (i : Nat) : (upTo L i).length ≤ i := Nat.le_trans (List.length_filter_le _ _) (by simp)
def goneOf (n : Nat) (L : List Nat) : List Bool := (List.range n).map fun i => !(L.contains i)
theorem goneOf_len (n : Nat) (L : List Nat) : (goneOf n L).length = n := by simp [goneOf]
theorem goneOf_rd {n : Nat} {L : List Nat} {i : Nat} (h : i < n) : rdOf false (goneOf n L) (i : Int) = !(L.contains i) := by
  simp [rdOf, goneOf, h]
theorem goneOf_all (n : Nat) : goneOf n (List.range n) = List.replicate n false := by
  apply List.ext_getElem
  · simp [goneOf]
  · intro i h1 h2
    simp [goneOf] at h1 ⊢
    exact h1
theorem goneOf_set {n : Nat} {L : List Nat} {i : Nat} : (goneOf n L).set i true = goneOf n (dropE L i) := by
  apply List.ext_getElem
  · simp [goneOf]
  · intro j h1 h2
    rw [List.getElem_set]
    simp only [goneOf, List.getElem_map, List.getElem_range]
    by_cases c : i = j
    · rw [if_pos c]; subst c; simp [dropE]
    · rw [if_neg c, Bool.eq_iff_iff]
      simp [dropE, Ne.symm c]
theorem withE_least {E : Edges} {p : Int} : ∀ {L : List Nat} {j : Nat}, L.Pairwise (· < ·) → withE E L p = some j → ∀ k ∈ L, k < j → ¬ p ∈ edg E k
  | [], j, _, h, _, hk, _ => by cases hk
  | x :: L, j, hp, h, k, hk, hkj => by
    rw [List.pairwise_cons] at hp
    unfold withE at h
    rw [List.find?_cons] at h
    by_cases c : (edg E x).contains p = true
    · rw [c] at h
      obtain rfl := Option.some.inj h
      rcases List.mem_cons.1 hk with rfl | hk
      · omega
      · have := hp.1 k hk; omega
    · rw [Bool.eq_false_iff.2 c] at h
      rcases List.mem_cons.1 hk with rfl | hk
      · simpa using c
      · exact withE_least hp.2 h k hk hkj
theorem Rg.sorted {n : Nat} {L : List Nat} (h : Rg n L) : L.Pairwise (· < ·) := List.Pairwise.sublist h List.pairwise_lt_range
end Go.Proofs.YthkcgimnagpmaaaQ
namespace Go.Proofs.YthkcgimnagpmaaaQ
open Go Go.RowKit Go.Proofs.YthkcgimnagpmaaaW.PrintWords Go.Proofs.YthkcgimnagpmaaaGp Go.Proofs.Ythkcgimnagpmaaa.PP

theorem rd_edg (E : Edges) (i : Nat) : rd_L2 E (i : Int) = edg E i := rfl
theorem wcount {c : Nat} (h : c ≤ 1000000) : wrap64 ((c : Int) + 1) = (c : Int) + 1 := w64 (by omega) (by omega)
theorem impl_degrees_l1 {P : Nat} {E : Edges} {G : List Bool} {n : Int} {r : List Int} {i : Nat} (e : List Int) (hi : (i : Int) < 9223372036854775806) (he : (e.length : Int) ≤ 9223372036854775806) (hr : ∀ p ∈ e, 0 ≤ p ∧ p < (P : Int)) (ps : List Int) (hps : ps.length + e.length ≤ 1000000)
    (H : Ev (fun k => impl_Hyper_degrees.l0 k G (cntL (ps ++ e) P) E n ((i + 1 : Nat) : Int)) r) : ∀ (t pre : List Int), e = pre ++ t →
    Ev (fun k => impl_Hyper_degrees.l1 k G (cntL (ps ++ pre) P) E n (i : Int) e (e.length : Int) (pre.length : Int)) r := by
  intro t
  induction t with
  | nil =>
    intro pre h
    have hp : e = pre := by rw [h, List.append_nil]
    subst hp
    refine ev_succ ?_
    simp only [impl_Hyper_degrees.l1]
    refine ev_neg (by omega) ?_
    rw [winc (by omega)]
    exact H
  | cons x t ih =>
    intro pre h
    have hm : ((pre.length : Nat) : Int) < (e.length : Int) := by rw [h]; exact lt_mid
    have hg : rd e (pre.length : Int) = x := by rw [h]; exact rd_mid
    obtain ⟨x0, x1⟩ := hr x (by rw [h]; simp)
    have hc := count_le_len (ps ++ pre) x
    have hl : e.length = pre.length + (t.length + 1) := by rw [h]; simp
    rw [List.length_append] at hc
    refine ev_succ ?_
    simp only [impl_Hyper_degrees.l1, hg]
    refine ev_pos hm (ev_pos (by omega) (ev_pos hm (ev_pos x0 (ev_pos (by rw [cntL_len]; exact x1) ?_))))
    rw [winc (by omega), cntL_rd _ x0 x1, wcount (by omega), cntL_set _ x0, List.append_assoc]
    have := ih (pre ++ [x]) (by rw [h]; simp)
    rw [len_one] at this
    exact this
theorem impl_degrees_l0 {P : Nat} {E : Edges} (hG : GoodH P E) {L : List Nat} (hL : Rg E.length L) : ∀ (d i : Nat), i + d = E.length →
    Ev (fun k => impl_Hyper_degrees.l0 k (goneOf E.length L) (cntL (plsL E (upTo L i)) P) E (E.length : Int) (i : Int)) (cntL (plsL E L) P) := by
  intro d
  have hn := hG.len
  induction d with
  | zero =>
    intro i h
    have hi : i = E.length := by omega
    refine ev_succ ?_
    simp only [impl_Hyper_degrees.l0]
    refine ev_neg (by omega) (ev_some ?_)
    rw [hi, upTo_all hL]
  | succ d ih =>
    intro i h
    have next := ih (i + 1) (by omega)
    rw [upTo_succ] at next
    refine ev_succ ?_
    simp only [impl_Hyper_degrees.l0]
    refine ev_pos (by omega) (ev_pos (by omega) (ev_pos (by omega) (ev_pos (by rw [goneOf_len]; omega) ?_)))
    rw [goneOf_rd (by omega)]
    by_cases c : i ∈ L
    · rw [if_pos c] at next
      refine ev_neg (by simp [c]) ?_
      rw [rd_edg]
      have hb := plsL_len hG (upTo L i)
      have hu := upTo_len L i
      obtain ⟨he, hr⟩ := hG.edge i
      have hpe : plsL E (upTo L i ++ [i]) = plsL E (upTo L i) ++ edg E i := by simp [plsL]
      rw [hpe] at next
      have := impl_degrees_l1 (P := P) (E := E) (G := goneOf E.length L) (n := (E.length : Int)) (edg E i) (by omega) (by omega) hr (plsL E (upTo L i)) (by omega) next (edg E i) [] rfl
      rw [List.append_nil] at this
      exact this
    · rw [if_neg c] at next
      refine ev_pos (by simp [c]) ?_
      rw [winc (by omega)]
      exact next
theorem impl_degrees_f {P : Nat} {E : Edges} (hG : GoodH P E) {L : List Nat} (hL : Rg E.length L) : Ev (fun k => impl_Hyper_degrees.f k (P : Int) E (goneOf E.length L)) (cntL (plsL E L) P) := by
  have hp := hG.plc
  unfold impl_Hyper_degrees.f
  refine ev_pos (by omega) (ev_pos (by omega) ?_)
  have := impl_degrees_l0 hG hL E.length 0 (by omega)
  rw [show plsL E (upTo L 0) = [] from rfl, cntL_nil] at this
  exact this
theorem impl_singles_l0 {P : Nat} (ps : List Int) (hP : P ≤ 1000) : ∀ (d i : Nat), i + d = P →
    Ev (fun k => impl_Hyper_singles.l0 k (freeUp ps i) (cntL ps P) (P : Int) (i : Int)) (freeUp ps P) := by
  intro d
  induction d with
  | zero =>
    intro i h
    have hi : i = P := by omega
    refine ev_succ ?_
    simp only [impl_Hyper_singles.l0]
    refine ev_neg (by omega) (ev_some (by rw [hi]))
  | succ d ih =>
    intro i h
    have next := ih (i + 1) (by omega)
    have hl := freeUp_len ps i
    rw [freeUp_succ] at next
    refine ev_succ ?_
    simp only [impl_Hyper_singles.l0]
    rw [cntL_rd ps (by omega) (by omega)]
    refine ev_pos (by omega) (ev_pos (by omega) (ev_pos (by rw [cntL_len]; omega) ?_))
    rw [winc (by omega)]
    by_cases c : ps.count (i : Int) = 1
    · rw [if_pos c] at next
      exact ev_pos (by omega) (ev_pos (by omega) next)
    · rw [if_neg c] at next
      exact ev_neg (by omega) next
theorem impl_singles_f {P : Nat} {E : Edges} (hG : GoodH P E) {L : List Nat} (hL : Rg E.length L) : Ev (fun k => impl_Hyper_singles.f k (P : Int) E (goneOf E.length L)) (freeL P E L) := by
  unfold impl_Hyper_singles.f
  refine ev_bind _ (impl_degrees_f hG hL) ?_
  have := impl_singles_l0 (plsL E L) hG.plc P 0 (by omega)
  rw [cntL_len, ← freeL_up]
  exact this
theorem slices_Index_int_l0 (x0 : List Int) (a : Int) (hl : (x0.length : Int) ≤ 9223372036854775806) : ∀ (t pre : List Int), x0 = pre ++ t →
    ∃ r, Ev (fun k => slices_Index_int_int.l0 k x0 a (x0.length : Int) (pre.length : Int)) r ∧ decide (r ≥ 0) = t.contains a := by
  intro t
  induction t with
  | nil =>
    intro pre h
    refine ⟨-1, ev_succ ?_, by simp⟩
    simp only [slices_Index_int_int.l0]
    exact ev_neg (by rw [h]; exact not_lt_end) (Ev.now _)
  | cons x t ih =>
    intro pre h
    have hm : ((pre.length : Nat) : Int) < (x0.length : Int) := by rw [h]; exact lt_mid
    have hg : rd x0 (pre.length : Int) = x := by rw [h]; exact rd_mid
    by_cases c : a = x
    · refine ⟨(pre.length : Int), ev_succ ?_, by simp [c]⟩
      simp only [slices_Index_int_int.l0, hg]
      exact ev_pos hm (ev_pos (by omega) (ev_pos hm (ev_pos c (Ev.now _))))
    · obtain ⟨r, h1, h2⟩ := ih (pre ++ [x]) (by rw [h]; simp)
      rw [len_one] at h1
      refine ⟨r, ev_succ ?_, by rw [h2]; simp [c]⟩
      simp only [slices_Index_int_int.l0, hg]
      refine ev_pos hm (ev_pos (by omega) (ev_pos hm (ev_neg c ?_)))
      rw [winc (by omega)]
      exact h1
theorem slices_Contains_int_f (l : List Int) (a : Int) (hl : (l.length : Int) ≤ 9223372036854775806) : Ev (fun k => slices_Contains_int_int.f k l a) (l.contains a) := by
  obtain ⟨r, h1, h2⟩ := slices_Index_int_l0 l a hl l [] rfl
  unfold slices_Contains_int_int.f slices_Index_int_int.f
  refine ev_bind _ h1 (ev_some h2)
theorem impl_edgeAt_l0 {P : Nat} {E : Edges} (hG : GoodH P E) {L : List Nat} {p : Int} {j : Nat} (hj : j ∈ L) (hjn : j < E.length) (hpj : p ∈ edg E j) (hlt : ∀ k ∈ L, k < j → ¬ p ∈ edg E k) : ∀ (d i : Nat), i + d = j →
    Ev (fun k => impl_Hyper_edgeAt.l0 k (goneOf E.length L) p (i : Int) (P : Int) E) (j : Int) := by
  intro d
  have hn := hG.len
  have he := fun i => (hG.edge i).1
  induction d with
  | zero =>
    intro i h
    obtain rfl : i = j := by omega
    have := he i
    refine ev_succ ?_
    simp only [impl_Hyper_edgeAt.l0]
    rw [goneOf_rd hjn, rd_edg]
    refine ev_pos (by omega) (ev_pos (by rw [goneOf_len]; omega) (ev_neg (by simp [hj]) (ev_pos (by omega) (ev_bind _ (slices_Contains_int_f _ p (by omega)) (ev_pos (by simpa using hpj) (Ev.now _))))))
  | succ d ih =>
    intro i h
    have := he i
    have next := ih (i + 1) (by omega)
    refine ev_succ ?_
    simp only [impl_Hyper_edgeAt.l0]
    rw [goneOf_rd (by omega), rd_edg, winc (by omega)]
    refine ev_pos (by omega) (ev_pos (by rw [goneOf_len]; omega) ?_)
    by_cases c : i ∈ L
    · exact ev_neg (by simp [c]) (ev_pos (by omega) (ev_bind _ (slices_Contains_int_f _ p (by omega)) (ev_neg (by simpa using hlt i c (by omega)) next)))
    · exact ev_pos (by simp [c]) next
theorem impl_edgeAt_f {P : Nat} {E : Edges} (hG : GoodH P E) {L : List Nat} (hL : Rg E.length L) {p : Int} {j : Nat} (h : withE E L p = some j) : Ev (fun k => impl_Hyper_edgeAt.f k (P : Int) E (goneOf E.length L) p) (j : Int) := by
  obtain ⟨h1, h2⟩ := withE_some h
  unfold impl_Hyper_edgeAt.f
  exact impl_edgeAt_l0 hG h1 (hL.lt h1) h2 (withE_least hL.sorted h) j 0 (by omega)
theorem impl_left_l0 {n : Nat} {L : List Nat} (hn : n ≤ 1000) (hL : Rg n L) : ∀ (d i : Nat), i + d = n →
    Ev (fun k => impl_left.l0 k (castL (upTo L i)) (goneOf n L) (n : Int) (i : Int)) (castL L) := by
  intro d
  induction d with
  | zero =>
    intro i h
    have hi : i = n := by omega
    refine ev_succ ?_
    simp only [impl_left.l0]
    exact ev_neg (by omega) (ev_some (by rw [hi, upTo_all hL]))
  | succ d ih =>
    intro i h
    have next := ih (i + 1) (by omega)
    have hl := upTo_len L i
    rw [upTo_succ] at next
    refine ev_succ ?_
    simp only [impl_left.l0]
    rw [goneOf_rd (by omega), winc (by omega)]
    refine ev_pos (by omega) (ev_pos (by omega) (ev_pos (by rw [goneOf_len]; omega) ?_))
    by_cases c : i ∈ L
    · rw [if_pos c, castL_app] at next
      exact ev_neg (by simp [c]) (ev_pos (by rw [castL_len]; omega) next)
    · rw [if_neg c] at next
      exact ev_pos (by simp [c]) next
theorem impl_left_f {n : Nat} {L : List Nat} (hn : n ≤ 1000) (hL : Rg n L) : Ev (fun k => impl_left.f k (goneOf n L)) (castL L) := by
  unfold impl_left.f
  rw [goneOf_len]
  exact impl_left_l0 hn hL n 0 (by omega)
def mkS51 (s : Nat × Int) : S51 := ⟨(s.1 : Int), s.2⟩
def stepsL (l : List (Nat × Int)) : List S51 := l.map mkS51
theorem step_zero {P : Nat} {E : Edges} {L : List Nat} (h : freeL P E L ≠ []) : ∃ i, stepE P E L 0 = some (i, rd (freeL P E L) 0) := by
  unfold stepE
  have : ¬ (freeL P E L).length = 0 := fun e => h (List.length_eq_zero_iff.1 e)
  rw [if_neg this, Nat.zero_mod]
  exact ⟨_, rfl⟩
theorem impl_peel_l0 {P : Nat} {E : Edges} (hG : GoodH P E) : ∀ (d : Nat) (L : List Nat) (acc : List S51), Rg E.length L → L.length ≤ d → acc.length + d ≤ 1000000 →
    Ev (fun k => impl_Hyper_peel.l0 k acc (goneOf E.length L) (P : Int) E) (acc ++ stepsL (peelC P E (List.replicate d 0) L).1, castL (peelC P E (List.replicate d 0) L).2) := by
  have hn := hG.len
  have stop : ∀ (d : Nat) (L : List Nat) (acc : List S51), Rg E.length L → freeL P E L = [] → Ev (fun k => impl_Hyper_peel.l0 k acc (goneOf E.length L) (P : Int) E) (acc ++ stepsL (peelC P E (List.replicate d 0) L).1, castL (peelC P E (List.replicate d 0) L).2) := by
    intro d L acc hL hf
    have e : peelC P E (List.replicate d 0) L = ([], L) := by
      cases d with
      | zero => rfl
      | succ d => rw [List.replicate_succ, peelC_cons_none _ _ hf]
    rw [e]
    refine ev_succ ?_
    simp only [impl_Hyper_peel.l0]
    refine ev_bind _ (impl_singles_f hG hL) (ev_pos (by rw [hf]; rfl) (ev_bind _ (impl_left_f hn hL) (ev_some (by simp [stepsL]))))
  intro d
  induction d with
  | zero =>
    intro L acc hL hd _
    have : L = [] := List.length_eq_zero_iff.1 (by omega)
    exact stop 0 L acc hL (by rw [this]; exact freeL_nil)
  | succ d ih =>
    intro L acc hL hd ha
    by_cases hf : freeL P E L = []
    · exact stop (d + 1) L acc hL hf
    · obtain ⟨i, hs⟩ := step_zero hf
      obtain ⟨_, _, hw⟩ := stepE_some hs
      have hi := (withE_some hw).1
      have hin := hL.lt hi
      have hl : ¬ (freeL P E L).length = 0 := fun e => hf (List.length_eq_zero_iff.1 e)
      have hdl := dropE_len hL.nodup hi
      rw [List.replicate_succ, peelC_cons_some _ hs]
      refine ev_succ ?_
      simp only [impl_Hyper_peel.l0]
      refine ev_bind _ (impl_singles_f hG hL) (ev_neg (by omega) (ev_pos (by omega) (ev_bind _ (impl_edgeAt_f hG hL hw) (ev_pos (by omega) (ev_pos (by rw [goneOf_len]; omega) (ev_pos (by omega) ?_))))))
      rw [Int.toNat_natCast, goneOf_set]
      have := ih (dropE L i) (acc ++ [mkS51 (i, rd (freeL P E L) 0)]) (hL.drop i) (by omega) (by simp; omega)
      rw [List.append_assoc] at this
      exact this
theorem impl_peel_f {P : Nat} {E : Edges} (hG : GoodH P E) : Ev (fun k => impl_Hyper_peel.f k (P : Int) E) (stepsL (peelAll P E).1, castL (coreE P E)) := by
  have hn := hG.len
  unfold impl_Hyper_peel.f impl_Hyper_none.f
  refine ev_bind _ (ev_pos (by omega) (ev_pos (by omega) (Ev.now _))) ?_
  rw [Int.toNat_natCast, ← goneOf_all]
  have := impl_peel_l0 hG E.length (List.range E.length) [] (Rg.all _) (by simp) (by simp; omega)
  rw [List.nil_append] at this
  exact this
end Go.Proofs.YthkcgimnagpmaaaQ
namespace Go.Proofs.YthkcgimnagpmaaaQ
open Go Go.RowKit Go.Proofs.YthkcgimnagpmaaaW.PrintWords Go.Proofs.YthkcgimnagpmaaaGp Go.Proofs.Ythkcgimnagpmaaa.PP

theorem spec_l1Has_l0 (x0 : List Int) (a : Int) (hl : (x0.length : Int) ≤ 9223372036854775806) : ∀ (t pre : List Int), x0 = pre ++ t →
    Ev (fun k => spec_l1Has.l0 k a x0 (x0.length : Int) (pre.length : Int)) (t.contains a) := by
  intro t
  induction t with
  | nil =>
    intro pre h
    refine ev_succ ?_
    simp only [spec_l1Has.l0]
    exact ev_neg (by rw [h]; exact not_lt_end) (ev_some (by simp))
  | cons x t ih =>
    intro pre h
    have hm : ((pre.length : Nat) : Int) < (x0.length : Int) := by rw [h]; exact lt_mid
    have hg : rd x0 (pre.length : Int) = x := by rw [h]; exact rd_mid
    refine ev_succ ?_
    simp only [spec_l1Has.l0, hg]
    refine ev_pos hm (ev_pos (by omega) (ev_pos hm ?_))
    by_cases c : x = a
    · exact ev_pos c (ev_some (by simp [c]))
    · refine ev_neg c ?_
      rw [winc (by omega)]
      have := ih (pre ++ [x]) (by rw [h]; simp)
      rw [len_one] at this
      have e : (x :: t).contains a = t.contains a := by simp [Ne.symm c]
      rw [e]
      exact this
theorem spec_l1Has_f (l : List Int) (a : Int) (hl : (l.length : Int) ≤ 9223372036854775806) : Ev (fun k => spec_l1Has.f k l a) (l.contains a) := by
  unfold spec_l1Has.f
  exact spec_l1Has_l0 l a hl l [] rfl
end Go.Proofs.YthkcgimnagpmaaaQ
