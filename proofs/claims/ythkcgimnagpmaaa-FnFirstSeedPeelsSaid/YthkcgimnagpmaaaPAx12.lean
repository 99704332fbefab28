-- printed by a program of this session (wip/gp) out of the translation; Lean checks it
import Derived.Test.YthkcgimnagpmaaaPAx0
import Derived.Test.YthkcgimnagpmaaaPAx3
namespace Go.Proofs.Ythkcgimnagpmaaa.PA
open Go.RowKit Go.Proofs.YthkcgimnagpmaaaW.PrintWords Go.Proofs.YthkcgimnagpmaaaW.PrintLast Go.Proofs.YthkcgimnagpmaaaW.PrintMore Go.Proofs.YthkcgimnagpmaaaSq
attribute [local go_sem] max2_int min2_int max_two min_two max_three min_three max_four min_four   -- for this text's walks alone
attribute [local go_sem] Go.Proofs.YthkcgimnagpmaaaGp.str_geq Go.Proofs.YthkcgimnagpmaaaGp.str_gtr Go.Proofs.YthkcgimnagpmaaaGp.str_leq
set_option linter.unusedVariables false
set_option linter.unusedSimpArgs false

set_option maxHeartbeats 8000000
set_option maxRecDepth 100000
/-! ### impl_Hyper_order: function 117 -/
def impl_Hyper_order.f (k : Nat) (a0_0 : Int) (l0_1 : List (List Int)) : Option ((List (S51)) × Bool) := (impl_Hyper_peel.f k a0_0 l0_1).bind fun bt679 => (some (bt679.1, ((bt679.2.length : Int) == 0)))
theorem impl_Hyper_order.mono : ∀ a0 a1 k, LeO (impl_Hyper_order.f k a0 a1) (impl_Hyper_order.f (k + 1) a0 a1) := by
 intro a0 a1 k
 unfold impl_Hyper_order.f
 repeat' first | (with_reducible first | exact impl_Hyper_peel.mono _ _ _ | exact LeO.refl _ | exact LeO.none _ | refine LeO.ite ?_ ?_ | refine LeO.bind ?_ (fun _ => ?_)) | exact LeO.none _ | refine LeO.ite ?_ ?_ | refine LeO.bind ?_ (fun _ => ?_)
theorem impl_Hyper_order.calls (k : Nat) (g0 : Nat) (a0_0 : Int) (A0_1 : Option Addr) (c0_1 : Nat) (l0_1 : List (List Int)) (r1 : List (S51)) (r2 : Bool) (w : World) (hb0 : w.heap[g0]? = some (.cells #[.int .i64 a0_0, .slice A0_1 l0_1.length c0_1] 37 (0, 0))) (hr0_1 : Kd.C (Kd.slice 3 (Kd.int .i64)) w A0_1 l0_1.length l0_1) (hc0_1 : l0_1.length ≤ c0_1) (h : impl_Hyper_order.f k a0_0 l0_1 = some (r1, r2)) :
  Calls Try.prog 117 #[.pointer (some ⟨g0, 0, none⟩)] w fun e w' => ∃ v0_ : Value, e = .returned (.tuple #[v0_, .bool r2]) ∧ Kd.R k51 51 w' w.heap.size (fun _ => True) v0_ r1 ∧ Below w.heap.size w w' := by
 have HR0_1 := am hr0_1; have HC0_1 := am hc0_1; clear hr0_1 hc0_1; have BK0 := am hb0; clear hb0; have HB := am (Below.refl w.heap.size w); have H : ((impl_Hyper_peel.f k a0_0 l0_1).bind fun bt679 => (some (bt679.1, ((bt679.2.length : Int) == 0)))) = some (r1, r2) := h; clear h; replace H := Option.bind_eq_some_iff.mp H; obtain ⟨⟨t679, t680⟩, A20, H⟩ := H; (try dsimp -simprocs only at H); have A2 := am A20; clear A20
 simp only [Option.some.injEq, Prod.mk.injEq] at H
 obtain ⟨rfl, rfl⟩ := H
 go_enter Try.func117, Try.ntmps117
 go_wp2_with (first | ((with_reducible refine gate_callee (f := 91) rfl ?_); refine gL (some 8) Try.func91 #[.pointer (some ⟨g0, 0, none⟩)] ?_; (with_reducible refine (impl_Hyper_peel.calls k g0 a0_0 A0_1 c0_1 l0_1 t679 t680 _ ?side1 ?side2 ?side3 A2.out).mono ?_); (case side1 => exact Kz BK0.out); (case side2 => exact Cz HR0_1.out); (case side3 => exact HC0_1.out); rintro e w3 ⟨v681, v683, rfl, ho0, ho1, hb⟩; refine ⟨_, rfl, ?_⟩; have n0_ := Rm ho0 HB; have n1_ := Rm ho1 HB; have n2_ := Kb BK0 hb; have n3_ := Bc HB hb; clear BK0 HB; revert n0_ n1_ n2_ n3_; intro HO682 HO684 BK0 HB; (try clear hb); (try clear hb2); (try clear hk); (try clear hi); (try clear ho0); (try clear ho1); obtain ⟨Ao4, co4, eo4⟩ := Kd.R_slice HO684.out; subst eo4))
 go_ret2
 exact ⟨_, eZ, Rz HO682.out, Bq⟩

/-! ### impl_PeelOrder: function 41 -/
def impl_PeelOrder.f (k : Nat) (a0_0 : Int) (l0_1 : List (List Int)) : Option ((List (S51)) × Bool) := (impl_IsHyper.f k a0_0 l0_1).bind fun t730 => (if t730 = true then ((impl_Hyper_order.f k a0_0 l0_1).bind fun bt731 => (if bt731.2 = true then (some (bt731.1, true)) else (some (([] : List (S51)), false)))) else (some (([] : List (S51)), false)))
theorem impl_PeelOrder.mono : ∀ a0 a1 k, LeO (impl_PeelOrder.f k a0 a1) (impl_PeelOrder.f (k + 1) a0 a1) := by
 intro a0 a1 k
 unfold impl_PeelOrder.f
 repeat' first | (with_reducible first | exact impl_Hyper_order.mono _ _ _ | exact impl_IsHyper.mono _ _ _ | exact LeO.refl _ | exact LeO.none _ | refine LeO.ite ?_ ?_ | refine LeO.bind ?_ (fun _ => ?_)) | exact LeO.none _ | refine LeO.ite ?_ ?_ | refine LeO.bind ?_ (fun _ => ?_)
theorem impl_PeelOrder.calls (k : Nat) (a0_0 : Int) (A0_1 : Option Addr) (c0_1 : Nat) (l0_1 : List (List Int)) (r1 : List (S51)) (r2 : Bool) (w : World) (hr0_1 : Kd.C (Kd.slice 3 (Kd.int .i64)) w A0_1 l0_1.length l0_1) (hc0_1 : l0_1.length ≤ c0_1) (h : impl_PeelOrder.f k a0_0 l0_1 = some (r1, r2)) :
  Calls Try.prog 41 #[.agg #[.int .i64 a0_0, .slice A0_1 l0_1.length c0_1]] w fun e w' => ∃ v0_ : Value, e = .returned (.tuple #[v0_, .bool r2]) ∧ Kd.R k51 51 w' w.heap.size (fun _ => True) v0_ r1 ∧ Below w.heap.size w w' := by
 have hu37 := Try.underlying37; have HR0_1 := am hr0_1; have HC0_1 := am hc0_1; clear hr0_1 hc0_1; have HB := am (Below.refl w.heap.size w); have H : ((impl_IsHyper.f k a0_0 l0_1).bind fun t730 => (if t730 = true then ((impl_Hyper_order.f k a0_0 l0_1).bind fun bt731 => (if bt731.2 = true then (some (bt731.1, true)) else (some (([] : List (S51)), false)))) else (some (([] : List (S51)), false)))) = some (r1, r2) := h; clear h; replace H := Option.bind_eq_some_iff.mp H; obtain ⟨t730, A20, H⟩ := H; (try dsimp -simprocs only at H); have A2 := am A20; clear A20
 by_cases c3 : t730 = true
 ·subst c3
  rw [if_pos rfl] at H; replace H := Option.bind_eq_some_iff.mp H; obtain ⟨⟨t731, t732⟩, A40, H⟩ := H; (try dsimp -simprocs only at H); have A4 := am A40; clear A40
  by_cases c5 : t732 = true
  ·subst c5
   rw [if_pos rfl] at H
   simp only [Option.some.injEq, Prod.mk.injEq] at H
   obtain ⟨rfl, rfl⟩ := H
   go_enter Try.func41, Try.ntmps41
   go_wp2_with (first | ((with_reducible refine gate_dst (N := 1) rfl ?_); refine bE 1 #[.int .i64 a0_0, .slice A0_1 l0_1.length c0_1] 37 ?_; intro gb729 hg w6 hbox hb; have n0_ := Bb HB hb; have n1_ := am (hbox); have n2_ := Gl HB hg; have n3_ := Gl HB hg; clear HB; revert n0_ n1_ n2_ n3_; intro HB BK729 GW729 GE729; clear hb hbox hg; obtain ⟨hcz7_0, hcz7_1, hfz7_0, hfz7_1⟩ := cf2 (w := w6) BK729) | ((with_reducible refine gate_callee (f := 42) rfl ?_); refine gL (some 7) Try.func42 #[.agg #[.int .i64 a0_0, .slice A0_1 l0_1.length c0_1]] ?_; (with_reducible refine (impl_IsHyper.calls k a0_0 _ _ l0_1 true _ ?side1 ?side2 A2.out).mono ?_); (case side1 => exact Cz (Kd.C_below HR0_1.out HB.out)); (case side2 => exact HC0_1.out); rintro e w8 ⟨rfl, hb⟩; refine ⟨_, rfl, ?_⟩; have n0_ := Kb BK729 hb; have n1_ := Bc HB hb; clear BK729 HB; revert n0_ n1_; intro BK729 HB; (try clear hb); (try clear hb2); (try clear hk); (try clear hi)) | ((with_reducible refine gate_callee (f := 117) rfl ?_); refine gL (some 10) Try.func117 #[.pointer (some ⟨gb729, 0, none⟩)] ?_; (with_reducible refine (impl_Hyper_order.calls k gb729 a0_0 A0_1 c0_1 l0_1 t731 true _ ?side1 ?side2 ?side3 A4.out).mono ?_); (case side1 => exact Kz BK729.out); (case side2 => exact Cz (Kd.C_below HR0_1.out HB.out)); (case side3 => exact HC0_1.out); rintro e w9 ⟨v733, rfl, ho0, hb⟩; refine ⟨_, rfl, ?_⟩; have n0_ := Rm ho0 HB; have n1_ := Kb BK729 hb; have n2_ := Bc HB hb; clear BK729 HB; revert n0_ n1_ n2_; intro HO734 BK729 HB; (try clear hb); (try clear hb2); (try clear hk); (try clear hi); (try clear ho0)))
   go_ret2
   exact ⟨_, eZ, Rz HO734.out, Bq⟩
  ·replace c5 := Bool.eq_false_iff.mpr c5
   subst c5
   rw [if_neg (show ¬ (false = true) by decide)] at H
   simp only [Option.some.injEq, Prod.mk.injEq] at H
   obtain ⟨rfl, rfl⟩ := H
   go_enter Try.func41, Try.ntmps41
   go_wp2_with (first | ((with_reducible refine gate_dst (N := 1) rfl ?_); refine bE 1 #[.int .i64 a0_0, .slice A0_1 l0_1.length c0_1] 37 ?_; intro gb729 hg w10 hbox hb; have n0_ := Bb HB hb; have n1_ := am (hbox); have n2_ := Gl HB hg; have n3_ := Gl HB hg; clear HB; revert n0_ n1_ n2_ n3_; intro HB BK729 GW729 GE729; clear hb hbox hg; obtain ⟨hcz11_0, hcz11_1, hfz11_0, hfz11_1⟩ := cf2 (w := w10) BK729) | ((with_reducible refine gate_callee (f := 42) rfl ?_); refine gL (some 7) Try.func42 #[.agg #[.int .i64 a0_0, .slice A0_1 l0_1.length c0_1]] ?_; (with_reducible refine (impl_IsHyper.calls k a0_0 _ _ l0_1 true _ ?side1 ?side2 A2.out).mono ?_); (case side1 => exact Cz (Kd.C_below HR0_1.out HB.out)); (case side2 => exact HC0_1.out); rintro e w12 ⟨rfl, hb⟩; refine ⟨_, rfl, ?_⟩; have n0_ := Kb BK729 hb; have n1_ := Bc HB hb; clear BK729 HB; revert n0_ n1_; intro BK729 HB; (try clear hb); (try clear hb2); (try clear hk); (try clear hi)) | ((with_reducible refine gate_callee (f := 117) rfl ?_); refine gL (some 10) Try.func117 #[.pointer (some ⟨gb729, 0, none⟩)] ?_; (with_reducible refine (impl_Hyper_order.calls k gb729 a0_0 A0_1 c0_1 l0_1 t731 false _ ?side1 ?side2 ?side3 A4.out).mono ?_); (case side1 => exact Kz BK729.out); (case side2 => exact Cz (Kd.C_below HR0_1.out HB.out)); (case side3 => exact HC0_1.out); rintro e w13 ⟨v733, rfl, ho0, hb⟩; refine ⟨_, rfl, ?_⟩; have n0_ := Rm ho0 HB; have n1_ := Kb BK729 hb; have n2_ := Bc HB hb; clear BK729 HB; revert n0_ n1_ n2_; intro HO734 BK729 HB; (try clear hb); (try clear hb2); (try clear hk); (try clear hi); (try clear ho0)))
   go_ret2
   exact ⟨_, eZ, nZ, Bq⟩
 ·replace c3 := Bool.eq_false_iff.mpr c3
  subst c3
  rw [if_neg (show ¬ (false = true) by decide)] at H
  simp only [Option.some.injEq, Prod.mk.injEq] at H
  obtain ⟨rfl, rfl⟩ := H
  go_enter Try.func41, Try.ntmps41
  go_wp2_with (first | ((with_reducible refine gate_dst (N := 1) rfl ?_); refine bE 1 #[.int .i64 a0_0, .slice A0_1 l0_1.length c0_1] 37 ?_; intro gb729 hg w14 hbox hb; have n0_ := Bb HB hb; have n1_ := am (hbox); have n2_ := Gl HB hg; have n3_ := Gl HB hg; clear HB; revert n0_ n1_ n2_ n3_; intro HB BK729 GW729 GE729; clear hb hbox hg; obtain ⟨hcz15_0, hcz15_1, hfz15_0, hfz15_1⟩ := cf2 (w := w14) BK729) | ((with_reducible refine gate_callee (f := 42) rfl ?_); refine gL (some 7) Try.func42 #[.agg #[.int .i64 a0_0, .slice A0_1 l0_1.length c0_1]] ?_; (with_reducible refine (impl_IsHyper.calls k a0_0 _ _ l0_1 false _ ?side1 ?side2 A2.out).mono ?_); (case side1 => exact Cz (Kd.C_below HR0_1.out HB.out)); (case side2 => exact HC0_1.out); rintro e w16 ⟨rfl, hb⟩; refine ⟨_, rfl, ?_⟩; have n0_ := Kb BK729 hb; have n1_ := Bc HB hb; clear BK729 HB; revert n0_ n1_; intro BK729 HB; (try clear hb); (try clear hb2); (try clear hk); (try clear hi)))
  go_ret2
  exact ⟨_, eZ, nZ, Bq⟩

end Go.Proofs.Ythkcgimnagpmaaa.PA
