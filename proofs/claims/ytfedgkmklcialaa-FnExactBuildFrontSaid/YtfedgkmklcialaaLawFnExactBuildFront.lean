/- The law 'FnExactBuildFront' holds for every input, without condition: the row, out of its pure statement and the walk. -/
import Derived.Test.YtfedgkmklcialaaRows
import Derived.Test.YtfedgkmklcialaaPAx4
import Derived.Test.YtfedgkmklcialaaGpRow
import Derived.Test.YtfedgkmklcialaaPureFnExactBuildFront
import Derived.WalkKit
import Derived.ProofKit
import Derived.OpenShut
import Derived.ShutString
import Derived.ChangeOld
import Derived.Below
import Derived.SizedLaws
import Derived.Carry
namespace Go.Proofs.Ytfedgkmklcialaa.fnExactBuildFront
open Go.ChangeShapes Go.WideShapes Go.ChangeAt Go.RowKit Go.Proofs.YtfedgkmklcialaaGp
open Go.ChangeMaps (open_string shut_string)
theorem own : ownKnob Try.prog.godebug = none := by kernel_rfl
theorem laidOut : laidOutB Try.prog = true := by kernel_rfl
set_option linter.unusedVariables false in
set_option maxRecDepth 100000 in
theorem lifted (os : Os) (started : os.Started) (H : Type) (enc : TypeId × Value → H) :
    ReturnsInHanded {} Try.checked os 3 .any (Rows.fnExactBuildFrontSpec.pre6 enc Try.prog Try.f3 Rows.fnExactBuildFrontRow.domain false) (Rows.fnExactBuildFrontSpec.post enc Try.prog Try.f3 false true false false) := by
  refine returnsInHanded_of_change_sized (C := Try.checked) own started (by kernel_rfl) Try.func3
    (ChangeSpec.witness6 (enc := enc) (C := Try.checked) false ⟨#[], #[.slice none 0 0, .int .i64 0], []⟩ 8 (by kernel_rfl) (by kernel_rfl) (by kernel_rfl) (by kernel_rfl)) ?_
  intro W base args ds gs before hval0 hW hcnd hsz0 _
  have hval : ∀ (j : Nat) t v, Try.f3.params[j]? = some t → args[j]? = some v → Value.okWide Try.prog W .any base t v := hval0
  have hW' := hW
  obtain ⟨p, q, hA0, hV, rfl, hfz, hnd⟩ := hW
  have hA : DataW.TrodAll enc Try.prog W 0 (fun _ => true) true Try.f3.params.toList args.toList ds p := hA0
  rw [Try.params3] at hA hval
  obtain ⟨v0, vs0, d0, ds0, p0, q0, hargs, rfl, rfl, h0, r0⟩ := trodAll_cons hA
  obtain ⟨v1, vs1, d1, ds1, p1, q1, rfl, rfl, rfl, h1, r1⟩ := trodAll_cons r0
  obtain ⟨rfl, rfl, rfl⟩ := trodAll_nil r1
  obtain rfl : args = #[v0, v1] := by cases args; simp_all
  obtain ⟨rfl, rfl⟩ := trodVars_none hV
  have k0 := h0
  have lt0 : ∀ x ∈ p0, x.block < W.heap.size := by obtain ⟨m, hm⟩ := k0; exact DataW.trod_lt m _ _ _ hm
  obtain ⟨fu0, hf0⟩ := h0
  obtain ⟨xa0, xl0, xc0, rfl⟩ := okWide_slice Try.underlying22 (hval 0 22 v0 rfl rfl)
  have g0 : DataW.trod enc Try.prog W 0 (fun _ => true) true fu0 22 [.slice xa0 xl0 xc0] = some (d0, p0) := hf0
  obtain ⟨A0, l0, c0, e0, hr0, hc0, hm0, hw0⟩ := leaf_strs Try.underlying22 Try.underlying9 (by kernel_rfl) g0
  injection e0 with e1_ e2_ e3_; have e4_ := e1_.symm; have e5_ := e3_.symm; clear e1_ e3_; subst e4_; subst e5_; subst e2_
  have k1 := h1
  have lt1 : ∀ x ∈ p1, x.block < W.heap.size := by obtain ⟨m, hm⟩ := k1; exact DataW.trod_lt m _ _ _ hm
  obtain ⟨fu1, hf1⟩ := h1
  obtain ⟨xi1, rfl⟩ := okWide_int Try.underlying3 (hval 1 3 v1 rfl rfl)
  have g1 : DataW.trod enc Try.prog W 0 (fun _ => true) true fu1 3 [.int .i64 xi1] = some (d1, p1) := hf1
  obtain ⟨a1, e1, hw1⟩ := leaf_int Try.underlying3 g1
  injection e1 with _ e1_; have e2_ := e1_.symm; clear e1_; subst e2_
  refine (PA.laws_FnExactBuildFront.walk Pure.FnExactBuildFront A0 c0 l0 a1 W hr0 hc0 hm0 hw0 hw1).mono fun e W' ⟨he, bel⟩ => ?_
  subst he
  exact ⟨_, rfl, _, _, _, [], _, [], hW', trodAll_mk1 (shut_bool Try.underlying4 _), (trodAll_cons_mk (Below.trod laidOut (by kernel_rfl) (of_decide_eq_true (by kernel_rfl)) k0 bel lt0) (trodAll_cons_mk (Below.trod laidOut (by kernel_rfl) (of_decide_eq_true (by kernel_rfl)) k1 bel lt1) trodAll_mk0)), rfl, bel.frame _, fun h => by cases h⟩
theorem over : Rows.fnExactBuildFrontRow.holds Try.pinned (OpenSpec.ofChange Rows.fnExactBuildFrontSpec) :=
  OpenClaim.holds_of_wide 3 Try.f3 rfl rfl rfl rfl rfl rfl rfl ⟨rfl, rfl, rfl, rfl, rfl⟩ rfl rfl rfl rfl rfl (by kernel_rfl) Try.func3 (by kernel_rfl)
    (of_decide_eq_true (by kernel_rfl)) (by unfold Func.isWrapper; first | (rw [if_pos (by decide +kernel)]; kernel_rfl) | (rw [if_neg (by decide +kernel)]; exact ⟨rfl, rfl⟩))
    (fun os started H enc _ => lifted os started H enc)
theorem proved : Rows.FnExactBuildFrontSaid := over
#print axioms proved
end Go.Proofs.Ytfedgkmklcialaa.fnExactBuildFront
namespace Go.Proofs.Ytfedgkmklcialaa
theorem fnExactBuildFront_holds : Rows.FnExactBuildFrontSaid := fnExactBuildFront.proved
end Go.Proofs.Ytfedgkmklcialaa
