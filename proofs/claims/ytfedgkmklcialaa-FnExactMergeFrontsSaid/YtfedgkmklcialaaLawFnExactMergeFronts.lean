import Derived.Test.YtfedgkmklcialaaRows
import Derived.Test.YtfedgkmklcialaaCE5
import Derived.WalkKit
import Derived.ProofKit
import Derived.OpenShut
import Derived.ShutString
import Derived.ChangeOld
import Derived.Below
import Derived.SizedLaws
import Derived.Carry
/- The law 'FnExactMergeFronts' holds for every input, without condition: the row, out of its pure statement and the walk. -/
namespace Go.Proofs.Ytfedgkmklcialaa.fnExactMergeFronts
open Go.ChangeShapes Go.WideShapes Go.ChangeAt Go.RowKit Go.Proofs.YtfedgkmklcialaaGp
open Go.ChangeMaps (open_string shut_string)
theorem own : ownKnob Try.prog.godebug = none := by kernel_rfl
theorem laidOut : laidOutB Try.prog = true := by kernel_rfl
set_option linter.unusedVariables false in
set_option maxRecDepth 100000 in
theorem lifted (os : Os) (started : os.Started) (H : Type) (enc : TypeId × Value → H) :
    ReturnsInHanded {} Try.checked os 9 .any (Rows.fnExactMergeFrontsSpec.pre6 enc Try.prog Try.f9 Rows.fnExactMergeFrontsRow.domain false) (Rows.fnExactMergeFrontsSpec.post enc Try.prog Try.f9 false true false false) := by
  refine returnsInHanded_of_change_sized (C := Try.checked) own started (by kernel_rfl) Try.func9
    (ChangeSpec.witness6 (enc := enc) (C := Try.checked) false ⟨#[], #[.agg #[.int .i64 0, .slice none 0 0, .slice none 0 0], .agg #[.int .i64 0, .slice none 0 0, .slice none 0 0]], []⟩ 8 (by kernel_rfl) (by kernel_rfl) (by kernel_rfl) (by kernel_rfl)) ?_
  intro W base args ds gs before hval0 hW hcnd hsz0 _
  have hval : ∀ (j : Nat) t v, Try.f9.params[j]? = some t → args[j]? = some v → Value.okWide Try.prog W .any base t v := hval0
  have hW' := hW
  obtain ⟨p, q, hA0, hV, rfl, hfz, hnd⟩ := hW
  have hA : DataW.TrodAll enc Try.prog W 0 (fun _ => true) true Try.f9.params.toList args.toList ds p := hA0
  rw [Try.params9] at hA hval
  obtain ⟨v0, vs0, d0, ds0, p0, q0, hargs, rfl, rfl, h0, r0⟩ := trodAll_cons hA
  obtain ⟨v1, vs1, d1, ds1, p1, q1, rfl, rfl, rfl, h1, r1⟩ := trodAll_cons r0
  obtain ⟨rfl, rfl, rfl⟩ := trodAll_nil r1
  obtain rfl : args = #[v0, v1] := by cases args; simp_all
  obtain ⟨rfl, rfl⟩ := trodVars_none hV
  have k0 := h0
  have lt0 : ∀ x ∈ p0, x.block < W.heap.size := by obtain ⟨m, hm⟩ := k0; exact DataW.trod_lt m _ _ _ hm
  obtain ⟨fu0, hf0⟩ := h0
  obtain ⟨cs0, rfl, hs0⟩ := okWide_struct Try.underlying34 (hval 0 34 v0 rfl rfl)
  obtain ⟨z0_0, z0_1, z0_2, rfl⟩ := arr3 (hs0.trans (by kernel_rfl))
  have g0 : DataW.trod enc Try.prog W 0 (fun _ => true) true fu0 34 [z0_0, z0_1, z0_2] = some (d0, p0) := trod_agg hf0
  obtain ⟨n0_1, y0_1, e0_1⟩ := struct_field Try.underlying34 g0 0 rfl (c := 1) (by kernel_rfl)
  have g0_1 : DataW.trod enc Try.prog W 0 (fun _ => true) true n0_1 3 [z0_0] = some y0_1 := e0_1
  obtain ⟨a0_0, rfl, hw0_0⟩ := leaf_int Try.underlying3 g0_1
  obtain ⟨n0_2, y0_2, e0_2⟩ := struct_field Try.underlying34 g0 1 rfl (c := 1) (by kernel_rfl)
  have g0_2 : DataW.trod enc Try.prog W 0 (fun _ => true) true n0_2 24 [z0_1] = some y0_2 := e0_2
  obtain ⟨A0_1, l0_1, c0_1, rfl, hr0_1, hc0_1, hm0_1, hw0_1⟩ := leaf_ints Try.underlying24 Try.underlying3 (by kernel_rfl) g0_2
  obtain ⟨n0_3, y0_3, e0_3⟩ := struct_field Try.underlying34 g0 2 rfl (c := 1) (by kernel_rfl)
  have g0_3 : DataW.trod enc Try.prog W 0 (fun _ => true) true n0_3 22 [z0_2] = some y0_3 := e0_3
  obtain ⟨A0_2, l0_2, c0_2, rfl, hr0_2, hc0_2, hm0_2, hw0_2⟩ := leaf_strs Try.underlying22 Try.underlying9 (by kernel_rfl) g0_3
  have k1 := h1
  have lt1 : ∀ x ∈ p1, x.block < W.heap.size := by obtain ⟨m, hm⟩ := k1; exact DataW.trod_lt m _ _ _ hm
  obtain ⟨fu1, hf1⟩ := h1
  obtain ⟨cs1, rfl, hs1⟩ := okWide_struct Try.underlying34 (hval 1 34 v1 rfl rfl)
  obtain ⟨z1_0, z1_1, z1_2, rfl⟩ := arr3 (hs1.trans (by kernel_rfl))
  have g1 : DataW.trod enc Try.prog W 0 (fun _ => true) true fu1 34 [z1_0, z1_1, z1_2] = some (d1, p1) := trod_agg hf1
  obtain ⟨n1_1, y1_1, e1_1⟩ := struct_field Try.underlying34 g1 0 rfl (c := 1) (by kernel_rfl)
  have g1_1 : DataW.trod enc Try.prog W 0 (fun _ => true) true n1_1 3 [z1_0] = some y1_1 := e1_1
  obtain ⟨a1_0, rfl, hw1_0⟩ := leaf_int Try.underlying3 g1_1
  obtain ⟨n1_2, y1_2, e1_2⟩ := struct_field Try.underlying34 g1 1 rfl (c := 1) (by kernel_rfl)
  have g1_2 : DataW.trod enc Try.prog W 0 (fun _ => true) true n1_2 24 [z1_1] = some y1_2 := e1_2
  obtain ⟨A1_1, l1_1, c1_1, rfl, hr1_1, hc1_1, hm1_1, hw1_1⟩ := leaf_ints Try.underlying24 Try.underlying3 (by kernel_rfl) g1_2
  obtain ⟨n1_3, y1_3, e1_3⟩ := struct_field Try.underlying34 g1 2 rfl (c := 1) (by kernel_rfl)
  have g1_3 : DataW.trod enc Try.prog W 0 (fun _ => true) true n1_3 22 [z1_2] = some y1_3 := e1_3
  obtain ⟨A1_2, l1_2, c1_2, rfl, hr1_2, hc1_2, hm1_2, hw1_2⟩ := leaf_strs Try.underlying22 Try.underlying9 (by kernel_rfl) g1_3
  refine (PM.laws_FnExactMergeFronts.walk Pure.FnExactMergeFronts a0_0 A0_1 c0_1 l0_1 A0_2 c0_2 l0_2 a1_0 A1_1 c1_1 l1_1 A1_2 c1_2 l1_2 W hw0_0 hr0_1 hc0_1 hm0_1 hw0_1 hr0_2 hc0_2 hm0_2 hw0_2 hw1_0 hr1_1 hc1_1 hm1_1 hw1_1 hr1_2 hc1_2 hm1_2 hw1_2).mono fun e W' ⟨he, bel⟩ => ?_
  subst he
  exact ⟨_, rfl, _, _, _, [], _, [], hW', trodAll_mk1 (shut_bool Try.underlying4 _), (trodAll_cons_mk (Below.trod laidOut (by kernel_rfl) (of_decide_eq_true (by kernel_rfl)) k0 bel lt0) (trodAll_cons_mk (Below.trod laidOut (by kernel_rfl) (of_decide_eq_true (by kernel_rfl)) k1 bel lt1) trodAll_mk0)), rfl, bel.frame _, fun h => by cases h⟩
theorem over : Rows.fnExactMergeFrontsRow.holds Try.pinned (OpenSpec.ofChange Rows.fnExactMergeFrontsSpec) :=
  OpenClaim.holds_of_wide 9 Try.f9 rfl rfl rfl rfl rfl rfl rfl ⟨rfl, rfl, rfl, rfl, rfl⟩ rfl rfl rfl rfl rfl (by kernel_rfl) Try.func9 (by kernel_rfl)
    (of_decide_eq_true (by kernel_rfl)) (by unfold Func.isWrapper; first | (rw [if_pos (by decide +kernel)]; kernel_rfl) | (rw [if_neg (by decide +kernel)]; exact ⟨rfl, rfl⟩))
    (fun os started H enc _ => lifted os started H enc)
theorem proved : Rows.FnExactMergeFrontsSaid := over
#print axioms proved
end Go.Proofs.Ytfedgkmklcialaa.fnExactMergeFronts
namespace Go.Proofs.Ytfedgkmklcialaa
theorem fnExactMergeFronts_holds : Rows.FnExactMergeFrontsSaid := fnExactMergeFronts.proved
end Go.Proofs.Ytfedgkmklcialaa
