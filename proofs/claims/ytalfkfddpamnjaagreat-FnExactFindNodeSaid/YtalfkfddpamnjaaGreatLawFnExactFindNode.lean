import Derived.Test.YtalfkfddpamnjaaGreatRows
import Derived.Test.YtalfkfddpamnjaaGreatCA0
import Derived.Test.YtalfkfddpamnjaaGreatCA1
import Derived.Test.YtalfkfddpamnjaaGreatCA2
import Derived.Test.YtalfkfddpamnjaaGreatCA3
import Derived.Test.YtalfkfddpamnjaaGreatCA4
import Derived.Test.YtalfkfddpamnjaaGreatCA5
import Derived.Test.YtalfkfddpamnjaaGreatCA6
import Derived.Test.YtalfkfddpamnjaaGreatCA7
import Derived.Test.YtalfkfddpamnjaaGreatCA8
import Derived.Test.YtalfkfddpamnjaaGreatCA9
import Derived.Test.YtalfkfddpamnjaaGreatCA10
import Derived.WalkKit
import Derived.ProofKit
import Derived.OpenShut
import Derived.ShutString
import Derived.ChangeOld
import Derived.Below
import Derived.SizedLaws
import Derived.Carry
/- The law 'FnExactFindNode' holds for every input, without condition: the row, out of its pure statement and the walk. -/
namespace Go.Proofs.YtalfkfddpamnjaaGreat.fnExactFindNode
open Go.ChangeShapes Go.WideShapes Go.ChangeAt Go.RowKit Go.Proofs.YtalfkfddpamnjaaGreatGp
open Go.ChangeMaps (open_string shut_string)
theorem own : ownKnob Tryz.prog.godebug = none := by kernel_rfl
theorem laidOut : laidOutB Tryz.prog = true := by kernel_rfl
set_option linter.unusedVariables false in
set_option maxRecDepth 100000 in
theorem lifted (os : Os) (started : os.Started) (H : Type) (enc : TypeId × Value → H) :
    ReturnsInHanded {} Tryz.checked os 3 .any (Rows.fnExactFindNodeSpec.pre6 enc Tryz.prog Tryz.f3 Rows.fnExactFindNodeRow.domain false) (Rows.fnExactFindNodeSpec.post enc Tryz.prog Tryz.f3 false true false false) := by
  refine returnsInHanded_of_change_sized (C := Tryz.checked) own started (by kernel_rfl) Tryz.func3
    (ChangeSpec.witness6 (enc := enc) (C := Tryz.checked) false ⟨#[], #[.agg #[.int .i64 0, .slice none 0 0, .int .i64 0, .slice none 0 0, .string ByteArray.empty], .string ByteArray.empty], []⟩ 8 (by kernel_rfl) (by kernel_rfl) (by kernel_rfl) (by kernel_rfl)) ?_
  intro W base args ds gs before hval0 hW hcnd hsz0 _
  have hval : ∀ (j : Nat) t v, Tryz.f3.params[j]? = some t → args[j]? = some v → Value.okWide Tryz.prog W .any base t v := hval0
  have hW' := hW
  obtain ⟨p, q, hA0, hV, rfl, hfz, hnd⟩ := hW
  have hA : DataW.TrodAll enc Tryz.prog W 0 (fun _ => true) true Tryz.f3.params.toList args.toList ds p := hA0
  rw [Tryz.params3] at hA hval
  obtain ⟨v0, vs0, d0, ds0, p0, q0, hargs, rfl, rfl, h0, r0⟩ := trodAll_cons hA
  obtain ⟨v1, vs1, d1, ds1, p1, q1, rfl, rfl, rfl, h1, r1⟩ := trodAll_cons r0
  obtain ⟨rfl, rfl, rfl⟩ := trodAll_nil r1
  obtain rfl : args = #[v0, v1] := by cases args; simp_all
  obtain ⟨rfl, rfl⟩ := trodVars_none hV
  have k0 := h0
  have lt0 : ∀ x ∈ p0, x.block < W.heap.size := by obtain ⟨m, hm⟩ := k0; exact DataW.trod_lt m _ _ _ hm
  obtain ⟨fu0, hf0⟩ := h0
  obtain ⟨cs0, rfl, hs0⟩ := okWide_struct Tryz.underlying26 (hval 0 26 v0 rfl rfl)
  obtain ⟨z0_0, z0_1, z0_2, z0_3, z0_4, rfl⟩ := arr5 (hs0.trans (by kernel_rfl))
  have g0 : DataW.trod enc Tryz.prog W 0 (fun _ => true) true fu0 26 [z0_0, z0_1, z0_2, z0_3, z0_4] = some (d0, p0) := trod_agg hf0
  obtain ⟨n0_1, y0_1, e0_1⟩ := struct_field Tryz.underlying26 g0 0 rfl (c := 2) (by kernel_rfl)
  have g0_1 : DataW.trod enc Tryz.prog W 0 (fun _ => true) true n0_1 24 [z0_0, z0_1] = some y0_1 := e0_1
  obtain ⟨n0_2, y0_2, e0_2⟩ := struct_field Tryz.underlying24 g0_1 0 rfl (c := 1) (by kernel_rfl)
  have g0_2 : DataW.trod enc Tryz.prog W 0 (fun _ => true) true n0_2 3 [z0_0] = some y0_2 := e0_2
  obtain ⟨a0_0, rfl, hw0_0⟩ := leaf_int Tryz.underlying3 g0_2
  obtain ⟨n0_3, y0_3, e0_3⟩ := struct_field Tryz.underlying24 g0_1 1 rfl (c := 1) (by kernel_rfl)
  have g0_3 : DataW.trod enc Tryz.prog W 0 (fun _ => true) true n0_3 22 [z0_1] = some y0_3 := e0_3
  obtain ⟨A0_1, l0_1, c0_1, rfl, hr0_1, hc0_1, hm0_1, hw0_1⟩ := leaf_ints Tryz.underlying22 Tryz.underlying3 (by kernel_rfl) g0_3
  obtain ⟨n0_4, y0_4, e0_4⟩ := struct_field Tryz.underlying26 g0 1 rfl (c := 2) (by kernel_rfl)
  have g0_4 : DataW.trod enc Tryz.prog W 0 (fun _ => true) true n0_4 24 [z0_2, z0_3] = some y0_4 := e0_4
  obtain ⟨n0_5, y0_5, e0_5⟩ := struct_field Tryz.underlying24 g0_4 0 rfl (c := 1) (by kernel_rfl)
  have g0_5 : DataW.trod enc Tryz.prog W 0 (fun _ => true) true n0_5 3 [z0_2] = some y0_5 := e0_5
  obtain ⟨a0_2, rfl, hw0_2⟩ := leaf_int Tryz.underlying3 g0_5
  obtain ⟨n0_6, y0_6, e0_6⟩ := struct_field Tryz.underlying24 g0_4 1 rfl (c := 1) (by kernel_rfl)
  have g0_6 : DataW.trod enc Tryz.prog W 0 (fun _ => true) true n0_6 22 [z0_3] = some y0_6 := e0_6
  obtain ⟨A0_3, l0_3, c0_3, rfl, hr0_3, hc0_3, hm0_3, hw0_3⟩ := leaf_ints Tryz.underlying22 Tryz.underlying3 (by kernel_rfl) g0_6
  obtain ⟨n0_7, y0_7, e0_7⟩ := struct_field Tryz.underlying26 g0 2 rfl (c := 1) (by kernel_rfl)
  have g0_7 : DataW.trod enc Tryz.prog W 0 (fun _ => true) true n0_7 9 [z0_4] = some y0_7 := e0_7
  obtain ⟨a0_4, rfl, hw0_4⟩ := leaf_str Tryz.underlying9 g0_7
  have k1 := h1
  have lt1 : ∀ x ∈ p1, x.block < W.heap.size := by obtain ⟨m, hm⟩ := k1; exact DataW.trod_lt m _ _ _ hm
  obtain ⟨fu1, hf1⟩ := h1
  obtain ⟨xs1, rfl⟩ := okWide_string Tryz.underlying9 (hval 1 9 v1 rfl rfl)
  have g1 : DataW.trod enc Tryz.prog W 0 (fun _ => true) true fu1 9 [.string xs1] = some (d1, p1) := hf1
  obtain ⟨a1, e1, hw1⟩ := leaf_str Tryz.underlying9 g1
  injection e1 with e1_; have e2_ := e1_.symm; clear e1_; subst e2_
  refine (PA.laws_FnExactFindNode.walk Pure.FnExactFindNode a0_0 A0_1 c0_1 l0_1 a0_2 A0_3 c0_3 l0_3 a0_4 a1 W hw0_0 hr0_1 hc0_1 hm0_1 hw0_1 hw0_2 hr0_3 hc0_3 hm0_3 hw0_3 hw0_4 hw1).mono fun e W' ⟨he, bel⟩ => ?_
  subst he
  exact ⟨_, rfl, _, _, _, [], _, [], hW', trodAll_mk1 (shut_bool Tryz.underlying4 _), (trodAll_cons_mk (Below.trod laidOut (by kernel_rfl) (of_decide_eq_true (by kernel_rfl)) k0 bel lt0) (trodAll_cons_mk (Below.trod laidOut (by kernel_rfl) (of_decide_eq_true (by kernel_rfl)) k1 bel lt1) trodAll_mk0)), rfl, bel.frame _, fun h => by cases h⟩
theorem over : Rows.fnExactFindNodeRow.holds Tryz.pinned (OpenSpec.ofChange Rows.fnExactFindNodeSpec) :=
  OpenClaim.holds_of_wide 3 Tryz.f3 rfl rfl rfl rfl rfl rfl rfl ⟨rfl, rfl, rfl, rfl, rfl⟩ rfl rfl rfl rfl rfl (by kernel_rfl) Tryz.func3 (by kernel_rfl)
    (of_decide_eq_true (by kernel_rfl)) (by unfold Func.isWrapper; first | (rw [if_pos (by decide +kernel)]; kernel_rfl) | (rw [if_neg (by decide +kernel)]; exact ⟨rfl, rfl⟩))
    (fun os started H enc _ => lifted os started H enc)
theorem proved : Rows.FnExactFindNodeSaid := over
#print axioms proved
end Go.Proofs.YtalfkfddpamnjaaGreat.fnExactFindNode
namespace Go.Proofs.YtalfkfddpamnjaaGreat
theorem fnExactFindNode_holds : Rows.FnExactFindNodeSaid := fnExactFindNode.proved
end Go.Proofs.YtalfkfddpamnjaaGreat
