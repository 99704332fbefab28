import Derived.Test.YtalfkfddpamnjaaRows
import Derived.Test.YtalfkfddpamnjaaCB0
import Derived.Test.YtalfkfddpamnjaaCB1
import Derived.Test.YtalfkfddpamnjaaCB2
import Derived.Test.YtalfkfddpamnjaaCB3
import Derived.Test.YtalfkfddpamnjaaCB4
import Derived.Test.YtalfkfddpamnjaaCB5
import Derived.Test.YtalfkfddpamnjaaCB6
import Derived.Test.YtalfkfddpamnjaaCB7
import Derived.Test.YtalfkfddpamnjaaCB8
import Derived.WalkKit
import Derived.ProofKit
import Derived.OpenShut
import Derived.ShutString
import Derived.ChangeOld
import Derived.Below
import Derived.SizedLaws
import Derived.Carry
/- The law 'FnExactBuildTrie' holds for every input, without condition: the row, out of its pure statement and the walk. -/
namespace Go.Proofs.Ytalfkfddpamnjaa.fnExactBuildTrie
open Go.ChangeShapes Go.WideShapes Go.ChangeAt Go.RowKit Go.Proofs.YtalfkfddpamnjaaGp
open Go.ChangeMaps (open_string shut_string)
theorem own : ownKnob Try.prog.godebug = none := by kernel_rfl
theorem laidOut : laidOutB Try.prog = true := by kernel_rfl
set_option linter.unusedVariables false in
set_option maxRecDepth 100000 in
theorem lifted (os : Os) (started : os.Started) (H : Type) (enc : TypeId × Value → H) :
    ReturnsInHanded {} Try.checked os 6 .any (Rows.fnExactBuildTrieSpec.pre6 enc Try.prog Try.f6 Rows.fnExactBuildTrieRow.domain false) (Rows.fnExactBuildTrieSpec.post enc Try.prog Try.f6 false true false false) := by
  refine returnsInHanded_of_change_sized (C := Try.checked) own started (by kernel_rfl) Try.func6
    (ChangeSpec.witness6 (enc := enc) (C := Try.checked) false ⟨#[], #[.slice none 0 0], []⟩ 8 (by kernel_rfl) (by kernel_rfl) (by kernel_rfl) (by kernel_rfl)) ?_
  intro W base args ds gs before hval0 hW hcnd hsz0 _
  have hval : ∀ (j : Nat) t v, Try.f6.params[j]? = some t → args[j]? = some v → Value.okWide Try.prog W .any base t v := hval0
  have hW' := hW
  obtain ⟨p, q, hA0, hV, rfl, hfz, hnd⟩ := hW
  have hA : DataW.TrodAll enc Try.prog W 0 (fun _ => true) true Try.f6.params.toList args.toList ds p := hA0
  rw [Try.params6] at hA hval
  obtain ⟨v0, vs0, d0, ds0, p0, q0, hargs, rfl, rfl, h0, r0⟩ := trodAll_cons hA
  obtain ⟨rfl, rfl, rfl⟩ := trodAll_nil r0
  obtain rfl : args = #[v0] := by cases args; simp_all
  obtain ⟨rfl, rfl⟩ := trodVars_none hV
  have k0 := h0
  have lt0 : ∀ x ∈ p0, x.block < W.heap.size := by obtain ⟨m, hm⟩ := k0; exact DataW.trod_lt m _ _ _ hm
  obtain ⟨fu0, hf0⟩ := h0
  obtain ⟨xa0, xl0, xc0, rfl⟩ := okWide_slice Try.underlying38 (hval 0 38 v0 rfl rfl)
  have g0 : DataW.trod enc Try.prog W 0 (fun _ => true) true fu0 38 [.slice xa0 xl0 xc0] = some (d0, p0) := hf0
  obtain ⟨A0, l0, c0, e0, hr0, hc0, hm0, hw0⟩ := leaf_strs Try.underlying38 Try.underlying9 (by kernel_rfl) g0
  injection e0 with e1_ e2_ e3_; have e4_ := e1_.symm; have e5_ := e3_.symm; clear e1_ e3_; subst e4_; subst e5_; subst e2_
  refine (PA.laws_FnExactBuildTrie.walk Pure.FnExactBuildTrie A0 c0 l0 W hr0 hc0 hm0 hw0).mono fun e W' ⟨he, bel⟩ => ?_
  subst he
  exact ⟨_, rfl, _, _, _, [], _, [], hW', trodAll_mk1 (shut_bool Try.underlying4 _), (trodAll_cons_mk (Below.trod laidOut (by kernel_rfl) (of_decide_eq_true (by kernel_rfl)) k0 bel lt0) trodAll_mk0), rfl, bel.frame _, fun h => by cases h⟩
theorem over : Rows.fnExactBuildTrieRow.holds Try.pinned (OpenSpec.ofChange Rows.fnExactBuildTrieSpec) :=
  OpenClaim.holds_of_wide 6 Try.f6 rfl rfl rfl rfl rfl rfl rfl ⟨rfl, rfl, rfl, rfl, rfl⟩ rfl rfl rfl rfl rfl (by kernel_rfl) Try.func6 (by kernel_rfl)
    (of_decide_eq_true (by kernel_rfl)) (by unfold Func.isWrapper; first | (rw [if_pos (by decide +kernel)]; kernel_rfl) | (rw [if_neg (by decide +kernel)]; exact ⟨rfl, rfl⟩))
    (fun os started H enc _ => lifted os started H enc)
theorem proved : Rows.FnExactBuildTrieSaid := over
#print axioms proved
end Go.Proofs.Ytalfkfddpamnjaa.fnExactBuildTrie
namespace Go.Proofs.Ytalfkfddpamnjaa
theorem fnExactBuildTrie_holds : Rows.FnExactBuildTrieSaid := fnExactBuildTrie.proved
end Go.Proofs.Ytalfkfddpamnjaa
