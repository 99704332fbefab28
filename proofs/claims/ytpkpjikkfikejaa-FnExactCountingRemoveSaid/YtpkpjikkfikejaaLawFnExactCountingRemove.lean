import Derived.Test.YtpkpjikkfikejaaRows
import Derived.Test.YtpkpjikkfikejaaCR3
import Derived.WalkKit
import Derived.ProofKit
import Derived.OpenShut
import Derived.ShutString
import Derived.ChangeOld
import Derived.Below
import Derived.SizedLaws
import Derived.Carry
/- The law 'FnExactCountingRemove' holds for every input, without condition: the row, out of its pure statement and the walk. -/
namespace Go.Proofs.Ytpkpjikkfikejaa.fnExactCountingRemove
open Go.ChangeShapes Go.WideShapes Go.ChangeAt Go.RowKit Go.Proofs.YtpkpjikkfikejaaGp
open Go.ChangeMaps (open_string shut_string)
theorem own : ownKnob Try.prog.godebug = none := by kernel_rfl
theorem laidOut : laidOutB Try.prog = true := by kernel_rfl
set_option linter.unusedVariables false in
set_option maxRecDepth 100000 in
theorem lifted (os : Os) (started : os.Started) (H : Type) (enc : TypeId × Value → H) :
    ReturnsInHanded {} Try.checked os 6 .any (Rows.fnExactCountingRemoveSpec.pre6 enc Try.prog Try.f6 Rows.fnExactCountingRemoveRow.domain false) (Rows.fnExactCountingRemoveSpec.post enc Try.prog Try.f6 false true false false) := by
  refine returnsInHanded_of_change_sized (C := Try.checked) own started (by kernel_rfl) Try.func6
    (ChangeSpec.witness6 (enc := enc) (C := Try.checked) false ⟨#[], #[.agg #[.int .i64 0, .int .i64 0, .slice none 0 0], .string ByteArray.empty], []⟩ 8 (by kernel_rfl) (by kernel_rfl) (by kernel_rfl) (by kernel_rfl)) ?_
  intro W base args ds gs before hval0 hW hcnd hsz0 _
  have hval : ∀ (j : Nat) t v, Try.f6.params[j]? = some t → args[j]? = some v → Value.okWide Try.prog W .any base t v := hval0
  have hW' := hW
  obtain ⟨p, q, hA0, hV, rfl, hfz, hnd⟩ := hW
  have hA : DataW.TrodAll enc Try.prog W 0 (fun _ => true) true Try.f6.params.toList args.toList ds p := hA0
  rw [Try.params6] at hA hval
  obtain ⟨v0, vs0, d0, ds0, p0, q0, hargs, rfl, rfl, h0, r0⟩ := trodAll_cons hA
  obtain ⟨v1, vs1, d1, ds1, p1, q1, rfl, rfl, rfl, h1, r1⟩ := trodAll_cons r0
  obtain ⟨rfl, rfl, rfl⟩ := trodAll_nil r1
  obtain rfl : args = #[v0, v1] := by cases args; simp_all
  obtain ⟨rfl, rfl⟩ := trodVars_none hV
  have k0 := h0
  have lt0 : ∀ x ∈ p0, x.block < W.heap.size := by obtain ⟨m, hm⟩ := k0; exact DataW.trod_lt m _ _ _ hm
  obtain ⟨fu0, hf0⟩ := h0
  obtain ⟨cs0, rfl, hs0⟩ := okWide_struct Try.underlying47 (hval 0 47 v0 rfl rfl)
  obtain ⟨z0_0, z0_1, z0_2, rfl⟩ := arr3 (hs0.trans (by kernel_rfl))
  have g0 : DataW.trod enc Try.prog W 0 (fun _ => true) true fu0 47 [z0_0, z0_1, z0_2] = some (d0, p0) := trod_agg hf0
  obtain ⟨n0_1, y0_1, e0_1⟩ := struct_field Try.underlying47 g0 0 rfl (c := 1) (by kernel_rfl)
  have g0_1 : DataW.trod enc Try.prog W 0 (fun _ => true) true n0_1 3 [z0_0] = some y0_1 := e0_1
  obtain ⟨a0_0, rfl, hw0_0⟩ := leaf_int Try.underlying3 g0_1
  obtain ⟨n0_2, y0_2, e0_2⟩ := struct_field Try.underlying47 g0 1 rfl (c := 1) (by kernel_rfl)
  have g0_2 : DataW.trod enc Try.prog W 0 (fun _ => true) true n0_2 3 [z0_1] = some y0_2 := e0_2
  obtain ⟨a0_1, rfl, hw0_1⟩ := leaf_int Try.underlying3 g0_2
  obtain ⟨n0_3, y0_3, e0_3⟩ := struct_field Try.underlying47 g0 2 rfl (c := 1) (by kernel_rfl)
  have g0_3 : DataW.trod enc Try.prog W 0 (fun _ => true) true n0_3 24 [z0_2] = some y0_3 := e0_3
  obtain ⟨A0_2, l0_2, c0_2, rfl, hr0_2, hc0_2, hm0_2, hw0_2⟩ := leaf_ints Try.underlying24 Try.underlying3 (by kernel_rfl) g0_3
  have k1 := h1
  have lt1 : ∀ x ∈ p1, x.block < W.heap.size := by obtain ⟨m, hm⟩ := k1; exact DataW.trod_lt m _ _ _ hm
  obtain ⟨fu1, hf1⟩ := h1
  obtain ⟨xs1, rfl⟩ := okWide_string Try.underlying9 (hval 1 9 v1 rfl rfl)
  have g1 : DataW.trod enc Try.prog W 0 (fun _ => true) true fu1 9 [.string xs1] = some (d1, p1) := hf1
  obtain ⟨a1, e1, hw1⟩ := leaf_str Try.underlying9 g1
  injection e1 with e1_; have e2_ := e1_.symm; clear e1_; subst e2_
  refine (PC.laws_FnExactCountingRemove.walk Pure.FnExactCountingRemove a0_0 a0_1 A0_2 c0_2 l0_2 a1 W hw0_0 hw0_1 hr0_2 hc0_2 hm0_2 hw0_2 hw1).mono fun e W' ⟨he, bel⟩ => ?_
  subst he
  exact ⟨_, rfl, _, _, _, [], _, [], hW', trodAll_mk1 (shut_bool Try.underlying4 _), (trodAll_cons_mk (Below.trod laidOut (by kernel_rfl) (of_decide_eq_true (by kernel_rfl)) k0 bel lt0) (trodAll_cons_mk (Below.trod laidOut (by kernel_rfl) (of_decide_eq_true (by kernel_rfl)) k1 bel lt1) trodAll_mk0)), rfl, bel.frame _, fun h => by cases h⟩
theorem over : Rows.fnExactCountingRemoveRow.holds Try.pinned (OpenSpec.ofChange Rows.fnExactCountingRemoveSpec) :=
  OpenClaim.holds_of_wide 6 Try.f6 rfl rfl rfl rfl rfl rfl rfl ⟨rfl, rfl, rfl, rfl, rfl⟩ rfl rfl rfl rfl rfl (by kernel_rfl) Try.func6 (by kernel_rfl)
    (of_decide_eq_true (by kernel_rfl)) (by unfold Func.isWrapper; first | (rw [if_pos (by decide +kernel)]; kernel_rfl) | (rw [if_neg (by decide +kernel)]; exact ⟨rfl, rfl⟩))
    (fun os started H enc _ => lifted os started H enc)
theorem proved : Rows.FnExactCountingRemoveSaid := over
#print axioms proved
end Go.Proofs.Ytpkpjikkfikejaa.fnExactCountingRemove
namespace Go.Proofs.Ytpkpjikkfikejaa
theorem fnExactCountingRemove_holds : Rows.FnExactCountingRemoveSaid := fnExactCountingRemove.proved
end Go.Proofs.Ytpkpjikkfikejaa
