import Derived.Test.YthkcgimnagpmaaaRows
import Derived.Test.YthkcgimnagpmaaaCP4
import Derived.WalkKit
import Derived.ProofKit
import Derived.OpenShut
import Derived.ShutString
import Derived.ChangeOld
import Derived.Below
import Derived.SizedLaws
import Derived.Carry
/- The law 'FnExactPrintFilterOf' holds for every input, without condition: the row, out of its pure statement and the walk. -/
namespace Go.Proofs.Ythkcgimnagpmaaa.fnExactPrintFilterOf
open Go.ChangeShapes Go.WideShapes Go.ChangeAt Go.RowKit Go.Proofs.YthkcgimnagpmaaaGp
open Go.ChangeMaps (open_string shut_string)
theorem own : ownKnob Try.prog.godebug = none := by kernel_rfl
theorem laidOut : laidOutB Try.prog = true := by kernel_rfl
set_option linter.unusedVariables false in
set_option maxRecDepth 100000 in
theorem lifted (os : Os) (started : os.Started) (H : Type) (enc : TypeId × Value → H) :
    ReturnsInHanded {} Try.checked os 11 .any (Rows.fnExactPrintFilterOfSpec.pre6 enc Try.prog Try.f11 Rows.fnExactPrintFilterOfRow.domain false) (Rows.fnExactPrintFilterOfSpec.post enc Try.prog Try.f11 false true false false) := by
  refine returnsInHanded_of_change_sized (C := Try.checked) own started (by kernel_rfl) Try.func11
    (ChangeSpec.witness6 (enc := enc) (C := Try.checked) false ⟨#[], #[.int .i64 0, .slice none 0 0, .int .i64 0, .int .i64 0], []⟩ 8 (by kernel_rfl) (by kernel_rfl) (by kernel_rfl) (by kernel_rfl)) ?_
  intro W base args ds gs before hval0 hW hcnd hsz0 _
  have hval : ∀ (j : Nat) t v, Try.f11.params[j]? = some t → args[j]? = some v → Value.okWide Try.prog W .any base t v := hval0
  have hW' := hW
  obtain ⟨p, q, hA0, hV, rfl, hfz, hnd⟩ := hW
  have hA : DataW.TrodAll enc Try.prog W 0 (fun _ => true) true Try.f11.params.toList args.toList ds p := hA0
  rw [Try.params11] at hA hval
  obtain ⟨v0, vs0, d0, ds0, p0, q0, hargs, rfl, rfl, h0, r0⟩ := trodAll_cons hA
  obtain ⟨v1, vs1, d1, ds1, p1, q1, rfl, rfl, rfl, h1, r1⟩ := trodAll_cons r0
  obtain ⟨v2, vs2, d2, ds2, p2, q2, rfl, rfl, rfl, h2, r2⟩ := trodAll_cons r1
  obtain ⟨v3, vs3, d3, ds3, p3, q3, rfl, rfl, rfl, h3, r3⟩ := trodAll_cons r2
  obtain ⟨rfl, rfl, rfl⟩ := trodAll_nil r3
  obtain rfl : args = #[v0, v1, v2, v3] := by cases args; simp_all
  obtain ⟨rfl, rfl⟩ := trodVars_none hV
  have k0 := h0
  have lt0 : ∀ x ∈ p0, x.block < W.heap.size := by obtain ⟨m, hm⟩ := k0; exact DataW.trod_lt m _ _ _ hm
  obtain ⟨fu0, hf0⟩ := h0
  obtain ⟨xi0, rfl⟩ := okWide_int Try.underlying3 (hval 0 3 v0 rfl rfl)
  have g0 : DataW.trod enc Try.prog W 0 (fun _ => true) true fu0 3 [.int .i64 xi0] = some (d0, p0) := hf0
  obtain ⟨a0, e0, hw0⟩ := leaf_int Try.underlying3 g0
  injection e0 with _ e1_; have e2_ := e1_.symm; clear e1_; subst e2_
  have k1 := h1
  have lt1 : ∀ x ∈ p1, x.block < W.heap.size := by obtain ⟨m, hm⟩ := k1; exact DataW.trod_lt m _ _ _ hm
  obtain ⟨fu1, hf1⟩ := h1
  obtain ⟨xa1, xl1, xc1, rfl⟩ := okWide_slice Try.underlying24 (hval 1 24 v1 rfl rfl)
  have g1 : DataW.trod enc Try.prog W 0 (fun _ => true) true fu1 24 [.slice xa1 xl1 xc1] = some (d1, p1) := hf1
  obtain ⟨A1, l1, c1, e1, hr1, hc1, hm1, hw1⟩ := leaf_strs Try.underlying24 Try.underlying9 (by kernel_rfl) g1
  injection e1 with e1_ e2_ e3_; have e4_ := e1_.symm; have e5_ := e3_.symm; clear e1_ e3_; subst e4_; subst e5_; subst e2_
  have k2 := h2
  have lt2 : ∀ x ∈ p2, x.block < W.heap.size := by obtain ⟨m, hm⟩ := k2; exact DataW.trod_lt m _ _ _ hm
  obtain ⟨fu2, hf2⟩ := h2
  obtain ⟨xi2, rfl⟩ := okWide_int Try.underlying3 (hval 2 3 v2 rfl rfl)
  have g2 : DataW.trod enc Try.prog W 0 (fun _ => true) true fu2 3 [.int .i64 xi2] = some (d2, p2) := hf2
  obtain ⟨a2, e2, hw2⟩ := leaf_int Try.underlying3 g2
  injection e2 with _ e1_; have e2_ := e1_.symm; clear e1_; subst e2_
  have k3 := h3
  have lt3 : ∀ x ∈ p3, x.block < W.heap.size := by obtain ⟨m, hm⟩ := k3; exact DataW.trod_lt m _ _ _ hm
  obtain ⟨fu3, hf3⟩ := h3
  obtain ⟨xi3, rfl⟩ := okWide_int Try.underlying3 (hval 3 3 v3 rfl rfl)
  have g3 : DataW.trod enc Try.prog W 0 (fun _ => true) true fu3 3 [.int .i64 xi3] = some (d3, p3) := hf3
  obtain ⟨a3, e3, hw3⟩ := leaf_int Try.underlying3 g3
  injection e3 with _ e1_; have e2_ := e1_.symm; clear e1_; subst e2_
  refine (PP.laws_FnExactPrintFilterOf.walk Pure.FnExactPrintFilterOf a0 A1 c1 l1 a2 a3 W hw0 hr1 hc1 hm1 hw1 hw2 hw3).mono fun e W' ⟨he, bel⟩ => ?_
  subst he
  exact ⟨_, rfl, _, _, _, [], _, [], hW', trodAll_mk1 (shut_bool Try.underlying4 _), (trodAll_cons_mk (Below.trod laidOut (by kernel_rfl) (of_decide_eq_true (by kernel_rfl)) k0 bel lt0) (trodAll_cons_mk (Below.trod laidOut (by kernel_rfl) (of_decide_eq_true (by kernel_rfl)) k1 bel lt1) (trodAll_cons_mk (Below.trod laidOut (by kernel_rfl) (of_decide_eq_true (by kernel_rfl)) k2 bel lt2) (trodAll_cons_mk (Below.trod laidOut (by kernel_rfl) (of_decide_eq_true (by kernel_rfl)) k3 bel lt3) trodAll_mk0)))), rfl, bel.frame _, fun h => by cases h⟩
theorem over : Rows.fnExactPrintFilterOfRow.holds Try.pinned (OpenSpec.ofChange Rows.fnExactPrintFilterOfSpec) :=
  OpenClaim.holds_of_wide 11 Try.f11 rfl rfl rfl rfl rfl rfl rfl ⟨rfl, rfl, rfl, rfl, rfl⟩ rfl rfl rfl rfl rfl (by kernel_rfl) Try.func11 (by kernel_rfl)
    (of_decide_eq_true (by kernel_rfl)) (by unfold Func.isWrapper; first | (rw [if_pos (by decide +kernel)]; kernel_rfl) | (rw [if_neg (by decide +kernel)]; exact ⟨rfl, rfl⟩))
    (fun os started H enc _ => lifted os started H enc)
theorem proved : Rows.FnExactPrintFilterOfSaid := over
#print axioms proved
end Go.Proofs.Ythkcgimnagpmaaa.fnExactPrintFilterOf
namespace Go.Proofs.Ythkcgimnagpmaaa
theorem fnExactPrintFilterOf_holds : Rows.FnExactPrintFilterOfSaid := fnExactPrintFilterOf.proved
end Go.Proofs.Ythkcgimnagpmaaa
