/- Words on a map of bools that a call makes: a set of whole numbers. -/
import Derived.Test.YthkcgimnagpmaaaWWords
import Derived.Maps.Own
import Derived.Maps.OwnOps
import Derived.Maps.Views
import Derived.Maps.OwnSet
namespace Go.Proofs.YthkcgimnagpmaaaGp
open Go Go.Maps

theorem plainBool_inv {H : Type} {P : Program} {e : TypeId} (he : P.underlying e = some .bool) {v : Value} {z : DataW H × List MemPlace} (h : plainElem P e v = some z) : ∃ a, v = .bool a ∧ z = (.lit (.bool a), []) := by
  unfold plainElem at h
  rw [he] at h
  cases v <;> simp at h
  exact ⟨_, rfl, h.symm⟩
theorem lookB {H : Type} {P : Program} (w : World) {ops : Array Oper} {rest : List Oper} {o : Oper} {a : Act} {Q : Exit → Act → World → Prop}
    (hg : o.guard = none) (m x : Operand) (t : TypeId) (hop : o.op = Op.lookup t m x false)
    (k e : TypeId) (K : Keyed P k) (ht : P.underlying t = some (.map k e)) (he : P.underlying e = some .bool) (hz : (zeroValue e).run P w = .ok (.bool false) w) (b n : Nat) (D : DataW H)
    (hm : a.eval m = .map (some b)) (hown : w.ownsMap P k (plainElem P e) b n D) (key : Value) (kl : Lit) (hx : a.eval x = key) (hkey : keyOf P k key = some kl) (r : Bool)
    (hr : D.atKey kl (.lit (.bool false)) = .lit (.bool r))
    (hK : wpList P ops Q rest (a.put o.dst (.bool r)) w) :
    wpList P ops Q (o :: rest) a w := by
  refine wpList_plain hg fun K' hK' => ?_
  obtain ⟨v, ps, hrun, hv⟩ := hown.lookup K ht hz (plainElem_bool he false) hkey
  obtain ⟨c, rfl, hc⟩ := plainBool_inv he hv
  simp only [Prod.mk.injEq] at hc
  have hcr : c = r := by
    have := hc.1.symm.trans hr
    simpa using this
  subst hcr
  unfold Oper.wp
  simp [execOp, hop, hm, hx, hrun, Result.andThen]
  exact hK' _ _ hK
/-- How many different numbers there are. -/
def nubI : List Int → List Int
  | [] => []
  | x :: t => if t.contains x then nubI t else x :: nubI t
/-- A map of bools that holds just the numbers of a list. -/
def SetIs (q : IntKind) (D : DataW Unit) (S : List Int) : Prop :=
  Tidy D ∧ (∀ x : Int, D.atKey (.int q x) (.lit (.bool false)) = .lit (.bool (S.contains x))) ∧ (∀ x : Int, Maps.has D (.int q x) = S.contains x) ∧ Maps.size D = (nubI S).length
theorem SetIs.empty (q : IntKind) : SetIs q (.map []) [] := ⟨tidy_empty, fun _ => rfl, fun _ => rfl, rfl⟩
theorem SetIs.put {q : IntKind} {D : DataW Unit} {S : List Int} (h : SetIs q D S) (x : Int) : SetIs q (D.put (.int q x) (.lit (.bool true))) (x :: S) := by
  obtain ⟨h1, h2, h3, h4⟩ := h
  have hk : WideAt.IsKeyLit (.int q x) := by simp [WideAt.IsKeyLit]
  refine ⟨h1.put hk _, fun y => ?_, fun y => ?_, ?_⟩
  · by_cases c : y = x
    · subst c
      rw [atKey_put_same h1.isMap hk]
      simp
    · rw [atKey_put_other (by simpa using c), h2]
      simp [c]
  · by_cases c : y = x
    · subst c
      rw [has_put_same h1.isMap hk]
      simp
    · rw [has_put_other (by simpa using c), h3]
      simp [c]
  · rw [size_put h1, h3, h4]
    show _ = (if S.contains x then nubI S else x :: nubI S).length
    split <;> simp
end Go.Proofs.YthkcgimnagpmaaaGp
