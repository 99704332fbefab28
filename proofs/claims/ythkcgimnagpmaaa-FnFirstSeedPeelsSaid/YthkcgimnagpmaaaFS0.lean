/- The first number of a span; no program. -/
import Derived.Test.YthkcgimnagpmaaaQ0
namespace Go.Proofs.YthkcgimnagpmaaaQ
open Go Go.RowKit

/-! ### the first seed -/
def firstF (f : Int → Bool) : Nat → Int → Int × Bool
  | 0, _ => (0, false)
  | d + 1, x => if f x = true then (x, true) else firstF f d (x + 1)
theorem firstF_yes (f : Int → Bool) : ∀ (d : Nat) (x r : Int), firstF f d x = (r, true) → x ≤ r ∧ r < x + (d : Int) ∧ f r = true ∧ ∀ y, x ≤ y → y < r → f y = false
  | 0, x, r, h => by simp [firstF] at h
  | d + 1, x, r, h => by
    unfold firstF at h
    by_cases c : f x = true
    · rw [if_pos c] at h
      simp only [Prod.mk.injEq, and_true] at h
      subst h
      exact ⟨by omega, by omega, c, fun y h1 h2 => by omega⟩
    · rw [if_neg c] at h
      obtain ⟨h1, h2, h3, h4⟩ := firstF_yes f d (x + 1) r h
      refine ⟨by omega, by omega, h3, fun y h5 h6 => ?_⟩
      by_cases e : y = x
      · rw [e]; simpa using c
      · exact h4 y (by omega) h6
def spanB (a b : Int) : Bool := decide (0 ≤ a ∧ a ≤ b ∧ b ≤ 10000 ∧ b ≤ a + 100)
def firstV (f : Int → Bool) (a b : Int) : Int × Bool := if spanB a b = true then firstF f (b - a).toNat a else (0, false)
theorem firstV_yes {f : Int → Bool} {a b r : Int} (h : firstV f a b = (r, true)) : 0 ≤ a ∧ a ≤ r ∧ r < b ∧ b ≤ 10000 ∧ f r = true ∧ ∀ y, a ≤ y → y < r → f y = false := by
  unfold firstV at h
  split at h
  · rename_i c
    simp only [spanB, decide_eq_true_eq] at c
    obtain ⟨h1, h2, h3, h4⟩ := firstF_yes f _ a r h
    exact ⟨by omega, h1, by omega, by omega, h3, h4⟩
  · cases h
end Go.Proofs.YthkcgimnagpmaaaQ
