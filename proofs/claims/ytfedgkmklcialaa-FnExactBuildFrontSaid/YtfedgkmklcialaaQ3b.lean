/- BuildFront, in the program and in the reference. -/
import Derived.Test.YtfedgkmklcialaaPAx3
import Derived.Test.YtfedgkmklcialaaQ3
namespace Go.Proofs.YtfedgkmklcialaaQ
open Go Go.RowKit Go.Proofs.YtfedgkmklcialaaW.PrintWords Go.Proofs.YtfedgkmklcialaaGp Go.Proofs.Ytfedgkmklcialaa.PA

/-! ### BuildFront -/
def buildFrontL (l : List ByteArray) (b : Int) : Int × List Int × List ByteArray × Bool := if areKeysB l && blockOk b then (b, keepsL b l, tailsL b l, true) else (0, [], [], false)
theorem spec_BuildFront_f (l : List ByteArray) (b : Int) (hl : (l.length : Int) ≤ 9223372036854775806) (hs : ∀ s ∈ l, (s.size : Int) ≤ 9223372036854775806) : Ev (fun k => spec_BuildFront.f k l b) (buildFrontL l b) := by
  unfold spec_BuildFront.f buildFrontL
  refine ev_bind _ (spec_biKeys_f l hl hs) ?_
  cases hk : areKeysB l with
  | false => exact ev_neg (by simp) (ev_some (by simp))
  | true =>
    refine ev_pos rfl ?_
    simp only [spec_in, Option.bind_some]
    by_cases c : 1 ≤ b ∧ b ≤ 16
    · have e : blockOk b = true := by simpa [blockOk] using c
      refine ev_pos (by simpa using c) (ev_bind _ (spec_trFront_f l b (by omega) (by have := areKeysB_len hk; omega) hs) (ev_some ?_))
      simp [e]
    · have e : blockOk b = false := by simpa [blockOk] using c
      exact ev_neg (by simpa using c) (ev_some (by simp [e]))
theorem impl_BuildFront_f (l : List ByteArray) (b : Int) (hl : (l.length : Int) ≤ 9223372036854775806) (hs : ∀ s ∈ l, (s.size : Int) ≤ 9223372036854775806) : Ev (fun k => impl_BuildFront.f k l b) (buildFrontL l b) := by
  unfold impl_BuildFront.f buildFrontL
  refine ev_bind _ (impl_AreKeys_f l hl hs) ?_
  cases hk : areKeysB l with
  | false => exact ev_neg (by simp) (ev_some (by simp))
  | true =>
    refine ev_pos rfl ?_
    simp only [impl_in, Option.bind_some]
    by_cases c : 1 ≤ b ∧ b ≤ 16
    · have e : blockOk b = true := by simpa [blockOk] using c
      refine ev_pos (by simpa using c) (ev_bind _ (impl_front_f l b (by omega) (by have := areKeysB_len hk; omega) hs) (ev_some ?_))
      simp [e]
    · have e : blockOk b = false := by simpa [blockOk] using c
      exact ev_neg (by simpa using c) (ev_some (by simp [e]))
theorem buildFrontL_small (l : List ByteArray) (b : Int) : (buildFrontL l b).2.1.length ≤ 40 ∧ (buildFrontL l b).2.2.1.length ≤ 40 := by
  unfold buildFrontL
  split
  · rename_i h
    have := areKeysB_len (Bool.and_eq_true _ _ ▸ h : areKeysB l = true ∧ _).1
    simp only [keepsL_len, tailsL_len]
    exact ⟨this, this⟩
  · simp
end Go.Proofs.YtfedgkmklcialaaQ
