/- A key of a front by its index. -/
import Derived.Test.YtfedgkmklcialaaPAx9
import Derived.Test.YtfedgkmklcialaaQ7
namespace Go.Proofs.YtfedgkmklcialaaQ
open Go Go.RowKit Go.Proofs.YtfedgkmklcialaaW.PrintWords Go.Proofs.YtfedgkmklcialaaGp Go.Proofs.Ytfedgkmklcialaa.PA

/-! ### a key by its index -/
def keyAtR (p : List ByteArray × Bool) (a : Int) : ByteArray × Bool := if p.2 = true ∧ 0 ≤ a ∧ a ≤ (p.1.length : Int) - 1 then (rdOf ByteArray.empty p.1 a, true) else (⟨#[]⟩, false)
theorem spec_FrontKey_f (b : Int) (ks : List Int) (ts : List ByteArray) (a : Int) : Ev (fun k => spec_FrontKey.f k b ks ts a) (keyAtR (frontKeys b ks ts) a) := by
  unfold spec_FrontKey.f keyAtR
  refine ev_bind _ (spec_trFronted_f b ks ts) ?_
  by_cases c : (frontKeys b ks ts).2 = true
  · have hl := frontKeys_len c
    refine ev_pos c ?_
    rw [show wrap64 (((frontKeys b ks ts).1.length : Int) - 1) = ((frontKeys b ks ts).1.length : Int) - 1 from w64 (by omega) (by omega)]
    simp only [spec_in, Option.bind_some]
    by_cases c2 : 0 ≤ a ∧ a ≤ ((frontKeys b ks ts).1.length : Int) - 1
    · refine ev_pos (by simpa using c2) (ev_pos c2.1 (ev_pos (by omega) (ev_some ?_)))
      rw [if_pos ⟨c, c2⟩]
    · refine ev_neg (by simpa using c2) (ev_some ?_)
      rw [if_neg (fun h => c2 h.2)]
  · refine ev_neg c (ev_some ?_)
    rw [if_neg (fun h => c h.1)]
theorem impl_FrontKey_f (b : Int) (ks : List Int) (ts : List ByteArray) (a : Int) : Ev (fun k => impl_FrontKey.f k b ks ts a) (keyAtR (frontKeys b ks ts) a) := by
  unfold impl_FrontKey.f keyAtR
  refine ev_bind _ (impl_Front_keys_f b ks ts) ?_
  by_cases c : (frontKeys b ks ts).2 = true
  · have hl := frontKeys_len c
    refine ev_pos c ?_
    rw [show wrap64 (((frontKeys b ks ts).1.length : Int) - 1) = ((frontKeys b ks ts).1.length : Int) - 1 from w64 (by omega) (by omega)]
    simp only [impl_in, Option.bind_some]
    by_cases c2 : 0 ≤ a ∧ a ≤ ((frontKeys b ks ts).1.length : Int) - 1
    · refine ev_pos (by simpa using c2) (ev_pos c2.1 (ev_pos (by omega) (ev_some ?_)))
      rw [if_pos ⟨c, c2⟩]
    · refine ev_neg (by simpa using c2) (ev_some ?_)
      rw [if_neg (fun h => c2 h.2)]
  · refine ev_neg c (ev_some ?_)
    rw [if_neg (fun h => c h.1)]
end Go.Proofs.YtfedgkmklcialaaQ
