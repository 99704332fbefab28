/- Ranks in a front. -/
import Derived.Test.YtfedgkmklcialaaPAx12
import Derived.Test.YtfedgkmklcialaaQ7
import Derived.Test.YtfedgkmklcialaaQ11
namespace Go.Proofs.YtfedgkmklcialaaQ
open Go Go.RowKit Go.Proofs.YtfedgkmklcialaaW.PrintWords Go.Proofs.YtfedgkmklcialaaGp Go.Proofs.Ytfedgkmklcialaa.PA

def rankR (p : List ByteArray × Bool) (s : ByteArray) : Int × Bool := if p.2 = true then ((rankS p.1 s : Int), true) else (0, false)
theorem spec_FrontRank_f (b : Int) (ks : List Int) (ts : List ByteArray) (s : ByteArray) : Ev (fun k => spec_FrontRank.f k b ks ts s) (rankR (frontKeys b ks ts) s) := by
  unfold spec_FrontRank.f rankR
  refine ev_bind _ (spec_trFronted_f b ks ts) ?_
  by_cases c : (frontKeys b ks ts).2 = true
  · have hl := frontKeys_len c
    refine ev_pos c (ev_bind _ (spec_trRank_f _ s (by omega)) (ev_some ?_))
    rw [if_pos c]
  · exact ev_neg c (ev_some (by rw [if_neg c]))
theorem impl_FrontRank_f (b : Int) (ks : List Int) (ts : List ByteArray) (s : ByteArray) : Ev (fun k => impl_FrontRank.f k b ks ts s) (rankR (frontKeys b ks ts) s) := by
  unfold impl_FrontRank.f rankR
  refine ev_bind _ (impl_Front_keys_f b ks ts) ?_
  by_cases c : (frontKeys b ks ts).2 = true
  · have hl := frontKeys_len c
    obtain ⟨f, hf⟩ := search_f (frontKeys b ks ts).1 s (by omega) (incS_of_from _ _ (areKeysB_from (frontKeys_true c)))
    refine ev_pos c (ev_bind _ hf (ev_some ?_))
    rw [if_pos c]
  · exact ev_neg c (ev_some (by rw [if_neg c]))
end Go.Proofs.YtfedgkmklcialaaQ
