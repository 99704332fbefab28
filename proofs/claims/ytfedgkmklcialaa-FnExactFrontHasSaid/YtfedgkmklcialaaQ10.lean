/- Keys by name in a front. -/
import Derived.Test.YtfedgkmklcialaaPAx11
import Derived.Test.YtfedgkmklcialaaQ7
import Derived.Test.YtfedgkmklcialaaQ9
namespace Go.Proofs.YtfedgkmklcialaaQ
open Go Go.RowKit Go.Proofs.YtfedgkmklcialaaW.PrintWords Go.Proofs.YtfedgkmklcialaaGp Go.Proofs.Ytfedgkmklcialaa.PA

def hasR (p : List ByteArray × Bool) (s : ByteArray) : Bool × Bool := if p.2 = true then (hasS p.1 s, true) else (false, false)
theorem spec_FrontHas_f (b : Int) (ks : List Int) (ts : List ByteArray) (s : ByteArray) : Ev (fun k => spec_FrontHas.f k b ks ts s) (hasR (frontKeys b ks ts) s) := by
  unfold spec_FrontHas.f hasR
  refine ev_bind _ (spec_trFronted_f b ks ts) ?_
  by_cases c : (frontKeys b ks ts).2 = true
  · have hl := frontKeys_len c
    refine ev_pos c (ev_bind _ (spec_l1HasS_f _ s (by omega)) (ev_some ?_))
    rw [if_pos c]
  · exact ev_neg c (ev_some (by rw [if_neg c]))
theorem impl_FrontHas_f (b : Int) (ks : List Int) (ts : List ByteArray) (s : ByteArray) : Ev (fun k => impl_FrontHas.f k b ks ts s) (hasR (frontKeys b ks ts) s) := by
  unfold impl_FrontHas.f hasR
  refine ev_bind _ (impl_Front_keys_f b ks ts) ?_
  by_cases c : (frontKeys b ks ts).2 = true
  · have hl := frontKeys_len c
    refine ev_pos c (ev_bind _ (slices_Contains_string_string_f _ s (by omega)) (ev_some ?_))
    rw [if_pos c]
  · exact ev_neg c (ev_some (by rw [if_neg c]))
end Go.Proofs.YtfedgkmklcialaaQ
