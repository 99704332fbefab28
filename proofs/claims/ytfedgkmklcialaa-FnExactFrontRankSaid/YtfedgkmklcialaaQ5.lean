/- The laws' small functions over fronts. -/
import Derived.Test.YtfedgkmklcialaaPAx2
import Derived.Test.YtfedgkmklcialaaQ4
import Derived.Test.YtfedgkmklcialaaQ3
namespace Go.Proofs.YtfedgkmklcialaaQ
open Go Go.RowKit Go.Proofs.YtfedgkmklcialaaW.PrintWords Go.Proofs.YtfedgkmklcialaaGp Go.Proofs.Ytfedgkmklcialaa.PA

theorem eqFront_same (b : Int) (ks : List Int) (ts : List ByteArray) (hk : (ks.length : Int) ≤ 9223372036854775806) (ht : (ts.length : Int) ≤ 9223372036854775806) : Ev (fun k => laws_eqFront.f k b ks ts b ks ts) true := by
  unfold laws_eqFront.f
  refine ev_pos rfl (ev_bind true (by simpa using eqIntS_f ks ks hk) (ev_pos rfl (ev_bind true (by simpa using eqStringS_f ts ts ht) (ev_pos rfl (Ev.now _)))))
end Go.Proofs.YtfedgkmklcialaaQ
