/- Marks in fronts. -/
import Derived.Test.YtfedgkmklcialaaPAx3
import Derived.Test.YtfedgkmklcialaaQ4m
import Derived.Test.YtfedgkmklcialaaQ1m
import Derived.Test.YtfedgkmklcialaaQ5
namespace Go.Proofs.YtfedgkmklcialaaQ
open Go Go.RowKit Go.Proofs.YtfedgkmklcialaaW.PrintWords Go.Proofs.YtfedgkmklcialaaGp Go.Proofs.Ytfedgkmklcialaa.PA

theorem markFront_f (b : Int) (ks : List Int) (ts : List ByteArray) (a : Int) (h0 : 0 ≤ a) (h1 : a + (ks.length : Int) + (ts.length : Int) ≤ 4611686018427387904) :
    Ev (fun k => laws_markFront.f k b ks ts a) (a + (ks.length : Int) + (ts.length : Int), counts ks.length a, marks ts.length (a + (ks.length : Int))) := by
  unfold laws_markFront.f
  exact ev_bind _ (markIntS_f ks a h0 (by omega)) (ev_bind _ (markStringS_f ts (a + (ks.length : Int)) (by omega) (by omega)) (Ev.now _))
theorem heldFront_f (b : Int) (n m : Nat) (a : Int) (h0 : 0 ≤ a) (h1 : a + (n : Int) + (m : Int) ≤ 4611686018427387904) :
    Ev (fun k => laws_heldFront.f k b (counts n a) (marks m (a + (n : Int))) a) (a + (n : Int) + (m : Int)) := by
  unfold laws_heldFront.f
  refine ev_bind _ (heldIntS_f n a h0 (by omega)) (ev_neg (by omega) (ev_bind _ (heldStringS_f m (a + (n : Int)) (by omega) (by omega)) (ev_neg (by omega) (Ev.now _))))
end Go.Proofs.YtfedgkmklcialaaQ
