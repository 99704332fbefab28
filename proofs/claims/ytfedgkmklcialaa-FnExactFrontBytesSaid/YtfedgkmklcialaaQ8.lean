/- Fronts: the number of bytes. -/
import Derived.Test.YtfedgkmklcialaaPAx10
import Derived.Test.YtfedgkmklcialaaQ7
namespace Go.Proofs.YtfedgkmklcialaaQ
open Go Go.RowKit Go.Proofs.YtfedgkmklcialaaW.PrintWords Go.Proofs.YtfedgkmklcialaaGp Go.Proofs.Ytfedgkmklcialaa.PA

theorem spec_FrontBytes_l0 (ts : List ByteArray) (hl : (ts.length : Int) ≤ 1048576) : ∀ (t pre : List ByteArray) (a : Int), ts = pre ++ t → 0 ≤ a → a + sumSz t ≤ 4611686018427387904 →
    Ev (fun k => spec_FrontBytes.l0 k a ts (ts.length : Int) (pre.length : Int)) (a + sumSz t, true) := by
  intro t
  induction t with
  | nil =>
    intro pre a h h0 h1
    refine ev_succ ?_
    simp only [spec_FrontBytes.l0]
    exact ev_neg (by rw [h]; exact not_lt_end) (ev_some (by simp [sumSz]))
  | cons s t ih =>
    intro pre a h h0 h1
    have hm : ((pre.length : Nat) : Int) < (ts.length : Int) := by rw [h]; exact lt_mid
    have hg : rdOf ByteArray.empty ts (pre.length : Int) = s := by rw [h]; exact rdOf_mid
    have hp := sumSz_nonneg t
    simp only [sumSz] at h1
    refine ev_succ ?_
    simp only [spec_FrontBytes.l0, hg]
    refine ev_pos hm (ev_pos (by omega) (ev_pos hm ?_))
    rw [winc (by omega), w64 (x := a + (s.size : Int)) (by omega) (by omega)]
    have := ih (pre ++ [s]) (a + (s.size : Int)) (by rw [h]; simp) (by omega) (by omega)
    rw [len_one] at this
    simp only [sumSz, ← Int.add_assoc]
    exact this
theorem impl_FrontBytes_l0 (ts : List ByteArray) (hl : (ts.length : Int) ≤ 1048576) : ∀ (t pre : List ByteArray) (a : Int), ts = pre ++ t → 0 ≤ a → a + sumSz t ≤ 4611686018427387904 →
    Ev (fun k => impl_FrontBytes.l0 k a ts (ts.length : Int) (pre.length : Int)) (a + sumSz t, true) := by
  intro t
  induction t with
  | nil =>
    intro pre a h h0 h1
    refine ev_succ ?_
    simp only [impl_FrontBytes.l0]
    exact ev_neg (by rw [h]; exact not_lt_end) (ev_some (by simp [sumSz]))
  | cons s t ih =>
    intro pre a h h0 h1
    have hm : ((pre.length : Nat) : Int) < (ts.length : Int) := by rw [h]; exact lt_mid
    have hg : rdOf ByteArray.empty ts (pre.length : Int) = s := by rw [h]; exact rdOf_mid
    have hp := sumSz_nonneg t
    simp only [sumSz] at h1
    refine ev_succ ?_
    simp only [impl_FrontBytes.l0, hg]
    refine ev_pos hm (ev_pos (by omega) (ev_pos hm ?_))
    rw [winc (by omega), w64 (x := a + (s.size : Int)) (by omega) (by omega)]
    have := ih (pre ++ [s]) (a + (s.size : Int)) (by rw [h]; simp) (by omega) (by omega)
    rw [len_one] at this
    simp only [sumSz, ← Int.add_assoc]
    exact this
def bytesR (ok : Bool) (ks : List Int) (ts : List ByteArray) : Int × Bool := if ok then ((ks.length : Int) + sumSz ts, true) else (0, false)
theorem spec_FrontBytes_f (b : Int) (ks : List Int) (ts : List ByteArray) (hz : (ks.length : Int) + (ts.length : Int) + sumSz ts ≤ 1048576) : Ev (fun k => spec_FrontBytes.f k b ks ts) (bytesR (frontKeys b ks ts).2 ks ts) := by
  have hp := sumSz_nonneg ts
  unfold spec_FrontBytes.f bytesR
  refine ev_bind _ (spec_IsFront_f b ks ts) ?_
  cases (frontKeys b ks ts).2 with
  | false => exact ev_neg (by simp) (Ev.now _)
  | true => exact ev_pos rfl (spec_FrontBytes_l0 ts (by omega) ts [] _ rfl (by omega) (by omega))
theorem impl_FrontBytes_f (b : Int) (ks : List Int) (ts : List ByteArray) (hz : (ks.length : Int) + (ts.length : Int) + sumSz ts ≤ 1048576) : Ev (fun k => impl_FrontBytes.f k b ks ts) (bytesR (frontKeys b ks ts).2 ks ts) := by
  have hp := sumSz_nonneg ts
  unfold impl_FrontBytes.f bytesR
  refine ev_bind _ (impl_IsFront_f b ks ts) ?_
  cases (frontKeys b ks ts).2 with
  | false => exact ev_neg (by simp) (Ev.now _)
  | true => exact ev_pos rfl (impl_FrontBytes_l0 ts (by omega) ts [] _ rfl (by omega) (by omega))
end Go.Proofs.YtfedgkmklcialaaQ
