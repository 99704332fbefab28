/- The laws over fronts: what surrounds them; keys by index, by name; sizes. -/
import Derived.Test.YtfedgkmklcialaaPAx5
import Derived.Test.YtfedgkmklcialaaQ5
import Derived.Test.YtfedgkmklcialaaQ6
namespace Go.Proofs.YtfedgkmklcialaaQ
open Go Go.RowKit Go.Proofs.YtfedgkmklcialaaW.PrintWords Go.Proofs.YtfedgkmklcialaaGp Go.Proofs.Ytfedgkmklcialaa.PA

theorem szFront_f (b : Int) (ks : List Int) (ts : List ByteArray) (hk : ks.length ≤ maxLen) (ht : ts.length ≤ maxLen) (hs : ∀ s ∈ ts, s.size ≤ maxLen) :
    ∃ z, Ev (fun k => laws_szFront.f k b ks ts 1048576) z ∧ (¬ z < 0 → (ks.length : Int) + (ts.length : Int) + sumSz ts ≤ 1048576) := by
  have hk' := hk
  rw [maxLen_eq] at hk'
  have hw : wrap64 (1048576 - (ks.length : Int)) = 1048576 - (ks.length : Int) := w64 (by omega) (by omega)
  unfold laws_szFront.f laws_szIntS.f
  simp only [hw]
  by_cases c : 1048576 - (ks.length : Int) < 0
  · exact ⟨-1, by simp only [if_pos c, Option.bind_some]; exact ev_pos (by omega) (Ev.now _), fun h => absurd h (by omega)⟩
  · simp only [if_neg c, Option.bind_some]
    have h1 := szStringS_f ts (1048576 - (ks.length : Int)) ht hs (by omega) (by omega)
    by_cases c2 : left1 (1048576 - (ks.length : Int)) ts < 0
    · exact ⟨-1, ev_bind _ h1 (ev_pos c2 (Ev.now _)), fun h => absurd h (by omega)⟩
    · obtain ⟨e, hz⟩ := left1_ok c2
      exact ⟨_, ev_bind _ h1 (ev_neg c2 (Ev.now _)), fun _ => by omega⟩
theorem toFront_f (b : Int) (ks : List Int) (ts : List ByteArray) (hk : (ks.length : Int) ≤ 1048576) (ht : (ts.length : Int) ≤ 1048576) : Ev (fun k => laws_toFront.f k b ks ts) (b, ks, ts) := by
  unfold laws_toFront.f
  exact ev_bind _ (toIntS_f ks hk) (ev_bind _ (toStringS_f ts ht) (Ev.now _))

theorem frontKeys_len {b : Int} {ks : List Int} {ts : List ByteArray} (h : (frontKeys b ks ts).2 = true) : (frontKeys b ks ts).1.length ≤ 40 := areKeysB_len (frontKeys_true h)
end Go.Proofs.YtfedgkmklcialaaQ
