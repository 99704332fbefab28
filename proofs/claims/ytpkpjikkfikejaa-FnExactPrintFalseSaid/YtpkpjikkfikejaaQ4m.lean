/- Marks: what is written into a result, and read back. -/
import Derived.Test.YtpkpjikkfikejaaPAx15
import Derived.Test.YtpkpjikkfikejaaQ1
namespace Go.Proofs.YtpkpjikkfikejaaQ
open Go Go.RowKit Go.Proofs.YtpkpjikkfikejaaW.PrintWords Go.Proofs.YtpkpjikkfikejaaGp Go.Proofs.Ytpkpjikkfikejaa.PA

/-! ### marks -/
/-- n numbers from one on. -/
def counts : Nat → Int → List Int
  | 0, _ => []
  | n + 1, a => a :: counts n (a + 1)
theorem counts_len : ∀ n a, (counts n a).length = n
  | 0, _ => rfl
  | n + 1, a => by simp [counts, counts_len n]
theorem markIntS_l0 : ∀ (t pre : List Int) (a : Int), 0 ≤ a → a + (t.length : Int) ≤ 4611686018427387904 → ((pre.length + t.length : Nat) : Int) ≤ 4611686018427387904 →
    Ev (fun k => laws_markIntS.l0 k (pre ++ t) a (pre.length : Int)) (a + (t.length : Int), pre ++ counts t.length a) := by
  intro t
  induction t with
  | nil =>
    intro pre a h0 h1 h2
    refine ev_succ ?_
    simp only [laws_markIntS.l0]
    exact ev_neg not_lt_end (ev_some (by simp [counts]))
  | cons s t ih =>
    intro pre a h0 h1 h2
    simp only [List.length_cons] at h1 h2
    refine ev_succ ?_
    simp only [laws_markIntS.l0]
    refine ev_pos lt_mid (ev_pos (by omega) ?_)
    simp only [set_mid]
    rw [winc (by omega), w64 (x := a + 1) (by omega) (by omega)]
    have := ih (pre ++ [a]) (a + 1) (by omega) (by omega) (by simp; omega)
    rw [len_one, app_one] at this
    simp only [List.length_cons, counts]
    rw [show ((t.length + 1 : Nat) : Int) = 1 + (t.length : Int) from by omega, ← Int.add_assoc]
    simpa using this
theorem markIntS_f (l : List Int) (a : Int) (h0 : 0 ≤ a) (h1 : a + (l.length : Int) ≤ 4611686018427387904) : Ev (fun k => laws_markIntS.f k l a) (a + (l.length : Int), counts l.length a) := by
  unfold laws_markIntS.f
  have := markIntS_l0 l [] a h0 h1 (by simp; omega)
  exact this
theorem heldIntS_l0 : ∀ (n : Nat) (pre : List Int) (a : Int), 0 ≤ a → a + (n : Int) ≤ 4611686018427387904 → ((pre.length + n : Nat) : Int) ≤ 4611686018427387904 →
    Ev (fun k => laws_heldIntS.l0 k (pre ++ counts n a) a (pre.length : Int)) (a + (n : Int)) := by
  intro n
  induction n with
  | zero =>
    intro pre a h0 h1 h2
    refine ev_succ ?_
    simp only [laws_heldIntS.l0, counts]
    exact ev_neg not_lt_end (ev_some (by simp))
  | succ n ih =>
    intro pre a h0 h1 h2
    refine ev_succ ?_
    simp only [laws_heldIntS.l0, counts, rd_mid]
    refine ev_pos lt_mid (ev_pos (by omega) (ev_pos trivial ?_))
    rw [winc (by omega), w64 (x := a + 1) (by omega) (by omega)]
    have := ih (pre ++ [a]) (a + 1) (by omega) (by omega) (by simp; omega)
    rw [len_one, app_one] at this
    rw [show a + ((n + 1 : Nat) : Int) = a + 1 + (n : Int) from by omega]
    exact this
theorem heldIntS_f (n : Nat) (a : Int) (h0 : 0 ≤ a) (h1 : a + (n : Int) ≤ 4611686018427387904) : Ev (fun k => laws_heldIntS.f k (counts n a) a) (a + (n : Int)) := by
  unfold laws_heldIntS.f
  have := heldIntS_l0 n [] a h0 h1 (by simp; omega)
  exact this
end Go.Proofs.YtpkpjikkfikejaaQ
