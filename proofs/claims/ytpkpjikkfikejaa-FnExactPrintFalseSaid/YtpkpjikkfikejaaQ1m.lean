/- Marks: what is written into a result, and read back. -/
import Derived.Test.YtpkpjikkfikejaaPAx14
import Derived.Test.YtpkpjikkfikejaaQ0
namespace Go.Proofs.YtpkpjikkfikejaaQ
open Go Go.RowKit Go.Proofs.YtpkpjikkfikejaaW.PrintWords Go.Proofs.YtpkpjikkfikejaaGp Go.Proofs.Ytpkpjikkfikejaa.PA

/-! ### marks -/
theorem tdiv10 {x : Int} (h : 0 < x) : 0 ≤ Int.tdiv x 10 ∧ Int.tdiv x 10 < x ∧ Int.tmod x 10 = x % 10 ∧ Int.tdiv x 10 = x / 10 := by
  rw [Int.tdiv_eq_ediv_of_nonneg (by omega), Int.tmod_eq_emod_of_nonneg (by omega)]
  omega
theorem strOf1 (n : Int) : (strOfNums [n]).size = 1 := by simp [strOfNums, ByteArray.size]
theorem markText_l0 : ∀ (n : Nat) (x : Int) (s : ByteArray), x ≤ n → 0 ≤ x → x ≤ 9223372036854775807 → (s.size : Int) + x ≤ 4611686018427387904 → ∃ r, Ev (fun k => laws_markText.l0 k x s) r := by
  intro n
  induction n with
  | zero =>
    intro x s hx h0 h1 h2
    refine ⟨(⟨#[109]⟩ : ByteArray) ++ s, ev_succ ?_⟩
    simp only [laws_markText.l0]
    exact ev_neg (by omega) (ev_pos (by omega) (Ev.now _))
  | succ n ih =>
    intro x s hx h0 h1 h2
    by_cases c : x > 0
    · obtain ⟨q0, q1, q2, q3⟩ := tdiv10 c
      obtain ⟨r, hr⟩ := ih (Int.tdiv x 10) (strOfNums [(wrap64 (48 + (Int.tmod x 10))) % 256] ++ s) (by omega) (by omega) (by omega) (by simp only [ByteArray.size_append, strOf1]; omega)
      refine ⟨r, ev_succ ?_⟩
      simp only [laws_markText.l0, Option.bind_some, strOf1]
      refine ev_pos c (ev_pos (by omega) ?_)
      rw [w64 (x := Int.tdiv x 10) (by omega) (by omega)]
      exact hr
    · refine ⟨(⟨#[109]⟩ : ByteArray) ++ s, ev_succ ?_⟩
      simp only [laws_markText.l0]
      exact ev_neg c (ev_pos (by omega) (Ev.now _))
theorem markText_f (x : Int) (h : x ≤ 4611686018427387904) : ∃ r, Ev (fun k => laws_markText.f k x) r := by
  unfold laws_markText.f
  by_cases c : x ≤ 0
  · exact ⟨_, ev_pos c (Ev.now _)⟩
  · obtain ⟨r, hr⟩ := markText_l0 x.toNat x ⟨#[]⟩ (by omega) (by omega) (by omega) (by
      have : (⟨#[]⟩ : ByteArray).size = 0 := rfl
      omega)
    exact ⟨r, ev_neg c hr⟩
open Classical in
/-- The text of a mark. -/
noncomputable def mark (x : Int) : ByteArray := if h : ∃ r, Ev (fun k => laws_markText.f k x) r then Classical.choose h else ⟨#[]⟩
theorem mark_ev (x : Int) (h : x ≤ 4611686018427387904) : Ev (fun k => laws_markText.f k x) (mark x) := by
  unfold mark
  rw [dif_pos (markText_f x h)]
  exact Classical.choose_spec (markText_f x h)
/-- n marks from a number on. -/
noncomputable def marks : Nat → Int → List ByteArray
  | 0, _ => []
  | n + 1, a => mark a :: marks n (a + 1)
theorem marks_len : ∀ n a, (marks n a).length = n
  | 0, _ => rfl
  | n + 1, a => by simp [marks, marks_len n]
theorem markStringS_l0 : ∀ (t pre : List ByteArray) (a : Int), 0 ≤ a → a + (t.length : Int) ≤ 4611686018427387904 → ((pre.length + t.length : Nat) : Int) ≤ 4611686018427387904 →
    Ev (fun k => laws_markStringS.l0 k (pre ++ t) a (pre.length : Int)) (a + (t.length : Int), pre ++ marks t.length a) := by
  intro t
  induction t with
  | nil =>
    intro pre a h0 h1 h2
    refine ev_succ ?_
    simp only [laws_markStringS.l0]
    exact ev_neg not_lt_end (ev_some (by simp [marks]))
  | cons s t ih =>
    intro pre a h0 h1 h2
    simp only [List.length_cons] at h1 h2
    refine ev_succ ?_
    simp only [laws_markStringS.l0]
    refine ev_pos lt_mid (ev_bind _ (mark_ev a (by omega)) (ev_pos (by omega) ?_))
    simp only [set_mid]
    rw [winc (by omega), w64 (x := a + 1) (by omega) (by omega)]
    have := ih (pre ++ [mark a]) (a + 1) (by omega) (by omega) (by simp; omega)
    rw [len_one, app_one] at this
    simp only [List.length_cons, marks]
    rw [show ((t.length + 1 : Nat) : Int) = 1 + (t.length : Int) from by omega, ← Int.add_assoc]
    simpa using this
theorem markStringS_f (l : List ByteArray) (a : Int) (h0 : 0 ≤ a) (h1 : a + (l.length : Int) ≤ 4611686018427387904) : Ev (fun k => laws_markStringS.f k l a) (a + (l.length : Int), marks l.length a) := by
  unfold laws_markStringS.f
  have := markStringS_l0 l [] a h0 h1 (by simp; omega)
  exact this

end Go.Proofs.YtpkpjikkfikejaaQ
