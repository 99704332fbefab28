/- Texts; the places of false answers. -/
import Derived.Test.YtpkpjikkfikejaaPAx28
import Derived.Test.YtpkpjikkfikejaaQ9
namespace Go.Proofs.YtpkpjikkfikejaaQ
open Go Go.RowKit Go.Proofs.YtpkpjikkfikejaaW.PrintWords Go.Proofs.YtpkpjikkfikejaaGp Go.Proofs.Ytpkpjikkfikejaa.PA

/-! ### texts -/
def textsB (l : List ByteArray) : Bool := l.all isKeyB && decide ((l.length : Int) ≤ 300)
theorem textsB_len {l : List ByteArray} (h : textsB l = true) : l.length ≤ 300 := by
  simp only [textsB, Bool.and_eq_true, decide_eq_true_eq] at h
  omega
theorem spec_fiKeys_l0 (x0 : List ByteArray) (hl : (x0.length : Int) ≤ 9223372036854775806) : ∀ (t pre : List ByteArray), x0 = pre ++ t → (∀ s ∈ t, (s.size : Int) ≤ 9223372036854775806) →
    Ev (fun k => spec_fiKeys.l0 k x0 x0 (x0.length : Int) (pre.length : Int)) (t.all isKeyB && decide ((x0.length : Int) ≤ 300)) := by
  intro t
  induction t with
  | nil =>
    intro pre h hs
    refine ev_succ ?_
    simp only [spec_fiKeys.l0]
    exact ev_neg (by rw [h]; exact not_lt_end) (ev_some (by simp))
  | cons x t ih =>
    intro pre h hs
    have hm : ((pre.length : Nat) : Int) < (x0.length : Int) := by rw [h]; exact lt_mid
    have hg : rdOf ByteArray.empty x0 (pre.length : Int) = x := by rw [h]; exact rdOf_mid
    refine ev_succ ?_
    simp only [spec_fiKeys.l0, hg]
    refine ev_pos hm (ev_pos (by omega) (ev_pos hm (ev_bind _ (spec_IsKey_f x (hs x (by simp))) ?_)))
    by_cases c : isKeyB x = true
    · refine ev_pos c ?_
      rw [winc (by omega)]
      have := ih (pre ++ [x]) (by rw [h]; simp) (fun s h => hs s (by simp [h]))
      rw [len_one] at this
      simpa [c] using this
    · exact ev_neg c (ev_some (by simp [c]))
theorem spec_fiKeys_f (l : List ByteArray) (hl : (l.length : Int) ≤ 9223372036854775806) (hs : ∀ s ∈ l, (s.size : Int) ≤ 9223372036854775806) : Ev (fun k => spec_fiKeys.f k l) (textsB l) := by
  unfold spec_fiKeys.f
  exact spec_fiKeys_l0 l hl l [] rfl hs
theorem impl_areTexts_1_f (s : ByteArray) (hz : (s.size : Int) ≤ 9223372036854775806) : Ev (fun k => impl_areTexts_1.f k s) (!isKeyB s) := by
  unfold impl_areTexts_1.f
  exact ev_bind _ (impl_IsKey_f s hz) (Ev.now _)
theorem IndexFunc_areTexts_l0 (x0 : List ByteArray) (hl : (x0.length : Int) ≤ 9223372036854775806) : ∀ (t pre : List ByteArray), x0 = pre ++ t → (∀ s ∈ t, (s.size : Int) ≤ 9223372036854775806) →
    ∃ r : Int, Ev (fun k => slices_IndexFunc_string_string_at_impl_areTexts_1.l0 k x0 (x0.length : Int) (pre.length : Int)) r ∧ decide (r ≥ 0) = !(t.all isKeyB) := by
  intro t
  induction t with
  | nil =>
    intro pre h hs
    refine ⟨-1, ev_succ ?_, by simp⟩
    simp only [slices_IndexFunc_string_string_at_impl_areTexts_1.l0]
    exact ev_neg (by rw [h]; exact not_lt_end) (ev_some rfl)
  | cons x t ih =>
    intro pre h hs
    have hm : ((pre.length : Nat) : Int) < (x0.length : Int) := by rw [h]; exact lt_mid
    have hg : rdOf ByteArray.empty x0 (pre.length : Int) = x := by rw [h]; exact rdOf_mid
    by_cases c : isKeyB x = true
    · obtain ⟨r, h1, h2⟩ := ih (pre ++ [x]) (by rw [h]; simp) (fun s h => hs s (by simp [h]))
      refine ⟨r, ev_succ ?_, by simpa [c] using h2⟩
      simp only [slices_IndexFunc_string_string_at_impl_areTexts_1.l0, hg]
      refine ev_pos hm (ev_pos (by omega) (ev_pos hm (ev_bind _ (impl_areTexts_1_f x (hs x (by simp))) (ev_neg (by simp [c]) ?_))))
      rw [winc (by omega)]
      rw [len_one] at h1
      exact h1
    · refine ⟨(pre.length : Int), ev_succ ?_, by simp [c]⟩
      simp only [slices_IndexFunc_string_string_at_impl_areTexts_1.l0, hg]
      exact ev_pos hm (ev_pos (by omega) (ev_pos hm (ev_bind _ (impl_areTexts_1_f x (hs x (by simp))) (ev_pos (by simp [c]) (Ev.now _)))))
theorem impl_areTexts_f (l : List ByteArray) (hs : ∀ s ∈ l, (s.size : Int) ≤ 9223372036854775806) : Ev (fun k => impl_areTexts.f k l) (textsB l) := by
  unfold impl_areTexts.f
  by_cases c : (l.length : Int) ≤ 300
  · obtain ⟨r, h1, h2⟩ := IndexFunc_areTexts_l0 l (by omega) l [] rfl hs
    refine ev_pos c (ev_bind (!(l.all isKeyB)) ?_ (ev_some (by simp [textsB, c])))
    unfold slices_ContainsFunc_string_string_at_impl_areTexts_1.f slices_IndexFunc_string_string_at_impl_areTexts_1.f
    exact ev_bind _ h1 (ev_some h2)
  · exact ev_neg c (ev_some (by simp [textsB, c]))

/-! ### false answers -/
/-- The places, from i on, of those texts that are no keys and yet are answered by yes. -/
def wrongL (f : ByteArray → Bool) (ks : List ByteArray) : List ByteArray → Nat → List Int
  | [], _ => []
  | s :: t, i => if hasS ks s = true then wrongL f ks t (i + 1) else if f s = true then (i : Int) :: wrongL f ks t (i + 1) else wrongL f ks t (i + 1)
theorem wrongL_len (f : ByteArray → Bool) (ks : List ByteArray) : ∀ t i, (wrongL f ks t i).length ≤ t.length
  | [], _ => by simp [wrongL]
  | s :: t, i => by
    have := wrongL_len f ks t (i + 1)
    simp only [wrongL]
    split
    · simp; omega
    · split <;> simp <;> omega
end Go.Proofs.YtpkpjikkfikejaaQ
