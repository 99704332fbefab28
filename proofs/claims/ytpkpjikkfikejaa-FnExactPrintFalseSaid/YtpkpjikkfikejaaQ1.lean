/- What the laws' own small functions come to: sizes, copies, comparisons, marks. -/
import Derived.Test.YtpkpjikkfikejaaPAx1
import Derived.Test.YtpkpjikkfikejaaQ0
namespace Go.Proofs.YtpkpjikkfikejaaQ
open Go Go.RowKit Go.Proofs.YtpkpjikkfikejaaW.PrintWords Go.Proofs.YtpkpjikkfikejaaGp Go.Proofs.Ytpkpjikkfikejaa.PA

/-! ### sizes -/
def sumSz : List ByteArray → Int
  | [] => 0
  | s :: t => (s.size : Int) + sumSz t
theorem sumSz_nonneg : ∀ l, 0 ≤ sumSz l
  | [] => Int.le_refl _
  | s :: t => by have := sumSz_nonneg t; simp only [sumSz]; omega
theorem sumSz_app : ∀ a b, sumSz (a ++ b) = sumSz a + sumSz b
  | [], b => by simp [sumSz]
  | s :: t, b => by simp only [List.cons_append, sumSz, sumSz_app t b]; omega
theorem size_le_sumSz {s : ByteArray} : ∀ {l : List ByteArray}, s ∈ l → (s.size : Int) ≤ sumSz l
  | x :: t, h => by
    have := sumSz_nonneg t
    rcases List.mem_cons.1 h with rfl | h
    · simp only [sumSz]; omega
    · have := size_le_sumSz h; simp only [sumSz]; omega

/-- A budget: -1 where it is overdrawn. -/
def neg1 (x : Int) : Int := if x < 0 then -1 else x
theorem neg1_id {x : Int} (h : 0 ≤ x) : neg1 x = x := by unfold neg1; exact if_neg (by omega)
theorem szStringS_l0 (x0 : List ByteArray) : ∀ (t pre : List ByteArray) (a : Int), x0 = pre ++ t → (∀ s ∈ t, s.size ≤ maxLen) → 0 ≤ a → a ≤ 1048576 → (x0.length : Int) ≤ 9223372036854775806 →
    Ev (fun k => laws_szStringS.l0 k x0 a (pre.length : Int)) (neg1 (a - sumSz t)) := by
  intro t
  induction t with
  | nil =>
    intro pre a h hs h0 h1 hl
    subst h
    refine ev_succ ?_
    simp only [laws_szStringS.l0, not_lt_end, if_false]
    exact ev_some (by rw [show a - sumSz [] = a from by simp [sumSz], neg1_id h0])
  | cons s t ih =>
    intro pre a h hs h0 h1 hl
    have hm : ((pre.length : Nat) : Int) < (x0.length : Int) := by rw [h]; exact lt_mid
    have hr : rdOf ByteArray.empty x0 (pre.length : Int) = s := by rw [h]; exact rdOf_mid
    have hz : s.size ≤ maxLen := hs s (by simp)
    rw [maxLen_eq] at hz
    have hp := sumSz_nonneg t
    have hw : wrap64 (a - (s.size : Int)) = a - (s.size : Int) := w64 (by omega) (by omega)
    refine ev_succ ?_
    simp only [laws_szStringS.l0, hr, hw]
    refine ev_pos hm (ev_pos (by omega) ?_)
    by_cases c : a - (s.size : Int) < 0
    · refine ev_pos c (ev_some ?_)
      unfold neg1
      rw [if_pos (by simp only [sumSz]; omega)]
    · refine ev_neg c ?_
      have := ih (pre ++ [s]) (a - (s.size : Int)) (by rw [h]; simp) (fun x hx => hs x (by simp [hx])) (by omega) (by omega) hl
      rw [winc (by omega)]
      rw [len_one] at this
      simp only [sumSz]
      rw [show a - ((s.size : Int) + sumSz t) = a - (s.size : Int) - sumSz t from by omega]
      exact this

/-- The budget left behind a list of strings, or -1. -/
def left1 (a : Int) (l : List ByteArray) : Int := neg1 (a - (l.length : Int) - sumSz l)
theorem szStringS_f (l : List ByteArray) (a : Int) (hl : l.length ≤ maxLen) (hs : ∀ s ∈ l, s.size ≤ maxLen) (h0 : 0 ≤ a) (h1 : a ≤ 1048576) : Ev (fun k => laws_szStringS.f k l a) (left1 a l) := by
  rw [maxLen_eq] at hl
  have hp := sumSz_nonneg l
  have hw : wrap64 (a - (l.length : Int)) = a - (l.length : Int) := w64 (by omega) (by omega)
  unfold laws_szStringS.f left1
  simp only [hw]
  by_cases c : a - (l.length : Int) < 0
  · exact ev_pos c (ev_some (by unfold neg1; rw [if_pos (by omega)]))
  · refine ev_neg c ?_
    have := szStringS_l0 l l [] (a - (l.length : Int)) rfl hs (by omega) (by omega) (by omega)
    exact this
theorem left1_ok {a : Int} {l : List ByteArray} (h : ¬ left1 a l < 0) : left1 a l = a - (l.length : Int) - sumSz l ∧ (l.length : Int) + sumSz l ≤ a := by
  unfold left1 neg1 at h ⊢
  split at h
  · omega
  · rename_i c; rw [if_neg c]; omega
theorem left1_le {a : Int} {l : List ByteArray} : left1 a l ≤ a ∨ left1 a l = -1 := by
  have := sumSz_nonneg l
  unfold left1 neg1
  split <;> omega

/-! ### copies -/
theorem toStringS_l0 (x0 : List ByteArray) (hl : (x0.length : Int) ≤ 1048576) : ∀ (t pre r : List ByteArray), x0 = pre ++ t → r.length = t.length →
    Ev (fun k => laws_toStringS.l0 k x0 (pre ++ r) (pre.length : Int)) x0 := by
  intro t
  induction t with
  | nil =>
    intro pre r h hr
    obtain rfl := List.length_eq_zero_iff.1 hr
    refine ev_succ ?_
    simp only [laws_toStringS.l0]
    refine ev_neg (by rw [h]; exact not_lt_end) (ev_some h.symm)
  | cons s t ih =>
    intro pre r h hr
    cases r with
    | nil => simp at hr
    | cons q r =>
      have hm : ((pre.length : Nat) : Int) < (x0.length : Int) := by rw [h]; exact lt_mid
      have hg : rdOf ByteArray.empty x0 (pre.length : Int) = s := by rw [h]; exact rdOf_mid
      refine ev_succ ?_
      simp only [laws_toStringS.l0, hg, set_mid]
      refine ev_pos hm (ev_pos (by omega) (ev_pos lt_mid ?_))
      rw [winc (by omega)]
      have := ih (pre ++ [s]) r (by rw [h]; simp) (by simpa using hr)
      rw [len_one, app_one] at this
      exact this
theorem toStringS_f (l : List ByteArray) (hl : (l.length : Int) ≤ 1048576) : Ev (fun k => laws_toStringS.f k l) l := by
  unfold laws_toStringS.f
  refine ev_pos (by omega) (ev_pos (by simp only [Int.toNat_natCast]; omega) ?_)
  simp only [Int.toNat_natCast]
  have := toStringS_l0 l hl l [] (List.replicate l.length (⟨#[]⟩ : ByteArray)) rfl (by simp)
  exact this

/-! ### comparisons -/
theorem eqStringS_l0 (x0 x1 : List ByteArray) (hl : (x0.length : Int) ≤ 9223372036854775806) : ∀ (t u pre pre' : List ByteArray), x0 = pre ++ t → x1 = pre' ++ u → pre.length = pre'.length → t.length = u.length →
    Ev (fun k => laws_eqStringS.l0 k x0 x1 (pre.length : Int)) (decide (t = u)) := by
  intro t
  induction t with
  | nil =>
    intro u pre pre' h h' hp hu
    obtain rfl := List.length_eq_zero_iff.1 hu.symm
    refine ev_succ ?_
    simp only [laws_eqStringS.l0]
    exact ev_neg (by rw [h]; exact not_lt_end) (ev_some (by simp))
  | cons s t ih =>
    intro u pre pre' h h' hp hu
    cases u with
    | nil => simp at hu
    | cons q u =>
      have hm : ((pre.length : Nat) : Int) < (x0.length : Int) := by rw [h]; exact lt_mid
      have hm' : ((pre.length : Nat) : Int) < (x1.length : Int) := by rw [h', hp]; exact lt_mid
      have hg : rdOf ByteArray.empty x0 (pre.length : Int) = s := by rw [h]; exact rdOf_mid
      have hg' : rdOf ByteArray.empty x1 (pre.length : Int) = q := by rw [h', hp]; exact rdOf_mid
      refine ev_succ ?_
      simp only [laws_eqStringS.l0, hg, hg', tl_inj]
      refine ev_pos hm (ev_pos (by omega) (ev_pos hm' ?_))
      by_cases c : s = q
      · refine ev_pos c ?_
        rw [winc (by omega)]
        have := ih u (pre ++ [s]) (pre' ++ [q]) (by rw [h]; simp) (by rw [h']; simp) (by simp [hp]) (by simpa using hu)
        rw [len_one] at this
        rw [show decide (s :: t = q :: u) = decide (t = u) from by simp [c]]
        exact this
      · exact ev_neg c (ev_some (by simp [c]))
theorem eqStringS_f (a b : List ByteArray) (hl : (a.length : Int) ≤ 9223372036854775806) : Ev (fun k => laws_eqStringS.f k a b) (decide (a = b)) := by
  unfold laws_eqStringS.f
  by_cases c : a.length = b.length
  · refine ev_pos (by omega) ?_
    exact eqStringS_l0 a b hl a b [] [] rfl rfl rfl c
  · exact ev_neg (by omega) (ev_some (by
      have : ¬ a = b := fun e => c (by rw [e])
      simp [this]))

end Go.Proofs.YtpkpjikkfikejaaQ
