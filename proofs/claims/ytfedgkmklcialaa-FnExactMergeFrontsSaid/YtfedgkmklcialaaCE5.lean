import Derived.Test.YtfedgkmklcialaaCE1
import Derived.Test.YtfedgkmklcialaaCE4
import Derived.Test.YtfedgkmklcialaaCE2
import Derived.Test.YtfedgkmklcialaaCE3
namespace Go.Proofs.YtfedgkmklcialaaQ
open Go Go.RowKit Go.Proofs.YtfedgkmklcialaaW.PrintWords Go.Proofs.YtfedgkmklcialaaGp Go.Proofs.Ytfedgkmklcialaa.PM

def sumSz : List ByteArray → Int
  | [] => 0
  | s :: t => (s.size : Int) + sumSz t
theorem sumSz_nonneg : ∀ l, 0 ≤ sumSz l
  | [] => Int.le_refl _
  | s :: t => by have := sumSz_nonneg t; simp only [sumSz]; omega
def neg1 (x : Int) : Int := if x < 0 then -1 else x
theorem neg1_id {x : Int} (h : 0 ≤ x) : neg1 x = x := by unfold neg1; exact if_neg (by omega)
theorem szStringS_l0 (x0 : List ByteArray) : ∀ (t pre : List ByteArray) (a : Int), x0 = pre ++ t → (∀ s ∈ t, s.size ≤ maxLen) → 0 ≤ a → a ≤ 1048576 → (x0.length : Int) ≤ 9223372036854775806 →
    Ev (fun k => laws_szStringS.l0 k x0 a (pre.length : Int)) (neg1 (a - sumSz t)) := by
  intro t
  induction t with
  | nil =>
    intro pre a h hs h0 h1 hl
    subst h
    refine ev_succ ?_
    simp only [laws_szStringS.l0, not_lt_end, if_false]
    exact ev_some (by rw [show a - sumSz [] = a from by simp [sumSz], neg1_id h0])
  | cons s t ih =>
    intro pre a h hs h0 h1 hl
    have hm : ((pre.length : Nat) : Int) < (x0.length : Int) := by rw [h]; exact lt_mid
    have hr : rdOf ByteArray.empty x0 (pre.length : Int) = s := by rw [h]; exact rdOf_mid
    have hz : s.size ≤ maxLen := hs s (by simp)
    rw [maxLen_eq] at hz
    have hp := sumSz_nonneg t
    have hw : wrap64 (a - (s.size : Int)) = a - (s.size : Int) := w64 (by omega) (by omega)
    refine ev_succ ?_
    simp only [laws_szStringS.l0, hr, hw]
    refine ev_pos hm (ev_pos (by omega) ?_)
    by_cases c : a - (s.size : Int) < 0
    · refine ev_pos c (ev_some ?_)
      unfold neg1
      rw [if_pos (by simp only [sumSz]; omega)]
    · refine ev_neg c ?_
      have := ih (pre ++ [s]) (a - (s.size : Int)) (by rw [h]; simp) (fun x hx => hs x (by simp [hx])) (by omega) (by omega) hl
      rw [winc (by omega)]
      rw [len_one] at this
      simp only [sumSz]
      rw [show a - ((s.size : Int) + sumSz t) = a - (s.size : Int) - sumSz t from by omega]
      exact this

def left1 (a : Int) (l : List ByteArray) : Int := neg1 (a - (l.length : Int) - sumSz l)
theorem szStringS_f (l : List ByteArray) (a : Int) (hl : l.length ≤ maxLen) (hs : ∀ s ∈ l, s.size ≤ maxLen) (h0 : 0 ≤ a) (h1 : a ≤ 1048576) : Ev (fun k => laws_szStringS.f k l a) (left1 a l) := by
  rw [maxLen_eq] at hl
  have hp := sumSz_nonneg l
  have hw : wrap64 (a - (l.length : Int)) = a - (l.length : Int) := w64 (by omega) (by omega)
  unfold laws_szStringS.f left1
  simp only [hw]
  by_cases c : a - (l.length : Int) < 0
  · exact ev_pos c (ev_some (by unfold neg1; rw [if_pos (by omega)]))
  · refine ev_neg c ?_
    have := szStringS_l0 l l [] (a - (l.length : Int)) rfl hs (by omega) (by omega) (by omega)
    exact this
theorem left1_ok {a : Int} {l : List ByteArray} (h : ¬ left1 a l < 0) : left1 a l = a - (l.length : Int) - sumSz l ∧ (l.length : Int) + sumSz l ≤ a := by
  unfold left1 neg1 at h ⊢
  split at h
  · omega
  · rename_i c; rw [if_neg c]; omega
theorem toStringS_l0 (x0 : List ByteArray) (hl : (x0.length : Int) ≤ 1048576) : ∀ (t pre r : List ByteArray), x0 = pre ++ t → r.length = t.length →
    Ev (fun k => laws_toStringS.l0 k x0 (pre ++ r) (pre.length : Int)) x0 := by
  intro t
  induction t with
  | nil =>
    intro pre r h hr
    obtain rfl := List.length_eq_zero_iff.1 hr
    refine ev_succ ?_
    simp only [laws_toStringS.l0]
    refine ev_neg (by rw [h]; exact not_lt_end) (ev_some h.symm)
  | cons s t ih =>
    intro pre r h hr
    cases r with
    | nil => simp at hr
    | cons q r =>
      have hm : ((pre.length : Nat) : Int) < (x0.length : Int) := by rw [h]; exact lt_mid
      have hg : rdOf ByteArray.empty x0 (pre.length : Int) = s := by rw [h]; exact rdOf_mid
      refine ev_succ ?_
      simp only [laws_toStringS.l0, hg, set_mid]
      refine ev_pos hm (ev_pos (by omega) (ev_pos lt_mid ?_))
      rw [winc (by omega)]
      have := ih (pre ++ [s]) r (by rw [h]; simp) (by simpa using hr)
      rw [len_one, app_one] at this
      exact this
theorem toStringS_f (l : List ByteArray) (hl : (l.length : Int) ≤ 1048576) : Ev (fun k => laws_toStringS.f k l) l := by
  unfold laws_toStringS.f
  refine ev_pos (by omega) (ev_pos (by simp only [Int.toNat_natCast]; omega) ?_)
  simp only [Int.toNat_natCast]
  have := toStringS_l0 l hl l [] (List.replicate l.length (⟨#[]⟩ : ByteArray)) rfl (by simp)
  exact this

theorem eqStringS_l0 (x0 x1 : List ByteArray) (hl : (x0.length : Int) ≤ 9223372036854775806) : ∀ (t u pre pre' : List ByteArray), x0 = pre ++ t → x1 = pre' ++ u → pre.length = pre'.length → t.length = u.length →
    Ev (fun k => laws_eqStringS.l0 k x0 x1 (pre.length : Int)) (decide (t = u)) := by
  intro t
  induction t with
  | nil =>
    intro u pre pre' h h' hp hu
    obtain rfl := List.length_eq_zero_iff.1 hu.symm
    refine ev_succ ?_
    simp only [laws_eqStringS.l0]
    exact ev_neg (by rw [h]; exact not_lt_end) (ev_some (by simp))
  | cons s t ih =>
    intro u pre pre' h h' hp hu
    cases u with
    | nil => simp at hu
    | cons q u =>
      have hm : ((pre.length : Nat) : Int) < (x0.length : Int) := by rw [h]; exact lt_mid
      have hm' : ((pre.length : Nat) : Int) < (x1.length : Int) := by rw [h', hp]; exact lt_mid
      have hg : rdOf ByteArray.empty x0 (pre.length : Int) = s := by rw [h]; exact rdOf_mid
      have hg' : rdOf ByteArray.empty x1 (pre.length : Int) = q := by rw [h', hp]; exact rdOf_mid
      refine ev_succ ?_
      simp only [laws_eqStringS.l0, hg, hg', tl_inj]
      refine ev_pos hm (ev_pos (by omega) (ev_pos hm' ?_))
      by_cases c : s = q
      · refine ev_pos c ?_
        rw [winc (by omega)]
        have := ih u (pre ++ [s]) (pre' ++ [q]) (by rw [h]; simp) (by rw [h']; simp) (by simp [hp]) (by simpa using hu)
        rw [len_one] at this
        rw [show decide (s :: t = q :: u) = decide (t = u) from by simp [c]]
        exact this
      · exact ev_neg c (ev_some (by simp [c]))
theorem eqStringS_f (a b : List ByteArray) (hl : (a.length : Int) ≤ 9223372036854775806) : Ev (fun k => laws_eqStringS.f k a b) (decide (a = b)) := by
  unfold laws_eqStringS.f
  by_cases c : a.length = b.length
  · refine ev_pos (by omega) ?_
    exact eqStringS_l0 a b hl a b [] [] rfl rfl rfl c
  · exact ev_neg (by omega) (ev_some (by
      have : ¬ a = b := fun e => c (by rw [e])
      simp [this]))

end Go.Proofs.YtfedgkmklcialaaQ
namespace Go.Proofs.YtfedgkmklcialaaQ
open Go Go.RowKit Go.Proofs.YtfedgkmklcialaaW.PrintWords Go.Proofs.YtfedgkmklcialaaGp Go.Proofs.Ytfedgkmklcialaa.PM

def counts : Nat → Int → List Int
  | 0, _ => []
  | n + 1, a => a :: counts n (a + 1)
theorem markIntS_l0 : ∀ (t pre : List Int) (a : Int), 0 ≤ a → a + (t.length : Int) ≤ 4611686018427387904 → ((pre.length + t.length : Nat) : Int) ≤ 4611686018427387904 →
    Ev (fun k => laws_markIntS.l0 k (pre ++ t) a (pre.length : Int)) (a + (t.length : Int), pre ++ counts t.length a) := by
  intro t
  induction t with
  | nil =>
    intro pre a h0 h1 h2
    refine ev_succ ?_
    simp only [laws_markIntS.l0]
    exact ev_neg not_lt_end (ev_some (by simp [counts]))
  | cons s t ih =>
    intro pre a h0 h1 h2
    simp only [List.length_cons] at h1 h2
    refine ev_succ ?_
    simp only [laws_markIntS.l0]
    refine ev_pos lt_mid (ev_pos (by omega) ?_)
    simp only [set_mid]
    rw [winc (by omega), w64 (x := a + 1) (by omega) (by omega)]
    have := ih (pre ++ [a]) (a + 1) (by omega) (by omega) (by simp; omega)
    rw [len_one, app_one] at this
    simp only [List.length_cons, counts]
    rw [show ((t.length + 1 : Nat) : Int) = 1 + (t.length : Int) from by omega, ← Int.add_assoc]
    simpa using this
theorem markIntS_f (l : List Int) (a : Int) (h0 : 0 ≤ a) (h1 : a + (l.length : Int) ≤ 4611686018427387904) : Ev (fun k => laws_markIntS.f k l a) (a + (l.length : Int), counts l.length a) := by
  unfold laws_markIntS.f
  have := markIntS_l0 l [] a h0 h1 (by simp; omega)
  exact this
theorem heldIntS_l0 : ∀ (n : Nat) (pre : List Int) (a : Int), 0 ≤ a → a + (n : Int) ≤ 4611686018427387904 → ((pre.length + n : Nat) : Int) ≤ 4611686018427387904 →
    Ev (fun k => laws_heldIntS.l0 k (pre ++ counts n a) a (pre.length : Int)) (a + (n : Int)) := by
  intro n
  induction n with
  | zero =>
    intro pre a h0 h1 h2
    refine ev_succ ?_
    simp only [laws_heldIntS.l0, counts]
    exact ev_neg not_lt_end (ev_some (by simp))
  | succ n ih =>
    intro pre a h0 h1 h2
    refine ev_succ ?_
    simp only [laws_heldIntS.l0, counts, rd_mid]
    refine ev_pos lt_mid (ev_pos (by omega) (ev_pos trivial ?_))
    rw [winc (by omega), w64 (x := a + 1) (by omega) (by omega)]
    have := ih (pre ++ [a]) (a + 1) (by omega) (by omega) (by simp; omega)
    rw [len_one, app_one] at this
    rw [show a + ((n + 1 : Nat) : Int) = a + 1 + (n : Int) from by omega]
    exact this
theorem heldIntS_f (n : Nat) (a : Int) (h0 : 0 ≤ a) (h1 : a + (n : Int) ≤ 4611686018427387904) : Ev (fun k => laws_heldIntS.f k (counts n a) a) (a + (n : Int)) := by
  unfold laws_heldIntS.f
  have := heldIntS_l0 n [] a h0 h1 (by simp; omega)
  exact this
end Go.Proofs.YtfedgkmklcialaaQ
namespace Go.Proofs.YtfedgkmklcialaaQ
open Go Go.RowKit Go.Proofs.YtfedgkmklcialaaW.PrintWords Go.Proofs.YtfedgkmklcialaaGp Go.Proofs.Ytfedgkmklcialaa.PM

theorem tdiv10 {x : Int} (h : 0 < x) : 0 ≤ Int.tdiv x 10 ∧ Int.tdiv x 10 < x ∧ Int.tmod x 10 = x % 10 ∧ Int.tdiv x 10 = x / 10 := by
  rw [Int.tdiv_eq_ediv_of_nonneg (by omega), Int.tmod_eq_emod_of_nonneg (by omega)]
  omega
theorem strOf1 (n : Int) : (strOfNums [n]).size = 1 := by simp [strOfNums, ByteArray.size]
theorem markText_l0 : ∀ (n : Nat) (x : Int) (s : ByteArray), x ≤ n → 0 ≤ x → x ≤ 9223372036854775807 → (s.size : Int) + x ≤ 4611686018427387904 → ∃ r, Ev (fun k => laws_markText.l0 k x s) r := by
  intro n
  induction n with
  | zero =>
    intro x s hx h0 h1 h2
    refine ⟨(⟨#[109]⟩ : ByteArray) ++ s, ev_succ ?_⟩
    simp only [laws_markText.l0]
    exact ev_neg (by omega) (ev_pos (by omega) (Ev.now _))
  | succ n ih =>
    intro x s hx h0 h1 h2
    by_cases c : x > 0
    · obtain ⟨q0, q1, q2, q3⟩ := tdiv10 c
      obtain ⟨r, hr⟩ := ih (Int.tdiv x 10) (strOfNums [(wrap64 (48 + (Int.tmod x 10))) % 256] ++ s) (by omega) (by omega) (by omega) (by simp only [ByteArray.size_append, strOf1]; omega)
      refine ⟨r, ev_succ ?_⟩
      simp only [laws_markText.l0, Option.bind_some, strOf1]
      refine ev_pos c (ev_pos (by omega) ?_)
      rw [w64 (x := Int.tdiv x 10) (by omega) (by omega)]
      exact hr
    · refine ⟨(⟨#[109]⟩ : ByteArray) ++ s, ev_succ ?_⟩
      simp only [laws_markText.l0]
      exact ev_neg c (ev_pos (by omega) (Ev.now _))
theorem markText_f (x : Int) (h : x ≤ 4611686018427387904) : ∃ r, Ev (fun k => laws_markText.f k x) r := by
  unfold laws_markText.f
  by_cases c : x ≤ 0
  · exact ⟨_, ev_pos c (Ev.now _)⟩
  · obtain ⟨r, hr⟩ := markText_l0 x.toNat x ⟨#[]⟩ (by omega) (by omega) (by omega) (by
      have : (⟨#[]⟩ : ByteArray).size = 0 := rfl
      omega)
    exact ⟨r, ev_neg c hr⟩
open Classical in
noncomputable def mark (x : Int) : ByteArray := if h : ∃ r, Ev (fun k => laws_markText.f k x) r then Classical.choose h else ⟨#[]⟩
theorem mark_ev (x : Int) (h : x ≤ 4611686018427387904) : Ev (fun k => laws_markText.f k x) (mark x) := by
  unfold mark
  rw [dif_pos (markText_f x h)]
  exact Classical.choose_spec (markText_f x h)
noncomputable def marks : Nat → Int → List ByteArray
  | 0, _ => []
  | n + 1, a => mark a :: marks n (a + 1)
theorem markStringS_l0 : ∀ (t pre : List ByteArray) (a : Int), 0 ≤ a → a + (t.length : Int) ≤ 4611686018427387904 → ((pre.length + t.length : Nat) : Int) ≤ 4611686018427387904 →
    Ev (fun k => laws_markStringS.l0 k (pre ++ t) a (pre.length : Int)) (a + (t.length : Int), pre ++ marks t.length a) := by
  intro t
  induction t with
  | nil =>
    intro pre a h0 h1 h2
    refine ev_succ ?_
    simp only [laws_markStringS.l0]
    exact ev_neg not_lt_end (ev_some (by simp [marks]))
  | cons s t ih =>
    intro pre a h0 h1 h2
    simp only [List.length_cons] at h1 h2
    refine ev_succ ?_
    simp only [laws_markStringS.l0]
    refine ev_pos lt_mid (ev_bind _ (mark_ev a (by omega)) (ev_pos (by omega) ?_))
    simp only [set_mid]
    rw [winc (by omega), w64 (x := a + 1) (by omega) (by omega)]
    have := ih (pre ++ [mark a]) (a + 1) (by omega) (by omega) (by simp; omega)
    rw [len_one, app_one] at this
    simp only [List.length_cons, marks]
    rw [show ((t.length + 1 : Nat) : Int) = 1 + (t.length : Int) from by omega, ← Int.add_assoc]
    simpa using this
theorem markStringS_f (l : List ByteArray) (a : Int) (h0 : 0 ≤ a) (h1 : a + (l.length : Int) ≤ 4611686018427387904) : Ev (fun k => laws_markStringS.f k l a) (a + (l.length : Int), marks l.length a) := by
  unfold laws_markStringS.f
  have := markStringS_l0 l [] a h0 h1 (by simp; omega)
  exact this

end Go.Proofs.YtfedgkmklcialaaQ
namespace Go.Proofs.YtfedgkmklcialaaQ
open Go Go.RowKit Go.Proofs.YtfedgkmklcialaaW.PrintWords Go.Proofs.YtfedgkmklcialaaGp Go.Proofs.Ytfedgkmklcialaa.PM

theorem heldStringS_l0 : ∀ (n : Nat) (pre : List ByteArray) (a : Int), 0 ≤ a → a + (n : Int) ≤ 4611686018427387904 → ((pre.length + n : Nat) : Int) ≤ 4611686018427387904 →
    Ev (fun k => laws_heldStringS.l0 k (pre ++ marks n a) a (pre.length : Int)) (a + (n : Int)) := by
  intro n
  induction n with
  | zero =>
    intro pre a h0 h1 h2
    refine ev_succ ?_
    simp only [laws_heldStringS.l0, marks]
    exact ev_neg not_lt_end (ev_some (by simp))
  | succ n ih =>
    intro pre a h0 h1 h2
    refine ev_succ ?_
    simp only [laws_heldStringS.l0, marks, rdOf_mid, tl_inj]
    refine ev_pos lt_mid (ev_pos (by omega) (ev_bind _ (mark_ev a (by omega)) (ev_pos rfl ?_)))
    rw [winc (by omega), w64 (x := a + 1) (by omega) (by omega)]
    have := ih (pre ++ [mark a]) (a + 1) (by omega) (by omega) (by simp; omega)
    rw [len_one, app_one] at this
    rw [show a + ((n + 1 : Nat) : Int) = a + 1 + (n : Int) from by omega]
    exact this
theorem heldStringS_f (n : Nat) (a : Int) (h0 : 0 ≤ a) (h1 : a + (n : Int) ≤ 4611686018427387904) : Ev (fun k => laws_heldStringS.f k (marks n a) a) (a + (n : Int)) := by
  unfold laws_heldStringS.f
  have := heldStringS_l0 n [] a h0 h1 (by simp; omega)
  exact this
end Go.Proofs.YtfedgkmklcialaaQ
namespace Go.Proofs.YtfedgkmklcialaaQ
open Go Go.RowKit Go.Proofs.YtfedgkmklcialaaW.PrintWords Go.Proofs.YtfedgkmklcialaaGp Go.Proofs.Ytfedgkmklcialaa.PM

theorem toIntS_l0 (x0 : List Int) (hl : (x0.length : Int) ≤ 1048576) : ∀ (t pre r : List Int), x0 = pre ++ t → r.length = t.length →
    Ev (fun k => laws_toIntS.l0 k x0 (pre ++ r) (pre.length : Int)) x0 := by
  intro t
  induction t with
  | nil =>
    intro pre r h hr
    obtain rfl := List.length_eq_zero_iff.1 hr
    refine ev_succ ?_
    simp only [laws_toIntS.l0]
    refine ev_neg (by rw [h]; exact not_lt_end) (ev_some h.symm)
  | cons s t ih =>
    intro pre r h hr
    cases r with
    | nil => simp at hr
    | cons q r =>
      have hm : ((pre.length : Nat) : Int) < (x0.length : Int) := by rw [h]; exact lt_mid
      have hg : rd x0 (pre.length : Int) = s := by rw [h]; exact rd_mid
      refine ev_succ ?_
      simp only [laws_toIntS.l0, hg, set_mid]
      refine ev_pos hm (ev_pos (by omega) (ev_pos lt_mid ?_))
      rw [winc (by omega)]
      have := ih (pre ++ [s]) r (by rw [h]; simp) (by simpa using hr)
      rw [len_one, app_one] at this
      exact this
theorem toIntS_f (l : List Int) (hl : (l.length : Int) ≤ 1048576) : Ev (fun k => laws_toIntS.f k l) l := by
  unfold laws_toIntS.f
  refine ev_pos (by omega) (ev_pos (by simp only [Int.toNat_natCast]; omega) ?_)
  simp only [Int.toNat_natCast]
  have := toIntS_l0 l hl l [] (List.replicate l.length (0 : Int)) rfl (by simp)
  exact this

theorem eqIntS_l0 (x0 x1 : List Int) (hl : (x0.length : Int) ≤ 9223372036854775806) : ∀ (t u pre pre' : List Int), x0 = pre ++ t → x1 = pre' ++ u → pre.length = pre'.length → t.length = u.length →
    Ev (fun k => laws_eqIntS.l0 k x0 x1 (pre.length : Int)) (decide (t = u)) := by
  intro t
  induction t with
  | nil =>
    intro u pre pre' h h' hp hu
    obtain rfl := List.length_eq_zero_iff.1 hu.symm
    refine ev_succ ?_
    simp only [laws_eqIntS.l0]
    exact ev_neg (by rw [h]; exact not_lt_end) (ev_some (by simp))
  | cons s t ih =>
    intro u pre pre' h h' hp hu
    cases u with
    | nil => simp at hu
    | cons q u =>
      have hm : ((pre.length : Nat) : Int) < (x0.length : Int) := by rw [h]; exact lt_mid
      have hm' : ((pre.length : Nat) : Int) < (x1.length : Int) := by rw [h', hp]; exact lt_mid
      have hg : rd x0 (pre.length : Int) = s := by rw [h]; exact rd_mid
      have hg' : rd x1 (pre.length : Int) = q := by rw [h', hp]; exact rd_mid
      refine ev_succ ?_
      simp only [laws_eqIntS.l0, hg, hg']
      refine ev_pos hm (ev_pos (by omega) (ev_pos hm' ?_))
      by_cases c : s = q
      · refine ev_pos c ?_
        rw [winc (by omega)]
        have := ih u (pre ++ [s]) (pre' ++ [q]) (by rw [h]; simp) (by rw [h']; simp) (by simp [hp]) (by simpa using hu)
        rw [len_one] at this
        rw [show decide (s :: t = q :: u) = decide (t = u) from by simp [c]]
        exact this
      · exact ev_neg c (ev_some (by simp [c]))
theorem eqIntS_f (a b : List Int) (hl : (a.length : Int) ≤ 9223372036854775806) : Ev (fun k => laws_eqIntS.f k a b) (decide (a = b)) := by
  unfold laws_eqIntS.f
  by_cases c : a.length = b.length
  · refine ev_pos (by omega) ?_
    exact eqIntS_l0 a b hl a b [] [] rfl rfl rfl c
  · exact ev_neg (by omega) (ev_some (by
      have : ¬ a = b := fun e => c (by rw [e])
      simp [this]))

end Go.Proofs.YtfedgkmklcialaaQ
namespace Go.Proofs.YtfedgkmklcialaaQ
open Go Go.RowKit Go.Proofs.YtfedgkmklcialaaW.PrintWords Go.Proofs.YtfedgkmklcialaaGp Go.Proofs.Ytfedgkmklcialaa.PM

theorem spec_in (n a b : Int) : spec_l1In.f n a b = some (decide (a ≤ n ∧ n ≤ b)) := by
  unfold spec_l1In.f
  by_cases h : a ≤ n <;> by_cases h' : n ≤ b <;> simp [h, h']
theorem impl_in (n a b : Int) : impl_in.f n a b = some (decide (a ≤ n ∧ n ≤ b)) := by
  unfold impl_in.f
  by_cases h : a ≤ n <;> by_cases h' : n ≤ b <;> simp [h, h']

def byteOk (c : UInt8) : Bool := decide (33 ≤ (c.toNat : Int) ∧ (c.toNat : Int) ≤ 125)
def isKeyB (s : ByteArray) : Bool := s.data.toList.all byteOk && decide (1 ≤ (s.size : Int) ∧ (s.size : Int) ≤ 12)
theorem spec_IsKey_l0 (x0 : ByteArray) (hz : (x0.size : Int) ≤ 9223372036854775806) : ∀ (t pre : List UInt8), x0.data.toList = pre ++ t →
    Ev (fun k => spec_IsKey.l0 k x0 (pre.length : Int)) (t.all byteOk && decide (1 ≤ (x0.size : Int) ∧ (x0.size : Int) ≤ 12)) := by
  intro t
  induction t with
  | nil =>
    intro pre h
    refine ev_succ ?_
    simp only [spec_IsKey.l0, spec_in, Option.bind_some]
    exact ev_neg (not_lt_size h) (ev_some (by simp))
  | cons c t ih =>
    intro pre h
    have hm := lt_size h
    refine ev_succ ?_
    simp only [spec_IsKey.l0, bt_mid h]
    refine ev_pos hm (ev_pos (by omega) ?_)
    by_cases c1 : (c.toNat : Int) < 33
    · exact ev_pos c1 (ev_some (by simp [byteOk]; omega))
    · refine ev_neg c1 ?_
      by_cases c2 : (c.toNat : Int) > 125
      · exact ev_pos c2 (ev_some (by simp [byteOk]; omega))
      · refine ev_neg c2 ?_
        rw [winc (by omega)]
        have := ih (pre ++ [c]) (by rw [h]; simp)
        rw [len_one] at this
        have hb : byteOk c = true := by simp [byteOk]; omega
        simpa [hb] using this
theorem spec_IsKey_f (s : ByteArray) (hz : (s.size : Int) ≤ 9223372036854775806) : Ev (fun k => spec_IsKey.f k s) (isKeyB s) := by
  unfold spec_IsKey.f
  exact spec_IsKey_l0 s hz s.data.toList [] rfl
theorem impl_IsKey_l0 (x0 : ByteArray) (hz : (x0.size : Int) ≤ 9223372036854775806) : ∀ (t pre : List UInt8), x0.data.toList = pre ++ t →
    Ev (fun k => impl_IsKey.l0 k x0 (x0.size : Int) (pre.length : Int)) (t.all byteOk && decide (1 ≤ (x0.size : Int) ∧ (x0.size : Int) ≤ 12)) := by
  intro t
  induction t with
  | nil =>
    intro pre h
    refine ev_succ ?_
    simp only [impl_IsKey.l0, impl_in, Option.bind_some]
    exact ev_neg (not_lt_size h) (ev_some (by simp))
  | cons c t ih =>
    intro pre h
    have hm := lt_size h
    refine ev_succ ?_
    simp only [impl_IsKey.l0, bt_mid h]
    refine ev_pos hm (ev_pos (by omega) (ev_pos hm ?_))
    by_cases c1 : (c.toNat : Int) < 33
    · exact ev_pos c1 (ev_some (by simp [byteOk]; omega))
    · refine ev_neg c1 ?_
      by_cases c2 : (c.toNat : Int) > 125
      · exact ev_pos c2 (ev_some (by simp [byteOk]; omega))
      · refine ev_neg c2 ?_
        rw [winc (by omega)]
        have := ih (pre ++ [c]) (by rw [h]; simp)
        rw [len_one] at this
        have hb : byteOk c = true := by simp [byteOk]; omega
        simpa [hb] using this
theorem impl_IsKey_f (s : ByteArray) (hz : (s.size : Int) ≤ 9223372036854775806) : Ev (fun k => impl_IsKey.f k s) (isKeyB s) := by
  unfold impl_IsKey.f
  exact impl_IsKey_l0 s hz s.data.toList [] rfl
theorem isKeyB_size {s : ByteArray} (h : isKeyB s = true) : 1 ≤ s.size ∧ s.size ≤ 12 := by
  simp [isKeyB] at h
  omega

def keysFrom : Option ByteArray → List ByteArray → Bool
  | _, [] => true
  | p, s :: t => isKeyB s && (match p with | none => true | some q => lessS q s) && keysFrom (some s) t
def areKeysB (l : List ByteArray) : Bool := keysFrom none l && decide ((l.length : Int) ≤ 40)
def lastOf (pre : List ByteArray) : Option ByteArray := pre.getLast?
theorem lastOf_one (pre : List ByteArray) (s : ByteArray) : lastOf (pre ++ [s]) = some s := by simp [lastOf]
theorem lastOf_nil : lastOf [] = none := rfl
theorem last_split {pre : List ByteArray} (h : 0 < pre.length) : ∃ q p, pre = q ++ [p] := by
  obtain ⟨x, hx⟩ : ∃ x, pre.getLast? = some x := by
    cases hp : pre.getLast? with
    | none => rw [List.getLast?_eq_none_iff] at hp; subst hp; simp at h
    | some x => exact ⟨x, rfl⟩
  obtain ⟨q, hq⟩ := List.getLast?_eq_some_iff.1 hx
  exact ⟨q, x, hq⟩

theorem spec_biKeys_l0 (x0 : List ByteArray) (hl : (x0.length : Int) ≤ 9223372036854775806) : ∀ (t pre : List ByteArray), x0 = pre ++ t → (∀ s ∈ t, (s.size : Int) ≤ 9223372036854775806) →
    Ev (fun k => spec_biKeys.l0 k x0 x0 (x0.length : Int) (pre.length : Int)) (keysFrom (lastOf pre) t && decide ((x0.length : Int) ≤ 40)) := by
  intro t
  induction t with
  | nil =>
    intro pre h hs
    refine ev_succ ?_
    simp only [spec_biKeys.l0]
    exact ev_neg (by rw [h]; exact not_lt_end) (ev_some (by simp [keysFrom]))
  | cons s t ih =>
    intro pre h hs
    have hm : ((pre.length : Nat) : Int) < (x0.length : Int) := by rw [h]; exact lt_mid
    have hg : rdOf ByteArray.empty x0 (pre.length : Int) = s := by rw [h]; exact rdOf_mid
    have next := ih (pre ++ [s]) (by rw [h]; simp) (fun x hx => hs x (by simp [hx]))
    rw [len_one, lastOf_one] at next
    refine ev_succ ?_
    simp only [spec_biKeys.l0, hg]
    refine ev_pos hm (ev_pos (by omega) (ev_pos hm (ev_bind _ (spec_IsKey_f s (hs s (by simp))) ?_)))
    cases hk : isKeyB s with
    | false => exact ev_neg (by simp) (ev_some (by simp [keysFrom, hk]))
    | true =>
      refine ev_pos rfl ?_
      by_cases c : 0 < pre.length
      · obtain ⟨q, p, rfl⟩ := last_split c
        have hp : rdOf ByteArray.empty x0 ((q.length : Nat) : Int) = p := by rw [h]; exact rdOf_last
        have hw : wrap64 (((q ++ [p]).length : Int) - 1) = (q.length : Int) := by rw [len_one]; exact wdec (by simp at hm; omega)
        simp only [hw, hp, lastOf_one, keysFrom, hk, Bool.true_and]
        refine ev_pos (by omega) (ev_pos (by omega) (ev_pos (by simp at hm; omega) ?_))
        by_cases c2 : lessS p s = true
        · refine ev_pos c2 ?_
          rw [winc (by omega), c2, Bool.true_and]
          exact next
        · refine ev_neg c2 (ev_some ?_)
          simp only [Bool.not_eq_true] at c2
          simp [c2]
      · obtain rfl := List.length_eq_zero_iff.1 (show pre.length = 0 by omega)
        refine ev_neg (by simp) ?_
        rw [winc (by omega)]
        simp only [lastOf_nil, keysFrom, hk, Bool.true_and]
        exact next
theorem spec_biKeys_f (l : List ByteArray) (hl : (l.length : Int) ≤ 9223372036854775806) (hs : ∀ s ∈ l, (s.size : Int) ≤ 9223372036854775806) : Ev (fun k => spec_biKeys.f k l) (areKeysB l) := by
  unfold spec_biKeys.f
  exact spec_biKeys_l0 l hl l [] rfl hs
theorem impl_AreKeys_l0 (x0 : List ByteArray) (hl : (x0.length : Int) ≤ 9223372036854775806) : ∀ (t pre : List ByteArray), x0 = pre ++ t → (∀ s ∈ t, (s.size : Int) ≤ 9223372036854775806) →
    Ev (fun k => impl_AreKeys.l0 k x0 x0 (x0.length : Int) (pre.length : Int)) (keysFrom (lastOf pre) t && decide ((x0.length : Int) ≤ 40)) := by
  intro t
  induction t with
  | nil =>
    intro pre h hs
    refine ev_succ ?_
    simp only [impl_AreKeys.l0]
    exact ev_neg (by rw [h]; exact not_lt_end) (ev_some (by simp [keysFrom]))
  | cons s t ih =>
    intro pre h hs
    have hm : ((pre.length : Nat) : Int) < (x0.length : Int) := by rw [h]; exact lt_mid
    have hg : rdOf ByteArray.empty x0 (pre.length : Int) = s := by rw [h]; exact rdOf_mid
    have next := ih (pre ++ [s]) (by rw [h]; simp) (fun x hx => hs x (by simp [hx]))
    rw [len_one, lastOf_one] at next
    refine ev_succ ?_
    simp only [impl_AreKeys.l0, hg]
    refine ev_pos hm (ev_pos (by omega) (ev_pos hm (ev_bind _ (impl_IsKey_f s (hs s (by simp))) ?_)))
    cases hk : isKeyB s with
    | false => exact ev_neg (by simp) (ev_some (by simp [keysFrom, hk]))
    | true =>
      refine ev_pos rfl ?_
      by_cases c : 0 < pre.length
      · obtain ⟨q, p, rfl⟩ := last_split c
        have hp : rdOf ByteArray.empty x0 ((q.length : Nat) : Int) = p := by rw [h]; exact rdOf_last
        have hw : wrap64 (((q ++ [p]).length : Int) - 1) = (q.length : Int) := by rw [len_one]; exact wdec (by simp at hm; omega)
        simp only [hw, hp, lastOf_one, keysFrom, hk, Bool.true_and]
        refine ev_pos (by omega) (ev_pos (by omega) (ev_pos (by simp at hm; omega) ?_))
        by_cases c2 : lessS p s = true
        · refine ev_pos c2 ?_
          rw [winc (by omega), c2, Bool.true_and]
          exact next
        · refine ev_neg c2 (ev_some ?_)
          simp only [Bool.not_eq_true] at c2
          simp [c2]
      · obtain rfl := List.length_eq_zero_iff.1 (show pre.length = 0 by omega)
        refine ev_neg (by simp) ?_
        rw [winc (by omega)]
        simp only [lastOf_nil, keysFrom, hk, Bool.true_and]
        exact next
theorem impl_AreKeys_f (l : List ByteArray) (hl : (l.length : Int) ≤ 9223372036854775806) (hs : ∀ s ∈ l, (s.size : Int) ≤ 9223372036854775806) : Ev (fun k => impl_AreKeys.f k l) (areKeysB l) := by
  unfold impl_AreKeys.f
  exact impl_AreKeys_l0 l hl l [] rfl hs
theorem areKeysB_len {l : List ByteArray} (h : areKeysB l = true) : l.length ≤ 40 := by
  simp [areKeysB] at h
  omega
theorem keysFrom_all : ∀ (p : Option ByteArray) (l : List ByteArray), keysFrom p l = true → ∀ s ∈ l, isKeyB s = true
  | _, [], _, s, h => by simp at h
  | p, x :: t, hk, s, h => by
    simp only [keysFrom, Bool.and_eq_true] at hk
    rcases List.mem_cons.1 h with rfl | h
    · exact hk.1.1
    · exact keysFrom_all _ t hk.2 s h
theorem areKeysB_all {l : List ByteArray} (h : areKeysB l = true) : ∀ s ∈ l, isKeyB s = true := by
  simp only [areKeysB, Bool.and_eq_true] at h
  exact keysFrom_all _ _ h.1
theorem areKeysB_from {l : List ByteArray} (h : areKeysB l = true) : keysFrom none l = true := by
  simp only [areKeysB, Bool.and_eq_true] at h
  exact h.1
theorem keysFrom_less : ∀ (q : ByteArray) (l : List ByteArray), keysFrom (some q) l = true → ∀ s ∈ l, lessS q s = true
  | _, [], _, s, h => by simp at h
  | q, x :: t, hk, s, h => by
    simp only [keysFrom, Bool.and_eq_true] at hk
    rcases List.mem_cons.1 h with rfl | h
    · exact hk.1.2
    · exact lessS_trans hk.1.2 (keysFrom_less x t hk.2 s h)
end Go.Proofs.YtfedgkmklcialaaQ
namespace Go.Proofs.YtfedgkmklcialaaQ
open Go Go.RowKit Go.Proofs.YtfedgkmklcialaaW.PrintWords Go.Proofs.YtfedgkmklcialaaGp Go.Proofs.Ytfedgkmklcialaa.PM

def common : List UInt8 → List UInt8 → Nat
  | a :: l, b :: m => if a = b then common l m + 1 else 0
  | _, _ => 0
theorem common_le_right : ∀ l m, common l m ≤ m.length
  | [], _ => by simp [common]
  | _ :: _, [] => by simp [common]
  | a :: l, b :: m => by
    simp only [common]
    split
    · have := common_le_right l m; simp; omega
    · simp
theorem u8_eq {c d : UInt8} : (c.toNat : Int) = (d.toNat : Int) ↔ c = d := by
  constructor
  · intro h; exact UInt8.toNat_inj.1 (by omega)
  · rintro rfl; rfl
theorem spec_trCommon_l0 (a b : ByteArray) (hz : (a.size : Int) ≤ 9223372036854775806) : ∀ (t u pre pre' : List UInt8), a.data.toList = pre ++ t → b.data.toList = pre' ++ u → pre.length = pre'.length →
    Ev (fun k => spec_trCommon.l0 k a b (pre.length : Int)) ((pre.length + common t u : Nat) : Int) := by
  intro t
  induction t with
  | nil =>
    intro u pre pre' h h' hp
    refine ev_succ ?_
    simp only [spec_trCommon.l0]
    exact ev_neg (not_lt_size h) (ev_some (by simp [common]))
  | cons c t ih =>
    intro u pre pre' h h' hp
    have hm := lt_size h
    refine ev_succ ?_
    simp only [spec_trCommon.l0]
    refine ev_pos hm ?_
    cases u with
    | nil => exact ev_neg (by rw [hp]; exact not_lt_size h') (ev_some (by simp [common]))
    | cons d u =>
      refine ev_pos (by rw [hp]; exact lt_size h') (ev_pos (by omega) ?_)
      rw [bt_mid h, show ((pre.length : Nat) : Int) = ((pre'.length : Nat) : Int) from by rw [hp], bt_mid h', ← hp]
      by_cases e : c = d
      · refine ev_pos (u8_eq.2 e) ?_
        rw [winc (by omega)]
        have := ih u (pre ++ [c]) (pre' ++ [d]) (by rw [h]; simp) (by rw [h']; simp) (by simp [hp])
        rw [len_one] at this
        simp only [common, if_pos e]
        rw [show pre.length + (common t u + 1) = (pre ++ [c]).length + common t u from by simp; omega]
        exact this
      · exact ev_neg (fun h => e (u8_eq.1 h)) (ev_some (by simp [common, e]))
def comS (p s : ByteArray) : Nat := common p.data.toList s.data.toList
theorem comS_le (p s : ByteArray) : comS p s ≤ s.size := by rw [size_len]; exact common_le_right _ _
theorem spec_trCommon_f (a b : ByteArray) (hz : (a.size : Int) ≤ 9223372036854775806) : Ev (fun k => spec_trCommon.f k a b) (comS a b : Int) := by
  unfold spec_trCommon.f comS
  have := spec_trCommon_l0 a b hz a.data.toList b.data.toList [] [] rfl rfl rfl
  simpa using this

def keepOf (b : Int) (i : Nat) (p : Option ByteArray) (s : ByteArray) : Nat := if Int.tmod (i : Int) b > 0 then comS (p.getD ⟨#[]⟩) s else 0
def frontL (b : Int) : Nat → Option ByteArray → List ByteArray → List (Int × ByteArray)
  | _, _, [] => []
  | i, p, s :: t => ((keepOf b i p s : Int), s.extract (keepOf b i p s) s.size) :: frontL b (i + 1) (some s) t
def keepsL (b : Int) (l : List ByteArray) : List Int := (frontL b 0 none l).map Prod.fst
def tailsL (b : Int) (l : List ByteArray) : List ByteArray := (frontL b 0 none l).map Prod.snd
theorem frontL_len (b : Int) : ∀ i p l, (frontL b i p l).length = l.length
  | _, _, [] => rfl
  | i, p, s :: t => by simp [frontL, frontL_len b (i + 1) (some s) t]
theorem tmod_pos_len {i : Nat} {b : Int} (h : Int.tmod (i : Int) b > 0) : 0 < i := by
  rcases Nat.eq_zero_or_pos i with rfl | h'
  · simp at h
  · exact h'
theorem spec_trFront_l0 (x0 : List ByteArray) (b : Int) (hb : ¬ b = 0) (hl : x0.length ≤ 1000000) (hs : ∀ s ∈ x0, (s.size : Int) ≤ 9223372036854775806) : ∀ (t pre : List ByteArray) (ks : List Int) (ts : List ByteArray), x0 = pre ++ t → ks.length = pre.length → ts.length = pre.length →
    Ev (fun k => spec_trFront.l0 k x0 b x0 (x0.length : Int) (pre.length : Int) b ks ts) (b, ks ++ (frontL b pre.length (lastOf pre) t).map Prod.fst, ts ++ (frontL b pre.length (lastOf pre) t).map Prod.snd) := by
  intro t
  induction t with
  | nil =>
    intro pre ks ts h hk ht
    refine ev_succ ?_
    simp only [spec_trFront.l0]
    exact ev_neg (by rw [h]; exact not_lt_end) (ev_some (by simp [frontL]))
  | cons s t ih =>
    intro pre ks ts h hk ht
    have hm : ((pre.length : Nat) : Int) < (x0.length : Int) := by rw [h]; exact lt_mid
    have hg : rdOf ByteArray.empty x0 (pre.length : Int) = s := by rw [h]; exact rdOf_mid
    have next := fun n t' => ih (pre ++ [s]) (ks ++ [n]) (ts ++ [t']) (by rw [h]; simp) (by simp [hk]) (by simp [ht])
    simp only [lastOf_one, List.length_append, List.length_cons, List.length_nil, Nat.zero_add] at next
    refine ev_succ ?_
    simp only [spec_trFront.l0, hg]
    refine ev_pos hm (ev_pos (by omega) (ev_pos hm (ev_neg hb ?_)))
    by_cases c : Int.tmod ((pre.length : Nat) : Int) b > 0
    · refine ev_pos c ?_
      obtain ⟨q, p, rfl⟩ := last_split (tmod_pos_len c)
      have hp : rdOf ByteArray.empty x0 ((q.length : Nat) : Int) = p := by rw [h]; exact rdOf_last
      have hpm : p ∈ x0 := by rw [h]; simp
      have hw : wrap64 (((q ++ [p]).length : Int) - 1) = (q.length : Int) := by rw [len_one]; exact wdec (by simp at hm; omega)
      have hkeep : keepOf b (q ++ [p]).length (lastOf (q ++ [p])) s = comS p s := by unfold keepOf; rw [if_pos c, lastOf_one]; rfl
      have hle := comS_le p s
      simp only [hw, hp]
      refine ev_pos (by omega) (ev_pos (by simp at hm; omega) (ev_bind _ (spec_trCommon_f p s (hs p hpm)) ?_))
      refine ev_pos (by rw [hk]; simp only [List.length_append, List.length_cons, List.length_nil] at hm ⊢; omega) (ev_pos (by omega) (ev_pos (by omega) (ev_pos (by rw [ht]; simp only [List.length_append, List.length_cons, List.length_nil] at hm ⊢; omega) ?_)))
      rw [winc (by simp at hm; simp; omega)]
      have n := next (comS p s : Int) (s.extract (comS p s) s.size)
      simp only [frontL, hkeep, List.map_cons, Int.toNat_natCast]
      simpa using n
    · refine ev_neg c (ev_pos (by rw [hk]; omega) (ev_pos (by omega) (ev_pos (by rw [ht]; omega) ?_)))
      have hkeep : keepOf b pre.length (lastOf pre) s = 0 := by unfold keepOf; rw [if_neg c]
      rw [winc (by omega)]
      have n := next 0 s
      simp only [frontL, hkeep, List.map_cons, ByteArray.extract_zero_size]
      simpa using n
theorem spec_trFront_f (l : List ByteArray) (b : Int) (hb : ¬ b = 0) (hl : l.length ≤ 1000000) (hs : ∀ s ∈ l, (s.size : Int) ≤ 9223372036854775806) : Ev (fun k => spec_trFront.f k l b) (b, keepsL b l, tailsL b l) := by
  unfold spec_trFront.f
  exact spec_trFront_l0 l b hb hl hs l [] [] [] rfl rfl rfl

theorem impl_front_l1 (x0 x11 : List ByteArray) (b i : Int) (key p : ByteArray) (x12 x13 b' : Int) (ks : List Int) (ts : List ByteArray) (r : Int × List Int × List ByteArray) (hb : ¬ b = 0) (hi : Int.tmod i b > 0)
    (h0 : 0 ≤ wrap64 (i - 1)) (h1 : wrap64 (i - 1) < (x0.length : Int)) (hp : rdOf ByteArray.empty x0 (wrap64 (i - 1)) = p) (hz : (key.size : Int) ≤ 9223372036854775806) : ∀ (t u pre pre' : List UInt8), key.data.toList = pre ++ t → p.data.toList = pre' ++ u → pre.length = pre'.length →
    Ev (fun k => impl_front.j2 k x0 b i key ((pre.length + common u t : Nat) : Int) x11 x12 x13 false b' ks ts) r →
    Ev (fun k => impl_front.l1 k x0 b i key (pre.length : Int) x11 x12 x13 b' ks ts) r := by
  intro t
  induction t with
  | nil =>
    intro u pre pre' h h' hpp hr
    refine ev_succ ?_
    simp only [impl_front.l1]
    refine ev_neg hb (ev_pos hi (ev_neg (not_lt_size h) ?_))
    simpa [show common u [] = 0 from by cases u <;> rfl] using hr
  | cons c t ih =>
    intro u pre pre' h h' hpp hr
    have hm := lt_size h
    refine ev_succ ?_
    simp only [impl_front.l1, hp]
    refine ev_neg hb (ev_pos hi (ev_pos hm (ev_pos h0 (ev_pos h1 ?_))))
    cases u with
    | nil =>
      refine ev_neg (by rw [hpp]; exact not_lt_size h') ?_
      simpa [common] using hr
    | cons d u =>
      refine ev_pos (by rw [hpp]; exact lt_size h') (ev_pos (by omega) ?_)
      rw [bt_mid h, show ((pre.length : Nat) : Int) = ((pre'.length : Nat) : Int) from by rw [hpp], bt_mid h', ← hpp]
      by_cases e : d = c
      · have e' : ((c.toNat : Int) == (d.toNat : Int)) = true := by simp [e]
        rw [e']
        refine ev_succ ?_
        simp only [impl_front.j2]
        refine ev_pos trivial ?_
        rw [winc (by omega)]
        have := ih u (pre ++ [c]) (pre' ++ [d]) (by rw [h]; simp) (by rw [h']; simp) (by simp [hpp])
        rw [len_one] at this
        refine this ?_
        simp only [common, if_pos e] at hr
        rw [show (pre ++ [c]).length + common u t = pre.length + (common u t + 1) from by simp; omega]
        exact hr
      · have e' : ((c.toNat : Int) == (d.toNat : Int)) = false := by
          rw [beq_eq_false_iff_ne]
          exact fun h => e (u8_eq.1 h).symm
        rw [e']
        simpa [common, e] using hr
theorem impl_front_l0 (x0 : List ByteArray) (b : Int) (hb : ¬ b = 0) (hl : x0.length ≤ 1000000) (hs : ∀ s ∈ x0, (s.size : Int) ≤ 9223372036854775806) : ∀ (t pre : List ByteArray) (ks : List Int) (ts : List ByteArray), x0 = pre ++ t → ks.length = pre.length → ts.length = pre.length →
    Ev (fun k => impl_front.l0 k x0 b x0 (x0.length : Int) (pre.length : Int) b ks ts) (b, ks ++ (frontL b pre.length (lastOf pre) t).map Prod.fst, ts ++ (frontL b pre.length (lastOf pre) t).map Prod.snd) := by
  intro t
  induction t with
  | nil =>
    intro pre ks ts h hk ht
    refine ev_succ ?_
    simp only [impl_front.l0]
    exact ev_neg (by rw [h]; exact not_lt_end) (ev_some (by simp [frontL]))
  | cons s t ih =>
    intro pre ks ts h hk ht
    have hm : ((pre.length : Nat) : Int) < (x0.length : Int) := by rw [h]; exact lt_mid
    have hg : rdOf ByteArray.empty x0 (pre.length : Int) = s := by rw [h]; exact rdOf_mid
    have hsz := hs s (by rw [h]; simp)
    have next := fun n t' => ih (pre ++ [s]) (ks ++ [n]) (ts ++ [t']) (by rw [h]; simp) (by simp [hk]) (by simp [ht])
    simp only [lastOf_one, List.length_append, List.length_cons, List.length_nil, Nat.zero_add] at next
    -- what follows the inner loop
    have tail : ∀ n : Nat, keepOf b pre.length (lastOf pre) s = n → n ≤ s.size →
        Ev (fun k => impl_front.j2 k x0 b (pre.length : Int) s (n : Int) x0 (x0.length : Int) (pre.length : Int) false b ks ts) (b, ks ++ (frontL b pre.length (lastOf pre) (s :: t)).map Prod.fst, ts ++ (frontL b pre.length (lastOf pre) (s :: t)).map Prod.snd) := by
      intro n hn hle
      refine ev_succ ?_
      simp only [impl_front.j2, Option.bind_some, List.length_cons, List.length_nil]
      refine ev_neg (by simp) (ev_pos (by rw [hk]; omega) (ev_pos (by omega) (ev_pos (by omega) (ev_pos (by rw [ht]; omega) ?_))))
      rw [winc (by omega)]
      have m := next (n : Int) (s.extract n s.size)
      simp only [frontL, hn, List.map_cons, Int.toNat_natCast]
      simpa using m
    refine ev_succ ?_
    simp only [impl_front.l0, hg]
    refine ev_pos hm (ev_pos (by omega) (ev_pos hm ?_))
    by_cases c : Int.tmod ((pre.length : Nat) : Int) b > 0
    · obtain ⟨q, p, rfl⟩ := last_split (tmod_pos_len c)
      have hp : rdOf ByteArray.empty x0 ((q.length : Nat) : Int) = p := by rw [h]; exact rdOf_last
      have hw : wrap64 (((q ++ [p]).length : Int) - 1) = (q.length : Int) := by rw [len_one]; exact wdec (by simp at hm; omega)
      have hkeep : keepOf b (q ++ [p]).length (lastOf (q ++ [p])) s = comS p s := by unfold keepOf; rw [if_pos c, lastOf_one]; rfl
      refine impl_front_l1 x0 x0 b _ s p _ _ b ks ts _ hb c (by rw [hw]; omega) (by rw [hw]; simp at hm; omega) (by rw [hw]; exact hp) hsz s.data.toList p.data.toList [] [] rfl rfl rfl ?_
      have m := tail (comS p s) hkeep (comS_le p s)
      simpa [comS] using m
    · have hkeep : keepOf b pre.length (lastOf pre) s = 0 := by unfold keepOf; rw [if_neg c]
      refine ev_succ ?_
      simp only [impl_front.l1]
      refine ev_neg hb (ev_neg c ?_)
      exact tail 0 hkeep (Nat.zero_le _)
theorem impl_front_f (l : List ByteArray) (b : Int) (hb : ¬ b = 0) (hl : l.length ≤ 1000000) (hs : ∀ s ∈ l, (s.size : Int) ≤ 9223372036854775806) : Ev (fun k => impl_front.f k l b) (b, keepsL b l, tailsL b l) := by
  unfold impl_front.f
  exact impl_front_l0 l b hb hl hs l [] [] [] rfl rfl rfl

def blockOk (b : Int) : Bool := decide (1 ≤ b ∧ b ≤ 16)
theorem keepsL_len (b : Int) (l : List ByteArray) : (keepsL b l).length = l.length := by simp [keepsL, frontL_len]
theorem tailsL_len (b : Int) (l : List ByteArray) : (tailsL b l).length = l.length := by simp [tailsL, frontL_len]
end Go.Proofs.YtfedgkmklcialaaQ
namespace Go.Proofs.YtfedgkmklcialaaQ
open Go Go.RowKit Go.Proofs.YtfedgkmklcialaaW.PrintWords Go.Proofs.YtfedgkmklcialaaGp Go.Proofs.Ytfedgkmklcialaa.PM

theorem eqFront_same (b : Int) (ks : List Int) (ts : List ByteArray) (hk : (ks.length : Int) ≤ 9223372036854775806) (ht : (ts.length : Int) ≤ 9223372036854775806) : Ev (fun k => laws_eqFront.f k b ks ts b ks ts) true := by
  unfold laws_eqFront.f
  refine ev_pos rfl (ev_bind true (by simpa using eqIntS_f ks ks hk) (ev_pos rfl (ev_bind true (by simpa using eqStringS_f ts ts ht) (ev_pos rfl (Ev.now _)))))
end Go.Proofs.YtfedgkmklcialaaQ
namespace Go.Proofs.YtfedgkmklcialaaQ
open Go Go.RowKit Go.Proofs.YtfedgkmklcialaaW.PrintWords Go.Proofs.YtfedgkmklcialaaGp Go.Proofs.Ytfedgkmklcialaa.PM

theorem markFront_f (b : Int) (ks : List Int) (ts : List ByteArray) (a : Int) (h0 : 0 ≤ a) (h1 : a + (ks.length : Int) + (ts.length : Int) ≤ 4611686018427387904) :
    Ev (fun k => laws_markFront.f k b ks ts a) (a + (ks.length : Int) + (ts.length : Int), counts ks.length a, marks ts.length (a + (ks.length : Int))) := by
  unfold laws_markFront.f
  exact ev_bind _ (markIntS_f ks a h0 (by omega)) (ev_bind _ (markStringS_f ts (a + (ks.length : Int)) (by omega) (by omega)) (Ev.now _))
theorem heldFront_f (b : Int) (n m : Nat) (a : Int) (h0 : 0 ≤ a) (h1 : a + (n : Int) + (m : Int) ≤ 4611686018427387904) :
    Ev (fun k => laws_heldFront.f k b (counts n a) (marks m (a + (n : Int))) a) (a + (n : Int) + (m : Int)) := by
  unfold laws_heldFront.f
  refine ev_bind _ (heldIntS_f n a h0 (by omega)) (ev_neg (by omega) (ev_bind _ (heldStringS_f m (a + (n : Int)) (by omega) (by omega)) (ev_neg (by omega) (Ev.now _))))
end Go.Proofs.YtfedgkmklcialaaQ
-- printed by a program of this session (wip/gp) out of the translation; Lean checks it
namespace Go.Proofs.Ytfedgkmklcialaa.PM
open Go.RowKit Go.Proofs.YtfedgkmklcialaaW.PrintWords Go.Proofs.YtfedgkmklcialaaW.PrintLast Go.Proofs.YtfedgkmklcialaaW.PrintMore Go.Proofs.YtfedgkmklcialaaSq
attribute [local go_sem] max2_int min2_int max_two min_two max_three min_three max_four min_four   -- for this text's walks alone
attribute [local go_sem] Go.Proofs.YtfedgkmklcialaaGp.str_geq Go.Proofs.YtfedgkmklcialaaGp.str_gtr Go.Proofs.YtfedgkmklcialaaGp.str_leq
set_option linter.unusedVariables false
set_option linter.unusedSimpArgs false

set_option maxHeartbeats 8000000
set_option maxRecDepth 100000
end Go.Proofs.Ytfedgkmklcialaa.PM
namespace Go.Proofs.YtfedgkmklcialaaQ
open Go Go.RowKit Go.Proofs.YtfedgkmklcialaaW.PrintWords Go.Proofs.YtfedgkmklcialaaGp Go.Proofs.Ytfedgkmklcialaa.PM

structure Bys (s : List Int) : Prop where
  len : (s.length : Int) ≤ 1048576
  all : ∀ x ∈ s, 0 ≤ x ∧ x ≤ 255
def insK (s : ByteArray) : List ByteArray → List ByteArray
  | [] => [s]
  | q :: t => if lessS q s = true then q :: insK s t else if q = s then q :: t else s :: q :: t
theorem insK_len (s : ByteArray) : ∀ l, (insK s l).length ≤ l.length + 1
  | [] => by simp [insK]
  | q :: t => by
    have := insK_len s t
    unfold insK
    split
    · simp; omega
    · split <;> simp
theorem insK_mem (s : ByteArray) : ∀ l, ∀ x ∈ insK s l, x = s ∨ x ∈ l
  | [], x, h => by simp [insK] at h; exact .inl h
  | q :: t, x, h => by
    unfold insK at h
    split at h
    · rcases List.mem_cons.1 h with e | e
      · exact .inr (by simp [e])
      · rcases insK_mem s t x e with e | e
        · exact .inl e
        · exact .inr (by simp [e])
    · split at h
      · exact .inr h
      · rcases List.mem_cons.1 h with e | e
        · exact .inl e
        · exact .inr e
theorem putS_l0 (x0 : List ByteArray) (s : ByteArray) (hx : x0.length ≤ 1000000) : ∀ (t pre : List ByteArray), x0 = pre ++ t →
    Ev (fun k => spec_l1PutS.l0 k x0 s (pre.length : Int)) (pre ++ insK s t) := by
  intro t
  induction t with
  | nil =>
    intro pre h
    have hp : x0 = pre := by rw [h, List.append_nil]
    subst hp
    refine ev_succ ?_
    simp only [spec_l1PutS.l0]
    refine ev_neg (by omega) (ev_bind _ (Ev.now _) (ev_pos (by omega) (ev_pos (by omega) (ev_bind _ (Ev.now _) ?_))))
    rw [Int.toNat_natCast, List.take_length, List.nil_append]
    refine ev_pos (by simp; omega) (ev_bind _ (Ev.now _) (ev_pos (by omega) (ev_bind _ (Ev.now _) (ev_bind _ (Ev.now _) (ev_pos (by simp; omega) (ev_some ?_))))))
    simp [insK]
  | cons q t ih =>
    intro pre h
    have hm : ((pre.length : Nat) : Int) < (x0.length : Int) := by rw [h]; exact lt_mid
    have hg : rdOf ByteArray.empty x0 (pre.length : Int) = q := by rw [h]; exact rdOf_mid
    refine ev_succ ?_
    simp only [spec_l1PutS.l0, hg]
    refine ev_pos hm (ev_pos (by omega) ?_)
    unfold insK
    by_cases c : lessS q s = true
    · refine ev_pos c ?_
      rw [winc (by omega), if_pos c]
      have := ih (pre ++ [q]) (by rw [h]; simp)
      rw [len_one] at this
      simpa using this
    · refine ev_neg c ?_
      rw [if_neg c]
      by_cases d : q = s
      · refine ev_pos (tl_inj.2 d) (ev_some ?_)
        rw [if_pos d, h]
      · refine ev_neg (fun e => d (tl_inj.1 e)) (ev_bind _ (Ev.now _) (ev_pos (by omega) (ev_bind _ (Ev.now _) ?_)))
        have et : x0.take pre.length = pre := by rw [h]; simp
        have ed : x0.drop pre.length = q :: t := by rw [h]; simp
        have hl : x0.length = pre.length + (t.length + 1) := by rw [h]; simp
        rw [Int.toNat_natCast, et, ed, List.nil_append, if_neg d]
        refine ev_pos (by simp; omega) (ev_bind _ (Ev.now _) (ev_pos (by omega) (ev_bind _ (Ev.now _) (ev_bind _ (Ev.now _) (ev_pos (by simp; omega) (ev_some ?_))))))
        simp
theorem putS_f (l : List ByteArray) (s : ByteArray) (h : l.length ≤ 1000000) : Ev (fun k => spec_l1PutS.f k l s) (insK s l) := putS_l0 l s h l [] rfl
def Kys (m : Nat) (l : List ByteArray) : Prop := l.length ≤ m ∧ ∀ s ∈ l, s.size ≤ 13
theorem Kys.one {m : Nat} {l : List ByteArray} (h : Kys m l) {s : ByteArray} (hs : s.size ≤ 13) : Kys (m + 1) (l ++ [s]) :=
  ⟨by have := h.1; simp; omega, fun x hx => by exact (List.mem_append.1 hx).elim (h.2 x) (fun e => List.mem_singleton.1 e ▸ hs)⟩
theorem Kys.mono {m m' : Nat} {l : List ByteArray} (h : Kys m l) (hm : m ≤ m') : Kys m' l := ⟨Nat.le_trans h.1 hm, h.2⟩
end Go.Proofs.YtfedgkmklcialaaQ
namespace Go.Proofs.YtfedgkmklcialaaQ.MF
open Go Go.RowKit Go.Proofs.YtfedgkmklcialaaW.PrintWords Go.Proofs.YtfedgkmklcialaaW.PrintMore Go.Proofs.YtfedgkmklcialaaGp Go.Proofs.Ytfedgkmklcialaa.PM Go.Proofs.YtfedgkmklcialaaQ

abbrev Str := List UInt8
theorem bl_tri (a b : Str) : Op.bytesLess a b = true ∨ a = b ∨ Op.bytesLess b a = true := by
  have t := bl_total a b
  cases h : Op.bytesLess b a
  · rw [h] at t
    simp only [Bool.not_false, Bool.or_eq_true, beq_iff_eq] at t
    rcases t with t | t
    · exact .inl t
    · exact .inr (.inl t)
  · exact .inr (.inr rfl)
theorem bl_asymm {a b : Str} (h : Op.bytesLess a b = true) : Op.bytesLess b a = false := by
  cases hb : Op.bytesLess b a
  · rfl
  · have := bl_trans _ _ _ h hb
    rw [bl_irrefl] at this
    cases this
abbrev SBL (l : List Str) : Prop := l.Pairwise fun a b => Op.bytesLess a b = true
theorem ext_of {α : Type} (r : α → α → Prop) (irr : ∀ a, ¬ r a a) (tr : ∀ a b c, r a b → r b c → r a c) : ∀ {l m : List α}, l.Pairwise r → m.Pairwise r → (∀ x, x ∈ l ↔ x ∈ m) → l = m
  | [], [], _, _, _ => rfl
  | [], b :: m, _, _, h => by have := (h b).2 (by simp); simp at this
  | a :: l, [], _, _, h => by have := (h a).1 (by simp); simp at this
  | a :: l, b :: m, hl, hm, h => by
    obtain ⟨ha, hl'⟩ := List.pairwise_cons.1 hl
    obtain ⟨hb, hm'⟩ := List.pairwise_cons.1 hm
    have e : a = b := by
      rcases List.mem_cons.1 ((h a).1 (by simp)) with e | ia
      · exact e
      · rcases List.mem_cons.1 ((h b).2 (by simp)) with e | ib
        · exact e.symm
        · exact absurd (tr _ _ _ (ha b ib) (hb a ia)) (irr a)
    subst e
    refine congrArg (a :: ·) (ext_of r irr tr hl' hm' fun x => ?_)
    constructor
    · intro hx
      rcases List.mem_cons.1 ((h x).1 (by simp [hx])) with e | i
      · subst e; exact absurd (ha x hx) (irr x)
      · exact i
    · intro hx
      rcases List.mem_cons.1 ((h x).2 (by simp [hx])) with e | i
      · subst e; exact absurd (hb x hx) (irr x)
      · exact i
theorem bl_lt : ∀ a b : Str, Op.bytesLess a b = true ↔ a < b
  | [], [] => by simp [Op.bytesLess]
  | [], _ :: _ => by simp [Op.bytesLess]
  | _ :: _, [] => by simp [Op.bytesLess]
  | a :: l, b :: m => by
    rw [List.cons_lt_cons_iff]
    simp only [Op.bytesLess, Bool.or_eq_true, Bool.and_eq_true, decide_eq_true_eq, beq_iff_eq, bl_lt l m]
theorem le_bl {a b : Str} : decide (a ≤ b) = true ↔ Op.bytesLess b a = false := by
  rw [decide_eq_true_eq, ← Bool.not_eq_true, bl_lt, List.not_lt]

abbrev SK (l : List ByteArray) : Prop := l.Pairwise fun a b => lessS a b = true
theorem insK_mem {x y : ByteArray} : ∀ {l : List ByteArray}, y ∈ insK x l ↔ y = x ∨ y ∈ l
  | [] => by simp [insK]
  | z :: t => by
    unfold insK
    split
    · rw [List.mem_cons, insK_mem, List.mem_cons]
      constructor
      · rintro (h | h | h)
        · exact .inr (.inl h)
        · exact .inl h
        · exact .inr (.inr h)
      · rintro (h | h | h)
        · exact .inr (.inl h)
        · exact .inl h
        · exact .inr (.inr h)
    · split
      · rename_i e
        rw [List.mem_cons]
        constructor
        · intro h; exact .inr h
        · rintro (h | h)
          · exact .inl (h.trans e.symm)
          · exact h
      · simp [List.mem_cons]
theorem insK_sorted {x : ByteArray} : ∀ {l : List ByteArray}, SK l → SK (insK x l)
  | [], _ => by simp [insK]
  | z :: t, h => by
    obtain ⟨h1, h2⟩ := List.pairwise_cons.1 h
    unfold insK
    split
    · rename_i c
      refine List.pairwise_cons.2 ⟨fun y hy => ?_, insK_sorted h2⟩
      rcases insK_mem.1 hy with rfl | hy
      · exact c
      · exact h1 y hy
    · split
      · exact h
      · rename_i c e
        have hx : lessS x z = true := by
          rcases lessS_total z x (by simpa using c) with t | t
          · exact t
          · exact absurd t e
        refine List.pairwise_cons.2 ⟨fun y hy => ?_, h⟩
        rcases List.mem_cons.1 hy with rfl | hy
        · exact hx
        · exact lessS_trans hx (h1 y hy)
def setK (M : List ByteArray) (acc : List ByteArray) : List ByteArray := M.foldl (fun a x => insK x a) acc
theorem setK_ok : ∀ (M acc : List ByteArray), SK acc → SK (setK M acc) ∧ ∀ x, x ∈ setK M acc ↔ x ∈ acc ∨ x ∈ M
  | [], acc, h => ⟨h, fun x => by simp [setK]⟩
  | m :: M, acc, h => by
    obtain ⟨h1, h2⟩ := setK_ok M (insK m acc) (insK_sorted h)
    refine ⟨h1, fun x => ?_⟩
    show x ∈ setK M (insK m acc) ↔ _
    rw [h2, insK_mem, List.mem_cons]
    constructor
    · rintro ((h | h) | h)
      · exact .inr (.inl h)
      · exact .inl h
      · exact .inr (.inr h)
    · rintro (h | h | h)
      · exact .inl (.inr h)
      · exact .inl (.inl h)
      · exact .inr h
theorem keys_sk {K : List ByteArray} (h : areKeysB K = true) : SK K := by
  have hf := areKeysB_from h
  have go : ∀ (p : Option ByteArray) (l : List ByteArray), keysFrom p l = true → SK l := by
    intro p l
    induction l generalizing p with
    | nil => intro _; exact List.Pairwise.nil
    | cons x t ih =>
      intro hk
      simp only [keysFrom, Bool.and_eq_true] at hk
      exact List.pairwise_cons.2 ⟨fun y hy => keysFrom_less x t hk.2 y hy, ih _ hk.2⟩
  exact go none K hf
theorem sk_ext {a b : List ByteArray} (h1 : SK a) (h2 : SK b) (h : ∀ x, x ∈ a ↔ x ∈ b) : a = b :=
  ext_of (fun a b => lessS a b = true) (fun a => by rw [lessS_irrefl]; simp) (fun _ _ _ h k => lessS_trans h k) h1 h2 h
theorem bytes_le_trans (a b c : Str) (h1 : decide (a ≤ b) = true) (h2 : decide (b ≤ c) = true) : decide (a ≤ c) = true := by
  rw [le_bl] at *
  cases h : Op.bytesLess c a
  · rfl
  · rcases bl_tri a b with t | t | t
    · rw [bl_trans _ _ _ h t] at h2; cases h2
    · subst t; rw [h] at h2; cases h2
    · rw [t] at h1; cases h1
theorem bytes_le_total (a b : Str) : (decide (a ≤ b) || decide (b ≤ a)) = true := by
  rw [Bool.or_eq_true, le_bl, le_bl]
  cases h : Op.bytesLess b a
  · exact .inl rfl
  · exact .inr (bl_asymm h)
theorem compact_sbl (zs : List Str) (hs : zs.Pairwise fun a b => decide (a ≤ b) = true) : ∀ m, m ≤ zs.length →
    SBL (Lib.compactUpTo zs.toArray m) ∧ ∀ x, x ∈ Lib.compactUpTo zs.toArray m ↔ ∃ j, j < m ∧ zs[j]? = some x
  | 0, _ => by simp [Lib.compactUpTo]
  | m + 1, h => by
    obtain ⟨h1, h2⟩ := compact_sbl zs hs m (by omega)
    have hd : ∀ j, (hj : j < zs.length) → zs.toArray[j]! = zs[j] := fun j hj => by simp [hj]
    rw [Lib.compactUpTo_succ]
    by_cases c : m = 0 ∨ zs.toArray[m]! ≠ zs.toArray[m - 1]!
    · have hk : Lib.keeps zs.toArray m = true := by simpa [Lib.keeps] using c
      rw [hk, if_pos rfl, hd m (by omega)]
      refine ⟨List.pairwise_append.2 ⟨h1, by simp, fun a ha b hb => ?_⟩, fun x => ?_⟩
      · obtain rfl : b = zs[m] := by simpa using hb
        obtain ⟨j, hj, hja⟩ := (h2 a).1 ha
        rcases c with c | c
        · omega
        · rw [hd m (by omega), hd (m - 1) (by omega)] at c
          have hle : decide (zs[m - 1] ≤ zs[m]) = true := List.pairwise_iff_getElem.1 hs (m - 1) m (by omega) (by omega) (by omega)
          have hlt : Op.bytesLess zs[m - 1] zs[m] = true := by
            rcases bl_tri zs[m - 1] zs[m] with t | t | t
            · exact t
            · exact absurd t.symm c
            · have := le_bl.1 hle; rw [t] at this; cases this
          rw [List.getElem?_eq_getElem (by omega)] at hja
          obtain rfl := Option.some.inj hja
          by_cases e : j = m - 1
          · subst e; exact hlt
          · have hle2 : decide (zs[j] ≤ zs[m - 1]) = true := List.pairwise_iff_getElem.1 hs j (m - 1) (by omega) (by omega) (by omega)
            rcases bl_tri zs[j] zs[m - 1] with t | t | t
            · exact bl_trans _ _ _ t hlt
            · rw [t]; exact hlt
            · have := le_bl.1 hle2; rw [t] at this; cases this
      · rw [List.mem_append, h2]
        constructor
        · rintro (⟨j, hj, hx⟩ | hx)
          · exact ⟨j, by omega, hx⟩
          · obtain rfl : x = zs[m] := by simpa using hx
            exact ⟨m, by omega, List.getElem?_eq_getElem (by omega)⟩
        · rintro ⟨j, hj, hx⟩
          by_cases e : j = m
          · subst e
            rw [List.getElem?_eq_getElem (by omega)] at hx
            exact .inr (by simpa using (Option.some.inj hx).symm)
          · exact .inl ⟨j, by omega, hx⟩
    · have hk : Lib.keeps zs.toArray m = false := by simpa [Lib.keeps] using c
      rw [hk, if_neg (by simp), List.append_nil]
      refine ⟨h1, fun x => ?_⟩
      rw [h2]
      constructor
      · rintro ⟨j, hj, hx⟩; exact ⟨j, by omega, hx⟩
      · rintro ⟨j, hj, hx⟩
        by_cases e : j = m
        · have c1 : ¬ m = 0 := fun e => c (.inl e)
          have c2 : zs.toArray[m]! = zs.toArray[m - 1]! := by
            by_cases hh : zs.toArray[m]! = zs.toArray[m - 1]!
            · exact hh
            · exact absurd (.inr hh) c
          rw [hd m (by omega), hd (m - 1) (by omega)] at c2
          subst e
          refine ⟨j - 1, by omega, ?_⟩
          rw [List.getElem?_eq_getElem (by omega)] at hx ⊢
          rw [← c2]; exact hx
        · exact ⟨j, by omega, hx⟩
theorem bytesL_mk (l : List (List UInt8)) : bytesL (l.map fun b => ⟨b.toArray⟩) = l := by
  unfold bytesL
  rw [List.map_map]
  exact (List.map_congr_left fun _ _ => by simp).trans (List.map_id l)
theorem bytesL_mem {l : List ByteArray} {x : ByteArray} : x.data.toList ∈ bytesL l ↔ x ∈ l := by
  unfold bytesL
  rw [List.mem_map]
  constructor
  · rintro ⟨y, hy, e⟩
    have : y = x := ByteArray.ext (Array.toList_inj.1 e)
    rw [← this]; exact hy
  · intro h; exact ⟨x, h, rfl⟩
theorem merge_plain {x : List ByteArray} (hx : SK x) (y : List ByteArray) : compactS (sortS (x ++ y)) = setK y x := by
  obtain ⟨h1, h2⟩ := setK_ok y x hx
  have hp := List.pairwise_mergeSort (le := fun x y : Str => decide (x ≤ y)) (fun a b c => bytes_le_trans a b c) (fun a b => bytes_le_total a b) (bytesL (x ++ y))
  obtain ⟨c1, c2⟩ := compact_sbl _ hp _ (Nat.le_refl _)
  have e : bytesL (sortS (x ++ y)) = (bytesL (x ++ y)).mergeSort (fun x y : Str => decide (x ≤ y)) := bytesL_mk _
  unfold compactS
  rw [e]
  refine sk_ext (List.pairwise_map.2 (c1.imp fun {a b} hab => ?_)) h1 fun z => ?_
  · unfold lessS
    rw [tl, tl]
    simpa using hab
  · rw [h2, ← List.mem_append, List.mem_map]
    have hm : ∀ b : Str, b ∈ Lib.compact ((bytesL (x ++ y)).mergeSort (fun x y : Str => decide (x ≤ y))) ↔ b ∈ bytesL (x ++ y) := fun b => by
      show b ∈ Lib.compactUpTo _ _ ↔ _
      rw [c2, ← List.mem_mergeSort (le := fun x y : Str => decide (x ≤ y)) (l := bytesL (x ++ y))]
      constructor
      · rintro ⟨j, _, hj⟩; exact List.mem_of_getElem? hj
      · intro hb
        obtain ⟨j, hj, e⟩ := List.getElem_of_mem hb
        exact ⟨j, hj, by rw [List.getElem?_eq_getElem hj, e]⟩
    constructor
    · rintro ⟨b, hb, rfl⟩
      have := (hm b).1 hb
      rw [← bytesL_mem]
      simpa using this
    · intro hz
      exact ⟨z.data.toList, (hm _).2 (bytesL_mem.2 hz), by simp⟩
end Go.Proofs.YtfedgkmklcialaaQ.MF
namespace Go.Proofs.YtfedgkmklcialaaQ
open Go Go.RowKit Go.Proofs.YtfedgkmklcialaaW.PrintWords Go.Proofs.YtfedgkmklcialaaGp Go.Proofs.Ytfedgkmklcialaa.PM

def buildFrontL (l : List ByteArray) (b : Int) : Int × List Int × List ByteArray × Bool := if areKeysB l && blockOk b then (b, keepsL b l, tailsL b l, true) else (0, [], [], false)
theorem impl_BuildFront_f (l : List ByteArray) (b : Int) (hl : (l.length : Int) ≤ 9223372036854775806) (hs : ∀ s ∈ l, (s.size : Int) ≤ 9223372036854775806) : Ev (fun k => impl_BuildFront.f k l b) (buildFrontL l b) := by
  unfold impl_BuildFront.f buildFrontL
  refine ev_bind _ (impl_AreKeys_f l hl hs) ?_
  cases hk : areKeysB l with
  | false => exact ev_neg (by simp) (ev_some (by simp))
  | true =>
    refine ev_pos rfl ?_
    simp only [impl_in, Option.bind_some]
    by_cases c : 1 ≤ b ∧ b ≤ 16
    · have e : blockOk b = true := by simpa [blockOk] using c
      refine ev_pos (by simpa using c) (ev_bind _ (impl_front_f l b (by omega) (by have := areKeysB_len hk; omega) hs) (ev_some ?_))
      simp [e]
    · have e : blockOk b = false := by simpa [blockOk] using c
      exact ev_neg (by simpa using c) (ev_some (by simp [e]))
theorem buildFrontL_small (l : List ByteArray) (b : Int) : (buildFrontL l b).2.1.length ≤ 40 ∧ (buildFrontL l b).2.2.1.length ≤ 40 := by
  unfold buildFrontL
  split
  · rename_i h
    have := areKeysB_len (Bool.and_eq_true _ _ ▸ h : areKeysB l = true ∧ _).1
    simp only [keepsL_len, tailsL_len]
    exact ⟨this, this⟩
  · simp
end Go.Proofs.YtfedgkmklcialaaQ
namespace Go.Proofs.YtfedgkmklcialaaQ
open Go Go.RowKit Go.Proofs.YtfedgkmklcialaaW.PrintWords Go.Proofs.YtfedgkmklcialaaGp Go.Proofs.Ytfedgkmklcialaa.PM

theorem spec_l1Same_l0 (x0 x1 : List Int) (hl : (x0.length : Int) ≤ 9223372036854775806) : ∀ (t u pre pre' : List Int), x0 = pre ++ t → x1 = pre' ++ u → pre.length = pre'.length → t.length = u.length →
    Ev (fun k => spec_l1Same.l0 k x0 x1 (x0.length : Int) (pre.length : Int)) (decide (t = u)) := by
  intro t
  induction t with
  | nil =>
    intro u pre pre' h h' hp hu
    obtain rfl := List.length_eq_zero_iff.1 hu.symm
    refine ev_succ ?_
    simp only [spec_l1Same.l0]
    exact ev_neg (by rw [h]; exact not_lt_end) (ev_some (by simp))
  | cons s t ih =>
    intro u pre pre' h h' hp hu
    cases u with
    | nil => simp at hu
    | cons q u =>
      have hm : ((pre.length : Nat) : Int) < (x0.length : Int) := by rw [h]; exact lt_mid
      have hm' : ((pre.length : Nat) : Int) < (x1.length : Int) := by rw [h', hp]; exact lt_mid
      have hg : rd x0 (pre.length : Int) = s := by rw [h]; exact rd_mid
      have hg' : rd x1 (pre.length : Int) = q := by rw [h', hp]; exact rd_mid
      refine ev_succ ?_
      simp only [spec_l1Same.l0, hg, hg']
      refine ev_pos hm (ev_pos (by omega) (ev_pos hm (ev_pos hm' ?_)))
      by_cases c : s = q
      · refine ev_pos c ?_
        rw [winc (by omega)]
        have := ih u (pre ++ [s]) (pre' ++ [q]) (by rw [h]; simp) (by rw [h']; simp) (by simp [hp]) (by simpa using hu)
        rw [len_one] at this
        rw [show decide (s :: t = q :: u) = decide (t = u) from by simp [c]]
        exact this
      · exact ev_neg c (ev_some (by simp [c]))
theorem spec_l1Same_f (a b : List Int) (hl : (a.length : Int) ≤ 9223372036854775806) : Ev (fun k => spec_l1Same.f k a b) (decide (a = b)) := by
  unfold spec_l1Same.f
  by_cases c : a.length = b.length
  · refine ev_pos (by omega) ?_
    exact spec_l1Same_l0 a b hl a b [] [] rfl rfl rfl c
  · exact ev_neg (by omega) (ev_some (by
      have : ¬ a = b := fun e => c (by rw [e])
      simp [this]))
theorem slices_Equal_int_int_l0 (x0 x1 : List Int) (hl : (x0.length : Int) ≤ 9223372036854775806) : ∀ (t u pre pre' : List Int), x0 = pre ++ t → x1 = pre' ++ u → pre.length = pre'.length → t.length = u.length →
    Ev (fun k => slices_Equal_int_int.l0 k x0 x1 (x0.length : Int) (pre.length : Int)) (decide (t = u)) := by
  intro t
  induction t with
  | nil =>
    intro u pre pre' h h' hp hu
    obtain rfl := List.length_eq_zero_iff.1 hu.symm
    refine ev_succ ?_
    simp only [slices_Equal_int_int.l0]
    exact ev_neg (by rw [h]; exact not_lt_end) (ev_some (by simp))
  | cons s t ih =>
    intro u pre pre' h h' hp hu
    cases u with
    | nil => simp at hu
    | cons q u =>
      have hm : ((pre.length : Nat) : Int) < (x0.length : Int) := by rw [h]; exact lt_mid
      have hm' : ((pre.length : Nat) : Int) < (x1.length : Int) := by rw [h', hp]; exact lt_mid
      have hg : rd x0 (pre.length : Int) = s := by rw [h]; exact rd_mid
      have hg' : rd x1 (pre.length : Int) = q := by rw [h', hp]; exact rd_mid
      refine ev_succ ?_
      simp only [slices_Equal_int_int.l0, hg, hg']
      refine ev_pos hm (ev_pos (by omega) (ev_pos hm (ev_pos hm' ?_)))
      by_cases c : s = q
      · refine ev_pos c ?_
        rw [winc (by omega)]
        have := ih u (pre ++ [s]) (pre' ++ [q]) (by rw [h]; simp) (by rw [h']; simp) (by simp [hp]) (by simpa using hu)
        rw [len_one] at this
        rw [show decide (s :: t = q :: u) = decide (t = u) from by simp [c]]
        exact this
      · exact ev_neg c (ev_some (by simp [c]))
theorem slices_Equal_int_int_f (a b : List Int) (hl : (a.length : Int) ≤ 9223372036854775806) : Ev (fun k => slices_Equal_int_int.f k a b) (decide (a = b)) := by
  unfold slices_Equal_int_int.f
  by_cases c : a.length = b.length
  · refine ev_pos (by omega) ?_
    exact slices_Equal_int_int_l0 a b hl a b [] [] rfl rfl rfl c
  · exact ev_neg (by omega) (ev_some (by
      have : ¬ a = b := fun e => c (by rw [e])
      simp [this]))
theorem spec_l1SameS_l0 (x0 x1 : List ByteArray) (hl : (x0.length : Int) ≤ 9223372036854775806) : ∀ (t u pre pre' : List ByteArray), x0 = pre ++ t → x1 = pre' ++ u → pre.length = pre'.length → t.length = u.length →
    Ev (fun k => spec_l1SameS.l0 k x0 x1 (x0.length : Int) (pre.length : Int)) (decide (t = u)) := by
  intro t
  induction t with
  | nil =>
    intro u pre pre' h h' hp hu
    obtain rfl := List.length_eq_zero_iff.1 hu.symm
    refine ev_succ ?_
    simp only [spec_l1SameS.l0]
    exact ev_neg (by rw [h]; exact not_lt_end) (ev_some (by simp))
  | cons s t ih =>
    intro u pre pre' h h' hp hu
    cases u with
    | nil => simp at hu
    | cons q u =>
      have hm : ((pre.length : Nat) : Int) < (x0.length : Int) := by rw [h]; exact lt_mid
      have hm' : ((pre.length : Nat) : Int) < (x1.length : Int) := by rw [h', hp]; exact lt_mid
      have hg : rdOf ByteArray.empty x0 (pre.length : Int) = s := by rw [h]; exact rdOf_mid
      have hg' : rdOf ByteArray.empty x1 (pre.length : Int) = q := by rw [h', hp]; exact rdOf_mid
      refine ev_succ ?_
      simp only [spec_l1SameS.l0, hg, hg', tl_inj]
      refine ev_pos hm (ev_pos (by omega) (ev_pos hm (ev_pos hm' ?_)))
      by_cases c : s = q
      · refine ev_pos c ?_
        rw [winc (by omega)]
        have := ih u (pre ++ [s]) (pre' ++ [q]) (by rw [h]; simp) (by rw [h']; simp) (by simp [hp]) (by simpa using hu)
        rw [len_one] at this
        rw [show decide (s :: t = q :: u) = decide (t = u) from by simp [c]]
        exact this
      · exact ev_neg c (ev_some (by simp [c]))
theorem spec_l1SameS_f (a b : List ByteArray) (hl : (a.length : Int) ≤ 9223372036854775806) : Ev (fun k => spec_l1SameS.f k a b) (decide (a = b)) := by
  unfold spec_l1SameS.f
  by_cases c : a.length = b.length
  · refine ev_pos (by omega) ?_
    exact spec_l1SameS_l0 a b hl a b [] [] rfl rfl rfl c
  · exact ev_neg (by omega) (ev_some (by
      have : ¬ a = b := fun e => c (by rw [e])
      simp [this]))
theorem slices_Equal_string_string_l0 (x0 x1 : List ByteArray) (hl : (x0.length : Int) ≤ 9223372036854775806) : ∀ (t u pre pre' : List ByteArray), x0 = pre ++ t → x1 = pre' ++ u → pre.length = pre'.length → t.length = u.length →
    Ev (fun k => slices_Equal_string_string.l0 k x0 x1 (x0.length : Int) (pre.length : Int)) (decide (t = u)) := by
  intro t
  induction t with
  | nil =>
    intro u pre pre' h h' hp hu
    obtain rfl := List.length_eq_zero_iff.1 hu.symm
    refine ev_succ ?_
    simp only [slices_Equal_string_string.l0]
    exact ev_neg (by rw [h]; exact not_lt_end) (ev_some (by simp))
  | cons s t ih =>
    intro u pre pre' h h' hp hu
    cases u with
    | nil => simp at hu
    | cons q u =>
      have hm : ((pre.length : Nat) : Int) < (x0.length : Int) := by rw [h]; exact lt_mid
      have hm' : ((pre.length : Nat) : Int) < (x1.length : Int) := by rw [h', hp]; exact lt_mid
      have hg : rdOf ByteArray.empty x0 (pre.length : Int) = s := by rw [h]; exact rdOf_mid
      have hg' : rdOf ByteArray.empty x1 (pre.length : Int) = q := by rw [h', hp]; exact rdOf_mid
      refine ev_succ ?_
      simp only [slices_Equal_string_string.l0, hg, hg', tl_inj]
      refine ev_pos hm (ev_pos (by omega) (ev_pos hm (ev_pos hm' ?_)))
      by_cases c : s = q
      · refine ev_pos c ?_
        rw [winc (by omega)]
        have := ih u (pre ++ [s]) (pre' ++ [q]) (by rw [h]; simp) (by rw [h']; simp) (by simp [hp]) (by simpa using hu)
        rw [len_one] at this
        rw [show decide (s :: t = q :: u) = decide (t = u) from by simp [c]]
        exact this
      · exact ev_neg c (ev_some (by simp [c]))
theorem slices_Equal_string_string_f (a b : List ByteArray) (hl : (a.length : Int) ≤ 9223372036854775806) : Ev (fun k => slices_Equal_string_string.f k a b) (decide (a = b)) := by
  unfold slices_Equal_string_string.f
  by_cases c : a.length = b.length
  · refine ev_pos (by omega) ?_
    exact slices_Equal_string_string_l0 a b hl a b [] [] rfl rfl rfl c
  · exact ev_neg (by omega) (ev_some (by
      have : ¬ a = b := fun e => c (by rw [e])
      simp [this]))

def nxt (last : ByteArray) (n : Int) (t : ByteArray) : ByteArray := last.extract 0 n.toNat ++ t
def dec : List Int → List ByteArray → ByteArray → Option (List ByteArray)
  | [], _, _ => some []
  | _ :: _, [], _ => none
  | n :: ns, t :: ts, last => if (0 ≤ n ∧ n ≤ (last.size : Int)) ∧ (t.size : Int) ≤ 12 then (dec ns ts (nxt last n t)).map (nxt last n t :: ·) else none
def finK (b : Int) (ks : List Int) (ts out : List ByteArray) : List ByteArray × Bool := if areKeysB out then (out, decide (ks = keepsL b out) && decide (ts = tailsL b out)) else ([], false)
def decK (b : Int) (ks : List Int) (ts acc : List ByteArray) : Option (List ByteArray) → List ByteArray × Bool
  | none => ([], false)
  | some out => finK b ks ts (acc ++ out)
theorem nxt_size {last : ByteArray} {n : Int} {t : ByteArray} (h : (t.size : Int) ≤ 12) : ((nxt last n t).size : Int) ≤ (last.size : Int) + 12 := by
  unfold nxt
  simp only [ByteArray.size_append, ByteArray.size_extract]
  omega
theorem spec_trFronted_l0 (b : Int) (ks : List Int) (ts : List ByteArray) (hb : blockOk b = true) (hl : ks.length ≤ 40) : ∀ (ns pre : List Int) (us pre' acc : List ByteArray) (last : ByteArray), ks = pre ++ ns → ts = pre' ++ us → pre.length = pre'.length → ns.length = us.length → acc.length = pre.length → (last.size : Int) ≤ 12 * (pre.length : Int) → (∀ s ∈ acc, (s.size : Int) ≤ 480) →
    Ev (fun k => spec_trFronted.l0 k acc last ks (ks.length : Int) (pre.length : Int) b ks ts) (decK b ks ts acc (dec ns us last)) := by
  have hb' : ¬ b = 0 := by simp [blockOk] at hb; omega
  intro ns
  induction ns with
  | nil =>
    intro pre us pre' acc last h h' hp hu ha hz hs
    refine ev_succ ?_
    simp only [spec_trFronted.l0]
    refine ev_neg (by rw [h]; exact not_lt_end) ?_
    have hlen : acc.length ≤ 40 := by rw [ha]; rw [h] at hl; simpa using hl
    have hs' : ∀ s ∈ acc, (s.size : Int) ≤ 9223372036854775806 := fun s m => by have := hs s m; omega
    simp only [dec, decK, List.append_nil, finK]
    refine ev_bind _ (spec_biKeys_f acc (by omega) hs') ?_
    cases hk : areKeysB acc with
    | false => exact ev_neg (by simp) (Ev.now _)
    | true =>
      refine ev_pos rfl (ev_bind _ (spec_trFront_f acc b hb' (by omega) hs') ?_)
      simp only [if_true]
      have e1 := keepsL_len b acc
      have e2 := tailsL_len b acc
      refine ev_bind _ (spec_l1Same_f ks (keepsL b acc) (by omega)) ?_
      by_cases c : ks = keepsL b acc
      · refine ev_pos (by simpa using c) (ev_bind _ (spec_l1SameS_f ts (tailsL b acc) (by rw [h'] at *; simp at *; omega)) (ev_some ?_))
        simp [← c]
      · exact ev_neg (by simpa using c) (ev_some (by simp [c]))
  | cons n ns ih =>
    intro pre us pre' acc last h h' hp hu ha hz hs
    cases us with
    | nil => simp at hu
    | cons t us =>
      have hm : ((pre.length : Nat) : Int) < (ks.length : Int) := by rw [h]; exact lt_mid
      have hm' : ((pre.length : Nat) : Int) < (ts.length : Int) := by rw [h', hp]; exact lt_mid
      have hg : rd ks (pre.length : Int) = n := by rw [h]; exact rd_mid
      have hg' : rdOf ByteArray.empty ts (pre.length : Int) = t := by rw [h', hp]; exact rdOf_mid
      refine ev_succ ?_
      simp only [spec_trFronted.l0, hg, hg', spec_in, Option.bind_some]
      refine ev_pos hm (ev_pos (by omega) (ev_pos hm ?_))
      by_cases c : 0 ≤ n ∧ n ≤ (last.size : Int)
      · refine ev_pos (by simpa using c) (ev_pos hm' ?_)
        by_cases c2 : (t.size : Int) > 12
        · refine ev_pos c2 (ev_some ?_)
          simp only [dec]
          rw [if_neg (by omega)]
          rfl
        · have hx := nxt_size (last := last) (n := n) (t := t) (by omega)
          have hx2 : (last.extract 0 n.toNat).size + t.size ≤ 9223372036854775807 := by simp only [ByteArray.size_extract]; omega
          refine ev_neg c2 (ev_pos c.1 (ev_pos c.2 (ev_pos hx2 (ev_pos (by rw [ha]; omega) ?_))))
          rw [winc (by omega)]
          have m := ih (pre ++ [n]) us (pre' ++ [t]) (acc ++ [nxt last n t]) (nxt last n t) (by rw [h]; simp) (by rw [h']; simp) (by simp [hp]) (by simpa using hu) (by simp [ha]) (by rw [len_one]; omega) (fun s hm2 => by
            rcases List.mem_append.1 hm2 with hm2 | hm2
            · exact hs s hm2
            · obtain rfl := List.mem_singleton.1 hm2
              omega)
          rw [len_one] at m
          have e : decK b ks ts (acc ++ [nxt last n t]) (dec ns us (nxt last n t)) = decK b ks ts acc (dec (n :: ns) (t :: us) last) := by
            simp only [dec]
            rw [if_pos ⟨c, by omega⟩]
            cases dec ns us (nxt last n t) with
            | none => rfl
            | some o => simp [decK]
          rw [← e]
          exact m
      · refine ev_neg (by simpa using c) (ev_some ?_)
        simp only [dec]
        rw [if_neg (fun h => c h.1)]
        rfl
theorem impl_Front_keys_l0 (b : Int) (ks : List Int) (ts : List ByteArray) (hb : blockOk b = true) (hl : ks.length ≤ 40) : ∀ (ns pre : List Int) (us pre' acc : List ByteArray) (last : ByteArray), ks = pre ++ ns → ts = pre' ++ us → pre.length = pre'.length → ns.length = us.length → acc.length = pre.length → (last.size : Int) ≤ 12 * (pre.length : Int) → (∀ s ∈ acc, (s.size : Int) ≤ 480) →
    Ev (fun k => impl_Front_keys.l0 k acc last ks (ks.length : Int) (pre.length : Int) b ks ts) (decK b ks ts acc (dec ns us last)) := by
  have hb' : ¬ b = 0 := by simp [blockOk] at hb; omega
  intro ns
  induction ns with
  | nil =>
    intro pre us pre' acc last h h' hp hu ha hz hs
    refine ev_succ ?_
    simp only [impl_Front_keys.l0]
    refine ev_neg (by rw [h]; exact not_lt_end) ?_
    have hlen : acc.length ≤ 40 := by rw [ha]; rw [h] at hl; simpa using hl
    have hs' : ∀ s ∈ acc, (s.size : Int) ≤ 9223372036854775806 := fun s m => by have := hs s m; omega
    simp only [dec, decK, List.append_nil, finK]
    refine ev_bind _ (impl_AreKeys_f acc (by omega) hs') ?_
    cases hk : areKeysB acc with
    | false => exact ev_neg (by simp) (Ev.now _)
    | true =>
      refine ev_pos rfl (ev_bind _ (impl_front_f acc b hb' (by omega) hs') ?_)
      simp only [if_true]
      have e1 := keepsL_len b acc
      have e2 := tailsL_len b acc
      refine ev_bind _ (slices_Equal_int_int_f (keepsL b acc) ks (by omega)) ?_
      by_cases c : keepsL b acc = ks
      · refine ev_pos (by simpa using c) (ev_bind _ (slices_Equal_string_string_f (tailsL b acc) ts (by omega)) (ev_some ?_))
        have c' := c.symm
        simp [← c', eq_comm]
      · have c' : ¬ ks = keepsL b acc := fun e => c e.symm
        exact ev_neg (by simpa using c) (ev_some (by simp [c']))
  | cons n ns ih =>
    intro pre us pre' acc last h h' hp hu ha hz hs
    cases us with
    | nil => simp at hu
    | cons t us =>
      have hm : ((pre.length : Nat) : Int) < (ks.length : Int) := by rw [h]; exact lt_mid
      have hm' : ((pre.length : Nat) : Int) < (ts.length : Int) := by rw [h', hp]; exact lt_mid
      have hg : rd ks (pre.length : Int) = n := by rw [h]; exact rd_mid
      have hg' : rdOf ByteArray.empty ts (pre.length : Int) = t := by rw [h', hp]; exact rdOf_mid
      refine ev_succ ?_
      simp only [impl_Front_keys.l0, hg, hg', impl_in, Option.bind_some]
      refine ev_pos hm (ev_pos (by omega) (ev_pos hm ?_))
      by_cases c : 0 ≤ n ∧ n ≤ (last.size : Int)
      · refine ev_pos (by simpa using c) (ev_pos hm' ?_)
        by_cases c2 : (t.size : Int) > 12
        · refine ev_pos c2 (ev_some ?_)
          simp only [dec]
          rw [if_neg (by omega)]
          rfl
        · have hx := nxt_size (last := last) (n := n) (t := t) (by omega)
          have hx2 : (last.extract 0 n.toNat).size + t.size ≤ 9223372036854775807 := by simp only [ByteArray.size_extract]; omega
          refine ev_neg c2 (ev_pos c.1 (ev_pos c.2 (ev_pos hx2 (ev_pos (by rw [ha]; omega) ?_))))
          rw [winc (by omega)]
          have m := ih (pre ++ [n]) us (pre' ++ [t]) (acc ++ [nxt last n t]) (nxt last n t) (by rw [h]; simp) (by rw [h']; simp) (by simp [hp]) (by simpa using hu) (by simp [ha]) (by rw [len_one]; omega) (fun s hm2 => by
            rcases List.mem_append.1 hm2 with hm2 | hm2
            · exact hs s hm2
            · obtain rfl := List.mem_singleton.1 hm2
              omega)
          rw [len_one] at m
          have e : decK b ks ts (acc ++ [nxt last n t]) (dec ns us (nxt last n t)) = decK b ks ts acc (dec (n :: ns) (t :: us) last) := by
            simp only [dec]
            rw [if_pos ⟨c, by omega⟩]
            cases dec ns us (nxt last n t) with
            | none => rfl
            | some o => simp [decK]
          rw [← e]
          exact m
      · refine ev_neg (by simpa using c) (ev_some ?_)
        simp only [dec]
        rw [if_neg (fun h => c h.1)]
        rfl

def frontKeys (b : Int) (ks : List Int) (ts : List ByteArray) : List ByteArray × Bool := if (blockOk b && decide (ks.length = ts.length)) && decide (ks.length ≤ 40) then decK b ks ts [] (dec ks ts ⟨#[]⟩) else ([], false)
theorem spec_trFronted_f (b : Int) (ks : List Int) (ts : List ByteArray) : Ev (fun k => spec_trFronted.f k b ks ts) (frontKeys b ks ts) := by
  unfold spec_trFronted.f frontKeys
  simp only [spec_in, Option.bind_some]
  have bad : ∀ r, r = (([] : List ByteArray), false) → Ev (fun k => spec_trFronted.j0 k true b ks ts) r := fun r hr => ev_succ (by
    simp only [spec_trFronted.j0]
    exact ev_pos trivial (ev_some hr.symm))
  by_cases c : 1 ≤ b ∧ b ≤ 16
  · have hb : blockOk b = true := by simpa [blockOk] using c
    refine ev_pos (by simpa using c) ?_
    by_cases c2 : ks.length = ts.length
    · refine ev_pos (by omega) ?_
      by_cases c3 : ks.length ≤ 40
      · have e : decide ((ks.length : Int) > 40) = false := by simp; omega
        rw [e, if_pos (by simp [hb, c2]; omega)]
        refine ev_succ ?_
        simp only [spec_trFronted.j0, Bool.false_eq_true, if_false]
        exact spec_trFronted_l0 b ks ts hb c3 ks [] ts [] [] ⟨#[]⟩ rfl rfl rfl c2 rfl (by simp [ByteArray.size]) (fun s h => by simp at h)
      · have e : decide ((ks.length : Int) > 40) = true := by simp; omega
        rw [e]
        exact bad _ (by simp [c3])
    · exact ev_neg (by omega) (bad _ (by simp [c2]))
  · have hb : blockOk b = false := by simpa [blockOk] using c
    exact ev_neg (by simpa using c) (bad _ (by simp [hb]))
theorem impl_Front_keys_f (b : Int) (ks : List Int) (ts : List ByteArray) : Ev (fun k => impl_Front_keys.f k b ks ts) (frontKeys b ks ts) := by
  unfold impl_Front_keys.f frontKeys
  simp only [impl_in, Option.bind_some]
  have bad : ∀ r, r = (([] : List ByteArray), false) → Ev (fun k => impl_Front_keys.j0 k true b ks ts) r := fun r hr => ev_succ (by
    simp only [impl_Front_keys.j0]
    exact ev_pos trivial (ev_some hr.symm))
  by_cases c : 1 ≤ b ∧ b ≤ 16
  · have hb : blockOk b = true := by simpa [blockOk] using c
    refine ev_pos (by simpa using c) ?_
    by_cases c2 : ks.length = ts.length
    · refine ev_pos (by omega) ?_
      by_cases c3 : ks.length ≤ 40
      · have e : decide ((ts.length : Int) > 40) = false := by simp; omega
        rw [e, if_pos (by simp [hb, c2]; omega)]
        refine ev_succ ?_
        simp only [impl_Front_keys.j0, Bool.false_eq_true, if_false]
        exact impl_Front_keys_l0 b ks ts hb c3 ks [] ts [] [] ⟨#[]⟩ rfl rfl rfl c2 rfl (by simp [ByteArray.size]) (fun s h => by simp at h)
      · have e : decide ((ts.length : Int) > 40) = true := by simp; omega
        rw [e]
        exact bad _ (by simp [c3])
    · exact ev_neg (by omega) (bad _ (by simp [c2]))
  · have hb : blockOk b = false := by simpa [blockOk] using c
    exact ev_neg (by simpa using c) (bad _ (by simp [hb]))
theorem decK_true {b : Int} {ks : List Int} {ts : List ByteArray} : ∀ {o : Option (List ByteArray)}, (decK b ks ts [] o).2 = true → areKeysB (decK b ks ts [] o).1 = true
  | none, h => by simp [decK] at h
  | some out, h => by
    simp only [decK, List.nil_append, finK] at h ⊢
    cases hk : areKeysB out with
    | false => simp [hk] at h
    | true => simp [hk]
theorem frontKeys_true {b : Int} {ks : List Int} {ts : List ByteArray} (h : (frontKeys b ks ts).2 = true) : areKeysB (frontKeys b ks ts).1 = true := by
  unfold frontKeys at h ⊢
  split at h
  · rename_i c
    rw [if_pos c]
    exact decK_true h
  · simp at h
end Go.Proofs.YtfedgkmklcialaaQ
namespace Go.Proofs.YtfedgkmklcialaaQ
open Go Go.RowKit Go.Proofs.YtfedgkmklcialaaW.PrintWords Go.Proofs.YtfedgkmklcialaaGp Go.Proofs.Ytfedgkmklcialaa.PM

theorem toFront_f (b : Int) (ks : List Int) (ts : List ByteArray) (hk : (ks.length : Int) ≤ 1048576) (ht : (ts.length : Int) ≤ 1048576) : Ev (fun k => laws_toFront.f k b ks ts) (b, ks, ts) := by
  unfold laws_toFront.f
  exact ev_bind _ (toIntS_f ks hk) (ev_bind _ (toStringS_f ts ht) (Ev.now _))

theorem frontKeys_len {b : Int} {ks : List Int} {ts : List ByteArray} (h : (frontKeys b ks ts).2 = true) : (frontKeys b ks ts).1.length ≤ 40 := areKeysB_len (frontKeys_true h)
end Go.Proofs.YtfedgkmklcialaaQ
namespace Go.Proofs.YtfedgkmklcialaaQ
open Go Go.RowKit Go.Proofs.YtfedgkmklcialaaW.PrintWords Go.Proofs.YtfedgkmklcialaaW.PrintMore Go.Proofs.YtfedgkmklcialaaGp Go.Proofs.Ytfedgkmklcialaa.PM

theorem grow_nil {n : Int} (h0 : 0 ≤ n) (h1 : n ≤ 1000) : slices_Grow_string_string_at_nil.f n = some [] := by
  unfold slices_Grow_string_string_at_nil.f
  have hw : wrap64 (n - wrap64 (-((([] : List ByteArray).length : Nat) : Int))) = n := by
    rw [List.length_nil, show wrap64 (-((0 : Nat) : Int)) = 0 from w64 (x := 0) (by omega) (by omega), Int.sub_zero]
    exact w64 (by omega) (by omega)
  rw [hw, if_neg (by omega)]
  by_cases c : n > 0
  · rw [if_pos c, if_pos h0, if_pos (by simp; omega)]
    simp
  · rw [if_neg c]
theorem concat_f {x y : List ByteArray} (hx : x.length ≤ 400) (hy : y.length ≤ 400) : Ev (fun k => slices_Concat_string_string.f k [x, y]) (x ++ y) := by
  have r0 : rd_L3 [x, y] 0 = x := rfl
  have r1 : rd_L3 [x, y] 1 = y := rfl
  have hl : (([x, y] : List (List ByteArray)).length : Int) = 2 := rfl
  have w1 : wrap64 (0 + 1) = 1 := w64 (x := 1) (by omega) (by omega)
  have w2 : wrap64 (1 + 1) = 2 := w64 (x := 2) (by omega) (by omega)
  have hw0 : wrap64 (0 + (x.length : Int)) = (x.length : Int) := by rw [Int.zero_add]; exact w64 (by omega) (by omega)
  have hw1 : wrap64 ((x.length : Int) + (y.length : Int)) = (x.length : Int) + (y.length : Int) := w64 (by omega) (by omega)
  unfold slices_Concat_string_string.f
  rw [hl]
  refine ev_succ ?_
  simp only [slices_Concat_string_string.l0, hl, r0, hw0, w1]
  refine ev_pos (by omega) (ev_pos (by omega) (ev_pos (by omega) (ev_neg (by omega) (ev_succ ?_))))
  simp only [slices_Concat_string_string.l0, hl, r1, hw1, w2]
  refine ev_pos (by omega) (ev_pos (by omega) (ev_pos (by omega) (ev_neg (by omega) (ev_succ ?_))))
  simp only [slices_Concat_string_string.l0, hl]
  rw [grow_nil (by omega) (by omega)]
  refine ev_neg (by omega) (ev_bind _ (Ev.now _) (ev_succ ?_))
  simp only [slices_Concat_string_string.l1, hl, r0, w1]
  refine ev_pos (by omega) (ev_pos (by omega) (ev_pos (by omega) (ev_pos (by simp; omega) (ev_succ ?_))))
  simp only [slices_Concat_string_string.l1, hl, r1, w2, List.nil_append]
  refine ev_pos (by omega) (ev_pos (by omega) (ev_pos (by omega) (ev_pos (by omega) (ev_succ ?_))))
  simp only [slices_Concat_string_string.l1, hl]
  exact ev_neg (by omega) (Ev.now _)
theorem frontKeys_block {b : Int} {ks : List Int} {ts : List ByteArray} (h : (frontKeys b ks ts).2 = true) : blockOk b = true := by
  unfold frontKeys at h
  split at h
  · rename_i c
    simp only [Bool.and_eq_true] at c
    exact c.1.1
  · simp at h
def mergeV (a0 : Int) (l1 : List Int) (l2 : List ByteArray) (b0 : Int) (m1 : List Int) (m2 : List ByteArray) : Int × List Int × List ByteArray × Bool :=
  if ((frontKeys a0 l1 l2).2 && (frontKeys b0 m1 m2).2) = true then buildFrontL (MF.setK (frontKeys b0 m1 m2).1 (frontKeys a0 l1 l2).1) a0 else (0, [], [], false)
theorem mergeV_small (a0 : Int) (l1 : List Int) (l2 : List ByteArray) (b0 : Int) (m1 : List Int) (m2 : List ByteArray) : (mergeV a0 l1 l2 b0 m1 m2).2.1.length ≤ 40 ∧ (mergeV a0 l1 l2 b0 m1 m2).2.2.1.length ≤ 40 := by
  unfold mergeV
  split
  · exact buildFrontL_small _ _
  · simp
theorem setK_len : ∀ (M acc : List ByteArray), (MF.setK M acc).length ≤ acc.length + M.length
  | [], acc => by simp [MF.setK]
  | m :: M, acc => by
    have := setK_len M (insK m acc)
    have h2 := insK_len m acc
    show (MF.setK M (insK m acc)).length ≤ _
    simp only [List.length_cons]
    omega
theorem spec_merge_l0 {a0 : Int} (l1 : List Int) (l2 : List ByteArray) (hb : blockOk a0 = true) {y : List ByteArray} (hy : y.length ≤ 400) : ∀ (t pre acc : List ByteArray), y = pre ++ t → acc.length ≤ 400 + pre.length → (∀ s ∈ acc, s.size ≤ 12) → (∀ s ∈ t, s.size ≤ 12) →
    Ev (fun k => spec_MergeFronts.l0 k acc y (y.length : Int) (pre.length : Int) a0 l1 l2) (buildFrontL (MF.setK t acc) a0) := by
  intro t
  induction t with
  | nil =>
    intro pre acc h hl ha _
    have e : y = pre := by rw [h]; simp
    subst e
    refine ev_succ ?_
    simp only [spec_MergeFronts.l0]
    refine ev_neg (by omega) (ev_bind _ (spec_biKeys_f acc (by omega) (fun s hs => by have := ha s hs; omega)) ?_)
    rw [show MF.setK [] acc = acc from rfl]
    unfold buildFrontL
    have hb' : 1 ≤ a0 ∧ a0 ≤ 16 := by simpa [blockOk] using hb
    by_cases c : areKeysB acc = true
    · refine ev_pos c (ev_bind _ (spec_trFront_f acc a0 (by omega) (by omega) (fun s hs => by have := ha s hs; omega)) (ev_some ?_))
      rw [if_pos (by rw [c, hb]; rfl)]
    · exact ev_neg c (ev_some (by rw [if_neg (by simp [c])]))
  | cons s t ih =>
    intro pre acc h hl ha ht
    have hm : ((pre.length : Nat) : Int) < (y.length : Int) := by rw [h]; exact lt_mid
    have hg : rdOf ByteArray.empty y (pre.length : Int) = s := by rw [h]; exact rdOf_mid
    have hn : y.length = pre.length + (t.length + 1) := by rw [h]; simp
    have h2 := insK_len s acc
    have next := ih (pre ++ [s]) (insK s acc) (by rw [h]; simp) (by simp; omega) (fun x hx => (MF.insK_mem.1 hx).elim (fun e => e ▸ ht s (List.mem_cons_self ..)) (ha x)) (fun x hx => ht x (List.mem_cons_of_mem _ hx))
    rw [len_one] at next
    refine ev_succ ?_
    simp only [spec_MergeFronts.l0, hg]
    rw [winc (by omega)]
    exact ev_pos hm (ev_pos (by omega) (ev_pos hm (ev_bind _ (putS_f acc s (by omega)) next)))
section
variable (a0 : Int) (l1 : List Int) (l2 : List ByteArray) (b0 : Int) (m1 : List Int) (m2 : List ByteArray)
theorem keys_12 {b : Int} {ks : List Int} {ts : List ByteArray} (h : (frontKeys b ks ts).2 = true) : ∀ s ∈ (frontKeys b ks ts).1, s.size ≤ 12 := fun s hs => (isKeyB_size (areKeysB_all (frontKeys_true h) s hs)).2
theorem spec_MergeFronts_f : Ev (fun k => spec_MergeFronts.f k a0 l1 l2 b0 m1 m2) (mergeV a0 l1 l2 b0 m1 m2) := by
  unfold spec_MergeFronts.f
  refine ev_bind _ (spec_trFronted_f a0 l1 l2) (ev_bind _ (spec_trFronted_f b0 m1 m2) ?_)
  have bad : ∀ g : Bool, g = true → mergeV a0 l1 l2 b0 m1 m2 = (0, [], [], false) → Ev (fun k => spec_MergeFronts.j0 k (frontKeys a0 l1 l2).1 (frontKeys b0 m1 m2).1 g a0 l1 l2) (mergeV a0 l1 l2 b0 m1 m2) := fun g hg h => by
    refine ev_succ ?_
    simp only [spec_MergeFronts.j0]
    exact ev_pos hg (ev_some h.symm)
  by_cases c : (frontKeys a0 l1 l2).2 = true
  · refine ev_pos c ?_
    by_cases c2 : (frontKeys b0 m1 m2).2 = true
    · refine ev_succ ?_
      simp only [spec_MergeFronts.j0]
      have h1 := frontKeys_len c
      have h2 := frontKeys_len c2
      rw [mergeV, if_pos (by rw [c, c2]; rfl)]
      exact ev_neg (by simp [c2]) (spec_merge_l0 l1 l2 (frontKeys_block c) (by omega) _ [] _ rfl (by simp; omega) (keys_12 c) (keys_12 c2))
    · exact bad _ (by simp [c2]) (by rw [mergeV, if_neg (by simp [c2])])
  · exact ev_neg c (bad _ rfl (by rw [mergeV, if_neg (by simp [c])]))
theorem impl_MergeFronts_f : Ev (fun k => impl_MergeFronts.f k a0 l1 l2 b0 m1 m2) (mergeV a0 l1 l2 b0 m1 m2) := by
  unfold impl_MergeFronts.f
  refine ev_bind _ (impl_Front_keys_f a0 l1 l2) (ev_bind _ (impl_Front_keys_f b0 m1 m2) ?_)
  have bad : ∀ g : Bool, g = true → mergeV a0 l1 l2 b0 m1 m2 = (0, [], [], false) → Ev (fun k => impl_MergeFronts.j0 k (frontKeys a0 l1 l2).1 (frontKeys b0 m1 m2).1 g a0 l1 l2) (mergeV a0 l1 l2 b0 m1 m2) := fun g hg h => by
    refine ev_succ ?_
    simp only [impl_MergeFronts.j0]
    exact ev_pos hg (ev_some h.symm)
  by_cases c : (frontKeys a0 l1 l2).2 = true
  · refine ev_pos c ?_
    by_cases c2 : (frontKeys b0 m1 m2).2 = true
    · have h1 := frontKeys_len c
      have h2 := frontKeys_len c2
      have hm := MF.merge_plain (MF.keys_sk (frontKeys_true c)) (frontKeys b0 m1 m2).1
      have hmem := (MF.setK_ok (frontKeys b0 m1 m2).1 (frontKeys a0 l1 l2).1 (MF.keys_sk (frontKeys_true c))).2
      have hlen := setK_len (frontKeys b0 m1 m2).1 (frontKeys a0 l1 l2).1
      have hS : slices_Sort_string_string.f ((frontKeys a0 l1 l2).1 ++ (frontKeys b0 m1 m2).1) = some (sortS ((frontKeys a0 l1 l2).1 ++ (frontKeys b0 m1 m2).1)) := by
        unfold slices_Sort_string_string.f
        rw [if_pos (by simp; omega)]
      have hC : slices_Compact_string_string.f (sortS ((frontKeys a0 l1 l2).1 ++ (frontKeys b0 m1 m2).1)) = some (MF.setK (frontKeys b0 m1 m2).1 (frontKeys a0 l1 l2).1) := by
        unfold slices_Compact_string_string.f
        rw [hm]
      refine ev_succ ?_
      simp only [impl_MergeFronts.j0]
      rw [mergeV, if_pos (by rw [c, c2]; rfl)]
      refine ev_neg (by simp [c2]) (ev_bind _ (concat_f (by omega) (by omega)) ?_)
      simp only [hS, hC, Option.bind_some]
      refine ev_bind _ (impl_BuildFront_f _ a0 (by omega) (fun s hs => ?_)) (Ev.now _)
      rcases (hmem s).1 hs with h | h
      · have := keys_12 c s h; omega
      · have := keys_12 c2 s h; omega
    · exact bad _ (by simp [c2]) (by rw [mergeV, if_neg (by simp [c2])])
  · exact ev_neg c (bad _ rfl (by rw [mergeV, if_neg (by simp [c])]))
end
end Go.Proofs.YtfedgkmklcialaaQ
namespace Go.Proofs.Ytfedgkmklcialaa.Pure
open Go Go.RowKit Go.Proofs.YtfedgkmklcialaaW.PrintWords Go.Proofs.YtfedgkmklcialaaGp Go.Proofs.Ytfedgkmklcialaa.PM Go.Proofs.YtfedgkmklcialaaQ

theorem szFront_a (b : Int) (ks : List Int) (ts : List ByteArray) {a : Int} (h0 : 0 ≤ a) (h1 : a ≤ 1048576) (hk : ks.length ≤ maxLen) (ht : ts.length ≤ maxLen) (hs : ∀ s ∈ ts, s.size ≤ maxLen) :
    ∃ z, Ev (fun k => laws_szFront.f k b ks ts a) z ∧ (¬ z < 0 → (ks.length : Int) + (ts.length : Int) + sumSz ts ≤ a ∧ z ≤ a) := by
  have hk' := hk
  rw [maxLen_eq] at hk'
  have hw : wrap64 (a - (ks.length : Int)) = a - (ks.length : Int) := w64 (by omega) (by omega)
  have hp := sumSz_nonneg ts
  unfold laws_szFront.f laws_szIntS.f
  simp only [hw]
  by_cases c : a - (ks.length : Int) < 0
  · exact ⟨-1, by simp only [if_pos c, Option.bind_some]; exact ev_pos (by omega) (Ev.now _), fun h => absurd h (by omega)⟩
  · simp only [if_neg c, Option.bind_some]
    have h1 := szStringS_f ts (a - (ks.length : Int)) ht hs (by omega) (by omega)
    by_cases c2 : left1 (a - (ks.length : Int)) ts < 0
    · exact ⟨-1, ev_bind _ h1 (ev_pos c2 (Ev.now _)), fun h => absurd h (by omega)⟩
    · obtain ⟨e, hz⟩ := left1_ok c2
      exact ⟨_, ev_bind _ h1 (ev_neg c2 (Ev.now _)), fun _ => by omega⟩
theorem FnExactMergeFronts : laws_FnExactMergeFronts.Pure := by
  intro a0 l1 l2 b0 m1 m2 _ hl1 _ hl2 hs2 _ hm1 _ hm2 ht2
  refine Ev.rounds (r := true) ?_
  unfold laws_FnExactMergeFronts.f
  obtain ⟨z, hz, hb⟩ := szFront_a a0 l1 l2 (a := 1048576) (by omega) (by omega) hl1 hl2 hs2
  refine ev_bind _ hz ?_
  by_cases c : z < 0
  · exact ev_pos c (Ev.now _)
  obtain ⟨g1, g2⟩ := hb c
  obtain ⟨z', hz', hb'⟩ := szFront_a b0 m1 m2 (a := z) (by omega) (by omega) hm1 hm2 ht2
  refine ev_neg c (ev_bind _ hz' ?_)
  by_cases c' : z' < 0
  · exact ev_pos c' (Ev.now _)
  obtain ⟨g3, _⟩ := hb' c'
  have hp := sumSz_nonneg l2
  have hp' := sumSz_nonneg m2
  have hT := toFront_f a0 l1 l2 (by omega) (by omega)
  have hT' := toFront_f b0 m1 m2 (by omega) (by omega)
  have hEa := eqFront_same a0 l1 l2 (by omega) (by omega)
  have hEb := eqFront_same b0 m1 m2 (by omega) (by omega)
  have hI := impl_MergeFronts_f a0 l1 l2 b0 m1 m2
  have hS := spec_MergeFronts_f a0 l1 l2 b0 m1 m2
  obtain ⟨s1, s2⟩ := mergeV_small a0 l1 l2 b0 m1 m2
  refine ev_neg c' (ev_bind _ hT (ev_bind _ hT' (ev_bind _ hS (ev_bind _ hT (ev_bind _ hT' (ev_bind _ hI ?_))))))
  generalize mergeV a0 l1 l2 b0 m1 m2 = R at *
  obtain ⟨g0, ks, ts, ok⟩ := R
  simp only at s1 s2
  have hE := eqFront_same g0 ks ts (by omega) (by omega)
  refine ev_bind _ hE (ev_pos rfl (ev_succ ?_))
  simp only [laws_FnExactMergeFronts.j0, bne_self_eq_false, Bool.false_eq_true, if_false]
  refine ev_bind _ hT (ev_bind _ hEa (ev_pos rfl (ev_bind _ hT' (ev_bind _ hEb (ev_pos rfl (ev_bind _ (markFront_f a0 l1 l2 1 (by omega) (by omega)) (ev_bind _ (markFront_f b0 m1 m2 _ (by omega) (by omega)) (ev_neg (by simp only; omega) (ev_bind _ hE (ev_pos rfl (ev_succ ?_)))))))))))
  simp only [laws_FnExactMergeFronts.j1, Bool.false_eq_true, if_false]
  refine ev_bind _ (markFront_f g0 ks ts 1 (by omega) (by omega)) (ev_bind _ (heldFront_f g0 ks.length ts.length 1 (by omega) (by omega)) (ev_neg (by omega) (ev_pos rfl (ev_bind _ hT (ev_bind _ hT' (ev_bind _ hI (ev_bind _ hE (ev_pos rfl (ev_succ ?_)))))))))
  simp only [laws_FnExactMergeFronts.j2, bne_self_eq_false, Bool.false_eq_true, if_false]
  exact ev_bind _ (heldFront_f g0 ks.length ts.length 1 (by omega) (by omega)) (ev_neg (by omega) (ev_pos rfl (Ev.now _)))
end Go.Proofs.Ytfedgkmklcialaa.Pure
