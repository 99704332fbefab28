/- Binary search in strictly increasing strings: how many are less. -/
import Derived.Test.YtfedgkmklcialaaPAx12
import Derived.Test.YtfedgkmklcialaaQ2
namespace Go.Proofs.YtfedgkmklcialaaQ
open Go Go.RowKit Go.Proofs.YtfedgkmklcialaaW.PrintWords Go.Proofs.YtfedgkmklcialaaGp Go.Proofs.Ytfedgkmklcialaa.PA

/-- How many strings are less. -/
def rankS (l : List ByteArray) (s : ByteArray) : Nat := (l.filter fun x => lessS x s).length
theorem spec_trRank_l0 (x0 : List ByteArray) (s : ByteArray) (hl : (x0.length : Int) ≤ 1048576) : ∀ (t pre : List ByteArray) (n : Nat), x0 = pre ++ t → n ≤ pre.length →
    Ev (fun k => spec_trRank.l0 k s (n : Int) x0 (x0.length : Int) (pre.length : Int)) ((n + rankS t s : Nat) : Int) := by
  intro t
  induction t with
  | nil =>
    intro pre n h hn
    refine ev_succ ?_
    simp only [spec_trRank.l0]
    exact ev_neg (by rw [h]; exact not_lt_end) (ev_some (by simp [rankS]))
  | cons x t ih =>
    intro pre n h hn
    have hm : ((pre.length : Nat) : Int) < (x0.length : Int) := by rw [h]; exact lt_mid
    have hg : rdOf ByteArray.empty x0 (pre.length : Int) = x := by rw [h]; exact rdOf_mid
    refine ev_succ ?_
    simp only [spec_trRank.l0, hg]
    refine ev_pos hm (ev_pos (by omega) (ev_pos hm ?_))
    rw [winc (i := pre.length) (by omega), winc (i := n) (by omega)]
    by_cases c : lessS x s = true
    · refine ev_pos c ?_
      have := ih (pre ++ [x]) (n + 1) (by rw [h]; simp) (by simp; omega)
      rw [len_one] at this
      rw [show n + rankS (x :: t) s = n + 1 + rankS t s from by simp [rankS, c]; omega]
      exact this
    · refine ev_neg c ?_
      have := ih (pre ++ [x]) n (by rw [h]; simp) (by simp; omega)
      rw [len_one] at this
      rw [show rankS (x :: t) s = rankS t s from by simp [rankS, c]]
      exact this
theorem spec_trRank_f (l : List ByteArray) (s : ByteArray) (hl : (l.length : Int) ≤ 1048576) : Ev (fun k => spec_trRank.f k l s) (rankS l s : Int) := by
  unfold spec_trRank.f
  have := spec_trRank_l0 l s hl l [] 0 rfl (Nat.le_refl _)
  simpa using this
theorem cmpLess (a b : ByteArray) : cmp_Less_string.f a b = some (lessS a b) := by
  simp [cmp_Less_string.f, cmp_isNaN_string.f, lessS]
/-- Strictly increasing: each is less than all behind it. -/
def incS (l : List ByteArray) : Prop := ∀ i j (h : i < j) (hj : j < l.length), lessS (l[i]'(by omega)) (l[j]'hj) = true
theorem incS_tail {x : ByteArray} {t : List ByteArray} (h : incS (x :: t)) : incS t := fun i j hij hj => h (i + 1) (j + 1) (by omega) (by simpa using hj)
theorem incS_of_from : ∀ (p : Option ByteArray) (l : List ByteArray), keysFrom p l = true → incS l
  | _, [], _ => fun i j h hj => by simp at hj
  | p, x :: t, hk => by
    simp only [keysFrom, Bool.and_eq_true] at hk
    have hr := incS_of_from _ t hk.2
    intro i j hij hj
    cases j with
    | zero => omega
    | succ j =>
      cases i with
      | zero => exact keysFrom_less x t hk.2 _ (List.getElem_mem _)
      | succ i => exact hr i j (by omega) (by simpa using hj)
theorem rankS_split : ∀ (l : List ByteArray) (s : ByteArray) (i : Nat) (hi : i ≤ l.length), (∀ a (h : a < i), lessS (l[a]'(by omega)) s = true) → (∀ a (h : a < l.length), i ≤ a → lessS l[a] s = false) → rankS l s = i
  | [], s, i, hi, _, _ => by simp at hi; simp [rankS, hi]
  | x :: t, s, 0, _, _, h2 => by
    have h0 := h2 0 (by simp) (Nat.le_refl _)
    simp only [List.getElem_cons_zero] at h0
    have := rankS_split t s 0 (Nat.zero_le _) (fun a h => absurd h (by omega)) (fun a h _ => h2 (a + 1) (by simpa using h) (Nat.zero_le _))
    simpa [rankS, h0] using this
  | x :: t, s, i + 1, hi, h1, h2 => by
    have h0 := h1 0 (by omega)
    simp only [List.getElem_cons_zero] at h0
    have := rankS_split t s i (by simpa using hi) (fun a h => h1 (a + 1) (by omega)) (fun a h hia => h2 (a + 1) (by simpa using h) (by omega))
    simp only [rankS] at this ⊢
    simp [h0, this]
theorem mid_half {i j : Nat} (h : i < j) (hj : (j : Int) ≤ 1048576) : wrap64 ((IntKind.u64.wrap (wrap64 ((i : Int) + (j : Int)))) / 2) = (((i + j) / 2 : Nat) : Int) := by
  rw [w64 (x := (i : Int) + (j : Int)) (by omega) (by omega)]
  have e : IntKind.u64.wrap ((i : Int) + (j : Int)) = (i : Int) + (j : Int) := by
    show ((i : Int) + (j : Int)) % 18446744073709551616 = _
    omega
  rw [e, w64 (by omega) (by omega)]
  omega
theorem search_l0 (x0 : List ByteArray) (s : ByteArray) (hl : (x0.length : Int) ≤ 1048576) (hs : incS x0) : ∀ (d i j : Nat), j - i ≤ d → (hij : i ≤ j) → (hj : j ≤ x0.length) → (∀ a (h : a < i), lessS (x0[a]'(by omega)) s = true) → (∀ a (h : a < x0.length), j ≤ a → lessS x0[a] s = false) →
    ∃ b, Ev (fun k => slices_BinarySearch_string_string.l0 k x0 s (x0.length : Int) (i : Int) (j : Int)) ((rankS x0 s : Int), b) := by
  intro d
  induction d with
  | zero =>
    intro i j hd hij hj h1 h2
    obtain rfl : i = j := by omega
    have hr := rankS_split x0 s i hj h1 h2
    rw [hr]
    by_cases c : i < x0.length
    · by_cases e : x0[i] = s
      · refine ⟨true, ev_succ ?_⟩
        simp only [slices_BinarySearch_string_string.l0, rdOf_get c, tl_inj]
        exact ev_neg (by omega) (ev_pos (by omega) (ev_pos (by omega) (ev_pos (by omega) (ev_pos e (Ev.now _)))))
      · refine ⟨false, ev_succ ?_⟩
        simp only [slices_BinarySearch_string_string.l0, rdOf_get c, tl_inj, slices_isNaN_string.f, Option.bind_some, bne_self_eq_false, Bool.false_eq_true, if_false]
        exact ev_neg (by omega) (ev_pos (by omega) (ev_pos (by omega) (ev_pos (by omega) (ev_neg e (Ev.now _)))))
    · refine ⟨false, ev_succ ?_⟩
      simp only [slices_BinarySearch_string_string.l0]
      exact ev_neg (by omega) (ev_neg (by omega) (Ev.now _))
  | succ d ih =>
    intro i j hd hij hj h1 h2
    by_cases c : i < j
    · have hm := mid_half c (by omega)
      have hlt : (i + j) / 2 < x0.length := by omega
      by_cases cl : lessS x0[(i + j) / 2] s = true
      · obtain ⟨b, hb⟩ := ih ((i + j) / 2 + 1) j (by omega) (by omega) hj (fun a h => by
          by_cases e : a = (i + j) / 2
          · subst e; exact cl
          · exact lessS_trans (hs a ((i + j) / 2) (by omega) hlt) cl) h2
        refine ⟨b, ev_succ ?_⟩
        simp only [slices_BinarySearch_string_string.l0, hm, rdOf_get hlt, cmpLess, Option.bind_some]
        refine ev_pos (by omega) (ev_pos (by omega) (ev_pos (by omega) (ev_pos cl ?_)))
        rw [winc (by omega)]
        exact hb
      · have cl' : lessS x0[(i + j) / 2] s = false := by simpa using cl
        obtain ⟨b, hb⟩ := ih i ((i + j) / 2) (by omega) (by omega) (by omega) h1 (fun a h hia => by
          by_cases e : a = (i + j) / 2
          · subst e; exact cl'
          · cases ha : lessS x0[a] s with
            | false => rfl
            | true =>
              have := lessS_trans (hs ((i + j) / 2) a (by omega) h) ha
              rw [cl'] at this
              cases this)
        refine ⟨b, ev_succ ?_⟩
        simp only [slices_BinarySearch_string_string.l0, hm, rdOf_get hlt, cmpLess, Option.bind_some]
        exact ev_pos (by omega) (ev_pos (by omega) (ev_pos (by omega) (ev_neg cl hb)))
    · exact ih i j (by omega) hij hj h1 h2
theorem search_f (l : List ByteArray) (s : ByteArray) (hl : (l.length : Int) ≤ 1048576) (hs : incS l) : ∃ b, Ev (fun k => slices_BinarySearch_string_string.f k l s) ((rankS l s : Int), b) := by
  unfold slices_BinarySearch_string_string.f
  exact search_l0 l s hl hs l.length 0 l.length (by omega) (Nat.zero_le _) (Nat.le_refl _) (fun a h => absurd h (by omega)) (fun a h h' => absurd h (by omega))
end Go.Proofs.YtfedgkmklcialaaQ
