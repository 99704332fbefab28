/- Tables: the places of a key, the value there, and its print. -/
import Derived.Test.YtpkpjikkfikejaaPAx2
import Derived.Test.YtpkpjikkfikejaaPAx21
import Derived.Test.YtpkpjikkfikejaaPAx40
import Derived.Test.YtpkpjikkfikejaaPAx41
import Derived.Test.YtpkpjikkfikejaaQB1
import Derived.Test.YtpkpjikkfikejaaQB9b
namespace Go.Proofs.YtpkpjikkfikejaaQ
open Go Go.RowKit Go.Proofs.YtpkpjikkfikejaaW.PrintWords Go.Proofs.YtpkpjikkfikejaaGp Go.Proofs.Ytpkpjikkfikejaa.PA

/-! ### three places -/
def tripL (a0 : Int) (s : ByteArray) (n : Int) : Nat → Nat → List Int
  | 0, _ => []
  | m + 1, i => wrap64 (placeV a0 (i : Int) s n + wrap64 ((i : Int) * n)) :: tripL a0 s n m (i + 1)
theorem tripL_range (a0 : Int) (s : ByteArray) {n : Int} (h0 : 1 ≤ n) (h1 : n ≤ 24) : ∀ p ∈ tripL a0 s n 3 0, 0 ≤ p ∧ p < 3 * n := by
  intro p h
  have r0 := placeV_range a0 ((0 : Nat) : Int) s h0 (by omega)
  have r1 := placeV_range a0 ((0 + 1 : Nat) : Int) s h0 (by omega)
  have r2 := placeV_range a0 ((0 + 1 + 1 : Nat) : Int) s h0 (by omega)
  simp only [tripL, List.mem_cons, List.not_mem_nil, or_false] at h
  rcases h with rfl | rfl | rfl
  · rw [w64 (x := ((0 : Nat) : Int) * n) (by omega) (by omega), w64 (by omega) (by omega)]; omega
  · rw [w64 (x := ((0 + 1 : Nat) : Int) * n) (by omega) (by omega), w64 (by omega) (by omega)]; omega
  · rw [w64 (x := ((0 + 1 + 1 : Nat) : Int) * n) (by omega) (by omega), w64 (by omega) (by omega)]; omega
theorem spec_peTriple_l0 (a0 : Int) (n : Int) (s : ByteArray) (hz : (s.size : Int) ≤ 9223372036854775806) (h0 : 0 ≤ a0) (h0' : a0 ≤ 1000000) : ∀ (m i : Nat) (acc : List Int), i + m = 3 → acc.length = i →
    Ev (fun k => spec_peTriple.l0 k a0 s n acc (i : Int)) (acc ++ tripL a0 s n m i) := by
  intro m
  induction m with
  | zero =>
    intro i acc e ha
    refine ev_succ ?_
    simp only [spec_peTriple.l0, tripL]
    exact ev_neg (by omega) (ev_some (by simp))
  | succ m ih =>
    intro i acc e ha
    refine ev_succ ?_
    simp only [spec_peTriple.l0, tripL]
    refine ev_pos (by omega) (ev_bind _ (spec_biPlace_f a0 (i : Int) s n hz h0 h0' (by omega) (by omega)) (ev_pos (by omega) ?_))
    rw [winc (by omega)]
    have := ih (i + 1) (acc ++ [wrap64 (placeV a0 (i : Int) s n + wrap64 ((i : Int) * n))]) (by omega) (by simp [ha])
    rw [List.append_assoc] at this
    exact this
theorem spec_peTriple_f (a0 n : Int) (s : ByteArray) (hz : (s.size : Int) ≤ 9223372036854775806) (h0 : 0 ≤ a0) (h0' : a0 ≤ 1000000) : Ev (fun k => spec_peTriple.f k a0 s n) (tripL a0 s n 3 0) := by
  unfold spec_peTriple.f
  have := spec_peTriple_l0 a0 n s hz h0 h0' 3 0 [] rfl rfl
  exact this
theorem impl_threePlaces_l0 (a0 : Int) (n : Int) (s : ByteArray) (hz : (s.size : Int) ≤ 9223372036854775806) (h0 : 0 ≤ a0) (h0' : a0 ≤ 1000000) : ∀ (m i : Nat) (acc : List Int), i + m = 3 → acc.length = i →
    Ev (fun k => impl_threePlaces.l0 k a0 s n acc (i : Int)) (acc ++ tripL a0 s n m i) := by
  intro m
  induction m with
  | zero =>
    intro i acc e ha
    refine ev_succ ?_
    simp only [impl_threePlaces.l0, tripL]
    exact ev_neg (by omega) (ev_some (by simp))
  | succ m ih =>
    intro i acc e ha
    refine ev_succ ?_
    simp only [impl_threePlaces.l0, tripL]
    refine ev_pos (by omega) (ev_bind _ (impl_place_f a0 (i : Int) s n hz h0 h0' (by omega) (by omega)) (ev_pos (by omega) ?_))
    rw [winc (by omega)]
    have := ih (i + 1) (acc ++ [wrap64 (placeV a0 (i : Int) s n + wrap64 ((i : Int) * n))]) (by omega) (by simp [ha])
    rw [List.append_assoc] at this
    exact this
theorem impl_threePlaces_f (a0 n : Int) (s : ByteArray) (hz : (s.size : Int) ≤ 9223372036854775806) (h0 : 0 ≤ a0) (h0' : a0 ≤ 1000000) : Ev (fun k => impl_threePlaces.f k a0 s n) (tripL a0 s n 3 0) := by
  unfold impl_threePlaces.f
  have := impl_threePlaces_l0 a0 n s hz h0 h0' 3 0 [] rfl rfl
  exact this

/-! ### tables -/
def topV (w : Int) : Int := shl .i64 1 w
def hiV (w : Int) : Int := wrap64 (topV w - 1)
theorem hiV_le {w : Int} (h0 : 1 ≤ w) (h1 : w ≤ 8) : hiV w ≤ 65535 := by
  have : w = 1 ∨ w = 2 ∨ w = 3 ∨ w = 4 ∨ w = 5 ∨ w = 6 ∨ w = 7 ∨ w = 8 := by omega
  rcases this with rfl | rfl | rfl | rfl | rfl | rfl | rfl | rfl <;> simp [hiV, topV, shl, IntKind.wrap, IntKind.bits, IntKind.signed, wrap64]
def allIn (hi : Int) (l : List Int) : Bool := l.all (fun x => decide (0 ≤ x ∧ x ≤ hi))
def tableB (a0 n w : Int) (l : List Int) : Bool :=
  decide (0 ≤ a0 ∧ a0 ≤ 9999) && (decide (1 ≤ n ∧ n ≤ 24) && (decide (1 ≤ w ∧ w ≤ 8) && (decide ((l.length : Int) = 3 * n) && allIn (hiV w) l)))
theorem tableB_ok {a0 n w : Int} {l : List Int} (h : tableB a0 n w l = true) : (0 ≤ a0 ∧ a0 ≤ 9999) ∧ (1 ≤ n ∧ n ≤ 24) ∧ (1 ≤ w ∧ w ≤ 8) ∧ (l.length : Int) = 3 * n ∧ ∀ x ∈ l, 0 ≤ x ∧ x ≤ 65535 := by
  simp only [tableB, Bool.and_eq_true, decide_eq_true_eq, allIn, List.all_eq_true] at h
  refine ⟨h.1, h.2.1, h.2.2.1, h.2.2.2.1, fun x hx => ?_⟩
  have := h.2.2.2.2 x hx
  have := hiV_le h.2.2.1.1 h.2.2.1.2
  omega
theorem spec_l1All_g (hi : Int) (x0 : List Int) (hl : (x0.length : Int) ≤ 9223372036854775806) : ∀ (t pre : List Int), x0 = pre ++ t →
    Ev (fun k => spec_l1All.l0 k 0 hi x0 (x0.length : Int) (pre.length : Int)) (allIn hi t) := by
  intro t
  induction t with
  | nil =>
    intro pre h
    refine ev_succ ?_
    simp only [spec_l1All.l0]
    exact ev_neg (by rw [h]; exact not_lt_end) (ev_some (by simp [allIn]))
  | cons s t ih =>
    intro pre h
    have hm : ((pre.length : Nat) : Int) < (x0.length : Int) := by rw [h]; exact lt_mid
    have hg : rd x0 (pre.length : Int) = s := by rw [h]; exact rd_mid
    refine ev_succ ?_
    simp only [spec_l1All.l0, hg, spec_in]
    refine ev_pos hm (ev_pos (by omega) (ev_pos hm (ev_bind _ (Ev.now _) ?_)))
    by_cases c : 0 ≤ s ∧ s ≤ hi
    · refine ev_pos (by simpa using c) ?_
      rw [winc (by omega)]
      have := ih (pre ++ [s]) (by rw [h]; simp)
      rw [len_one] at this
      rw [show allIn hi (s :: t) = allIn hi t from by simp [allIn, c]]
      exact this
    · refine ev_neg (by simpa using c) (ev_some ?_)
      have : decide (0 ≤ s ∧ s ≤ hi) = false := decide_eq_false c
      simp only [allIn, List.all_cons, this, Bool.false_and]
theorem spec_reTable_f (a0 n w : Int) (l : List Int) (hl : (l.length : Int) ≤ 9223372036854775806) : Ev (fun k => spec_reTable.f k a0 n w l) (tableB a0 n w l) := by
  unfold spec_reTable.f spec_reWidth.f
  simp only [spec_in, Option.bind_some]
  by_cases c0 : 0 ≤ a0 ∧ a0 ≤ 9999
  · refine ev_pos (by simpa using c0) ?_
    by_cases c1 : 1 ≤ n ∧ n ≤ 24
    · refine ev_pos (by simpa using c1) ?_
      by_cases c2 : 1 ≤ w ∧ w ≤ 8
      · refine ev_pos (by simpa using c2) ?_
        rw [w64 (x := 3 * n) (by omega) (by omega)]
        by_cases c3 : (l.length : Int) = 3 * n
        · refine ev_pos c3 ?_
          have ht : spec_reTop.f w = some (topV w) := by unfold spec_reTop.f topV; rw [if_pos (by omega)]
          rw [ht]
          simp only [Option.bind_some]
          refine ev_bind (allIn (hiV w) l) ?_ (ev_some (by simp [tableB, c0, c1, c2, c3]))
          unfold spec_l1All.f
          exact spec_l1All_g (hiV w) l hl l [] rfl
        · exact ev_neg c3 (ev_some (by simp [tableB, c3]))
      · refine ev_neg (by simpa using c2) (ev_some ?_)
        have : decide (1 ≤ w ∧ w ≤ 8) = false := decide_eq_false c2
        simp only [tableB, this, Bool.false_and, Bool.and_false]
    · refine ev_neg (by simpa using c1) (ev_some ?_)
      have : decide (1 ≤ n ∧ n ≤ 24) = false := decide_eq_false c1
      simp only [tableB, this, Bool.false_and, Bool.and_false]
  · refine ev_neg (by simpa using c0) (ev_some ?_)
    have : decide (0 ≤ a0 ∧ a0 ≤ 9999) = false := decide_eq_false c0
    simp only [tableB, this, Bool.false_and]
theorem impl_IsTable_1_f (x a0 n : Int) (l : List Int) {w : Int} (h : 0 ≤ w) : impl_IsTable_1.f x a0 n w l = some (!decide (0 ≤ x ∧ x ≤ hiV w)) := by
  unfold impl_IsTable_1.f
  rw [if_pos h, impl_in]
  rfl
theorem IndexFunc_IsTable_l0 (a0 n : Int) {w : Int} (hw : 0 ≤ w) (l : List Int) (x0 : List Int) (hl : (x0.length : Int) ≤ 9223372036854775806) : ∀ (t pre : List Int), x0 = pre ++ t →
    ∃ r : Int, Ev (fun k => slices_IndexFunc_int_int_at_impl_IsTable_1.l0 k x0 (x0.length : Int) (pre.length : Int) a0 n w l) r ∧ decide (r ≥ 0) = !(allIn (hiV w) t) := by
  intro t
  induction t with
  | nil =>
    intro pre h
    refine ⟨-1, ev_succ ?_, by simp [allIn]⟩
    simp only [slices_IndexFunc_int_int_at_impl_IsTable_1.l0]
    exact ev_neg (by rw [h]; exact not_lt_end) (ev_some rfl)
  | cons x t ih =>
    intro pre h
    have hm : ((pre.length : Nat) : Int) < (x0.length : Int) := by rw [h]; exact lt_mid
    have hg : rd x0 (pre.length : Int) = x := by rw [h]; exact rd_mid
    by_cases c : 0 ≤ x ∧ x ≤ hiV w
    · obtain ⟨r, h1, h2⟩ := ih (pre ++ [x]) (by rw [h]; simp)
      refine ⟨r, ev_succ ?_, by simpa [allIn, c] using h2⟩
      simp only [slices_IndexFunc_int_int_at_impl_IsTable_1.l0, hg, impl_IsTable_1_f x a0 n l hw]
      refine ev_pos hm (ev_pos (by omega) (ev_pos hm (ev_bind _ (Ev.now _) (ev_neg (by simp [c]) ?_))))
      rw [winc (by omega)]
      rw [len_one] at h1
      exact h1
    · have hd : decide (0 ≤ x ∧ x ≤ hiV w) = false := decide_eq_false c
      refine ⟨(pre.length : Int), ev_succ ?_, by simp only [allIn, List.all_cons, hd, Bool.false_and]; simp⟩
      simp only [slices_IndexFunc_int_int_at_impl_IsTable_1.l0, hg, impl_IsTable_1_f x a0 n l hw, hd]
      exact ev_pos hm (ev_pos (by omega) (ev_pos hm (ev_bind _ (Ev.now _) (ev_pos (by simp) (Ev.now _)))))
theorem impl_IsTable_f (a0 n w : Int) (l : List Int) (hl : (l.length : Int) ≤ 9223372036854775806) : Ev (fun k => impl_IsTable.f k a0 n w l) (tableB a0 n w l) := by
  unfold impl_IsTable.f impl_isSeed.f impl_segmentOk.f impl_widthOk.f
  simp only [impl_in, Option.bind_some]
  by_cases c0 : 0 ≤ a0 ∧ a0 ≤ 9999
  · refine ev_pos (by simpa using c0) ?_
    by_cases c1 : 1 ≤ n ∧ n ≤ 24
    · refine ev_pos (by simpa using c1) ?_
      by_cases c2 : 1 ≤ w ∧ w ≤ 8
      · refine ev_pos (by simpa using c2) ?_
        rw [w64 (x := 3 * n) (by omega) (by omega)]
        by_cases c3 : (l.length : Int) = 3 * n
        · refine ev_pos c3 ?_
          obtain ⟨r, h1, h2⟩ := IndexFunc_IsTable_l0 a0 n (w := w) (by omega) l l hl l [] rfl
          refine ev_bind (!(allIn (hiV w) l)) ?_ (ev_some (by simp [tableB, c0, c1, c2, c3]))
          unfold slices_ContainsFunc_int_int_at_impl_IsTable_1.f slices_IndexFunc_int_int_at_impl_IsTable_1.f
          exact ev_bind _ h1 (ev_some h2)
        · exact ev_neg c3 (ev_some (by simp [tableB, c3]))
      · refine ev_neg (by simpa using c2) (ev_some ?_)
        have : decide (1 ≤ w ∧ w ≤ 8) = false := decide_eq_false c2
        simp only [tableB, this, Bool.false_and, Bool.and_false]
    · refine ev_neg (by simpa using c1) (ev_some ?_)
      have : decide (1 ≤ n ∧ n ≤ 24) = false := decide_eq_false c1
      simp only [tableB, this, Bool.false_and, Bool.and_false]
  · refine ev_neg (by simpa using c0) (ev_some ?_)
    have : decide (0 ≤ a0 ∧ a0 ≤ 9999) = false := decide_eq_false c0
    simp only [tableB, this, Bool.false_and]
end Go.Proofs.YtpkpjikkfikejaaQ
