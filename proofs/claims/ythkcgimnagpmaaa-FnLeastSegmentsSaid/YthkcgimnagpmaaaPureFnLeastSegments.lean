/- The pure statement behind FnLeastSegments: the least segment is told alike; it peels, and no smaller one does. -/
import Derived.Test.YthkcgimnagpmaaaPAx11
import Derived.Test.YthkcgimnagpmaaaPE3
namespace Go.Proofs.Ythkcgimnagpmaaa.Pure
open Go Go.RowKit Go.Proofs.YthkcgimnagpmaaaW.PrintWords Go.Proofs.YthkcgimnagpmaaaW.PrintMore Go.Proofs.YthkcgimnagpmaaaGp Go.Proofs.Ythkcgimnagpmaaa.PA Go.Proofs.YthkcgimnagpmaaaQ

def leastF (f : Int → Bool) : Nat → Int → Int × Bool
  | 0, _ => (0, false)
  | d + 1, x => if f x = true then (x, true) else leastF f d (x + 1)
theorem leastF_yes (f : Int → Bool) : ∀ (d : Nat) (x r : Int), leastF f d x = (r, true) → x ≤ r ∧ r < x + (d : Int) ∧ f r = true ∧ ∀ y, x ≤ y → y < r → f y = false
  | 0, x, r, h => by simp [leastF] at h
  | d + 1, x, r, h => by
    unfold leastF at h
    by_cases c : f x = true
    · rw [if_pos c] at h
      simp only [Prod.mk.injEq, and_true] at h
      subst h
      exact ⟨by omega, by omega, c, fun y h1 h2 => by omega⟩
    · rw [if_neg c] at h
      obtain ⟨h1, h2, h3, h4⟩ := leastF_yes f d (x + 1) r h
      refine ⟨by omega, by omega, h3, fun y h5 h6 => ?_⟩
      by_cases e : y = x
      · rw [e]; simpa using c
      · exact h4 y (by omega) h6
def leastV (a0 : Int) (l : List ByteArray) (m : Int) : Int × Bool := if keyedB a0 l m = true then leastF (fun n => peelsB a0 l n) m.toNat 1 else (0, false)
theorem impl_least_l0 {a0 : Int} (h0 : 0 ≤ a0) (h0' : a0 ≤ 1000000) {l : List ByteArray} (hl : l.length ≤ 40) (hz : ∀ s ∈ l, s.size ≤ 1000) : ∀ (d : Nat) (n m : Int), 1 ≤ n → n + (d : Int) = m + 1 → m ≤ 24 →
    Ev (fun k => impl_LeastSegment.l0 k a0 l m n) (leastF (fun n => peelsB a0 l n) d n) := by
  intro d
  induction d with
  | zero =>
    intro n m h1 h2 h3
    refine ev_succ ?_
    simp only [impl_LeastSegment.l0]
    exact ev_neg (by omega) (Ev.now _)
  | succ d ih =>
    intro n m h1 h2 h3
    refine ev_succ ?_
    simp only [impl_LeastSegment.l0]
    refine ev_pos (by omega) (ev_bind _ (impl_peels_f h0 h0' h1 (by omega) hl hz) ?_)
    unfold leastF
    by_cases c : peelsB a0 l n = true
    · rw [if_pos c]; exact ev_pos c (Ev.now _)
    · rw [if_neg c, w64 (by omega) (by omega)]
      exact ev_neg c (ih (n + 1) m (by omega) (by omega) h3)
theorem spec_least_l0 {a0 : Int} (h0 : 0 ≤ a0) (h0' : a0 ≤ 1000000) {l : List ByteArray} (hl : l.length ≤ 40) (hz : ∀ s ∈ l, s.size ≤ 1000) : ∀ (d : Nat) (n m : Int), 1 ≤ n → n + (d : Int) = m + 1 → m ≤ 24 →
    Ev (fun k => spec_LeastSegment.l0 k a0 l m n) (leastF (fun n => peelsB a0 l n) d n) := by
  intro d
  induction d with
  | zero =>
    intro n m h1 h2 h3
    refine ev_succ ?_
    simp only [spec_LeastSegment.l0]
    exact ev_neg (by omega) (Ev.now _)
  | succ d ih =>
    intro n m h1 h2 h3
    refine ev_succ ?_
    simp only [spec_LeastSegment.l0]
    refine ev_pos (by omega) (ev_bind _ (spec_pePeels_f h0 h0' h1 (by omega) hl hz) ?_)
    unfold leastF
    by_cases c : peelsB a0 l n = true
    · rw [if_pos c]; exact ev_pos c (Ev.now _)
    · rw [if_neg c, w64 (by omega) (by omega)]
      exact ev_neg c (ih (n + 1) m (by omega) (by omega) h3)
theorem spec_Least_f (a0 m : Int) {l : List ByteArray} (hl : l.length ≤ 1000) (hz : ∀ s ∈ l, s.size ≤ 1000) : Ev (fun k => spec_LeastSegment.f k a0 l m) (leastV a0 l m) := by
  unfold spec_LeastSegment.f leastV
  refine ev_bind _ (spec_peKeyed_f a0 m hl hz) ?_
  by_cases c : keyedB a0 l m = true
  · rw [if_pos c]
    have hc := c
    simp only [keyedB, Bool.and_eq_true, decide_eq_true_eq] at hc
    exact ev_pos c (spec_least_l0 hc.1.1.1 (by omega) (areKeysB_len hc.1.2) hz m.toNat 1 m (by omega) (by omega) (by omega))
  · rw [if_neg c]; exact ev_neg c (Ev.now _)
theorem impl_Least_f (a0 m : Int) {l : List ByteArray} (hl : l.length ≤ 1000) (hz : ∀ s ∈ l, s.size ≤ 1000) : Ev (fun k => impl_LeastSegment.f k a0 l m) (leastV a0 l m) := by
  have no : keyedB a0 l m = false → Ev (fun k => impl_LeastSegment.j0 k a0 l m true) (leastV a0 l m) := fun h => by
    refine ev_succ ?_
    simp only [impl_LeastSegment.j0]
    unfold leastV
    rw [h]
    exact ev_pos trivial (Ev.now _)
  unfold impl_LeastSegment.f
  rw [impl_isSeed_f, impl_segmentOk_f]
  refine ev_bind _ (Ev.now _) ?_
  by_cases c : 0 ≤ a0 ∧ a0 ≤ 9999
  · rw [decide_eq_true c]
    refine ev_pos rfl (ev_bind _ (impl_AreKeys_f l (by omega) (fun s hs => by have := hz s hs; omega)) ?_)
    by_cases d : areKeysB l = true
    · refine ev_pos d (ev_bind _ (Ev.now _) ?_)
      by_cases e : 1 ≤ m ∧ m ≤ 24
      · rw [decide_eq_true e]
        refine ev_succ ?_
        simp only [impl_LeastSegment.j0]
        refine ev_neg (by simp) ?_
        unfold leastV
        rw [if_pos (by unfold keyedB; rw [decide_eq_true c, d, decide_eq_true e]; rfl)]
        exact impl_least_l0 c.1 (by omega) (areKeysB_len d) hz m.toNat 1 m (by omega) (by omega) e.2
      · rw [decide_eq_false e]
        exact no (by unfold keyedB; rw [decide_eq_false e]; simp)
    · exact ev_neg d (no (by unfold keyedB; rw [Bool.eq_false_iff.2 d]; simp))
  · rw [decide_eq_false c]
    exact ev_neg (by simp) (no (by unfold keyedB; rw [decide_eq_false c]; simp))
theorem law_l0 {a0 : Int} (h0 : 0 ≤ a0) (h0' : a0 ≤ 9999) {l : List ByteArray} (hk : areKeysB l = true) {r m : Int} (hr : r ≤ 24) (hrm : r ≤ m) (hy : peelsB a0 l r = true) : ∀ (d : Nat) (n : Int), 1 ≤ n → n + (d : Int) = r + 1 → (∀ y, n ≤ y → y < r → peelsB a0 l y = false) →
    Ev (fun k => laws_FnLeastSegments.l0 k a0 l m r n) true := by
  intro d
  induction d with
  | zero =>
    intro n h1 h2 _
    refine ev_succ ?_
    simp only [laws_FnLeastSegments.l0]
    exact ev_neg (by omega) (ev_some (by simpa using hrm))
  | succ d ih =>
    intro n h1 h2 h3
    have hg := hyp_good a0 h1 (by omega : n ≤ 24) (areKeysB_len hk)
    obtain ⟨st, ho⟩ := impl_PeelOrder_f hg
    have hi := impl_IsHyper_f (3 * n) (hypE a0 n l) (by have := areKeysB_len hk; rw [hypE_len]; omega)
    rw [hg] at hi
    refine ev_succ ?_
    simp only [laws_FnLeastSegments.l0]
    refine ev_pos (by omega) (ev_bind _ (impl_HyperOf_f h0 h0' h1 (by omega) hk) (ev_bind _ ho (ev_pos rfl (ev_bind _ hi (ev_pos rfl (ev_neg ?_ ?_))))))
    · change ¬ (peelsB a0 l n != (n == r)) = true
      by_cases e : n = r
      · subst e; rw [hy]; simp
      · rw [h3 n (by omega) (by omega)]; simp [e]
    · rw [w64 (by omega) (by omega)]
      exact ih (n + 1) (by omega) (by omega) (fun y h4 h5 => h3 y (by omega) h5)
theorem FnLeastSegments : laws_FnLeastSegments.Pure := by
  intro l0 l1 h0 _ hw0 h1 _ _
  refine Ev.rounds (r := true) ?_
  unfold laws_FnLeastSegments.f
  obtain ⟨b, eb, hb⟩ := big_f h0 h1
  rw [eb]
  refine ev_bind _ (Ev.now _) ?_
  by_cases c : b = true
  · exact ev_pos c (Ev.now _)
  obtain ⟨g0, _⟩ := hb (by simpa using c)
  have hs := bys g0 hw0
  obtain ⟨a, p1, sd1, e1, ha, q0, q1⟩ := seed9_ok hs 0 (p := 0) (by omega) (by omega)
  obtain ⟨ks, p2, sd2, e2, hk, r0, r1⟩ := anyKeys_ok hs sd1 (n := 8) (by omega) q0 (by omega)
  obtain ⟨m, p3, sd3, e3, hm, t0, t1⟩ := segment_ok hs sd2 r0 (by omega)
  have ed : Ev (fun k => spec_DrawLeastSegment.f k l0) (a, ks, m) := by
    unfold spec_DrawLeastSegment.f
    rw [e1]
    refine ev_bind _ (Ev.now _) (ev_bind _ e2 ?_)
    simp only [e3]
    exact ev_bind _ (Ev.now _) (Ev.now _)
  have hkl : ks.length ≤ 1000 := by have := hk.1; omega
  have hks : ∀ s ∈ ks, s.size ≤ 1000 := fun s hs => by have := hk.2 s hs; omega
  refine ev_neg c (ev_bind _ ed (ev_bind _ (impl_Least_f a m hkl hks) (ev_bind _ (spec_Least_f a m hkl hks) (ev_neg (by simp) (ev_succ ?_)))))
  simp only [laws_FnLeastSegments.j0]
  refine ev_neg (by simp) ?_
  by_cases ok : (leastV a ks m).2 = true
  · refine ev_pos ok ?_
    have hV : leastV a ks m = ((leastV a ks m).1, true) := by rw [← ok]
    generalize (leastV a ks m).1 = r at hV
    unfold leastV at hV
    split at hV
    case isFalse => cases hV
    case isTrue hh =>
    simp only [keyedB, Bool.and_eq_true, decide_eq_true_eq] at hh
    obtain ⟨⟨⟨a0, a1⟩, hk2⟩, m0, m1⟩ := hh
    obtain ⟨f1, f2, f3, f4⟩ := leastF_yes _ _ 1 r hV
    exact law_l0 a0 a1 hk2 (by omega) (by omega) f3 r.toNat 1 (by omega) (by omega) f4
  · exact ev_neg ok (Ev.now _)
end Go.Proofs.Ythkcgimnagpmaaa.Pure
