/- The pure statement behind FnFirstSeedPeels: the first seed is told alike; it peels, and no seed before it does. -/
import Derived.Test.YthkcgimnagpmaaaPAx14
import Derived.Test.YthkcgimnagpmaaaPE3
import Derived.Test.YthkcgimnagpmaaaFS0
import Derived.Test.YthkcgimnagpmaaaFS1
namespace Go.Proofs.Ythkcgimnagpmaaa.Pure
open Go Go.RowKit Go.Proofs.YthkcgimnagpmaaaW.PrintWords Go.Proofs.YthkcgimnagpmaaaW.PrintMore Go.Proofs.YthkcgimnagpmaaaGp Go.Proofs.Ythkcgimnagpmaaa.PA Go.Proofs.YthkcgimnagpmaaaQ

theorem impl_first_l0 {n : Int} (hn : 1 ≤ n) (hn' : n ≤ 24) {x0 : List ByteArray} (hx : x0.length ≤ 40) (hz : ∀ s ∈ x0, s.size ≤ 1000) : ∀ (d : Nat) (a : Int), 0 ≤ a → a + (d : Int) ≤ 10000 →
    Ev (fun k => impl_firstSeed_at_impl_FirstSeed_1.l0 k (a + (d : Int)) a x0 n) (firstF (fun y => peelsB y x0 n) d a) := by
  intro d
  induction d with
  | zero =>
    intro a h0 h1
    refine ev_succ ?_
    simp only [impl_firstSeed_at_impl_FirstSeed_1.l0]
    exact ev_neg (by omega) (Ev.now _)
  | succ d ih =>
    intro a h0 h1
    refine ev_succ ?_
    simp only [impl_firstSeed_at_impl_FirstSeed_1.l0]
    have hp : Ev (fun k => impl_FirstSeed_1.f k a x0 n) (peelsB a x0 n) := by
      unfold impl_FirstSeed_1.f
      exact ev_bind _ (impl_peels_f h0 (by omega) hn hn' hx hz) (Ev.now _)
    refine ev_pos (by omega) (ev_bind _ hp ?_)
    unfold firstF
    by_cases c : peelsB a x0 n = true
    · rw [if_pos c]; exact ev_pos c (Ev.now _)
    · rw [if_neg c]
      refine ev_neg c ?_
      rw [w64 (by omega) (by omega)]
      have := ih (a + 1) (by omega) (by omega)
      rw [show a + 1 + (d : Int) = a + ((d + 1 : Nat) : Int) from by omega] at this
      exact this
theorem impl_first_f {n : Int} (hn : 1 ≤ n) (hn' : n ≤ 24) {x0 : List ByteArray} (hx : x0.length ≤ 40) (hz : ∀ s ∈ x0, s.size ≤ 1000) {a b : Int} (ha : -1000000 ≤ a) (ha' : a ≤ 1000000) :
    Ev (fun k => impl_firstSeed_at_impl_FirstSeed_1.f k a b x0 n) (firstV (fun y => peelsB y x0 n) a b) := by
  have no : ∀ (c : spanB a b = false), Ev (fun k => impl_firstSeed_at_impl_FirstSeed_1.j0 k a b true x0 n) (firstV (fun y => peelsB y x0 n) a b) := fun c => by
    refine ev_succ ?_
    simp only [impl_firstSeed_at_impl_FirstSeed_1.j0]
    refine ev_pos trivial (ev_some ?_)
    unfold firstV
    rw [c]; rfl
  unfold impl_firstSeed_at_impl_FirstSeed_1.f
  by_cases c1 : a < 0
  · exact ev_pos c1 (no (by simp [spanB]; omega))
  refine ev_neg c1 ?_
  by_cases c2 : a > b
  · exact ev_pos c2 (no (by simp [spanB]; omega))
  refine ev_neg c2 ?_
  by_cases c3 : b > 10000
  · exact ev_pos c3 (no (by simp [spanB]; omega))
  refine ev_neg c3 ?_
  rw [w64 (by omega) (by omega)]
  by_cases c4 : b > a + 100
  · rw [decide_eq_true c4]; exact no (by simp [spanB]; omega)
  rw [decide_eq_false c4]
  refine ev_succ ?_
  simp only [impl_firstSeed_at_impl_FirstSeed_1.j0]
  refine ev_neg (by simp) ?_
  unfold firstV
  rw [if_pos (by simp [spanB]; omega)]
  have := impl_first_l0 hn hn' hx hz (b - a).toNat a (by omega) (by omega)
  rw [show a + ((b - a).toNat : Int) = b from by omega] at this
  exact this
def seedV (l : List ByteArray) (n a b : Int) : Int × Bool := if areKeysB l = true ∧ 1 ≤ n ∧ n ≤ 24 then firstV (fun y => peelsB y l n) a b else (0, false)
theorem impl_FirstSeed_f {l : List ByteArray} (hx : l.length ≤ 1000) (hz : ∀ s ∈ l, s.size ≤ 1000) (n : Int) {a b : Int} (ha : -1000000 ≤ a) (ha' : a ≤ 1000000) :
    Ev (fun k => impl_FirstSeed.f k l n a b) (seedV l n a b) := by
  unfold impl_FirstSeed.f seedV
  rw [impl_segmentOk_f]
  refine ev_bind _ (impl_AreKeys_f l (by omega) (fun s hs => by have := hz s hs; omega)) ?_
  by_cases c : areKeysB l = true
  · refine ev_pos c (ev_bind _ (Ev.now _) ?_)
    by_cases d : 1 ≤ n ∧ n ≤ 24
    · rw [decide_eq_true d, if_pos ⟨c, d.1, d.2⟩]
      exact ev_pos rfl (ev_bind _ (impl_first_f d.1 d.2 (areKeysB_len c) hz ha ha') (Ev.now _))
    · rw [decide_eq_false d, if_neg (fun h => d h.2)]
      exact ev_neg (by simp) (Ev.now _)
  · rw [if_neg (fun h => c h.1)]
    exact ev_neg c (Ev.now _)
theorem spec_first_l0 {n : Int} (hn : 1 ≤ n) (hn' : n ≤ 24) {x0 : List ByteArray} (hx : x0.length ≤ 40) (hz : ∀ s ∈ x0, s.size ≤ 1000) : ∀ (d : Nat) (a : Int), 0 ≤ a → a + (d : Int) ≤ 10000 →
    Ev (fun k => spec_FirstSeed.l0 k x0 n (a + (d : Int)) a) (firstF (fun y => peelsB y x0 n) d a) := by
  intro d
  induction d with
  | zero =>
    intro a h0 h1
    refine ev_succ ?_
    simp only [spec_FirstSeed.l0]
    exact ev_neg (by omega) (Ev.now _)
  | succ d ih =>
    intro a h0 h1
    refine ev_succ ?_
    simp only [spec_FirstSeed.l0]
    refine ev_pos (by omega) (ev_bind _ (spec_pePeels_f h0 (by omega) hn hn' hx hz) ?_)
    unfold firstF
    by_cases c : peelsB a x0 n = true
    · rw [if_pos c]; exact ev_pos c (Ev.now _)
    · rw [if_neg c]
      refine ev_neg c ?_
      rw [w64 (by omega) (by omega)]
      have := ih (a + 1) (by omega) (by omega)
      rw [show a + 1 + (d : Int) = a + ((d + 1 : Nat) : Int) from by omega] at this
      exact this
theorem spec_FirstSeed_f {l : List ByteArray} (hx : l.length ≤ 1000) (hz : ∀ s ∈ l, s.size ≤ 1000) (n : Int) {a b : Int} (hb : -1000000 ≤ b) (hb' : b ≤ 1000000) :
    Ev (fun k => spec_FirstSeed.f k l n a b) (seedV l n a b) := by
  have no : seedV l n a b = (0, false) → Ev (fun k => spec_FirstSeed.j0 k l n a b true) (seedV l n a b) := fun h => by
    refine ev_succ ?_
    simp only [spec_FirstSeed.j0]
    rw [h]
    exact ev_pos trivial (Ev.now _)
  unfold spec_FirstSeed.f
  rw [spec_in, most_f, w64 (by omega) (by omega)]
  refine ev_bind _ (spec_peKeyed_f 0 n hx hz) ?_
  by_cases c : keyedB 0 l n = true
  · have hc := c
    simp only [keyedB, Bool.and_eq_true, decide_eq_true_eq] at hc
    refine ev_pos c (ev_bind _ (Ev.now _) ?_)
    have hv : seedV l n a b = firstV (fun y => peelsB y l n) a b := if_pos ⟨hc.1.2, hc.2.1, hc.2.2⟩
    by_cases e : 0 ≤ b ∧ b ≤ 10000
    · rw [decide_eq_true e]
      refine ev_pos rfl (ev_bind _ (Ev.now _) ?_)
      rw [spec_in]
      refine ev_bind _ (Ev.now _) ?_
      by_cases g : (if 0 > b - 100 then 0 else b - 100) ≤ a ∧ a ≤ b
      · rw [decide_eq_true g, hv]
        have hs : spanB a b = true := by
          simp only [spanB, decide_eq_true_eq]
          split at g <;> omega
        have ha : 0 ≤ a ∧ a ≤ b := by split at g <;> omega
        refine ev_succ ?_
        simp only [spec_FirstSeed.j0]
        refine ev_neg (by simp) ?_
        unfold firstV
        rw [if_pos hs]
        have := spec_first_l0 hc.2.1 hc.2.2 (areKeysB_len hc.1.2) hz (b - a).toNat a ha.1 (by omega)
        rw [show a + ((b - a).toNat : Int) = b from by omega] at this
        exact this
      · rw [decide_eq_false g]
        refine no ?_
        rw [hv]
        refine if_neg ?_
        simp only [spanB, decide_eq_true_eq]
        split at g <;> omega
    · rw [decide_eq_false e]
      refine ev_neg (by simp) (no ?_)
      rw [hv]
      refine if_neg ?_
      simp only [spanB, decide_eq_true_eq]
      omega
  · exact ev_neg c (no (if_neg (fun h => c (by unfold keyedB; rw [h.1, decide_eq_true h.2]; rfl))))
theorem law_l0 {l : List ByteArray} (hk : areKeysB l = true) {n r b : Int} (hn : 1 ≤ n) (hn' : n ≤ 24) (hr : r ≤ 9999) (hrb : r < b) (hy : peelsB r l n = true) : ∀ (d : Nat) (a : Int), 0 ≤ a → a + (d : Int) = r + 1 → (∀ y, a ≤ y → y < r → peelsB y l n = false) →
    Ev (fun k => laws_FnFirstSeedPeels.l0 k l n b r a) true := by
  intro d
  induction d with
  | zero =>
    intro a h1 h2 _
    refine ev_succ ?_
    simp only [laws_FnFirstSeedPeels.l0]
    exact ev_neg (by omega) (ev_some (by simpa using hrb))
  | succ d ih =>
    intro a h1 h2 h3
    have hg := hyp_good a hn hn' (areKeysB_len hk)
    obtain ⟨st, ho⟩ := impl_PeelOrder_f hg
    refine ev_succ ?_
    simp only [laws_FnFirstSeedPeels.l0]
    refine ev_pos (by omega) (ev_bind _ (impl_HyperOf_f h1 (by omega) hn hn' hk) (ev_bind _ ho (ev_pos rfl (ev_neg ?_ ?_))))
    · change ¬ (peelsB a l n != (a == r)) = true
      by_cases e : a = r
      · subst e; rw [hy]; simp
      · rw [h3 a (by omega) (by omega)]; simp [e]
    · rw [w64 (by omega) (by omega)]
      exact ih (a + 1) (by omega) (by omega) (fun y h4 h5 => h3 y (by omega) h5)
theorem FnFirstSeedPeels : laws_FnFirstSeedPeels.Pure := by
  intro l0 l1 h0 _ hw0 h1 _ _
  refine Ev.rounds (r := true) ?_
  unfold laws_FnFirstSeedPeels.f
  obtain ⟨b, eb, hb⟩ := big_f h0 h1
  rw [eb]
  refine ev_bind _ (Ev.now _) ?_
  by_cases c : b = true
  · exact ev_pos c (Ev.now _)
  obtain ⟨g0, _⟩ := hb (by simpa using c)
  have hs := bys g0 hw0
  obtain ⟨a, p1, sd1, e1, ha, q0, q1⟩ := seed9_ok hs 0 (p := 0) (by omega) (by omega)
  obtain ⟨ks, p2, sd2, e2, hk, r0, r1⟩ := anyKeys_ok hs sd1 (n := 8) (by omega) q0 (by omega)
  obtain ⟨m, p3, sd3, e3, hm, t0, t1⟩ := segment_ok hs sd2 r0 (by omega)
  obtain ⟨u, p4, sd4, e4, hu, u0, u1⟩ := among_ok hs sd3 (l := [(-1), 0, 1, 5, 20, 100, 101]) (by simp) t0 (by omega)
  have hur : -1 ≤ u ∧ u ≤ 101 := by
    simp only [List.mem_cons, List.not_mem_nil, or_false] at hu
    omega
  have ed : Ev (fun k => spec_DrawFirstSeed.f k l0) (ks, m, a, a + u) := by
    unfold spec_DrawFirstSeed.f
    rw [e1]
    refine ev_bind _ (Ev.now _) (ev_bind _ e2 ?_)
    simp only [e3]
    refine ev_bind _ (Ev.now _) ?_
    simp only [e4]
    refine ev_bind _ (Ev.now _) (ev_some ?_)
    simp only []
    rw [w64 (by omega) (by omega)]
  have hkl : ks.length ≤ 1000 := by have := hk.1; omega
  have hks : ∀ s ∈ ks, s.size ≤ 1000 := fun s hs => by have := hk.2 s hs; omega
  refine ev_neg c (ev_bind _ ed (ev_bind _ (impl_FirstSeed_f hkl hks m (a := a) (b := a + u) (by omega) (by omega)) (ev_bind _ (spec_FirstSeed_f hkl hks m (a := a) (b := a + u) (by omega) (by omega)) (ev_neg (by simp) (ev_succ ?_)))))
  simp only [laws_FnFirstSeedPeels.j0]
  refine ev_neg (by simp) ?_
  by_cases ok : (seedV ks m a (a + u)).2 = true
  · refine ev_pos ok ?_
    have hV : seedV ks m a (a + u) = ((seedV ks m a (a + u)).1, true) := by rw [← ok]
    generalize (seedV ks m a (a + u)).1 = r at hV
    unfold seedV at hV
    split at hV
    case isFalse => cases hV
    case isTrue hh =>
    obtain ⟨hk2, m0, m1⟩ := hh
    obtain ⟨f1, f2, f3, f4, f5, f6⟩ := firstV_yes hV
    exact law_l0 hk2 m0 m1 (by omega) f3 f5 (r + 1 - a).toNat a f1 (by omega) f6
  · exact ev_neg ok (Ev.now _)
end Go.Proofs.Ythkcgimnagpmaaa.Pure
