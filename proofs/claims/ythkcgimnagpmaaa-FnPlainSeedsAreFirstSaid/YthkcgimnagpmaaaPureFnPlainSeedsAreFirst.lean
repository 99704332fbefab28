/- The pure statement behind FnPlainSeedsAreFirst: the first seed is told alike, it has different places, and each seed before it has a collision. -/
import Derived.Test.YthkcgimnagpmaaaPAx19
import Derived.Test.YthkcgimnagpmaaaPS2
namespace Go.Proofs.Ythkcgimnagpmaaa.Pure
open Go Go.RowKit Go.Proofs.YthkcgimnagpmaaaW.PrintWords Go.Proofs.YthkcgimnagpmaaaW.PrintMore Go.Proofs.YthkcgimnagpmaaaGp Go.Proofs.Ythkcgimnagpmaaa.PA Go.Proofs.YthkcgimnagpmaaaQ

theorem before_l0 {ks : List ByteArray} {n r : Int} (hk : areKeysB ks = true) (hn : 1 ≤ n) (hn' : n ≤ 4096) (hr : r ≤ 9999) {R : Bool}
    (H : Ev (fun k => laws_FnPlainSeedsAreFirst.l0 k ks n r r) R) : ∀ (d : Nat) (a : Int), 0 ≤ a → a + (d : Int) = r → (∀ y, a ≤ y → y < r → plainB y ks n = false) →
    Ev (fun k => laws_FnPlainSeedsAreFirst.l0 k ks n r a) R := by
  intro d
  induction d with
  | zero =>
    intro a h0 h1 _
    obtain rfl : a = r := by omega
    exact H
  | succ d ih =>
    intro a h0 h1 hb
    have hl := areKeysB_len hk
    refine ev_succ ?_
    simp only [laws_FnPlainSeedsAreFirst.l0]
    have hp : ¬ (plcs a n ks).Nodup := by
      have := hb a (by omega) (by omega)
      unfold plainB at this
      rw [← nodB_iff, this]; simp
    have hc := impl_CollisionOf_f h0 (by omega) hn hn' hk
    cases hh : collL (plcs a n ks) 0 with
    | none => exact absurd ((collL_none _ 0).1 hh) hp
    | some q =>
      obtain ⟨i, k⟩ := q
      rw [hh] at hc
      change Ev _ ((i : Int), (k : Int), true) at hc
      obtain ⟨c1, c2, c3⟩ := collL_some (plcs a n ks) (plcs a n ks) [] i k rfl hh
      rw [plcs_len] at c2
      have pi : ∀ {j : Nat}, (h : j < ks.length) → isKeyB (rdOf ByteArray.empty ks (j : Int)) = true := fun h => by rw [rdOf_get h]; exact areKeysB_all hk _ (List.getElem_mem h)
      have pr : ∀ {j : Nat}, (h : j < ks.length) → placeV a 0 (rdOf ByteArray.empty ks (j : Int)) n = rd (plcs a n ks) (j : Int) := fun h => by
        rw [rdOf_get h, rd_get (by rw [plcs_len]; exact h)]
        simp [plcs]
      refine ev_pos (by omega) (ev_bind _ hc (ev_pos rfl (ev_neg (by simp only []; omega) ?_)))
      simp only []
      rw [decide_eq_false (by omega)]
      refine ev_succ ?_
      simp only [laws_FnPlainSeedsAreFirst.j2]
      refine ev_neg (by simp) (ev_pos (by omega) (ev_pos (by omega) (ev_bind _ (impl_PlaceOf_f h0 (by omega) hn hn' (pi (by omega))) (ev_pos (by omega) (ev_pos (by omega) (ev_bind _ (impl_PlaceOf_f h0 (by omega) hn hn' (pi c2)) (ev_pos rfl (ev_pos rfl (ev_pos ?_ ?_)))))))))
      · simp only []
        rw [pr (by omega), pr c2]; exact c3
      · rw [w64 (by omega) (by omega)]
        exact ih (a + 1) (by omega) (by omega) (fun y h2 h3 => hb y (by omega) h3)
theorem loads_l1 {ks : List ByteArray} (L : List Int) (hL : L.length ≤ 100) (hc : ∀ x ∈ L, 0 ≤ x ∧ x ≤ 1) : ∀ (t pre : List Int) (a : Int), L = pre ++ t → 0 ≤ a → a ≤ (pre.length : Int) →
    Ev (fun k => laws_FnPlainSeedsAreFirst.l1 k ks true a L (L.length : Int) (pre.length : Int)) (a + t.sum == (ks.length : Int)) := by
  intro t
  induction t with
  | nil =>
    intro pre a h h0 h1
    have hp : L = pre := by rw [h, List.append_nil]
    subst hp
    refine ev_succ ?_
    simp only [laws_FnPlainSeedsAreFirst.l1]
    exact ev_neg (by omega) (ev_pos trivial (ev_some (by simp)))
  | cons x t ih =>
    intro pre a h h0 h1
    have hm : ((pre.length : Nat) : Int) < (L.length : Int) := by rw [h]; exact lt_mid
    have hg : rd L (pre.length : Int) = x := by rw [h]; exact rd_mid
    have hx := hc x (by rw [h]; simp)
    refine ev_succ ?_
    simp only [laws_FnPlainSeedsAreFirst.l1, hg]
    refine ev_pos hm (ev_pos (by omega) (ev_pos hm (ev_neg (by omega) ?_)))
    rw [winc (by omega), w64 (by omega) (by omega)]
    have := ih (pre ++ [x]) (a + x) (by rw [h]; simp) (by omega) (by rw [List.length_append, List.length_singleton]; omega)
    rw [len_one] at this
    rw [List.sum_cons, show a + (x + t.sum) = a + x + t.sum from by omega]
    exact this
theorem FnPlainSeedsAreFirst : laws_FnPlainSeedsAreFirst.Pure := by
  intro l0 l1 h0 _ hw0 h1 _ _
  refine Ev.rounds (r := true) ?_
  unfold laws_FnPlainSeedsAreFirst.f
  obtain ⟨b, eb, hb⟩ := big_f h0 h1
  rw [eb]
  refine ev_bind _ (Ev.now _) ?_
  by_cases c : b = true
  · exact ev_pos c (Ev.now _)
  obtain ⟨g0, _⟩ := hb (by simpa using c)
  obtain ⟨ks, n, a, b', ed, hk, ha, hb'⟩ := draw_PlainSeed (bys g0 hw0)
  have hkl := hk.1
  have hks : ∀ s ∈ ks, s.size ≤ 1000 := fun s hs => by have := hk.2 s hs; omega
  refine ev_neg c (ev_bind _ ed (ev_bind _ (impl_PlainSeed_f (by omega) hks n (by simp only []; omega) (by simp only []; omega)) (ev_bind _ (spec_PlainSeed_f (by omega) hks n (by simp only []; omega) (by simp only []; omega)) (ev_neg (by simp) (ev_succ ?_)))))
  simp only [laws_FnPlainSeedsAreFirst.j0]
  refine ev_neg (by simp) ?_
  by_cases ok : (plainV ks n a b').2 = true
  · refine ev_pos ok ?_
    have hV : plainV ks n a b' = ((plainV ks n a b').1, true) := by rw [← ok]
    generalize (plainV ks n a b').1 = r at hV
    unfold plainV at hV
    split at hV
    case isFalse => cases hV
    case isTrue hh =>
    obtain ⟨hk2, hn, hn'⟩ := hh
    obtain ⟨f1, f2, f3, f4, f5, f6⟩ := firstV_yes hV
    refine before_l0 hk2 hn hn' (by omega) ?_ (r - a).toNat a f1 (by omega) f6
    have nd : (plcs r n ks).Nodup := nodB_iff.1 f5
    have hc := impl_CollisionOf_f (a0 := r) (by omega) (by omega) hn hn' hk2
    rw [(collL_none _ 0).2 nd] at hc
    change Ev _ ((0 : Int), (0 : Int), false) at hc
    refine ev_succ ?_
    simp only [laws_FnPlainSeedsAreFirst.l0]
    refine ev_neg (by omega) (ev_bind _ hc (ev_neg (by simp) (ev_succ ?_)))
    simp only [laws_FnPlainSeedsAreFirst.j3]
    by_cases big : n > 64
    · rw [decide_eq_true big]
      exact ev_pos rfl (ev_some (by simp))
    · rw [decide_eq_false big]
      refine ev_neg (by simp) (ev_bind _ (impl_LoadsOf_f (by omega) (by omega) hn (by omega) hk2) ?_)
      have hs := cntL_sum n.toNat (plcs r n ks) [] (fun p hp => by
        simp only [plcs, List.mem_map] at hp
        obtain ⟨s, _, rfl⟩ := hp
        have := placeV_range r 0 s hn (by omega)
        omega)
      rw [cntL_nil, sum_zero, List.nil_append, plcs_len] at hs
      have := loads_l1 (ks := ks) (cntL (plcs r n ks) n.toNat) (by rw [cntL_len]; omega) (fun x hx => by
        simp only [cntL, List.mem_map, List.mem_range] at hx
        obtain ⟨i, _, rfl⟩ := hx
        have := List.nodup_iff_count.1 nd (Int.ofNat i)
        omega) (cntL (plcs r n ks) n.toNat) [] 0 rfl (by omega) (by simp)
      rw [hs] at this
      simpa using this
  · exact ev_neg ok (Ev.now _)
end Go.Proofs.Ythkcgimnagpmaaa.Pure
