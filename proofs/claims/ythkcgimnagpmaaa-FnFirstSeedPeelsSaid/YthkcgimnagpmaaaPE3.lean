/- Peeling: what both sides hold for a hypergraph, the hypergraph of keys, and whether it peels. -/
import Derived.Test.YthkcgimnagpmaaaPAx3
import Derived.Test.YthkcgimnagpmaaaPAx9
import Derived.Test.YthkcgimnagpmaaaPAx10
import Derived.Test.YthkcgimnagpmaaaPAx12
import Derived.Test.YthkcgimnagpmaaaPE2
import Derived.Test.YthkcgimnagpmaaaQT0
import Derived.Test.YthkcgimnagpmaaaQ2
import Derived.Test.YthkcgimnagpmaaaDR2
namespace Go.Proofs.YthkcgimnagpmaaaQ
open Go Go.RowKit Go.Proofs.YthkcgimnagpmaaaW.PrintWords Go.Proofs.YthkcgimnagpmaaaGp Go.Proofs.Ythkcgimnagpmaaa.PA

/-! ### right hypergraphs -/
def isEdgeB (P : Int) (e : List Int) : Bool := decide (e.length = 3) && decide (0 ≤ rd e 0) && decide (rd e 0 < rd e 1) && decide (rd e 1 < rd e 2) && decide (rd e 2 < P)
def goodB (P : Int) (E : Edges) : Bool := decide (1 ≤ P ∧ P ≤ 72) && decide (E.length ≤ 40) && E.all (isEdgeB P)
theorem impl_isEdge_f (e : List Int) (P : Int) : impl_isEdge.f e P = some (isEdgeB P e) := by
  unfold impl_isEdge.f isEdgeB
  by_cases c : e.length = 3
  · rw [if_pos (by omega), if_pos (by omega), decide_eq_true c]
    by_cases c0 : rd e 0 ≥ 0
    · rw [if_pos c0, if_pos (by omega), decide_eq_true c0]
      by_cases c1 : rd e 0 < rd e 1
      · rw [if_pos c1, if_pos (by omega), decide_eq_true c1]
        by_cases c2 : rd e 1 < rd e 2
        · rw [if_pos c2, decide_eq_true c2]; simp
        · rw [if_neg c2, decide_eq_false c2]; simp
      · rw [if_neg c1, decide_eq_false c1]; simp
    · rw [if_neg c0, decide_eq_false c0]; simp
  · rw [if_neg (by omega), decide_eq_false c]; simp
theorem isEdgeB_ok {P : Int} {e : List Int} (h : isEdgeB P e = true) : e.length ≤ 3 ∧ ∀ p ∈ e, 0 ≤ p ∧ p < P := by
  unfold isEdgeB at h
  simp only [Bool.and_eq_true, decide_eq_true_eq] at h
  obtain ⟨⟨⟨⟨h1, h2⟩, h3⟩, h4⟩, h5⟩ := h
  match e, h1 with
  | [a, b, c], _ =>
    simp only [rd] at h2 h3 h4 h5
    change 0 ≤ a at h2
    change a < b at h3
    change b < c at h4
    change c < P at h5
    refine ⟨by simp, fun p hp => ?_⟩
    simp only [List.mem_cons, List.not_mem_nil, or_false] at hp
    omega
theorem goodB_ok {P : Int} {E : Edges} (h : goodB P E = true) : GoodH P.toNat E ∧ (P.toNat : Int) = P ∧ E.length ≤ 40 ∧ P ≤ 72 := by
  unfold goodB at h
  simp only [Bool.and_eq_true, decide_eq_true_eq, List.all_eq_true] at h
  obtain ⟨⟨h1, h2⟩, h3⟩ := h
  refine ⟨⟨fun e he p hp => ?_, by omega, fun e he => (isEdgeB_ok (h3 e he)).1, by omega⟩, by omega, h2, h1.2⟩
  have := (isEdgeB_ok (h3 e he)).2 p hp
  omega
theorem impl_IsHyper_l0 (P : Int) (E : Edges) (x0 : List (List Int)) (hl : (x0.length : Int) ≤ 9223372036854775806) : ∀ (t pre : List (List Int)), x0 = pre ++ t →
    ∃ r, Ev (fun k => slices_IndexFunc_int_int_at_impl_IsHyper_1.l0 k x0 (x0.length : Int) (pre.length : Int) P E) r ∧ decide (r ≥ 0) = !(t.all (isEdgeB P)) := by
  intro t
  induction t with
  | nil =>
    intro pre h
    refine ⟨-1, ev_succ ?_, by simp⟩
    simp only [slices_IndexFunc_int_int_at_impl_IsHyper_1.l0]
    exact ev_neg (by rw [h]; exact not_lt_end) (Ev.now _)
  | cons x t ih =>
    intro pre h
    have hm : ((pre.length : Nat) : Int) < (x0.length : Int) := by rw [h]; exact lt_mid
    have hg : rd_L2 x0 (pre.length : Int) = x := by simp [rd_L2, h]
    have e1 : impl_IsHyper_1.f x P E = some (!(isEdgeB P x)) := by unfold impl_IsHyper_1.f; rw [impl_isEdge_f]; rfl
    by_cases c : isEdgeB P x = true
    · obtain ⟨r, h1, h2⟩ := ih (pre ++ [x]) (by rw [h]; simp)
      rw [len_one] at h1
      refine ⟨r, ev_succ ?_, by rw [h2]; simp [c]⟩
      simp only [slices_IndexFunc_int_int_at_impl_IsHyper_1.l0, hg, e1]
      rw [c, winc (by omega)]
      exact ev_pos hm (ev_pos (by omega) (ev_pos hm (ev_bind _ (Ev.now _) (ev_neg (by simp) h1))))
    · refine ⟨(pre.length : Int), ev_succ ?_, by simp [c]⟩
      simp only [slices_IndexFunc_int_int_at_impl_IsHyper_1.l0, hg, e1]
      rw [Bool.eq_false_iff.2 c]
      exact ev_pos hm (ev_pos (by omega) (ev_pos hm (ev_bind _ (Ev.now _) (ev_pos (by simp) (Ev.now _)))))
theorem impl_IsHyper_f (P : Int) (E : Edges) (hl : (E.length : Int) ≤ 9223372036854775806) : Ev (fun k => impl_IsHyper.f k P E) (goodB P E) := by
  obtain ⟨r, h1, h2⟩ := impl_IsHyper_l0 P E E hl E [] rfl
  unfold impl_IsHyper.f slices_ContainsFunc_int_int_at_impl_IsHyper_1.f slices_IndexFunc_int_int_at_impl_IsHyper_1.f goodB
  rw [impl_in]
  refine ev_bind _ (ev_bind _ h1 (ev_some h2)) ?_
  by_cases c : E.all (isEdgeB P) = true
  · rw [c]
    refine ev_neg (by simp) (ev_bind _ (Ev.now _) ?_)
    by_cases d : 1 ≤ P ∧ P ≤ 72
    · rw [decide_eq_true d]
      refine ev_pos rfl (ev_some ?_)
      rw [Bool.true_and, Bool.and_true, decide_eq_decide]
      omega
    · rw [decide_eq_false d]
      exact ev_neg (by simp) (Ev.now _)
  · rw [Bool.eq_false_iff.2 c]
    exact ev_pos (by simp) (ev_some (by simp))

/-! ### the hypergraph of keys -/
def hypE (a0 n : Int) (l : List ByteArray) : Edges := l.map fun s => tripL a0 s n 3 0
theorem hypE_len (a0 n : Int) (l : List ByteArray) : (hypE a0 n l).length = l.length := by simp [hypE]
theorem hypE_app (a0 n : Int) (l : List ByteArray) (s : ByteArray) : hypE a0 n (l ++ [s]) = hypE a0 n l ++ [tripL a0 s n 3 0] := by simp [hypE]
theorem impl_hyper_l0 {a0 n : Int} (h0 : 0 ≤ a0) (h0' : a0 ≤ 1000000) (q : Int) {x0 : List ByteArray} (hx : x0.length ≤ 1000) (hz : ∀ s ∈ x0, s.size ≤ 1000) : ∀ (t pre : List ByteArray), x0 = pre ++ t →
    Ev (fun k => impl_hyper.l0 k a0 n x0 (x0.length : Int) (pre.length : Int) q (hypE a0 n pre)) (q, hypE a0 n x0) := by
  intro t
  induction t with
  | nil =>
    intro pre h
    have hp : x0 = pre := by rw [h, List.append_nil]
    subst hp
    refine ev_succ ?_
    simp only [impl_hyper.l0]
    exact ev_neg (by omega) (Ev.now _)
  | cons x t ih =>
    intro pre h
    have hm : ((pre.length : Nat) : Int) < (x0.length : Int) := by rw [h]; exact lt_mid
    have hg : rdOf ByteArray.empty x0 (pre.length : Int) = x := by rw [h]; exact rdOf_mid
    have hxs := hz x (by rw [h]; simp)
    refine ev_succ ?_
    simp only [impl_hyper.l0, hg]
    refine ev_pos hm (ev_pos (by omega) (ev_pos hm (ev_bind _ (impl_threePlaces_f a0 n x (by omega) h0 h0') (ev_pos (by rw [hypE_len]; omega) ?_))))
    rw [winc (by omega), ← hypE_app]
    have := ih (pre ++ [x]) (by rw [h]; simp)
    rw [len_one] at this
    exact this
theorem impl_hyper_f {a0 n : Int} (h0 : 0 ≤ a0) (h0' : a0 ≤ 1000000) (hn : 0 ≤ n) (hn' : n ≤ 1000) {x0 : List ByteArray} (hx : x0.length ≤ 1000) (hz : ∀ s ∈ x0, s.size ≤ 1000) : Ev (fun k => impl_hyper.f k a0 x0 n) (3 * n, hypE a0 n x0) := by
  unfold impl_hyper.f
  rw [w64 (by omega) (by omega)]
  exact impl_hyper_l0 h0 h0' (3 * n) hx hz x0 [] rfl
theorem spec_peHyper_l0 {a0 n : Int} (h0 : 0 ≤ a0) (h0' : a0 ≤ 1000000) (q : Int) {x0 : List ByteArray} (hx : x0.length ≤ 1000) (hz : ∀ s ∈ x0, s.size ≤ 1000) : ∀ (t pre : List ByteArray), x0 = pre ++ t →
    Ev (fun k => spec_peHyper.l0 k a0 n x0 (x0.length : Int) (pre.length : Int) q (hypE a0 n pre)) (q, hypE a0 n x0) := by
  intro t
  induction t with
  | nil =>
    intro pre h
    have hp : x0 = pre := by rw [h, List.append_nil]
    subst hp
    refine ev_succ ?_
    simp only [spec_peHyper.l0]
    exact ev_neg (by omega) (Ev.now _)
  | cons x t ih =>
    intro pre h
    have hm : ((pre.length : Nat) : Int) < (x0.length : Int) := by rw [h]; exact lt_mid
    have hg : rdOf ByteArray.empty x0 (pre.length : Int) = x := by rw [h]; exact rdOf_mid
    have hxs := hz x (by rw [h]; simp)
    refine ev_succ ?_
    simp only [spec_peHyper.l0, hg]
    refine ev_pos hm (ev_pos (by omega) (ev_pos hm (ev_bind _ (spec_peTriple_f a0 n x (by omega) h0 h0') (ev_pos (by rw [hypE_len]; omega) ?_))))
    rw [winc (by omega), ← hypE_app]
    have := ih (pre ++ [x]) (by rw [h]; simp)
    rw [len_one] at this
    exact this
theorem spec_peHyper_f {a0 n : Int} (h0 : 0 ≤ a0) (h0' : a0 ≤ 1000000) (hn : 0 ≤ n) (hn' : n ≤ 1000) {x0 : List ByteArray} (hx : x0.length ≤ 1000) (hz : ∀ s ∈ x0, s.size ≤ 1000) : Ev (fun k => spec_peHyper.f k a0 x0 n) (3 * n, hypE a0 n x0) := by
  unfold spec_peHyper.f
  rw [w64 (by omega) (by omega)]
  exact spec_peHyper_l0 h0 h0' (3 * n) hx hz x0 [] rfl
theorem trip_edge (a0 : Int) (s : ByteArray) {n : Int} (h0 : 1 ≤ n) (h1 : n ≤ 24) : isEdgeB (3 * n) (tripL a0 s n 3 0) = true := by
  have r0 := placeV_range a0 ((0 : Nat) : Int) s h0 (by omega)
  have r1 := placeV_range a0 ((0 + 1 : Nat) : Int) s h0 (by omega)
  have r2 := placeV_range a0 ((0 + 1 + 1 : Nat) : Int) s h0 (by omega)
  have e0 : wrap64 (placeV a0 ((0 : Nat) : Int) s n + wrap64 (((0 : Nat) : Int) * n)) = placeV a0 ((0 : Nat) : Int) s n := by
    rw [w64 (x := ((0 : Nat) : Int) * n) (by omega) (by omega), w64 (by omega) (by omega)]; omega
  have e1 : wrap64 (placeV a0 ((0 + 1 : Nat) : Int) s n + wrap64 (((0 + 1 : Nat) : Int) * n)) = placeV a0 ((0 + 1 : Nat) : Int) s n + n := by
    rw [w64 (x := ((0 + 1 : Nat) : Int) * n) (by omega) (by omega), w64 (by omega) (by omega)]; omega
  have e2 : wrap64 (placeV a0 ((0 + 1 + 1 : Nat) : Int) s n + wrap64 (((0 + 1 + 1 : Nat) : Int) * n)) = placeV a0 ((0 + 1 + 1 : Nat) : Int) s n + 2 * n := by
    rw [w64 (x := ((0 + 1 + 1 : Nat) : Int) * n) (by omega) (by omega), w64 (by omega) (by omega)]; omega
  have et : tripL a0 s n 3 0 = [placeV a0 ((0 : Nat) : Int) s n, placeV a0 ((0 + 1 : Nat) : Int) s n + n, placeV a0 ((0 + 1 + 1 : Nat) : Int) s n + 2 * n] := by
    simp only [tripL]
    rw [e0, e1, e2]
  rw [et]
  generalize placeV a0 ((0 : Nat) : Int) s n = x0 at r0
  generalize placeV a0 ((0 + 1 : Nat) : Int) s n = x1 at r1
  generalize placeV a0 ((0 + 1 + 1 : Nat) : Int) s n = x2 at r2
  unfold isEdgeB
  simp only [Bool.and_eq_true, decide_eq_true_eq]
  refine ⟨⟨⟨⟨rfl, ?_⟩, ?_⟩, ?_⟩, ?_⟩
  · exact r0.1
  · show x0 < x1 + n; omega
  · show x1 + n < x2 + 2 * n; omega
  · show x2 + 2 * n < 3 * n; omega
theorem hyp_good (a0 : Int) {n : Int} (h0 : 1 ≤ n) (h1 : n ≤ 24) {l : List ByteArray} (hl : l.length ≤ 40) : goodB (3 * n) (hypE a0 n l) = true := by
  unfold goodB
  simp only [Bool.and_eq_true, decide_eq_true_eq, List.all_eq_true]
  refine ⟨⟨by omega, by rw [hypE_len]; exact hl⟩, fun e he => ?_⟩
  simp only [hypE, List.mem_map] at he
  obtain ⟨s, _, rfl⟩ := he
  exact trip_edge a0 s h0 h1
/-- Whether keys peel. -/
def peelsB (a0 : Int) (l : List ByteArray) (n : Int) : Bool := (coreE (3 * n).toNat (hypE a0 n l)).length == 0
theorem impl_order_f {P : Int} {E : Edges} (h : goodB P E = true) : Ev (fun k => impl_Hyper_order.f k P E) (stepsL (peelAll P.toNat E).1, (coreE P.toNat E).length == 0) := by
  obtain ⟨hG, hP, _, _⟩ := goodB_ok h
  have := impl_peel_f hG
  rw [hP] at this
  unfold impl_Hyper_order.f
  refine ev_bind _ this (ev_some ?_)
  rw [castL_len]
  congr 1
  rw [Bool.eq_iff_iff, beq_iff_eq, beq_iff_eq]
  omega
theorem impl_peels_f {a0 n : Int} (h0 : 0 ≤ a0) (h0' : a0 ≤ 1000000) (hn : 1 ≤ n) (hn' : n ≤ 24) {x0 : List ByteArray} (hx : x0.length ≤ 40) (hz : ∀ s ∈ x0, s.size ≤ 1000) : Ev (fun k => impl_peels.f k a0 x0 n) (peelsB a0 x0 n) := by
  unfold impl_peels.f
  exact ev_bind _ (impl_hyper_f h0 h0' (by omega) (by omega) (by omega) hz) (ev_bind _ (impl_order_f (hyp_good a0 hn hn' hx)) (Ev.now _))
theorem spec_pePeels_f {a0 n : Int} (h0 : 0 ≤ a0) (h0' : a0 ≤ 1000000) (hn : 1 ≤ n) (hn' : n ≤ 24) {x0 : List ByteArray} (hx : x0.length ≤ 40) (hz : ∀ s ∈ x0, s.size ≤ 1000) : Ev (fun k => spec_pePeels.f k a0 x0 n) (peelsB a0 x0 n) := by
  obtain ⟨hG, hP, _, _⟩ := goodB_ok (hyp_good a0 hn hn' hx)
  have := spec_peCore_f hG
  rw [hP] at this
  unfold spec_pePeels.f
  refine ev_bind _ (spec_peHyper_f h0 h0' (by omega) (by omega) (by omega) hz) (ev_bind _ this (ev_some ?_))
  rw [castL_len, peelsB, Bool.eq_iff_iff, beq_iff_eq, beq_iff_eq]
  omega
theorem impl_PeelOrder_f {P : Int} {E : Edges} (h : goodB P E = true) : ∃ st, Ev (fun k => impl_PeelOrder.f k P E) (st, (coreE P.toNat E).length == 0) := by
  have hg := impl_IsHyper_f P E (by have := (goodB_ok h).2.2.1; omega)
  rw [h] at hg
  unfold impl_PeelOrder.f
  by_cases c : ((coreE P.toNat E).length == 0) = true
  · exact ⟨_, ev_bind _ hg (ev_pos rfl (ev_bind _ (impl_order_f h) (ev_pos c (by rw [c]; exact Ev.now _))))⟩
  · exact ⟨_, ev_bind _ hg (ev_pos rfl (ev_bind _ (impl_order_f h) (ev_neg c (by rw [Bool.eq_false_iff.2 c]; exact Ev.now _))))⟩
theorem impl_segmentOk_f (n : Int) : impl_segmentOk.f n = some (decide (1 ≤ n ∧ n ≤ 24)) := by
  unfold impl_segmentOk.f
  rw [impl_in]; rfl
theorem impl_isSeed_f (n : Int) : impl_isSeed.f n = some (decide (0 ≤ n ∧ n ≤ 9999)) := by
  unfold impl_isSeed.f
  rw [impl_in]; rfl
theorem keys_small {l : List ByteArray} (h : areKeysB l = true) : l.length ≤ 40 ∧ ∀ s ∈ l, s.size ≤ 1000 :=
  ⟨areKeysB_len h, fun s hs => by have := isKeyB_size (areKeysB_all h s hs); omega⟩
theorem impl_HyperOf_f {a0 n : Int} (h0 : 0 ≤ a0) (h0' : a0 ≤ 9999) (hn : 1 ≤ n) (hn' : n ≤ 24) {l : List ByteArray} (hk : areKeysB l = true) : Ev (fun k => impl_HyperOf.f k a0 l n) (3 * n, hypE a0 n l, true) := by
  obtain ⟨hl, hz⟩ := keys_small hk
  have e := impl_AreKeys_f l (by omega) (fun s hs => by have := hz s hs; omega)
  rw [hk] at e
  unfold impl_HyperOf.f
  rw [impl_isSeed_f, impl_segmentOk_f, decide_eq_true ⟨h0, h0'⟩, decide_eq_true ⟨hn, hn'⟩]
  exact ev_bind _ (Ev.now _) (ev_pos rfl (ev_bind _ e (ev_pos rfl (ev_bind _ (Ev.now _) (ev_pos rfl (ev_bind _ (impl_hyper_f h0 (by omega) (by omega) (by omega) (by omega) hz) (Ev.now _)))))))
def keyedB (a0 : Int) (l : List ByteArray) (n : Int) : Bool := decide (0 ≤ a0 ∧ a0 ≤ 9999) && areKeysB l && decide (1 ≤ n ∧ n ≤ 24)
theorem spec_peKeyed_f (a0 n : Int) {l : List ByteArray} (hl : l.length ≤ 1000) (hz : ∀ s ∈ l, s.size ≤ 1000) : Ev (fun k => spec_peKeyed.f k a0 l n) (keyedB a0 l n) := by
  unfold spec_peKeyed.f keyedB
  rw [spec_in, spec_in]
  refine ev_bind _ (Ev.now _) ?_
  by_cases c : 0 ≤ a0 ∧ a0 ≤ 9999
  · rw [decide_eq_true c]
    refine ev_pos rfl (ev_bind _ (spec_biKeys_f l (by omega) (fun s hs => by have := hz s hs; omega)) ?_)
    by_cases d : areKeysB l = true
    · rw [d]; exact ev_pos rfl (ev_bind _ (Ev.now _) (ev_some (by simp)))
    · rw [Bool.eq_false_iff.2 d]; exact ev_neg (by simp) (ev_some (by simp))
  · rw [decide_eq_false c]
    exact ev_neg (by simp) (ev_some (by simp))
theorem segment_ok {s : List Int} (hs : Bys s) {p : Int} (sd : Int) (h0 : 0 ≤ p) (h1 : p ≤ 1000000000000000000) : ∃ v p' sd', spec_l1Cur_segment.f s p sd = some (v, p', sd') ∧ (-1 ≤ v ∧ v ≤ 25) ∧ 0 ≤ p' ∧ p' ≤ p + 4 := by
  obtain ⟨v, p', sd', e, q0, q1⟩ := one_ok hs sd 8 h0 (by omega)
  unfold spec_l1Cur_segment.f
  rw [e]
  simp only [Option.bind_some]
  by_cases c : v = true
  · obtain ⟨u, p2, sd2, eu, hu, r0, r1⟩ := among_ok hs sd' (l := [(-1), 0, 1, 24, 25]) (by simp) q0 (by omega)
    rw [if_pos c, eu]
    simp only [List.mem_cons, List.not_mem_nil, or_false] at hu
    exact ⟨u, p2, sd2, rfl, by omega, r0, by omega⟩
  · obtain ⟨u, p2, sd2, eu, hu, r0, r1⟩ := pick_ok hs sd' (n := 10) q0 (by omega)
    rw [if_neg c, eu]
    refine ⟨wrap64 (1 + u), p2, sd2, rfl, ?_, r0, by omega⟩
    rw [w64 (by omega) (by omega)]
    omega
end Go.Proofs.YthkcgimnagpmaaaQ
