import Derived.Test.YthkcgimnagpmaaaCB2
import Derived.Test.YthkcgimnagpmaaaCB4
namespace Go.Proofs.Ythkcgimnagpmaaa.Pure
open Go Go.RowKit Go.Proofs.YthkcgimnagpmaaaW.PrintWords Go.Proofs.YthkcgimnagpmaaaW.PrintMore Go.Proofs.YthkcgimnagpmaaaGp Go.Proofs.Ythkcgimnagpmaaa.PA Go.Proofs.YthkcgimnagpmaaaQ

theorem choices_l1 {s : List Int} (hs : Bys s) : ∀ (d : Nat) (x : List Int) (p sd : Int), 50 - x.length ≤ d → x.length ≤ 50 → 0 ≤ p → p + 2 * (d : Int) ≤ 900000000000000000 →
    Dr (fun k => spec_l1Cur_choices.l1 k x s p sd) p (2 * (d : Int) + 2) (fun v => v.length ≤ 51) := by
  intro d
  induction d with
  | zero =>
    intro x p sd h1 h2 h3 h4
    obtain ⟨v, p', sd', e, hv, q0, q1⟩ := pick_ok hs sd (n := 2) h3 (by omega)
    refine ⟨x, p', sd', ev_succ ?_, by omega, q0, by omega⟩
    simp only [spec_l1Cur_choices.l1, e]
    refine ev_bind _ (Ev.now _) (ev_neg ?_ (Ev.now _))
    simp only []
    rw [w64 (by omega) (by omega)]
    omega
  | succ d ih =>
    intro x p sd h1 h2 h3 h4
    obtain ⟨v, p', sd', e, hv, q0, q1⟩ := pick_ok hs sd (n := 2) h3 (by omega)
    by_cases c : (x.length : Int) < 40 + v
    · obtain ⟨u, p2, sd2, eu, hu, r0, r1⟩ := ih (x ++ [0]) p' sd' (by simp; omega) (by simp; omega) q0 (by omega)
      refine ⟨u, p2, sd2, ev_succ ?_, hu, r0, by omega⟩
      simp only [spec_l1Cur_choices.l1, e]
      refine ev_bind _ (Ev.now _) (ev_pos ?_ (ev_pos (by omega) eu))
      simp only []
      rw [w64 (by omega) (by omega)]
      exact c
    · refine ⟨x, p', sd', ev_succ ?_, by omega, q0, by omega⟩
      simp only [spec_l1Cur_choices.l1, e]
      refine ev_bind _ (Ev.now _) (ev_neg ?_ (Ev.now _))
      simp only []
      rw [w64 (by omega) (by omega)]
      exact c
theorem choices_l0 {s : List Int} (hs : Bys s) : ∀ (n : Nat) (x : List Int) (p sd : Int), x.length + n ≤ 10 → 0 ≤ p → p + 2 * (n : Int) ≤ 800000000000000000 →
    Dr (fun k => spec_l1Cur_choices.l0 k x (n : Int) s p sd) p (2 * (n : Int) + 200) (fun v => v.length ≤ 51) := by
  intro n
  induction n with
  | zero =>
    intro x p sd hx h0 h1
    obtain ⟨v, p', sd', e, hv, q0, q1⟩ := pick_ok hs sd (n := 14) h0 (by omega)
    by_cases c0 : v = 0
    · obtain ⟨u, p2, sd2, eu, hu, r0, r1⟩ := among_ok hs sd' (l := [(-1), 99, 100]) (by simp) q0 (by omega)
      refine ⟨x ++ [u], p2, sd2, ev_succ ?_, by simp; omega, r0, by omega⟩
      simp only [spec_l1Cur_choices.l0, e]
      refine ev_neg (by omega) (ev_bind _ (Ev.now _) (ev_pos c0 ?_))
      simp only [eu]
      exact ev_bind _ (Ev.now _) (ev_pos (by omega) (Ev.now _))
    · by_cases c1 : v = 1
      · obtain ⟨u, p2, sd2, eu, hu, r0, r1⟩ := choices_l1 hs 50 x p' sd' (by omega) (by omega) q0 (by omega)
        refine ⟨u, p2, sd2, ev_succ ?_, hu, r0, by omega⟩
        simp only [spec_l1Cur_choices.l0, e]
        exact ev_neg (by omega) (ev_bind _ (Ev.now _) (ev_neg c0 (ev_pos c1 eu)))
      · refine ⟨x, p', sd', ev_succ ?_, by omega, q0, by omega⟩
        simp only [spec_l1Cur_choices.l0, e]
        exact ev_neg (by omega) (ev_bind _ (Ev.now _) (ev_neg c0 (ev_neg c1 (Ev.now _))))
  | succ n ih =>
    intro x p sd hx h0 h1
    obtain ⟨v, p', sd', e, hv, q0, q1⟩ := pick_ok hs sd (n := 100) h0 (by omega)
    obtain ⟨u, p2, sd2, eu, hu, r0, r1⟩ := ih (x ++ [v]) p' sd' (by simp; omega) q0 (by omega)
    refine ⟨u, p2, sd2, ev_succ ?_, hu, r0, by omega⟩
    simp only [spec_l1Cur_choices.l0, e]
    refine ev_pos (by omega) (ev_bind _ (Ev.now _) (ev_pos (by omega) ?_))
    rw [wdec (by omega)]
    exact eu
theorem draw_f {s : List Int} (hs : Bys s) : ∃ P E cs, Ev (fun k => spec_DrawPeelBy.f k s) (P, E, cs) ∧ ((E : Edges).length ≤ 100 ∧ ∀ e ∈ E, e.length ≤ 5) ∧ cs.length ≤ 51 := by
  obtain ⟨P, E, p1, sd1, e1, hE, q0, q1⟩ := hyper_ok hs 0 (p := 0) (by omega) (by omega)
  obtain ⟨v, p2, sd2, e2, hv, r0, r1⟩ := pick_ok hs sd1 (n := 10) q0 (by omega)
  obtain ⟨cs, p3, sd3, e3, hc, t0, t1⟩ := choices_l0 hs v.toNat [] p2 sd2 (by simp; omega) r0 (by omega)
  refine ⟨P, E, cs, ?_, hE, hc⟩
  unfold spec_DrawPeelBy.f
  refine ev_bind _ e1 (ev_bind (cs, p3, sd3) ?_ (Ev.now _))
  unfold spec_l1Cur_choices.f
  simp only [e2]
  refine ev_bind _ (Ev.now _) ?_
  rw [show ((v.toNat : Nat) : Int) = v from by omega] at e3
  exact e3

def chOk (cs : List Int) : Bool := cs.all fun c => decide (0 ≤ c ∧ c ≤ 99)
theorem impl_choices_l0 (x0 : List Int) (hl : (x0.length : Int) ≤ 9223372036854775806) : ∀ (t pre : List Int), x0 = pre ++ t →
    ∃ r, Ev (fun k => slices_IndexFunc_int_int_at_impl_PeelBy_1.l0 k x0 (x0.length : Int) (pre.length : Int)) r ∧ decide (r ≥ 0) = !(chOk t) := by
  intro t
  induction t with
  | nil =>
    intro pre h
    refine ⟨-1, ev_succ ?_, by simp [chOk]⟩
    simp only [slices_IndexFunc_int_int_at_impl_PeelBy_1.l0]
    exact ev_neg (by rw [h]; exact not_lt_end) (Ev.now _)
  | cons x t ih =>
    intro pre h
    have hm : ((pre.length : Nat) : Int) < (x0.length : Int) := by rw [h]; exact lt_mid
    have hg : rd x0 (pre.length : Int) = x := by rw [h]; exact rd_mid
    have e1 : impl_PeelBy_1.f x = some (!(decide (0 ≤ x ∧ x ≤ 99))) := by unfold impl_PeelBy_1.f; rw [impl_in]; rfl
    by_cases c : 0 ≤ x ∧ x ≤ 99
    · obtain ⟨r, h1, h2⟩ := ih (pre ++ [x]) (by rw [h]; simp)
      rw [len_one] at h1
      refine ⟨r, ev_succ ?_, by rw [h2]; simp [chOk, c]⟩
      simp only [slices_IndexFunc_int_int_at_impl_PeelBy_1.l0, hg, e1]
      rw [decide_eq_true c, winc (by omega)]
      exact ev_pos hm (ev_pos (by omega) (ev_pos hm (ev_bind _ (Ev.now _) (ev_neg (by simp) h1))))
    · refine ⟨(pre.length : Int), ev_succ ?_, ?_⟩
      · simp only [slices_IndexFunc_int_int_at_impl_PeelBy_1.l0, hg, e1]
        rw [decide_eq_false c]
        exact ev_pos hm (ev_pos (by omega) (ev_pos hm (ev_bind _ (Ev.now _) (ev_pos (by simp) (Ev.now _)))))
      · unfold chOk
        rw [List.all_cons, decide_eq_false c]
        simp
theorem impl_by_l0 {P : Nat} {E : Edges} (hG : GoodH P E) {cs : List Int} (hcs : ∀ c ∈ cs, 0 ≤ c) (hcl : cs.length ≤ 1000) : ∀ (t pre : List Int) (L : List Nat) (acc : List S51), cs = pre ++ t → Rg E.length L → acc.length + t.length ≤ 900000 →
    Ev (fun k => impl_PeelBy.l0 k acc (goneOf E.length L) cs (cs.length : Int) (pre.length : Int) (P : Int) E) (acc ++ stepsL (peelC P E (chc t) L).1, castL (peelC P E (chc t) L).2, true) := by
  have hn := hG.len
  intro t
  induction t with
  | nil =>
    intro pre L acc h hL ha
    have hp : cs = pre := by rw [h, List.append_nil]
    subst hp
    refine ev_succ ?_
    simp only [impl_PeelBy.l0]
    exact ev_neg (by omega) (ev_bind _ (impl_left_f hn hL) (ev_some (by simp [chc, peelC, stepsL])))
  | cons c t ih =>
    intro pre L acc h hL ha
    have hm : ((pre.length : Nat) : Int) < (cs.length : Int) := by rw [h]; exact lt_mid
    have hg : rd cs (pre.length : Int) = c := by rw [h]; exact rd_mid
    have hc : 0 ≤ c := hcs c (by rw [h]; simp)
    simp only [chc, List.map_cons]
    refine ev_succ ?_
    simp only [impl_PeelBy.l0, hg]
    refine ev_pos hm (ev_pos (by omega) (ev_pos hm (ev_bind _ (impl_singles_f hG hL) ?_)))
    by_cases hf : freeL P E L = []
    · rw [peelC_cons_none _ _ hf]
      exact ev_pos (by rw [hf]; rfl) (ev_bind _ (impl_left_f hn hL) (ev_some (by simp [stepsL])))
    · obtain ⟨i, hs, h0, h1⟩ := stepE_rd hc hf
      obtain ⟨_, _, hw⟩ := stepE_some hs
      have hi := (withE_some hw).1
      have hin := hL.lt hi
      have hl : ¬ (freeL P E L).length = 0 := fun e => hf (List.length_eq_zero_iff.1 e)
      rw [peelC_cons_some _ hs]
      simp only [List.length_cons] at ha
      refine ev_neg (by omega) (ev_pos h0 (ev_pos h1 (ev_bind _ (impl_edgeAt_f hG hL hw) (ev_pos (by omega) (ev_pos (by rw [goneOf_len]; omega) (ev_pos (by omega) ?_))))))
      rw [Int.toNat_natCast, goneOf_set, winc (by omega)]
      have next := ih (pre ++ [c]) (dropE L i) (acc ++ [mkS51 (i, rd (freeL P E L) (Int.tmod c ((freeL P E L).length : Int)))]) (by rw [h]; simp) (hL.drop i) (by simp; omega)
      rw [len_one, mkApp] at next
      exact next
def byV (P : Int) (E : Edges) (cs : List Int) : List S51 × List Int × Bool := if goodB P E = true ∧ cs.length ≤ 40 ∧ chOk cs = true then (stepsL (peelC P.toNat E (chc cs) (allE E)).1, castL (peelC P.toNat E (chc cs) (allE E)).2, true) else ([], [], false)
theorem chOk_pos {cs : List Int} (h : chOk cs = true) : ∀ c ∈ cs, 0 ≤ c := fun c hc => by
  unfold chOk at h
  rw [List.all_eq_true] at h
  have := h c hc
  simp at this
  exact this.1
theorem impl_PeelBy_f (P : Int) (E : Edges) (cs : List Int) (hE : E.length ≤ 1000) (hc : cs.length ≤ 1000) : Ev (fun k => impl_PeelBy.f k P E cs) (byV P E cs) := by
  have no : byV P E cs = ([], [], false) → Ev (fun k => impl_PeelBy.j0 k cs true P E) (byV P E cs) := fun h => by
    refine ev_succ ?_
    simp only [impl_PeelBy.j0]
    rw [h]
    exact ev_pos trivial (Ev.now _)
  unfold impl_PeelBy.f
  refine ev_bind _ (impl_IsHyper_f P E (by omega)) ?_
  by_cases g : goodB P E = true
  · refine ev_pos g ?_
    by_cases l : cs.length ≤ 40
    · obtain ⟨r, h1, h2⟩ := impl_choices_l0 cs (by omega) cs [] rfl
      refine ev_neg (by omega) (ev_bind (!(chOk cs)) ?_ ?_)
      · unfold slices_ContainsFunc_int_int_at_impl_PeelBy_1.f slices_IndexFunc_int_int_at_impl_PeelBy_1.f
        exact ev_bind _ h1 (ev_some h2)
      · by_cases o : chOk cs = true
        · rw [o]
          obtain ⟨hG, hP, _, _⟩ := goodB_ok g
          have hn := hG.len
          refine ev_succ ?_
          simp only [impl_PeelBy.j0, impl_Hyper_none.f]
          refine ev_neg (by simp) (ev_bind _ (ev_pos (by omega) (ev_pos (by omega) (Ev.now _))) ?_)
          unfold byV
          rw [if_pos ⟨g, l, o⟩, Int.toNat_natCast, ← goneOf_all]
          have := impl_by_l0 hG (chOk_pos o) hc cs [] (List.range E.length) [] rfl (Rg.all _) (by simp; omega)
          rw [hP, List.nil_append] at this
          exact this
        · rw [Bool.eq_false_iff.2 o]
          exact no (if_neg (fun h => o h.2.2))
    · exact ev_pos (by omega) (no (if_neg (fun h => l h.2.1)))
  · exact ev_neg g (no (if_neg (fun h => g h.1)))
theorem spec_l1All_l0 (x0 : List Int) (hl : (x0.length : Int) ≤ 9223372036854775806) : ∀ (t pre : List Int), x0 = pre ++ t →
    Ev (fun k => spec_l1All.l0 k 0 99 x0 (x0.length : Int) (pre.length : Int)) (chOk t) := by
  intro t
  induction t with
  | nil =>
    intro pre h
    refine ev_succ ?_
    simp only [spec_l1All.l0]
    exact ev_neg (by rw [h]; exact not_lt_end) (ev_some (by simp [chOk]))
  | cons x t ih =>
    intro pre h
    have hm : ((pre.length : Nat) : Int) < (x0.length : Int) := by rw [h]; exact lt_mid
    have hg : rd x0 (pre.length : Int) = x := by rw [h]; exact rd_mid
    refine ev_succ ?_
    simp only [spec_l1All.l0, hg]
    rw [spec_in]
    refine ev_pos hm (ev_pos (by omega) (ev_pos hm (ev_bind _ (Ev.now _) ?_)))
    rw [winc (by omega)]
    by_cases c : 0 ≤ x ∧ x ≤ 99
    · have := ih (pre ++ [x]) (by rw [h]; simp)
      rw [len_one] at this
      have e : chOk (x :: t) = chOk t := by simp [chOk, c]
      rw [decide_eq_true c, e]
      exact ev_pos rfl this
    · have e : chOk (x :: t) = false := by unfold chOk; rw [List.all_cons, decide_eq_false c]; rfl
      rw [decide_eq_false c, e]
      exact ev_neg (by simp) (Ev.now _)
theorem spec_PeelBy_f (P : Int) (E : Edges) (cs : List Int) (hE : E.length ≤ 1000) (hr : ∀ e ∈ E, (e.length : Int) ≤ 9223372036854775806) (hc : cs.length ≤ 1000) : Ev (fun k => spec_PeelBy.f k P E cs) (byV P E cs) := by
  unfold spec_PeelBy.f byV
  refine ev_bind _ (spec_peGood_f P E (by omega) hr) ?_
  by_cases g : goodB P E = true
  · refine ev_pos g ?_
    by_cases l : cs.length ≤ 40
    · refine ev_neg (by omega) (ev_bind (chOk cs) ?_ ?_)
      · unfold spec_l1All.f
        exact spec_l1All_l0 cs (by omega) cs [] rfl
      · by_cases o : chOk cs = true
        · obtain ⟨hG, hP, _, _⟩ := goodB_ok g
          have := spec_pePeel_f hG (chOk_pos o) hc false
          rw [hP, if_neg (by simp), List.append_nil] at this
          rw [if_pos ⟨g, l, o⟩]
          exact ev_pos o (ev_bind _ this (Ev.now _))
        · rw [if_neg (fun h => o h.2.2)]
          exact ev_neg o (Ev.now _)
    · rw [if_neg (fun h => l h.2.1)]
      exact ev_pos (by omega) (Ev.now _)
  · rw [if_neg (fun h => g h.1)]
    exact ev_neg g (Ev.now _)
theorem impl_CoreOf_f {P : Int} {E : Edges} (h : goodB P E = true) : Ev (fun k => impl_CoreOf.f k P E) (castL (coreE P.toNat E), true) := by
  obtain ⟨hG, hP, hl, _⟩ := goodB_ok h
  have hg := impl_IsHyper_f P E (by omega)
  rw [h] at hg
  have hp := impl_peel_f hG
  rw [hP] at hp
  unfold impl_CoreOf.f
  exact ev_bind _ hg (ev_pos rfl (ev_bind _ hp (Ev.now _)))

theorem pHas_l0 (x0 : List Int) (a : Int) (hl : (x0.length : Int) ≤ 9223372036854775806) : ∀ (t pre : List Int), x0 = pre ++ t →
    Ev (fun k => laws_pHas.l0 k a x0 (x0.length : Int) (pre.length : Int)) (t.contains a) := by
  intro t
  induction t with
  | nil =>
    intro pre h
    refine ev_succ ?_
    simp only [laws_pHas.l0]
    exact ev_neg (by rw [h]; exact not_lt_end) (ev_some (by simp))
  | cons x t ih =>
    intro pre h
    have hm : ((pre.length : Nat) : Int) < (x0.length : Int) := by rw [h]; exact lt_mid
    have hg : rd x0 (pre.length : Int) = x := by rw [h]; exact rd_mid
    refine ev_succ ?_
    simp only [laws_pHas.l0, hg]
    refine ev_pos hm (ev_pos (by omega) (ev_pos hm ?_))
    by_cases c : x = a
    · exact ev_pos c (ev_some (by simp [c]))
    · refine ev_neg c ?_
      rw [winc (by omega)]
      have := ih (pre ++ [x]) (by rw [h]; simp)
      rw [len_one] at this
      have e : (x :: t).contains a = t.contains a := by simp [Ne.symm c]
      rw [e]
      exact this
theorem pHas_f (l : List Int) (a : Int) (hl : (l.length : Int) ≤ 9223372036854775806) : Ev (fun k => laws_pHas.f k l a) (l.contains a) := by
  unfold laws_pHas.f
  exact pHas_l0 l a hl l [] rfl
theorem law_l1 {cs : List Int} {st : List (Nat × Int)} {left core : List Nat} (hst : st.length ≤ 1000) (hl : left.length ≤ 1000) (hc : core.length ≤ 1000) (h1 : ∀ s ∈ st, s.1 ∉ left ∧ s.1 ∉ core) (h2 : st.length = cs.length ∨ left = core) : ∀ (t pre : List (Nat × Int)), st = pre ++ t →
    Ev (fun k => laws_FnPeelingInAnyOrder.l1 k cs (stepsL st) (castL left) (castL core) (stepsL st) (st.length : Int) (pre.length : Int)) true := by
  intro t
  induction t with
  | nil =>
    intro pre h
    refine ev_succ ?_
    simp only [laws_FnPeelingInAnyOrder.l1]
    refine ev_neg (by rw [h]; exact not_lt_end) ?_
    rw [stepsL_len]
    by_cases c : (st.length : Int) = (cs.length : Int)
    · exact ev_pos c (Ev.now _)
    · have : left = core := h2.resolve_left (fun e => c (by omega))
      subst this
      exact ev_neg c (ev_bind _ (sameInts_f _ (by rw [castL_len]; omega)) (Ev.now _))
  | cons s t ih =>
    intro pre h
    have hm : ((pre.length : Nat) : Int) < (st.length : Int) := by rw [h]; exact lt_mid
    have hg : rd_T51 (stepsL st) (pre.length : Int) = mkS51 s := by simp [rd_T51, stepsL, h]
    have hs := h1 s (by rw [h]; simp)
    refine ev_succ ?_
    simp only [laws_FnPeelingInAnyOrder.l1, hg]
    refine ev_pos hm (ev_pos (by omega) (ev_pos (by rw [stepsL_len]; exact hm) (ev_bind _ (pHas_f _ _ (by rw [castL_len]; omega)) (ev_neg ?_ (ev_bind _ (pHas_f _ _ (by rw [castL_len]; omega)) (ev_neg ?_ ?_))))))
    · simp only [List.contains_iff_mem, mkS51]
      rw [mem_castL]; exact hs.1
    · simp only [List.contains_iff_mem, mkS51]
      rw [mem_castL]; exact hs.2
    · rw [winc (by omega)]
      have := ih (pre ++ [s]) (by rw [h]; simp)
      rw [len_one] at this
      exact this
theorem law_l0 {cs : List Int} {st : List (Nat × Int)} {left core : List Nat} (hl : left.length ≤ 1000) (hc : core.length ≤ 1000) (hsub : ∀ i ∈ core, i ∈ left)
    (H : Ev (fun k => laws_FnPeelingInAnyOrder.l1 k cs (stepsL st) (castL left) (castL core) (stepsL st) (st.length : Int) 0) true) : ∀ (t pre : List Nat), core = pre ++ t →
    Ev (fun k => laws_FnPeelingInAnyOrder.l0 k cs (stepsL st) (castL left) (castL core) (castL core) (core.length : Int) (pre.length : Int)) true := by
  intro t
  induction t with
  | nil =>
    intro pre h
    refine ev_succ ?_
    simp only [laws_FnPeelingInAnyOrder.l0]
    refine ev_neg (by rw [h]; exact not_lt_end) ?_
    rw [stepsL_len]
    exact H
  | cons j t ih =>
    intro pre h
    have hm : ((pre.length : Nat) : Int) < (core.length : Int) := by rw [h]; exact lt_mid
    have hg : rd (castL core) (pre.length : Int) = (j : Int) := by rw [h]; exact rd_castmid
    have hj := hsub j (by rw [h]; simp)
    refine ev_succ ?_
    simp only [laws_FnPeelingInAnyOrder.l0, hg]
    refine ev_pos hm (ev_pos (by omega) (ev_pos (by rw [castL_len]; exact hm) (ev_bind _ (pHas_f _ _ (by rw [castL_len]; omega)) (ev_pos ?_ ?_))))
    · simp only [List.contains_iff_mem]
      rw [mem_castL]; exact hj
    · rw [winc (by omega)]
      have := ih (pre ++ [j]) (by rw [h]; simp)
      rw [len_one] at this
      exact this
theorem FnPeelingInAnyOrder : laws_FnPeelingInAnyOrder.Pure := by
  intro l0 l1 h0 _ hw0 h1 _ _
  refine Ev.rounds (r := true) ?_
  unfold laws_FnPeelingInAnyOrder.f
  obtain ⟨b, eb, hb⟩ := big_f h0 h1
  rw [eb]
  refine ev_bind _ (Ev.now _) ?_
  by_cases c : b = true
  · exact ev_pos c (Ev.now _)
  obtain ⟨g0, _⟩ := hb (by simpa using c)
  have hs := bys g0 hw0
  obtain ⟨P, E, cs, ed, ⟨hE, hE5⟩, hcs⟩ := draw_f hs
  have hE1 : E.length ≤ 1000 := by omega
  have hc1 : cs.length ≤ 1000 := by omega
  refine ev_neg c (ev_bind _ ed (ev_bind _ (impl_PeelBy_f P E cs hE1 hc1) (ev_bind _ (spec_PeelBy_f P E cs hE1 (fun e he => by have := hE5 e he; omega) hc1) (ev_neg (by simp) ?_))))
  simp only []
  by_cases g : goodB P E = true ∧ cs.length ≤ 40 ∧ chOk cs = true
  · have hv : byV P E cs = (stepsL (peelC P.toNat E (chc cs) (allE E)).1, castL (peelC P.toNat E (chc cs) (allE E)).2, true) := if_pos g
    rw [hv]
    simp only []
    obtain ⟨hG, hP, hl40, _⟩ := goodB_ok g.1
    obtain ⟨z1, z2⟩ := peelC_len2 (P := P.toNat) (E := E) (chc cs)
    have hlen := peelC_len (P := P.toNat) (E := E) (chc cs) (allE E) (allE_nodup E)
    have hall : (allE E).length = E.length := by simp [allE]
    refine ev_bind _ (sameSteps_f _ (by rw [stepsL_len]; omega)) (ev_pos rfl (ev_bind _ (sameInts_f _ (by rw [castL_len]; omega)) (ev_succ ?_)))
    simp only [laws_FnPeelingInAnyOrder.j0]
    refine ev_neg (by simp) (ev_pos trivial (ev_bind _ (impl_CoreOf_f g.1) (ev_pos rfl (ev_succ ?_))))
    simp only [laws_FnPeelingInAnyOrder.j1]
    have hsub : (coreE P.toNat E).Sublist (peelC P.toNat E (chc cs) (allE E)).2 := peelC_stable (core_stable hG.rng) _ _ core_sub
    have hcl := List.Sublist.length_le hsub
    refine ev_neg ?_ ?_
    · rw [stepsL_len, castL_len, w64 (by omega) (by omega)]
      simp only [bne_iff_ne, ne_eq, Decidable.not_not]
      omega
    · rw [castL_len]
      have h2 : (peelC P.toNat E (chc cs) (allE E)).1.length = cs.length ∨ (peelC P.toNat E (chc cs) (allE E)).2 = coreE P.toNat E := by
        rcases peelC_done (P := P.toNat) (E := E) (chc cs) (allE E) (allE_nodup E) with e | e
        · left; rw [e]; simp [chc]
        · exact .inr (left_core hG.rng e)
      have hst : ∀ s ∈ (peelC P.toNat E (chc cs) (allE E)).1, s.1 ∉ (peelC P.toNat E (chc cs) (allE E)).2 ∧ s.1 ∉ coreE P.toNat E := fun s hs => by
        have := (peelC_steps (chc cs) (allE E) s hs).2
        exact ⟨this, fun h => this (hsub.subset h)⟩
      exact law_l0 (by omega) (by omega) (fun i hi => hsub.subset hi) (law_l1 (by omega) (by omega) (by omega) hst h2 _ [] rfl) (coreE P.toNat E) [] rfl
  · have hv : byV P E cs = ([], [], false) := if_neg g
    rw [hv]
    refine ev_bind _ (sameSteps_f [] (by simp)) (ev_pos rfl (ev_bind _ (sameInts_f [] (by simp)) (ev_succ ?_)))
    simp only [laws_FnPeelingInAnyOrder.j0]
    exact ev_neg (by simp) (ev_neg (by simp) (Ev.now _))
end Go.Proofs.Ythkcgimnagpmaaa.Pure
