import Derived.Test.YthkcgimnagpmaaaCP1
import Derived.Test.YthkcgimnagpmaaaCP2
import Derived.Test.YthkcgimnagpmaaaCP3
namespace Go.Proofs.YthkcgimnagpmaaaQ
open Go Go.RowKit Go.Proofs.YthkcgimnagpmaaaW.PrintWords Go.Proofs.YthkcgimnagpmaaaGp Go.Proofs.Ythkcgimnagpmaaa.PP

theorem spec_peAll_l0 {n : Nat} (hn : n ≤ 1000) : ∀ (d i : Nat), i + d = n →
    Ev (fun k => spec_peAll.l0 k (castL (List.range i)) (n : Int) (i : Int)) (castL (List.range n)) := by
  intro d
  induction d with
  | zero =>
    intro i h
    obtain rfl : i = n := by omega
    refine ev_succ ?_
    simp only [spec_peAll.l0]
    exact ev_neg (by omega) (Ev.now _)
  | succ d ih =>
    intro i h
    have next := ih (i + 1) (by omega)
    rw [List.range_succ, castL_app] at next
    refine ev_succ ?_
    simp only [spec_peAll.l0]
    rw [winc (by omega)]
    exact ev_pos (by omega) (ev_pos (by rw [castL_len]; simp; omega) next)
theorem spec_peAll_f {E : Edges} (hn : E.length ≤ 1000) (P : Int) : Ev (fun k => spec_peAll.f k P E) (castL (allE E)) := by
  unfold spec_peAll.f
  exact spec_peAll_l0 hn E.length 0 (by omega)
theorem spec_degrees_l1 {P : Nat} {E : Edges} {x13 : List Int} {n : Int} {r : List Int} {q i : Nat} (e : List Int) (hi : (i : Int) < 9223372036854775806) (he : (e.length : Int) ≤ 9223372036854775806) (hr : ∀ p ∈ e, 0 ≤ p ∧ p < (P : Int)) (ps : List Int) (hps : ps.length + e.length ≤ 1000000)
    (H : Ev (fun k => spec_peDegrees.l0 k (cntL (ps ++ e) P) x13 n ((i + 1 : Nat) : Int) (q : Int) E) r) : ∀ (t pre : List Int), e = pre ++ t →
    Ev (fun k => spec_peDegrees.l1 k (cntL (ps ++ pre) P) x13 n (i : Int) e (e.length : Int) (pre.length : Int) (q : Int) E) r := by
  intro t
  induction t with
  | nil =>
    intro pre h
    have hp : e = pre := by rw [h, List.append_nil]
    subst hp
    refine ev_succ ?_
    simp only [spec_peDegrees.l1]
    refine ev_neg (by omega) ?_
    rw [winc (by omega)]
    exact H
  | cons x t ih =>
    intro pre h
    have hm : ((pre.length : Nat) : Int) < (e.length : Int) := by rw [h]; exact lt_mid
    have hg : rd e (pre.length : Int) = x := by rw [h]; exact rd_mid
    obtain ⟨x0, x1⟩ := hr x (by rw [h]; simp)
    have hc := count_le_len (ps ++ pre) x
    have hl : e.length = pre.length + (t.length + 1) := by rw [h]; simp
    rw [List.length_append] at hc
    refine ev_succ ?_
    simp only [spec_peDegrees.l1, hg]
    refine ev_pos hm (ev_pos (by omega) (ev_pos hm (ev_pos x0 (ev_pos (by rw [cntL_len]; exact x1) ?_))))
    rw [winc (by omega), cntL_rd _ x0 x1, wcount (by omega), cntL_set _ x0, List.append_assoc]
    have := ih (pre ++ [x]) (by rw [h]; simp)
    rw [len_one] at this
    exact this
theorem spec_degrees_l0 {P : Nat} {E : Edges} (hG : GoodH P E) {L : List Nat} (hL : ∀ i ∈ L, i < E.length) (hl : L.length ≤ 1000) (q : Nat) : ∀ (t pre : List Nat), L = pre ++ t →
    Ev (fun k => spec_peDegrees.l0 k (cntL (plsL E pre) P) (castL L) (L.length : Int) (pre.length : Int) (q : Int) E) (cntL (plsL E L) P) := by
  intro t
  have hn := hG.len
  induction t with
  | nil =>
    intro pre h
    have hp : L = pre := by rw [h, List.append_nil]
    subst hp
    refine ev_succ ?_
    simp only [spec_peDegrees.l0]
    exact ev_neg (by omega) (Ev.now _)
  | cons j t ih =>
    intro pre h
    have hm : ((pre.length : Nat) : Int) < (L.length : Int) := by rw [h]; exact lt_mid
    have hg : rd (castL L) (pre.length : Int) = (j : Int) := by rw [h]; exact rd_castmid
    have hj := hL j (by rw [h]; simp)
    have next := ih (pre ++ [j]) (by rw [h]; simp)
    rw [len_one] at next
    have hb := plsL_len hG pre
    obtain ⟨he, hr⟩ := hG.edge j
    have hpe : plsL E (pre ++ [j]) = plsL E pre ++ edg E j := by simp [plsL]
    rw [hpe] at next
    have hlen : L.length = pre.length + (t.length + 1) := by rw [h]; simp
    refine ev_succ ?_
    simp only [spec_peDegrees.l0, hg, rd_edg]
    refine ev_pos hm (ev_pos (by omega) (ev_pos (by rw [castL_len]; exact hm) (ev_pos (by omega) (ev_pos (by omega) ?_))))
    have := spec_degrees_l1 (P := P) (E := E) (x13 := castL L) (n := (L.length : Int)) (q := q) (edg E j) (by omega) (by omega) hr (plsL E pre) (by omega) next (edg E j) [] rfl
    rw [List.append_nil] at this
    exact this
theorem spec_degrees_f {P : Nat} {E : Edges} (hG : GoodH P E) {L : List Nat} (hL : ∀ i ∈ L, i < E.length) (hl : L.length ≤ 1000) : Ev (fun k => spec_peDegrees.f k (P : Int) E (castL L)) (cntL (plsL E L) P) := by
  have hp := hG.plc
  unfold spec_peDegrees.f
  refine ev_pos (by omega) (ev_pos (by omega) ?_)
  have := spec_degrees_l0 hG hL hl P L [] rfl
  rw [show plsL E [] = [] from rfl, cntL_nil] at this
  rw [castL_len]
  exact this
theorem spec_free_l0 {P : Nat} (ps : List Int) (hP : P ≤ 1000) : ∀ (d i : Nat), i + d = P →
    Ev (fun k => spec_peFree.l0 k (freeUp ps i) (cntL ps P) (P : Int) (i : Int)) (freeUp ps P) := by
  intro d
  induction d with
  | zero =>
    intro i h
    have hi : i = P := by omega
    refine ev_succ ?_
    simp only [spec_peFree.l0]
    refine ev_neg (by omega) (ev_some (by rw [hi]))
  | succ d ih =>
    intro i h
    have next := ih (i + 1) (by omega)
    have hl := freeUp_len ps i
    rw [freeUp_succ] at next
    refine ev_succ ?_
    simp only [spec_peFree.l0]
    rw [cntL_rd ps (by omega) (by omega)]
    refine ev_pos (by omega) (ev_pos (by omega) (ev_pos (by rw [cntL_len]; omega) ?_))
    rw [winc (by omega)]
    by_cases c : ps.count (i : Int) = 1
    · rw [if_pos c] at next
      exact ev_pos (by omega) (ev_pos (by omega) next)
    · rw [if_neg c] at next
      exact ev_neg (by omega) next
theorem spec_free_f {P : Nat} {E : Edges} (hG : GoodH P E) {L : List Nat} (hL : ∀ i ∈ L, i < E.length) (hl : L.length ≤ 1000) : Ev (fun k => spec_peFree.f k (P : Int) E (castL L)) (freeL P E L) := by
  unfold spec_peFree.f
  refine ev_bind _ (spec_degrees_f hG hL hl) ?_
  have := spec_free_l0 (plsL E L) hG.plc P 0 (by omega)
  rw [cntL_len, ← freeL_up]
  exact this
def withV (o : Option Nat) : Int := match o with | some j => (j : Int) | none => -1
theorem spec_with_l0 {P : Nat} {E : Edges} (hG : GoodH P E) {L : List Nat} (hL : ∀ i ∈ L, i < E.length) (hl : L.length ≤ 1000) (p : Int) (q : Nat) : ∀ (t pre : List Nat), L = pre ++ t →
    Ev (fun k => spec_peWith.l0 k p (castL L) (L.length : Int) (pre.length : Int) (q : Int) E) (withV (withE E t p)) := by
  intro t
  have hn := hG.len
  induction t with
  | nil =>
    intro pre h
    have hp : L = pre := by rw [h, List.append_nil]
    subst hp
    refine ev_succ ?_
    simp only [spec_peWith.l0]
    exact ev_neg (by omega) (Ev.now _)
  | cons j t ih =>
    intro pre h
    have hm : ((pre.length : Nat) : Int) < (L.length : Int) := by rw [h]; exact lt_mid
    have hg : rd (castL L) (pre.length : Int) = (j : Int) := by rw [h]; exact rd_castmid
    have hj := hL j (by rw [h]; simp)
    have next := ih (pre ++ [j]) (by rw [h]; simp)
    rw [len_one] at next
    have he := (hG.edge j).1
    refine ev_succ ?_
    simp only [spec_peWith.l0, hg, rd_edg]
    refine ev_pos hm (ev_pos (by omega) (ev_pos (by rw [castL_len]; exact hm) (ev_pos (by omega) (ev_pos (by omega) (ev_bind _ (spec_l1Has_f (edg E j) p (by omega)) ?_)))))
    unfold withE
    rw [List.find?_cons, winc (by omega)]
    by_cases c : (edg E j).contains p = true
    · rw [c]; exact ev_pos rfl (Ev.now _)
    · rw [Bool.eq_false_iff.2 c]
      exact ev_neg (by simp) next
theorem spec_with_f {P : Nat} {E : Edges} (hG : GoodH P E) {L : List Nat} (hL : ∀ i ∈ L, i < E.length) (hl : L.length ≤ 1000) (p : Int) : Ev (fun k => spec_peWith.f k (P : Int) E (castL L) p) (withV (withE E L p)) := by
  unfold spec_peWith.f
  rw [castL_len]
  exact spec_with_l0 hG hL hl p P L [] rfl
theorem spec_drop_l0 {L : List Nat} (hl : L.length ≤ 1000) (i : Nat) : ∀ (t pre : List Nat), L = pre ++ t →
    Ev (fun k => spec_l1Drop.l0 k (i : Int) (castL (dropE pre i)) (castL L) (L.length : Int) (pre.length : Int)) (castL (dropE L i)) := by
  intro t
  induction t with
  | nil =>
    intro pre h
    have hp : L = pre := by rw [h, List.append_nil]
    subst hp
    refine ev_succ ?_
    simp only [spec_l1Drop.l0]
    exact ev_neg (by omega) (Ev.now _)
  | cons j t ih =>
    intro pre h
    have hm : ((pre.length : Nat) : Int) < (L.length : Int) := by rw [h]; exact lt_mid
    have hg : rd (castL L) (pre.length : Int) = (j : Int) := by rw [h]; exact rd_castmid
    have next := ih (pre ++ [j]) (by rw [h]; simp)
    rw [len_one] at next
    have hd : dropE (pre ++ [j]) i = if j = i then dropE pre i else dropE pre i ++ [j] := by
      unfold dropE
      rw [List.filter_append]
      by_cases c : j = i <;> simp [c]
    rw [hd] at next
    have hdl := List.Sublist.length_le (dropE_sub pre i)
    have hlen : L.length = pre.length + (t.length + 1) := by rw [h]; simp
    refine ev_succ ?_
    simp only [spec_l1Drop.l0, hg]
    rw [winc (by omega)]
    refine ev_pos hm (ev_pos (by omega) (ev_pos (by rw [castL_len]; exact hm) ?_))
    by_cases c : j = i
    · rw [if_pos c] at next
      exact ev_pos (by omega) next
    · rw [if_neg c, castL_app] at next
      exact ev_neg (by omega) (ev_pos (by rw [castL_len]; omega) next)
theorem spec_drop_f {L : List Nat} (hl : L.length ≤ 1000) (i : Nat) : Ev (fun k => spec_l1Drop.f k (castL L) (i : Int)) (castL (dropE L i)) := by
  unfold spec_l1Drop.f
  rw [castL_len]
  exact spec_drop_l0 hl i L [] rfl
def chc (cs : List Int) : List Nat := cs.map Int.toNat
theorem stepE_rd {P : Nat} {E : Edges} {L : List Nat} {c : Int} (hc : 0 ≤ c) (h : freeL P E L ≠ []) : ∃ i, stepE P E L c.toNat = some (i, rd (freeL P E L) (Int.tmod c ((freeL P E L).length : Int))) ∧ 0 ≤ Int.tmod c ((freeL P E L).length : Int) ∧ Int.tmod c ((freeL P E L).length : Int) < ((freeL P E L).length : Int) := by
  have hl : ¬ (freeL P E L).length = 0 := fun e => h (List.length_eq_zero_iff.1 e)
  have e : Int.tmod c ((freeL P E L).length : Int) = ((c.toNat % (freeL P E L).length : Nat) : Int) := by
    rw [Int.tmod_eq_emod_of_nonneg hc, Int.natCast_emod, Int.toNat_of_nonneg hc]
  have hm : c.toNat % (freeL P E L).length < (freeL P E L).length := Nat.mod_lt _ (by omega)
  unfold stepE
  rw [if_neg hl, e]
  exact ⟨_, rfl, by omega, by omega⟩
section
variable {P : Nat} {E : Edges} (hG : GoodH P E) {cs : List Int} {on : Bool} {acc : List S51} {L : List Nat} (hL : Rg E.length L)
include hG hL
theorem j1_end (hf : freeL P E L = []) (kk : Int) : Ev (fun k => spec_pePeel.j1 k cs on acc (castL L) kk true (P : Int) E) (acc, castL L) := by
  have hn := hG.len
  have hl := hL.len
  refine ev_succ ?_
  simp only [spec_pePeel.j1]
  refine ev_pos trivial (ev_bind _ (spec_free_f hG (fun i hi => hL.lt hi) (by omega)) (ev_pos (by rw [hf]; rfl) (Ev.now _)))
theorem j1_go {kk : Nat} (hk : kk < cs.length) (hkl : kk ≤ 100000) (ha : acc.length ≤ 1000000) {i : Nat} (hs : stepE P E L (rd cs (kk : Int)).toNat = some (i, rd (freeL P E L) (Int.tmod (rd cs (kk : Int)) ((freeL P E L).length : Int))))
    (h0 : 0 ≤ Int.tmod (rd cs (kk : Int)) ((freeL P E L).length : Int)) (h1 : Int.tmod (rd cs (kk : Int)) ((freeL P E L).length : Int) < ((freeL P E L).length : Int)) {r : List S51 × List Int}
    (H : Ev (fun k => spec_pePeel.l0 k cs on (acc ++ [mkS51 (i, rd (freeL P E L) (Int.tmod (rd cs (kk : Int)) ((freeL P E L).length : Int)))]) (castL (dropE L i)) ((kk + 1 : Nat) : Int) (P : Int) E) r) :
    Ev (fun k => spec_pePeel.j1 k cs on acc (castL L) (kk : Int) true (P : Int) E) r := by
  have hn := hG.len
  have hl := hL.len
  obtain ⟨_, _, hw⟩ := stepE_some hs
  have hwv := spec_with_f hG (fun i hi => hL.lt hi) (by omega) (rd (freeL P E L) (Int.tmod (rd cs (kk : Int)) ((freeL P E L).length : Int))) (L := L)
  rw [hw] at hwv
  refine ev_succ ?_
  simp only [spec_pePeel.j1]
  refine ev_pos trivial (ev_bind _ (spec_free_f hG (fun i hi => hL.lt hi) (by omega)) (ev_neg (by omega) (ev_pos (by omega) (ev_pos (by omega) (ev_pos h0 (ev_pos h1 (ev_bind _ hwv (ev_pos (by omega) (ev_bind _ (spec_drop_f (by omega) i) ?_)))))))))
  rw [winc (by omega)]
  exact H
theorem j1_zero {kk : Nat} (hk : cs.length ≤ kk) (hkl : kk ≤ 100000) (ha : acc.length ≤ 1000000) {i : Nat} (hf : freeL P E L ≠ []) (hs : stepE P E L 0 = some (i, rd (freeL P E L) 0)) {r : List S51 × List Int}
    (H : Ev (fun k => spec_pePeel.l0 k cs on (acc ++ [mkS51 (i, rd (freeL P E L) 0)]) (castL (dropE L i)) ((kk + 1 : Nat) : Int) (P : Int) E) r) :
    Ev (fun k => spec_pePeel.j1 k cs on acc (castL L) (kk : Int) true (P : Int) E) r := by
  have hn := hG.len
  have hl := hL.len
  have hz : ¬ (freeL P E L).length = 0 := fun e => hf (List.length_eq_zero_iff.1 e)
  obtain ⟨_, _, hw⟩ := stepE_some hs
  have hwv := spec_with_f hG (fun i hi => hL.lt hi) (by omega) (rd (freeL P E L) 0) (L := L)
  rw [hw] at hwv
  refine ev_succ ?_
  simp only [spec_pePeel.j1]
  refine ev_pos trivial (ev_bind _ (spec_free_f hG (fun i hi => hL.lt hi) (by omega)) (ev_neg (by omega) (ev_neg (by omega) (ev_pos (by omega) (ev_bind _ hwv (ev_pos (by omega) (ev_bind _ (spec_drop_f (by omega) i) ?_)))))))
  rw [winc (by omega)]
  exact H
end
theorem mkApp (acc : List S51) (s : Nat × Int) (l : List (Nat × Int)) : (acc ++ [mkS51 s]) ++ stepsL l = acc ++ stepsL (s :: l) := by simp [stepsL]
theorem spec_peel_on {P : Nat} {E : Edges} (hG : GoodH P E) {cs : List Int} : ∀ (d : Nat) (L : List Nat) (acc : List S51) (kk : Nat), Rg E.length L → L.length ≤ d → cs.length ≤ kk → kk + d ≤ 100000 → acc.length + d ≤ 1000000 →
    Ev (fun k => spec_pePeel.l0 k cs true acc (castL L) (kk : Int) (P : Int) E) (acc ++ stepsL (peelC P E (List.replicate d 0) L).1, castL (peelC P E (List.replicate d 0) L).2) := by
  have stop : ∀ (d : Nat) (L : List Nat) (acc : List S51) (kk : Nat), Rg E.length L → freeL P E L = [] → Ev (fun k => spec_pePeel.l0 k cs true acc (castL L) (kk : Int) (P : Int) E) (acc ++ stepsL (peelC P E (List.replicate d 0) L).1, castL (peelC P E (List.replicate d 0) L).2) := by
    intro d L acc kk hL hf
    have e : peelC P E (List.replicate d 0) L = ([], L) := by
      cases d with
      | zero => rfl
      | succ d => rw [List.replicate_succ, peelC_cons_none _ _ hf]
    rw [e]
    refine ev_succ ?_
    simp only [spec_pePeel.l0]
    refine ev_pos trivial ?_
    have := j1_end hG hL (cs := cs) (on := true) (acc := acc) hf (kk : Int)
    simpa [stepsL] using this
  intro d
  induction d with
  | zero =>
    intro L acc kk hL hd _ _ _
    have : L = [] := List.length_eq_zero_iff.1 (by omega)
    exact stop 0 L acc kk hL (by rw [this]; exact freeL_nil)
  | succ d ih =>
    intro L acc kk hL hd hk hkd ha
    by_cases hf : freeL P E L = []
    · exact stop (d + 1) L acc kk hL hf
    · obtain ⟨i, hs⟩ := step_zero hf
      obtain ⟨_, _, hw⟩ := stepE_some hs
      have hi := (withE_some hw).1
      have hdl := dropE_len hL.nodup hi
      rw [List.replicate_succ, peelC_cons_some _ hs]
      refine ev_succ ?_
      simp only [spec_pePeel.l0]
      refine ev_pos trivial (j1_zero hG hL hk (by omega) (by omega) hf hs ?_)
      have := ih (dropE L i) (acc ++ [mkS51 (i, rd (freeL P E L) 0)]) (kk + 1) (hL.drop i) (by omega) (by omega) (by omega) (by simp; omega)
      rw [mkApp] at this
      exact this
theorem spec_peel_cs {P : Nat} {E : Edges} (hG : GoodH P E) {cs : List Int} (hcs : ∀ c ∈ cs, 0 ≤ c) (hcl : cs.length ≤ 1000) (on : Bool) {d : Nat} (hd : d ≤ 2000) : ∀ (t pre : List Int) (L : List Nat) (acc : List S51), cs = pre ++ t → Rg E.length L → L.length ≤ d → acc.length + t.length ≤ 900000 →
    Ev (fun k => spec_pePeel.l0 k cs on acc (castL L) (pre.length : Int) (P : Int) E) (acc ++ stepsL (peelC P E (chc t ++ if on = true then List.replicate d 0 else []) L).1, castL (peelC P E (chc t ++ if on = true then List.replicate d 0 else []) L).2) := by
  intro t
  induction t with
  | nil =>
    intro pre L acc h hL hld ha
    have hp : cs = pre := by rw [h, List.append_nil]
    subst hp
    cases on with
    | true =>
      rw [if_pos rfl]
      exact spec_peel_on hG d L acc cs.length hL hld (Nat.le_refl _) (by omega) (by omega)
    | false =>
      rw [if_neg (by simp)]
      refine ev_succ ?_
      simp only [spec_pePeel.l0]
      refine ev_neg (by simp) ?_
      rw [decide_eq_false (by omega)]
      refine ev_succ ?_
      simp only [spec_pePeel.j1]
      exact ev_neg (by simp) (ev_some (by simp [chc, peelC, stepsL]))
  | cons c t ih =>
    intro pre L acc h hL hld ha
    have hm : pre.length < cs.length := by rw [h]; simp
    have hg : rd cs (pre.length : Int) = c := by rw [h]; exact rd_mid
    have hc : 0 ≤ c := hcs c (by rw [h]; simp)
    have hl1 : Ev (fun k => spec_pePeel.j1 k cs on acc (castL L) (pre.length : Int) true (P : Int) E) (acc ++ stepsL (peelC P E (chc (c :: t) ++ if on = true then List.replicate d 0 else []) L).1, castL (peelC P E (chc (c :: t) ++ if on = true then List.replicate d 0 else []) L).2) := by
      simp only [chc, List.map_cons, List.cons_append]
      by_cases hf : freeL P E L = []
      · rw [peelC_cons_none _ _ hf]
        have := j1_end hG hL (cs := cs) (on := on) (acc := acc) hf (pre.length : Int)
        simpa [stepsL] using this
      · obtain ⟨i, hs, h0, h1⟩ := stepE_rd hc hf
        obtain ⟨_, _, hw⟩ := stepE_some hs
        have hdl := dropE_len hL.nodup (withE_some hw).1
        rw [peelC_cons_some _ hs]
        have next := ih (pre ++ [c]) (dropE L i) (acc ++ [mkS51 (i, rd (freeL P E L) (Int.tmod c ((freeL P E L).length : Int)))]) (by rw [h]; simp) (hL.drop i) (by omega) (by simp at ha ⊢; omega)
        rw [len_one, mkApp] at next
        simp only [List.length_cons] at ha
        exact j1_go hG hL (kk := pre.length) hm (by omega) (by omega) (by rw [hg]; exact hs) (by rw [hg]; exact h0) (by rw [hg]; exact h1) (by rw [hg]; exact next)
    refine ev_succ ?_
    simp only [spec_pePeel.l0]
    by_cases ho : on = true
    · exact ev_pos ho hl1
    · refine ev_neg ho ?_
      rw [decide_eq_true (by omega)]
      exact hl1
theorem spec_pePeel_f {P : Nat} {E : Edges} (hG : GoodH P E) {cs : List Int} (hcs : ∀ c ∈ cs, 0 ≤ c) (hcl : cs.length ≤ 1000) (on : Bool) :
    Ev (fun k => spec_pePeel.f k (P : Int) E cs on) (stepsL (peelC P E (chc cs ++ if on = true then List.replicate E.length 0 else []) (allE E)).1, castL (peelC P E (chc cs ++ if on = true then List.replicate E.length 0 else []) (allE E)).2) := by
  have hn := hG.len
  unfold spec_pePeel.f
  have := spec_peel_cs hG hcs hcl on (d := E.length) (by omega) cs [] (allE E) [] rfl (Rg.all _) (by simp [allE]) (by simp; omega)
  rw [List.nil_append] at this
  exact ev_bind _ (spec_peAll_f hn _) this
end Go.Proofs.YthkcgimnagpmaaaQ
namespace Go.Proofs.YthkcgimnagpmaaaQ
open Go Go.RowKit Go.Proofs.YthkcgimnagpmaaaW.PrintWords Go.Proofs.YthkcgimnagpmaaaGp Go.Proofs.Ythkcgimnagpmaaa.PP

def mm (x y : Int) : Int := Int.tmod (wrap64 (x * y)) 65521
theorem mul_range {x y : Int} (hx : 0 ≤ x) (hx1 : x ≤ 65520) (hy : 0 ≤ y) (hy1 : y ≤ 65520) : 0 ≤ x * y ∧ x * y ≤ 4292870400 :=
  ⟨Int.mul_nonneg hx hy, by have := Int.mul_le_mul hx1 hy1 hy (by omega); omega⟩
theorem emod_range (x : Int) : 0 ≤ x % 65521 ∧ x % 65521 ≤ 65520 := by omega
theorem mm_eq {x y : Int} (hx : 0 ≤ x) (hx1 : x ≤ 65520) (hy : 0 ≤ y) (hy1 : y ≤ 65520) : mm x y = x * y % 65521 := by
  obtain ⟨h0, h1⟩ := mul_range hx hx1 hy hy1
  unfold mm
  rw [w64 (by omega) (by omega)]
  exact Int.tmod_eq_emod_of_nonneg h0
theorem mm_mod (a b : Int) : mm (a % 65521) (b % 65521) = a * b % 65521 := by
  rw [mm_eq (emod_range a).1 (emod_range a).2 (emod_range b).1 (emod_range b).2]
  exact (Int.mul_emod a b 65521).symm
def pw (h : Int) : Nat → Int
  | 0 => 1
  | n + 1 => pw h n * h
theorem self_mod {h : Int} (h0 : 0 ≤ h) (h1 : h ≤ 65520) : h = h % 65521 := by omega
theorem mm11 {h : Int} (h0 : 0 ≤ h) (h1 : h ≤ 65520) : mm (mm (mm (mm (mm h h) (mm h h)) h) (mm (mm (mm h h) (mm h h)) h)) h = pw h 11 % 65521 := by
  have e := self_mod h0 h1
  have a2 : mm h h = h * h % 65521 := mm_eq h0 h1 h0 h1
  have a4 : mm (mm h h) (mm h h) = (h * h) * (h * h) % 65521 := by rw [a2, mm_mod]
  have a5 : mm (mm (mm h h) (mm h h)) h = (h * h) * (h * h) * h % 65521 := by
    rw [a4]; conv => lhs; arg 2; rw [e]
    rw [mm_mod]
  rw [a5, mm_mod]
  conv => lhs; arg 2; rw [e]
  rw [mm_mod]
  congr 1
  simp only [pw, Int.one_mul, Int.mul_assoc]
theorem mm_pw {h : Int} (h0 : 0 ≤ h) (h1 : h ≤ 65520) (n : Nat) : mm (pw h n % 65521) h = pw h (n + 1) % 65521 := by
  conv => lhs; arg 2; rw [self_mod h0 h1]
  rw [mm_mod]
  rfl

def hstep (h : Int) (c : UInt8) : Int := Int.tmod (wrap64 ((wrap64 (263 * h)) + (wrap64 (c.toNat : Int)))) 65521
def hfold (h : Int) (l : List UInt8) : Int := l.foldl hstep h
theorem hstep_range {h : Int} {c : UInt8} (h0 : 0 ≤ h) (h1 : h ≤ 65520) : 0 ≤ hstep h c ∧ hstep h c ≤ 65520 := by
  have hc : c.toNat < 256 := c.toNat_lt
  unfold hstep
  rw [w64 (x := 263 * h) (by omega) (by omega), w64 (x := (c.toNat : Int)) (by omega) (by omega), w64 (by omega) (by omega), Int.tmod_eq_emod_of_nonneg (by omega)]
  omega
def hstart (a0 a1 : Int) : Int := Int.tmod (wrap64 ((wrap64 ((wrap64 (31 * a0)) + (wrap64 (977 * a1)))) + 7)) 65521
theorem hstart_range {a0 a1 : Int} (h0 : 0 ≤ a0) (h0' : a0 ≤ 1000000) (h1 : 0 ≤ a1) (h1' : a1 ≤ 1000000) : 0 ≤ hstart a0 a1 ∧ hstart a0 a1 ≤ 65520 := by
  unfold hstart
  rw [w64 (x := 31 * a0) (by omega) (by omega), w64 (x := 977 * a1) (by omega) (by omega), w64 (x := 31 * a0 + 977 * a1) (by omega) (by omega), w64 (by omega) (by omega), Int.tmod_eq_emod_of_nonneg (by omega)]
  omega
def hashV (a0 a1 : Int) (s : ByteArray) : Int := pw (hfold (hstart a0 a1) s.data.toList) 11 % 65521
theorem hashV_range (a0 a1 : Int) (s : ByteArray) : 0 ≤ hashV a0 a1 s ∧ hashV a0 a1 s ≤ 65520 := emod_range _
theorem spec_biHash_l0 (x2 : ByteArray) (hz : (x2.size : Int) ≤ 9223372036854775806) : ∀ (t pre : List UInt8) (h : Int), x2.data.toList = pre ++ t → 0 ≤ h → h ≤ 65520 →
    Ev (fun k => spec_biHash.l0 k x2 h (pre.length : Int)) (pw (hfold h t) 11 % 65521) := by
  intro t
  induction t with
  | nil =>
    intro pre h e h0 h1
    refine ev_succ ?_
    simp only [spec_biHash.l0]
    refine ev_neg (not_lt_size e) (ev_some ?_)
    exact mm11 h0 h1
  | cons c t ih =>
    intro pre h e h0 h1
    have hm := lt_size e
    refine ev_succ ?_
    simp only [spec_biHash.l0, bt_mid e]
    refine ev_pos hm (ev_pos (by omega) ?_)
    rw [winc (by omega)]
    have := ih (pre ++ [c]) (hstep h c) (by rw [e]; simp) (hstep_range h0 h1).1 (hstep_range h0 h1).2
    rw [len_one] at this
    exact this
theorem spec_biHash_f (a0 a1 : Int) (s : ByteArray) (hz : (s.size : Int) ≤ 9223372036854775806) (h0 : 0 ≤ a0) (h0' : a0 ≤ 1000000) (h1 : 0 ≤ a1) (h1' : a1 ≤ 1000000) :
    Ev (fun k => spec_biHash.f k a0 a1 s) (hashV a0 a1 s) := by
  unfold spec_biHash.f
  exact spec_biHash_l0 s hz s.data.toList [] _ rfl (hstart_range h0 h0' h1 h1').1 (hstart_range h0 h0' h1 h1').2
theorem impl_hash_l1 {h : Int} (h0 : 0 ≤ h) (h1 : h ≤ 65520) : ∀ (m i : Nat), i + m = 11 → Ev (fun k => impl_hash.l1 k h (pw h i % 65521) (i : Int)) (pw h 11 % 65521) := by
  intro m
  induction m with
  | zero =>
    intro i e
    obtain rfl : i = 11 := by omega
    refine ev_succ ?_
    simp only [impl_hash.l1]
    exact ev_neg (by omega) (ev_some rfl)
  | succ m ih =>
    intro i e
    refine ev_succ ?_
    simp only [impl_hash.l1]
    refine ev_pos (by omega) ?_
    rw [winc (by omega)]
    have := ih (i + 1) (by omega)
    rw [← mm_pw h0 h1 i] at this
    exact this
theorem impl_hash_l0 (x2 : ByteArray) (hz : (x2.size : Int) ≤ 9223372036854775806) : ∀ (t pre : List UInt8) (h : Int), x2.data.toList = pre ++ t → 0 ≤ h → h ≤ 65520 →
    Ev (fun k => impl_hash.l0 k x2 h (x2.size : Int) (pre.length : Int)) (pw (hfold h t) 11 % 65521) := by
  intro t
  induction t with
  | nil =>
    intro pre h e h0 h1
    refine ev_succ ?_
    simp only [impl_hash.l0]
    exact ev_neg (not_lt_size e) (impl_hash_l1 h0 h1 11 0 rfl)
  | cons c t ih =>
    intro pre h e h0 h1
    have hm := lt_size e
    refine ev_succ ?_
    simp only [impl_hash.l0, bt_mid e]
    refine ev_pos hm (ev_pos (by omega) (ev_pos hm ?_))
    rw [winc (by omega)]
    have := ih (pre ++ [c]) (hstep h c) (by rw [e]; simp) (hstep_range h0 h1).1 (hstep_range h0 h1).2
    rw [len_one] at this
    exact this
theorem impl_hash_f (a0 a1 : Int) (s : ByteArray) (hz : (s.size : Int) ≤ 9223372036854775806) (h0 : 0 ≤ a0) (h0' : a0 ≤ 1000000) (h1 : 0 ≤ a1) (h1' : a1 ≤ 1000000) :
    Ev (fun k => impl_hash.f k a0 a1 s) (hashV a0 a1 s) := by
  unfold impl_hash.f
  exact impl_hash_l0 s hz s.data.toList [] _ rfl (hstart_range h0 h0' h1 h1').1 (hstart_range h0 h0' h1 h1').2

def placeV (a0 a1 : Int) (s : ByteArray) (n : Int) : Int := wrap64 (Int.tdiv (wrap64 (hashV a0 a1 s * n)) 65521)
theorem placeV_range (a0 a1 : Int) (s : ByteArray) {n : Int} (h0 : 1 ≤ n) (h1 : n ≤ 1000000) : 0 ≤ placeV a0 a1 s n ∧ placeV a0 a1 s n < n := by
  obtain ⟨a, b⟩ := hashV_range a0 a1 s
  have c := Int.mul_nonneg a (show (0 : Int) ≤ n by omega)
  have d := Int.mul_le_mul_of_nonneg_right b (show (0 : Int) ≤ n by omega)
  unfold placeV
  generalize hashV a0 a1 s * n = y at *
  rw [w64 (x := y) (by omega) (by omega), Int.tdiv_eq_ediv_of_nonneg (by omega), w64 (by omega) (by omega)]
  omega
theorem spec_biPlace_f (a0 a1 : Int) (s : ByteArray) (n : Int) (hz : (s.size : Int) ≤ 9223372036854775806) (h0 : 0 ≤ a0) (h0' : a0 ≤ 1000000) (h1 : 0 ≤ a1) (h1' : a1 ≤ 1000000) :
    Ev (fun k => spec_biPlace.f k a0 a1 s n) (placeV a0 a1 s n) := by
  unfold spec_biPlace.f
  exact ev_bind _ (spec_biHash_f a0 a1 s hz h0 h0' h1 h1') (Ev.now _)
theorem impl_place_f (a0 a1 : Int) (s : ByteArray) (n : Int) (hz : (s.size : Int) ≤ 9223372036854775806) (h0 : 0 ≤ a0) (h0' : a0 ≤ 1000000) (h1 : 0 ≤ a1) (h1' : a1 ≤ 1000000) :
    Ev (fun k => impl_place.f k a0 a1 s n) (placeV a0 a1 s n) := by
  unfold impl_place.f
  exact ev_bind _ (impl_hash_f a0 a1 s hz h0 h0' h1 h1') (Ev.now _)
end Go.Proofs.YthkcgimnagpmaaaQ
namespace Go.Proofs.YthkcgimnagpmaaaQ
open Go Go.RowKit Go.Proofs.YthkcgimnagpmaaaW.PrintWords Go.Proofs.YthkcgimnagpmaaaGp Go.Proofs.Ythkcgimnagpmaaa.PP

def tripL (a0 : Int) (s : ByteArray) (n : Int) : Nat → Nat → List Int
  | 0, _ => []
  | m + 1, i => wrap64 (placeV a0 (i : Int) s n + wrap64 ((i : Int) * n)) :: tripL a0 s n m (i + 1)
theorem tripL_range (a0 : Int) (s : ByteArray) {n : Int} (h0 : 1 ≤ n) (h1 : n ≤ 24) : ∀ p ∈ tripL a0 s n 3 0, 0 ≤ p ∧ p < 3 * n := by
  intro p h
  have r0 := placeV_range a0 ((0 : Nat) : Int) s h0 (by omega)
  have r1 := placeV_range a0 ((0 + 1 : Nat) : Int) s h0 (by omega)
  have r2 := placeV_range a0 ((0 + 1 + 1 : Nat) : Int) s h0 (by omega)
  simp only [tripL, List.mem_cons, List.not_mem_nil, or_false] at h
  rcases h with rfl | rfl | rfl
  · rw [w64 (x := ((0 : Nat) : Int) * n) (by omega) (by omega), w64 (by omega) (by omega)]; omega
  · rw [w64 (x := ((0 + 1 : Nat) : Int) * n) (by omega) (by omega), w64 (by omega) (by omega)]; omega
  · rw [w64 (x := ((0 + 1 + 1 : Nat) : Int) * n) (by omega) (by omega), w64 (by omega) (by omega)]; omega
theorem spec_peTriple_l0 (a0 : Int) (n : Int) (s : ByteArray) (hz : (s.size : Int) ≤ 9223372036854775806) (h0 : 0 ≤ a0) (h0' : a0 ≤ 1000000) : ∀ (m i : Nat) (acc : List Int), i + m = 3 → acc.length = i →
    Ev (fun k => spec_peTriple.l0 k a0 s n acc (i : Int)) (acc ++ tripL a0 s n m i) := by
  intro m
  induction m with
  | zero =>
    intro i acc e ha
    refine ev_succ ?_
    simp only [spec_peTriple.l0, tripL]
    exact ev_neg (by omega) (ev_some (by simp))
  | succ m ih =>
    intro i acc e ha
    refine ev_succ ?_
    simp only [spec_peTriple.l0, tripL]
    refine ev_pos (by omega) (ev_bind _ (spec_biPlace_f a0 (i : Int) s n hz h0 h0' (by omega) (by omega)) (ev_pos (by omega) ?_))
    rw [winc (by omega)]
    have := ih (i + 1) (acc ++ [wrap64 (placeV a0 (i : Int) s n + wrap64 ((i : Int) * n))]) (by omega) (by simp [ha])
    rw [List.append_assoc] at this
    exact this
theorem spec_peTriple_f (a0 n : Int) (s : ByteArray) (hz : (s.size : Int) ≤ 9223372036854775806) (h0 : 0 ≤ a0) (h0' : a0 ≤ 1000000) : Ev (fun k => spec_peTriple.f k a0 s n) (tripL a0 s n 3 0) := by
  unfold spec_peTriple.f
  have := spec_peTriple_l0 a0 n s hz h0 h0' 3 0 [] rfl rfl
  exact this
theorem impl_threePlaces_l0 (a0 : Int) (n : Int) (s : ByteArray) (hz : (s.size : Int) ≤ 9223372036854775806) (h0 : 0 ≤ a0) (h0' : a0 ≤ 1000000) : ∀ (m i : Nat) (acc : List Int), i + m = 3 → acc.length = i →
    Ev (fun k => impl_threePlaces.l0 k a0 s n acc (i : Int)) (acc ++ tripL a0 s n m i) := by
  intro m
  induction m with
  | zero =>
    intro i acc e ha
    refine ev_succ ?_
    simp only [impl_threePlaces.l0, tripL]
    exact ev_neg (by omega) (ev_some (by simp))
  | succ m ih =>
    intro i acc e ha
    refine ev_succ ?_
    simp only [impl_threePlaces.l0, tripL]
    refine ev_pos (by omega) (ev_bind _ (impl_place_f a0 (i : Int) s n hz h0 h0' (by omega) (by omega)) (ev_pos (by omega) ?_))
    rw [winc (by omega)]
    have := ih (i + 1) (acc ++ [wrap64 (placeV a0 (i : Int) s n + wrap64 ((i : Int) * n))]) (by omega) (by simp [ha])
    rw [List.append_assoc] at this
    exact this
theorem impl_threePlaces_f (a0 n : Int) (s : ByteArray) (hz : (s.size : Int) ≤ 9223372036854775806) (h0 : 0 ≤ a0) (h0' : a0 ≤ 1000000) : Ev (fun k => impl_threePlaces.f k a0 s n) (tripL a0 s n 3 0) := by
  unfold impl_threePlaces.f
  have := impl_threePlaces_l0 a0 n s hz h0 h0' 3 0 [] rfl rfl
  exact this
end Go.Proofs.YthkcgimnagpmaaaQ
namespace Go.Proofs.YthkcgimnagpmaaaQ
open Go Go.RowKit Go.Proofs.YthkcgimnagpmaaaW.PrintWords Go.Proofs.YthkcgimnagpmaaaGp Go.Proofs.Ythkcgimnagpmaaa.PP

theorem spec_in (n a b : Int) : spec_l1In.f n a b = some (decide (a ≤ n ∧ n ≤ b)) := by
  unfold spec_l1In.f
  by_cases h : a ≤ n <;> by_cases h' : n ≤ b <;> simp [h, h']
theorem impl_in (n a b : Int) : impl_in.f n a b = some (decide (a ≤ n ∧ n ≤ b)) := by
  unfold impl_in.f
  by_cases h : a ≤ n <;> by_cases h' : n ≤ b <;> simp [h, h']

def byteOk (c : UInt8) : Bool := decide (33 ≤ (c.toNat : Int) ∧ (c.toNat : Int) ≤ 125)
def isKeyB (s : ByteArray) : Bool := s.data.toList.all byteOk && decide (1 ≤ (s.size : Int) ∧ (s.size : Int) ≤ 12)
theorem spec_IsKey_l0 (x0 : ByteArray) (hz : (x0.size : Int) ≤ 9223372036854775806) : ∀ (t pre : List UInt8), x0.data.toList = pre ++ t →
    Ev (fun k => spec_IsKey.l0 k x0 (pre.length : Int)) (t.all byteOk && decide (1 ≤ (x0.size : Int) ∧ (x0.size : Int) ≤ 12)) := by
  intro t
  induction t with
  | nil =>
    intro pre h
    refine ev_succ ?_
    simp only [spec_IsKey.l0, spec_in, Option.bind_some]
    exact ev_neg (not_lt_size h) (ev_some (by simp))
  | cons c t ih =>
    intro pre h
    have hm := lt_size h
    refine ev_succ ?_
    simp only [spec_IsKey.l0, bt_mid h]
    refine ev_pos hm (ev_pos (by omega) ?_)
    by_cases c1 : (c.toNat : Int) < 33
    · exact ev_pos c1 (ev_some (by simp [byteOk]; omega))
    · refine ev_neg c1 ?_
      by_cases c2 : (c.toNat : Int) > 125
      · exact ev_pos c2 (ev_some (by simp [byteOk]; omega))
      · refine ev_neg c2 ?_
        rw [winc (by omega)]
        have := ih (pre ++ [c]) (by rw [h]; simp)
        rw [len_one] at this
        have hb : byteOk c = true := by simp [byteOk]; omega
        simpa [hb] using this
theorem spec_IsKey_f (s : ByteArray) (hz : (s.size : Int) ≤ 9223372036854775806) : Ev (fun k => spec_IsKey.f k s) (isKeyB s) := by
  unfold spec_IsKey.f
  exact spec_IsKey_l0 s hz s.data.toList [] rfl
theorem impl_IsKey_l0 (x0 : ByteArray) (hz : (x0.size : Int) ≤ 9223372036854775806) : ∀ (t pre : List UInt8), x0.data.toList = pre ++ t →
    Ev (fun k => impl_IsKey.l0 k x0 (x0.size : Int) (pre.length : Int)) (t.all byteOk && decide (1 ≤ (x0.size : Int) ∧ (x0.size : Int) ≤ 12)) := by
  intro t
  induction t with
  | nil =>
    intro pre h
    refine ev_succ ?_
    simp only [impl_IsKey.l0, impl_in, Option.bind_some]
    exact ev_neg (not_lt_size h) (ev_some (by simp))
  | cons c t ih =>
    intro pre h
    have hm := lt_size h
    refine ev_succ ?_
    simp only [impl_IsKey.l0, bt_mid h]
    refine ev_pos hm (ev_pos (by omega) (ev_pos hm ?_))
    by_cases c1 : (c.toNat : Int) < 33
    · exact ev_pos c1 (ev_some (by simp [byteOk]; omega))
    · refine ev_neg c1 ?_
      by_cases c2 : (c.toNat : Int) > 125
      · exact ev_pos c2 (ev_some (by simp [byteOk]; omega))
      · refine ev_neg c2 ?_
        rw [winc (by omega)]
        have := ih (pre ++ [c]) (by rw [h]; simp)
        rw [len_one] at this
        have hb : byteOk c = true := by simp [byteOk]; omega
        simpa [hb] using this
theorem impl_IsKey_f (s : ByteArray) (hz : (s.size : Int) ≤ 9223372036854775806) : Ev (fun k => impl_IsKey.f k s) (isKeyB s) := by
  unfold impl_IsKey.f
  exact impl_IsKey_l0 s hz s.data.toList [] rfl
theorem isKeyB_size {s : ByteArray} (h : isKeyB s = true) : 1 ≤ s.size ∧ s.size ≤ 12 := by
  simp [isKeyB] at h
  omega

def keysFrom : Option ByteArray → List ByteArray → Bool
  | _, [] => true
  | p, s :: t => isKeyB s && (match p with | none => true | some q => lessS q s) && keysFrom (some s) t
def areKeysB (l : List ByteArray) : Bool := keysFrom none l && decide ((l.length : Int) ≤ 40)
def lastOf (pre : List ByteArray) : Option ByteArray := pre.getLast?
theorem lastOf_one (pre : List ByteArray) (s : ByteArray) : lastOf (pre ++ [s]) = some s := by simp [lastOf]
theorem lastOf_nil : lastOf [] = none := rfl
theorem last_split {pre : List ByteArray} (h : 0 < pre.length) : ∃ q p, pre = q ++ [p] := by
  obtain ⟨x, hx⟩ : ∃ x, pre.getLast? = some x := by
    cases hp : pre.getLast? with
    | none => rw [List.getLast?_eq_none_iff] at hp; subst hp; simp at h
    | some x => exact ⟨x, rfl⟩
  obtain ⟨q, hq⟩ := List.getLast?_eq_some_iff.1 hx
  exact ⟨q, x, hq⟩

theorem spec_biKeys_l0 (x0 : List ByteArray) (hl : (x0.length : Int) ≤ 9223372036854775806) : ∀ (t pre : List ByteArray), x0 = pre ++ t → (∀ s ∈ t, (s.size : Int) ≤ 9223372036854775806) →
    Ev (fun k => spec_biKeys.l0 k x0 x0 (x0.length : Int) (pre.length : Int)) (keysFrom (lastOf pre) t && decide ((x0.length : Int) ≤ 40)) := by
  intro t
  induction t with
  | nil =>
    intro pre h hs
    refine ev_succ ?_
    simp only [spec_biKeys.l0]
    exact ev_neg (by rw [h]; exact not_lt_end) (ev_some (by simp [keysFrom]))
  | cons s t ih =>
    intro pre h hs
    have hm : ((pre.length : Nat) : Int) < (x0.length : Int) := by rw [h]; exact lt_mid
    have hg : rdOf ByteArray.empty x0 (pre.length : Int) = s := by rw [h]; exact rdOf_mid
    have next := ih (pre ++ [s]) (by rw [h]; simp) (fun x hx => hs x (by simp [hx]))
    rw [len_one, lastOf_one] at next
    refine ev_succ ?_
    simp only [spec_biKeys.l0, hg]
    refine ev_pos hm (ev_pos (by omega) (ev_pos hm (ev_bind _ (spec_IsKey_f s (hs s (by simp))) ?_)))
    cases hk : isKeyB s with
    | false => exact ev_neg (by simp) (ev_some (by simp [keysFrom, hk]))
    | true =>
      refine ev_pos rfl ?_
      by_cases c : 0 < pre.length
      · obtain ⟨q, p, rfl⟩ := last_split c
        have hp : rdOf ByteArray.empty x0 ((q.length : Nat) : Int) = p := by rw [h]; exact rdOf_last
        have hw : wrap64 (((q ++ [p]).length : Int) - 1) = (q.length : Int) := by rw [len_one]; exact wdec (by simp at hm; omega)
        simp only [hw, hp, lastOf_one, keysFrom, hk, Bool.true_and]
        refine ev_pos (by omega) (ev_pos (by omega) (ev_pos (by simp at hm; omega) ?_))
        by_cases c2 : lessS p s = true
        · refine ev_pos c2 ?_
          rw [winc (by omega), c2, Bool.true_and]
          exact next
        · refine ev_neg c2 (ev_some ?_)
          simp only [Bool.not_eq_true] at c2
          simp [c2]
      · obtain rfl := List.length_eq_zero_iff.1 (show pre.length = 0 by omega)
        refine ev_neg (by simp) ?_
        rw [winc (by omega)]
        simp only [lastOf_nil, keysFrom, hk, Bool.true_and]
        exact next
theorem spec_biKeys_f (l : List ByteArray) (hl : (l.length : Int) ≤ 9223372036854775806) (hs : ∀ s ∈ l, (s.size : Int) ≤ 9223372036854775806) : Ev (fun k => spec_biKeys.f k l) (areKeysB l) := by
  unfold spec_biKeys.f
  exact spec_biKeys_l0 l hl l [] rfl hs
theorem impl_AreKeys_l0 (x0 : List ByteArray) (hl : (x0.length : Int) ≤ 9223372036854775806) : ∀ (t pre : List ByteArray), x0 = pre ++ t → (∀ s ∈ t, (s.size : Int) ≤ 9223372036854775806) →
    Ev (fun k => impl_AreKeys.l0 k x0 x0 (x0.length : Int) (pre.length : Int)) (keysFrom (lastOf pre) t && decide ((x0.length : Int) ≤ 40)) := by
  intro t
  induction t with
  | nil =>
    intro pre h hs
    refine ev_succ ?_
    simp only [impl_AreKeys.l0]
    exact ev_neg (by rw [h]; exact not_lt_end) (ev_some (by simp [keysFrom]))
  | cons s t ih =>
    intro pre h hs
    have hm : ((pre.length : Nat) : Int) < (x0.length : Int) := by rw [h]; exact lt_mid
    have hg : rdOf ByteArray.empty x0 (pre.length : Int) = s := by rw [h]; exact rdOf_mid
    have next := ih (pre ++ [s]) (by rw [h]; simp) (fun x hx => hs x (by simp [hx]))
    rw [len_one, lastOf_one] at next
    refine ev_succ ?_
    simp only [impl_AreKeys.l0, hg]
    refine ev_pos hm (ev_pos (by omega) (ev_pos hm (ev_bind _ (impl_IsKey_f s (hs s (by simp))) ?_)))
    cases hk : isKeyB s with
    | false => exact ev_neg (by simp) (ev_some (by simp [keysFrom, hk]))
    | true =>
      refine ev_pos rfl ?_
      by_cases c : 0 < pre.length
      · obtain ⟨q, p, rfl⟩ := last_split c
        have hp : rdOf ByteArray.empty x0 ((q.length : Nat) : Int) = p := by rw [h]; exact rdOf_last
        have hw : wrap64 (((q ++ [p]).length : Int) - 1) = (q.length : Int) := by rw [len_one]; exact wdec (by simp at hm; omega)
        simp only [hw, hp, lastOf_one, keysFrom, hk, Bool.true_and]
        refine ev_pos (by omega) (ev_pos (by omega) (ev_pos (by simp at hm; omega) ?_))
        by_cases c2 : lessS p s = true
        · refine ev_pos c2 ?_
          rw [winc (by omega), c2, Bool.true_and]
          exact next
        · refine ev_neg c2 (ev_some ?_)
          simp only [Bool.not_eq_true] at c2
          simp [c2]
      · obtain rfl := List.length_eq_zero_iff.1 (show pre.length = 0 by omega)
        refine ev_neg (by simp) ?_
        rw [winc (by omega)]
        simp only [lastOf_nil, keysFrom, hk, Bool.true_and]
        exact next
theorem impl_AreKeys_f (l : List ByteArray) (hl : (l.length : Int) ≤ 9223372036854775806) (hs : ∀ s ∈ l, (s.size : Int) ≤ 9223372036854775806) : Ev (fun k => impl_AreKeys.f k l) (areKeysB l) := by
  unfold impl_AreKeys.f
  exact impl_AreKeys_l0 l hl l [] rfl hs
theorem areKeysB_len {l : List ByteArray} (h : areKeysB l = true) : l.length ≤ 40 := by
  simp [areKeysB] at h
  omega
theorem keysFrom_all : ∀ (p : Option ByteArray) (l : List ByteArray), keysFrom p l = true → ∀ s ∈ l, isKeyB s = true
  | _, [], _, s, h => by simp at h
  | p, x :: t, hk, s, h => by
    simp only [keysFrom, Bool.and_eq_true] at hk
    rcases List.mem_cons.1 h with rfl | h
    · exact hk.1.1
    · exact keysFrom_all _ t hk.2 s h
theorem areKeysB_all {l : List ByteArray} (h : areKeysB l = true) : ∀ s ∈ l, isKeyB s = true := by
  simp only [areKeysB, Bool.and_eq_true] at h
  exact keysFrom_all _ _ h.1
end Go.Proofs.YthkcgimnagpmaaaQ
namespace Go.Proofs.YthkcgimnagpmaaaQ
open Go Go.RowKit Go.Proofs.YthkcgimnagpmaaaW.PrintWords Go.Proofs.YthkcgimnagpmaaaGp Go.Proofs.Ythkcgimnagpmaaa.PP

structure Bys (s : List Int) : Prop where
  len : (s.length : Int) ≤ 1048576
  all : ∀ x ∈ s, 0 ≤ x ∧ x ≤ 255
def Dr {α : Type} (g : Nat → Option (α × Int × Int)) (p c : Int) (P : α → Prop) : Prop := ∃ v p' sd', Ev g (v, p', sd') ∧ P v ∧ 0 ≤ p' ∧ p' ≤ p + c
def Kys (m : Nat) (l : List ByteArray) : Prop := l.length ≤ m ∧ ∀ s ∈ l, s.size ≤ 13
theorem Kys.one {m : Nat} {l : List ByteArray} (h : Kys m l) {s : ByteArray} (hs : s.size ≤ 13) : Kys (m + 1) (l ++ [s]) :=
  ⟨by have := h.1; simp; omega, fun x hx => by exact (List.mem_append.1 hx).elim (h.2 x) (fun e => List.mem_singleton.1 e ▸ hs)⟩
theorem Kys.mono {m m' : Nat} {l : List ByteArray} (h : Kys m l) (hm : m ≤ m') : Kys m' l := ⟨Nat.le_trans h.1 hm, h.2⟩
end Go.Proofs.YthkcgimnagpmaaaQ
namespace Go.Proofs.YthkcgimnagpmaaaQ
open Go Go.RowKit Go.Proofs.YthkcgimnagpmaaaW.PrintWords Go.Proofs.YthkcgimnagpmaaaGp Go.Proofs.Ythkcgimnagpmaaa.PP

theorem Dr.mono {α : Type} {g : Nat → Option (α × Int × Int)} {p c c' : Int} {P P' : α → Prop} (h : Dr g p c P) (hc : c ≤ c') (hP : ∀ x, P x → P' x) : Dr g p c' P' := by
  obtain ⟨v, p', sd', e, hv, q0, q1⟩ := h
  exact ⟨v, p', sd', e, hP v hv, q0, by omega⟩
end Go.Proofs.YthkcgimnagpmaaaQ
namespace Go.Proofs.YthkcgimnagpmaaaQ
open Go Go.RowKit Go.Proofs.YthkcgimnagpmaaaW.PrintWords Go.Proofs.YthkcgimnagpmaaaGp Go.Proofs.Ythkcgimnagpmaaa.PP

def isEdgeB (P : Int) (e : List Int) : Bool := decide (e.length = 3) && decide (0 ≤ rd e 0) && decide (rd e 0 < rd e 1) && decide (rd e 1 < rd e 2) && decide (rd e 2 < P)
def goodB (P : Int) (E : Edges) : Bool := decide (1 ≤ P ∧ P ≤ 72) && decide (E.length ≤ 40) && E.all (isEdgeB P)
theorem isEdgeB_ok {P : Int} {e : List Int} (h : isEdgeB P e = true) : e.length ≤ 3 ∧ ∀ p ∈ e, 0 ≤ p ∧ p < P := by
  unfold isEdgeB at h
  simp only [Bool.and_eq_true, decide_eq_true_eq] at h
  obtain ⟨⟨⟨⟨h1, h2⟩, h3⟩, h4⟩, h5⟩ := h
  match e, h1 with
  | [a, b, c], _ =>
    simp only [rd] at h2 h3 h4 h5
    change 0 ≤ a at h2
    change a < b at h3
    change b < c at h4
    change c < P at h5
    refine ⟨by simp, fun p hp => ?_⟩
    simp only [List.mem_cons, List.not_mem_nil, or_false] at hp
    omega
theorem goodB_ok {P : Int} {E : Edges} (h : goodB P E = true) : GoodH P.toNat E ∧ (P.toNat : Int) = P ∧ E.length ≤ 40 ∧ P ≤ 72 := by
  unfold goodB at h
  simp only [Bool.and_eq_true, decide_eq_true_eq, List.all_eq_true] at h
  obtain ⟨⟨h1, h2⟩, h3⟩ := h
  refine ⟨⟨fun e he p hp => ?_, by omega, fun e he => (isEdgeB_ok (h3 e he)).1, by omega⟩, by omega, h2, h1.2⟩
  have := (isEdgeB_ok (h3 e he)).2 p hp
  omega
def hypE (a0 n : Int) (l : List ByteArray) : Edges := l.map fun s => tripL a0 s n 3 0
theorem hypE_len (a0 n : Int) (l : List ByteArray) : (hypE a0 n l).length = l.length := by simp [hypE]
theorem hypE_app (a0 n : Int) (l : List ByteArray) (s : ByteArray) : hypE a0 n (l ++ [s]) = hypE a0 n l ++ [tripL a0 s n 3 0] := by simp [hypE]
theorem impl_hyper_l0 {a0 n : Int} (h0 : 0 ≤ a0) (h0' : a0 ≤ 1000000) (q : Int) {x0 : List ByteArray} (hx : x0.length ≤ 1000) (hz : ∀ s ∈ x0, s.size ≤ 1000) : ∀ (t pre : List ByteArray), x0 = pre ++ t →
    Ev (fun k => impl_hyper.l0 k a0 n x0 (x0.length : Int) (pre.length : Int) q (hypE a0 n pre)) (q, hypE a0 n x0) := by
  intro t
  induction t with
  | nil =>
    intro pre h
    have hp : x0 = pre := by rw [h, List.append_nil]
    subst hp
    refine ev_succ ?_
    simp only [impl_hyper.l0]
    exact ev_neg (by omega) (Ev.now _)
  | cons x t ih =>
    intro pre h
    have hm : ((pre.length : Nat) : Int) < (x0.length : Int) := by rw [h]; exact lt_mid
    have hg : rdOf ByteArray.empty x0 (pre.length : Int) = x := by rw [h]; exact rdOf_mid
    have hxs := hz x (by rw [h]; simp)
    refine ev_succ ?_
    simp only [impl_hyper.l0, hg]
    refine ev_pos hm (ev_pos (by omega) (ev_pos hm (ev_bind _ (impl_threePlaces_f a0 n x (by omega) h0 h0') (ev_pos (by rw [hypE_len]; omega) ?_))))
    rw [winc (by omega), ← hypE_app]
    have := ih (pre ++ [x]) (by rw [h]; simp)
    rw [len_one] at this
    exact this
theorem impl_hyper_f {a0 n : Int} (h0 : 0 ≤ a0) (h0' : a0 ≤ 1000000) (hn : 0 ≤ n) (hn' : n ≤ 1000) {x0 : List ByteArray} (hx : x0.length ≤ 1000) (hz : ∀ s ∈ x0, s.size ≤ 1000) : Ev (fun k => impl_hyper.f k a0 x0 n) (3 * n, hypE a0 n x0) := by
  unfold impl_hyper.f
  rw [w64 (by omega) (by omega)]
  exact impl_hyper_l0 h0 h0' (3 * n) hx hz x0 [] rfl
theorem spec_peHyper_l0 {a0 n : Int} (h0 : 0 ≤ a0) (h0' : a0 ≤ 1000000) (q : Int) {x0 : List ByteArray} (hx : x0.length ≤ 1000) (hz : ∀ s ∈ x0, s.size ≤ 1000) : ∀ (t pre : List ByteArray), x0 = pre ++ t →
    Ev (fun k => spec_peHyper.l0 k a0 n x0 (x0.length : Int) (pre.length : Int) q (hypE a0 n pre)) (q, hypE a0 n x0) := by
  intro t
  induction t with
  | nil =>
    intro pre h
    have hp : x0 = pre := by rw [h, List.append_nil]
    subst hp
    refine ev_succ ?_
    simp only [spec_peHyper.l0]
    exact ev_neg (by omega) (Ev.now _)
  | cons x t ih =>
    intro pre h
    have hm : ((pre.length : Nat) : Int) < (x0.length : Int) := by rw [h]; exact lt_mid
    have hg : rdOf ByteArray.empty x0 (pre.length : Int) = x := by rw [h]; exact rdOf_mid
    have hxs := hz x (by rw [h]; simp)
    refine ev_succ ?_
    simp only [spec_peHyper.l0, hg]
    refine ev_pos hm (ev_pos (by omega) (ev_pos hm (ev_bind _ (spec_peTriple_f a0 n x (by omega) h0 h0') (ev_pos (by rw [hypE_len]; omega) ?_))))
    rw [winc (by omega), ← hypE_app]
    have := ih (pre ++ [x]) (by rw [h]; simp)
    rw [len_one] at this
    exact this
theorem spec_peHyper_f {a0 n : Int} (h0 : 0 ≤ a0) (h0' : a0 ≤ 1000000) (hn : 0 ≤ n) (hn' : n ≤ 1000) {x0 : List ByteArray} (hx : x0.length ≤ 1000) (hz : ∀ s ∈ x0, s.size ≤ 1000) : Ev (fun k => spec_peHyper.f k a0 x0 n) (3 * n, hypE a0 n x0) := by
  unfold spec_peHyper.f
  rw [w64 (by omega) (by omega)]
  exact spec_peHyper_l0 h0 h0' (3 * n) hx hz x0 [] rfl
theorem trip_edge (a0 : Int) (s : ByteArray) {n : Int} (h0 : 1 ≤ n) (h1 : n ≤ 24) : isEdgeB (3 * n) (tripL a0 s n 3 0) = true := by
  have r0 := placeV_range a0 ((0 : Nat) : Int) s h0 (by omega)
  have r1 := placeV_range a0 ((0 + 1 : Nat) : Int) s h0 (by omega)
  have r2 := placeV_range a0 ((0 + 1 + 1 : Nat) : Int) s h0 (by omega)
  have e0 : wrap64 (placeV a0 ((0 : Nat) : Int) s n + wrap64 (((0 : Nat) : Int) * n)) = placeV a0 ((0 : Nat) : Int) s n := by
    rw [w64 (x := ((0 : Nat) : Int) * n) (by omega) (by omega), w64 (by omega) (by omega)]; omega
  have e1 : wrap64 (placeV a0 ((0 + 1 : Nat) : Int) s n + wrap64 (((0 + 1 : Nat) : Int) * n)) = placeV a0 ((0 + 1 : Nat) : Int) s n + n := by
    rw [w64 (x := ((0 + 1 : Nat) : Int) * n) (by omega) (by omega), w64 (by omega) (by omega)]; omega
  have e2 : wrap64 (placeV a0 ((0 + 1 + 1 : Nat) : Int) s n + wrap64 (((0 + 1 + 1 : Nat) : Int) * n)) = placeV a0 ((0 + 1 + 1 : Nat) : Int) s n + 2 * n := by
    rw [w64 (x := ((0 + 1 + 1 : Nat) : Int) * n) (by omega) (by omega), w64 (by omega) (by omega)]; omega
  have et : tripL a0 s n 3 0 = [placeV a0 ((0 : Nat) : Int) s n, placeV a0 ((0 + 1 : Nat) : Int) s n + n, placeV a0 ((0 + 1 + 1 : Nat) : Int) s n + 2 * n] := by
    simp only [tripL]
    rw [e0, e1, e2]
  rw [et]
  generalize placeV a0 ((0 : Nat) : Int) s n = x0 at r0
  generalize placeV a0 ((0 + 1 : Nat) : Int) s n = x1 at r1
  generalize placeV a0 ((0 + 1 + 1 : Nat) : Int) s n = x2 at r2
  unfold isEdgeB
  simp only [Bool.and_eq_true, decide_eq_true_eq]
  refine ⟨⟨⟨⟨rfl, ?_⟩, ?_⟩, ?_⟩, ?_⟩
  · exact r0.1
  · show x0 < x1 + n; omega
  · show x1 + n < x2 + 2 * n; omega
  · show x2 + 2 * n < 3 * n; omega
theorem hyp_good (a0 : Int) {n : Int} (h0 : 1 ≤ n) (h1 : n ≤ 24) {l : List ByteArray} (hl : l.length ≤ 40) : goodB (3 * n) (hypE a0 n l) = true := by
  unfold goodB
  simp only [Bool.and_eq_true, decide_eq_true_eq, List.all_eq_true]
  refine ⟨⟨by omega, by rw [hypE_len]; exact hl⟩, fun e he => ?_⟩
  simp only [hypE, List.mem_map] at he
  obtain ⟨s, _, rfl⟩ := he
  exact trip_edge a0 s h0 h1
theorem impl_order_f {P : Int} {E : Edges} (h : goodB P E = true) : Ev (fun k => impl_Hyper_order.f k P E) (stepsL (peelAll P.toNat E).1, (coreE P.toNat E).length == 0) := by
  obtain ⟨hG, hP, _, _⟩ := goodB_ok h
  have := impl_peel_f hG
  rw [hP] at this
  unfold impl_Hyper_order.f
  refine ev_bind _ this (ev_some ?_)
  rw [castL_len]
  congr 1
  rw [Bool.eq_iff_iff, beq_iff_eq, beq_iff_eq]
  omega
theorem impl_segmentOk_f (n : Int) : impl_segmentOk.f n = some (decide (1 ≤ n ∧ n ≤ 24)) := by
  unfold impl_segmentOk.f
  rw [impl_in]; rfl
theorem impl_isSeedP_f (n : Int) : impl_isSeed.f n = some (decide (0 ≤ n ∧ n ≤ 9999)) := by
  unfold impl_isSeed.f
  rw [impl_in]; rfl
theorem keys_small {l : List ByteArray} (h : areKeysB l = true) : l.length ≤ 40 ∧ ∀ s ∈ l, s.size ≤ 1000 :=
  ⟨areKeysB_len h, fun s hs => by have := isKeyB_size (areKeysB_all h s hs); omega⟩
def keyedB (a0 : Int) (l : List ByteArray) (n : Int) : Bool := decide (0 ≤ a0 ∧ a0 ≤ 9999) && areKeysB l && decide (1 ≤ n ∧ n ≤ 24)
theorem spec_peKeyed_f (a0 n : Int) {l : List ByteArray} (hl : l.length ≤ 1000) (hz : ∀ s ∈ l, s.size ≤ 1000) : Ev (fun k => spec_peKeyed.f k a0 l n) (keyedB a0 l n) := by
  unfold spec_peKeyed.f keyedB
  rw [spec_in, spec_in]
  refine ev_bind _ (Ev.now _) ?_
  by_cases c : 0 ≤ a0 ∧ a0 ≤ 9999
  · rw [decide_eq_true c]
    refine ev_pos rfl (ev_bind _ (spec_biKeys_f l (by omega) (fun s hs => by have := hz s hs; omega)) ?_)
    by_cases d : areKeysB l = true
    · rw [d]; exact ev_pos rfl (ev_bind _ (Ev.now _) (ev_some (by simp)))
    · rw [Bool.eq_false_iff.2 d]; exact ev_neg (by simp) (ev_some (by simp))
  · rw [decide_eq_false c]
    exact ev_neg (by simp) (ev_some (by simp))
end Go.Proofs.YthkcgimnagpmaaaQ
namespace Go.Proofs.YthkcgimnagpmaaaQ
open Go Go.RowKit Go.Proofs.YthkcgimnagpmaaaW.PrintWords Go.Proofs.YthkcgimnagpmaaaGp Go.Proofs.Ythkcgimnagpmaaa.PP

theorem rd_edge (E : Edges) (i : Nat) : rd_L2 E (i : Int) = edg E i := by
  unfold rd_L2 edg
  rw [Int.toNat_natCast]
theorem rd_step (xs : List (Nat × Int)) {n : Nat} (h : n < xs.length) : rd_T51 (stepsL xs) (n : Int) = mkS51 xs[n] := by
  unfold rd_T51 stepsL
  rw [Int.toNat_natCast, List.getD_eq_getElem?_getD, List.getElem?_eq_getElem (by simpa using h)]
  simp
end Go.Proofs.YthkcgimnagpmaaaQ
namespace Go.Proofs.YthkcgimnagpmaaaQ
open Go Go.RowKit Go.Proofs.YthkcgimnagpmaaaW.PrintWords

def StepsOk (E : Edges) : List Nat → List (Nat × Int) → Prop
  | _, [] => True
  | L, (i, p) :: t => i ∈ L ∧ p ∈ edg E i ∧ degOf E L p = 1 ∧ StepsOk E (dropE L i) t
theorem peelC_ok {P : Nat} {E : Edges} : ∀ (cs L : List Nat), StepsOk E L (peelC P E cs L).1
  | [], L => by simp [peelC, StepsOk]
  | c :: cs, L => by
    cases hs : stepE P E L c with
    | none => rw [peelC, hs]; simp [StepsOk]
    | some x =>
      obtain ⟨i, p⟩ := x
      rw [peelC_cons_some cs hs]
      obtain ⟨_, h2, h3⟩ := stepE_some hs
      obtain ⟨h4, h5⟩ := withE_some h3
      exact ⟨h4, h5, h2, peelC_ok cs _⟩
theorem steps_later {E : Edges} : ∀ {L : List Nat} {t : List (Nat × Int)}, StepsOk E L t → ∀ s ∈ t, s.1 ∈ L ∧ s.2 ∈ edg E s.1
  | _, [], _, s, h => by cases h
  | L, (i, p) :: t, ⟨h1, h2, _, h4⟩, s, h => by
    rcases List.mem_cons.1 h with rfl | h
    · exact ⟨h1, h2⟩
    · obtain ⟨a, b⟩ := steps_later h4 s h
      exact ⟨(mem_dropE.1 a).1, b⟩
theorem steps_apart {E : Edges} {L : List Nat} {i : Nat} {p : Int} {t : List (Nat × Int)} (h : StepsOk E L ((i, p) :: t)) : ∀ s ∈ t, s.1 ≠ i ∧ p ∉ edg E s.1 ∧ s.2 ≠ p := fun s hs => by
  obtain ⟨h1, h2, h3, h4⟩ := h
  obtain ⟨a, b⟩ := steps_later h4 s hs
  obtain ⟨a1, a2⟩ := mem_dropE.1 a
  have hp : p ∉ edg E s.1 := fun hp => by have := degOf_two h1 a1 (Ne.symm a2) h2 hp; omega
  exact ⟨a2, hp, fun e => hp (e ▸ b)⟩
def fillB (v : List Int → Nat × Int → Int) (xs : List (Nat × Int)) (m : List Int) : List Int := xs.foldr (fun s m => m.set s.2.toNat (v m s)) m
theorem fillB_cons (v : List Int → Nat × Int → Int) (s : Nat × Int) (t : List (Nat × Int)) (m : List Int) : fillB v (s :: t) m = (fillB v t m).set s.2.toNat (v (fillB v t m) s) := rfl
theorem fillB_len (v : List Int → Nat × Int → Int) : ∀ (xs : List (Nat × Int)) (m : List Int), (fillB v xs m).length = m.length
  | [], _ => rfl
  | s :: t, m => by rw [fillB_cons, List.length_set, fillB_len v t m]
theorem rd_set_ne {m : List Int} {p q : Int} {x : Int} (h0 : 0 ≤ p) (h1 : 0 ≤ q) (h : p ≠ q) : rd (m.set p.toNat x) q = rd m q := by
  unfold rd
  rw [List.getD_eq_getElem?_getD, List.getD_eq_getElem?_getD, List.getElem?_set_ne (by omega)]
theorem rd_set_eq {m : List Int} {p : Int} {x : Int} (h0 : 0 ≤ p) (h1 : p < (m.length : Int)) : rd (m.set p.toNat x) p = x := by
  unfold rd
  rw [List.getD_eq_getElem?_getD, List.getElem?_set_self (by omega), Option.getD_some]
theorem fillB_other (v : List Int → Nat × Int → Int) {q : Int} (hq : 0 ≤ q) : ∀ (xs : List (Nat × Int)) (m : List Int), (∀ s ∈ xs, 0 ≤ s.2 ∧ s.2 ≠ q) → rd (fillB v xs m) q = rd m q
  | [], _, _ => rfl
  | s :: t, m, h => by
    rw [fillB_cons, rd_set_ne (h s (by simp)).1 hq (h s (by simp)).2]
    exact fillB_other v hq t m (fun x hx => h x (by simp [hx]))
theorem fillB_good {E : Edges} (v : List Int → Nat × Int → Int) (G : List Int → Nat → Prop) (m0 : List Int)
    (hE : ∀ i, ∀ p ∈ edg E i, 0 ≤ p ∧ p < (m0.length : Int))
    (hG : ∀ (m m' : List Int) (i : Nat), (∀ p ∈ edg E i, rd m p = rd m' p) → G m i → G m' i)
    (R : List Int → Prop) (hR0 : R m0)
    (hv : ∀ (m : List Int) (s : Nat × Int), m.length = m0.length → R m → s.2 ∈ edg E s.1 → rd m s.2 = rd m0 s.2 → R (m.set s.2.toNat (v m s)) ∧ G (m.set s.2.toNat (v m s)) s.1) :
    ∀ (xs : List (Nat × Int)) (L : List Nat), StepsOk E L xs → R (fillB v xs m0) ∧ ∀ s ∈ xs, G (fillB v xs m0) s.1
  | [], _, _ => ⟨hR0, by simp⟩
  | (i, p) :: t, L, h => by
    obtain ⟨hR, hs⟩ := fillB_good v G m0 hE hG R hR0 hv t _ h.2.2.2
    have ha := steps_apart h
    have hp := hE i p h.2.1
    have ho : rd (fillB v t m0) p = rd m0 p := fillB_other v hp.1 t m0 (fun s hs => ⟨(hE s.1 s.2 (steps_later h.2.2.2 s hs).2).1, (ha s hs).2.2⟩)
    obtain ⟨r1, r2⟩ := hv (fillB v t m0) (i, p) (fillB_len v t m0) hR h.2.1 ho
    refine ⟨r1, fun s hs' => ?_⟩
    rcases List.mem_cons.1 hs' with rfl | hs'
    · exact r2
    · refine hG _ _ _ (fun q hq => ?_) (hs s hs')
      rw [fillB_cons, rd_set_ne hp.1 (hE s.1 q hq).1 (fun e => (ha s hs').2.1 (e ▸ hq))]
theorem fillB_congr {E : Edges} (v v' : List Int → Nat × Int → Int) (m0 : List Int) (hE : ∀ i, ∀ p ∈ edg E i, 0 ≤ p ∧ p < (m0.length : Int)) (R : List Int → Prop) (hR0 : R m0)
    (hv : ∀ (m : List Int) (s : Nat × Int), m.length = m0.length → R m → s.2 ∈ edg E s.1 → rd m s.2 = rd m0 s.2 → v m s = v' m s ∧ R (m.set s.2.toNat (v m s))) :
    ∀ (xs : List (Nat × Int)) (L : List Nat), StepsOk E L xs → fillB v xs m0 = fillB v' xs m0 ∧ R (fillB v xs m0)
  | [], _, _ => ⟨rfl, hR0⟩
  | (i, p) :: t, L, h => by
    obtain ⟨he, hR⟩ := fillB_congr v v' m0 hE R hR0 hv t _ h.2.2.2
    have ha := steps_apart h
    have hp := hE i p h.2.1
    have ho : rd (fillB v t m0) p = rd m0 p := fillB_other v hp.1 t m0 (fun s hs => ⟨(hE s.1 s.2 (steps_later h.2.2.2 s hs).2).1, (ha s hs).2.2⟩)
    obtain ⟨r1, r2⟩ := hv (fillB v t m0) (i, p) (fillB_len v t m0) hR h.2.1 ho
    rw [fillB_cons, fillB_cons, ← he]
    exact ⟨by rw [← r1], r2⟩
end Go.Proofs.YthkcgimnagpmaaaQ
namespace Go.Proofs.YthkcgimnagpmaaaQ
open Go Go.RowKit Go.Proofs.YthkcgimnagpmaaaW.PrintWords Go.Proofs.YthkcgimnagpmaaaW.PrintMore Go.Proofs.YthkcgimnagpmaaaGp Go.Proofs.Ythkcgimnagpmaaa.PP

theorem trip_form (a0 : Int) (s : ByteArray) {n : Int} (h0 : 1 ≤ n) (h1 : n ≤ 24) : ∃ x y z, tripL a0 s n 3 0 = [x, y, z] ∧ 0 ≤ x ∧ x < y ∧ y < z ∧ z < 3 * n := by
  have h := trip_edge a0 s h0 h1
  unfold isEdgeB at h
  simp only [Bool.and_eq_true, decide_eq_true_eq] at h
  obtain ⟨⟨⟨⟨g1, g2⟩, g3⟩, g4⟩, g5⟩ := h
  match e : tripL a0 s n 3 0, g1 with
  | [a, b, c], _ =>
    rw [e] at g2 g3 g4 g5
    exact ⟨a, b, c, rfl, g2, g3, g4, g5⟩
theorem hyp_edge (a0 : Int) {n : Int} (h0 : 1 ≤ n) (h1 : n ≤ 24) {l : List ByteArray} {i : Nat} (hi : i < l.length) : ∃ x y z, edg (hypE a0 n l) i = [x, y, z] ∧ edg (hypE a0 n l) i = tripL a0 l[i] n 3 0 ∧ 0 ≤ x ∧ x < y ∧ y < z ∧ z < 3 * n := by
  have e : edg (hypE a0 n l) i = tripL a0 l[i] n 3 0 := by
    unfold edg hypE
    rw [List.getD_eq_getElem?_getD, List.getElem?_map, List.getElem?_eq_getElem hi]
    rfl
  obtain ⟨x, y, z, e2, g⟩ := trip_form a0 l[i] h0 h1
  exact ⟨x, y, z, e.trans e2, e, g⟩
def InR (lo hi : Int) (m : List Int) : Prop := ∀ p, 0 ≤ p → p < (m.length : Int) → lo ≤ rd m p ∧ rd m p ≤ hi
theorem InR.set {lo hi : Int} {m : List Int} (h : InR lo hi m) {p v : Int} (hp : 0 ≤ p) (hv : lo ≤ v ∧ v ≤ hi) : InR lo hi (m.set p.toNat v) := fun q h0 h1 => by
  rw [List.length_set] at h1
  by_cases e : p = q
  · subst e; rw [rd_set_eq hp h1]; exact hv
  · rw [rd_set_ne hp h0 e]; exact h q h0 h1
theorem InR.rep {lo hi v : Int} (n : Nat) (hv : lo ≤ v ∧ v ≤ hi) : InR lo hi (List.replicate n v) := fun p h0 h1 => by
  rw [List.length_replicate] at h1
  have : rd (List.replicate n v) p = v := by
    unfold rd
    rw [List.getD_eq_getElem?_getD, List.getElem?_replicate, if_pos (by omega)]
    rfl
  rw [this]; exact hv
theorem rd_rep {v : Int} {n : Nat} {p : Int} (h0 : 0 ≤ p) (h1 : p < (n : Int)) : rd (List.replicate n v) p = v := by
  unfold rd
  rw [List.getD_eq_getElem?_getD, List.getElem?_replicate, if_pos (by omega)]
  rfl
theorem set_same {m : List Int} {p v : Int} (h0 : 0 ≤ p) (_ : p < (m.length : Int)) (h : rd m p = v) : m.set p.toNat v = m := by
  apply List.ext_getElem
  · simp
  · intro i g1 g2
    rw [List.getElem_set]
    split
    · rename_i e
      subst e
      rw [← h]
      have := rd_get g2
      rw [show ((p.toNat : Nat) : Int) = p by omega] at this
      exact this
    · rfl
structure KeySteps (a0 n : Int) (l : List ByteArray) (xs : List (Nat × Int)) : Prop where
  ok : StepsOk (hypE a0 n l) (allE (hypE a0 n l)) xs
  len : xs.length ≤ l.length
  rng : ∀ s ∈ xs, s.1 < l.length ∧ s.2 ∈ edg (hypE a0 n l) s.1
theorem key_steps (a0 n : Int) (l : List ByteArray) : KeySteps a0 n l (peelAll (3 * n).toNat (hypE a0 n l)).1 := by
  have h := peelC_ok (P := (3 * n).toNat) (E := hypE a0 n l) (List.replicate (hypE a0 n l).length 0) (allE (hypE a0 n l))
  have hl := peelC_len (P := (3 * n).toNat) (E := hypE a0 n l) (List.replicate (hypE a0 n l).length 0) (allE (hypE a0 n l)) (allE_nodup _)
  have hal : (allE (hypE a0 n l)).length = l.length := by simp [allE, hypE_len]
  refine ⟨h, by unfold peelAll; omega, fun s hs => ?_⟩
  obtain ⟨h1, h2⟩ := steps_later h s hs
  exact ⟨by simpa [allE, hypE_len] using h1, h2⟩
theorem keyedB_ok {a0 n : Int} {l : List ByteArray} (h : keyedB a0 l n = true) : (0 ≤ a0 ∧ a0 ≤ 9999) ∧ areKeysB l = true ∧ 1 ≤ n ∧ n ≤ 24 := by
  simp only [keyedB, Bool.and_eq_true, decide_eq_true_eq] at h
  exact ⟨h.1.1, h.1.2, h.2⟩
end Go.Proofs.YthkcgimnagpmaaaQ
namespace Go.Proofs.YthkcgimnagpmaaaQ
open Go Go.RowKit Go.Proofs.YthkcgimnagpmaaaW.PrintWords Go.Proofs.YthkcgimnagpmaaaGp Go.Proofs.Ythkcgimnagpmaaa.PP

end Go.Proofs.YthkcgimnagpmaaaQ
namespace Go.Proofs.YthkcgimnagpmaaaQ
open Go Go.RowKit Go.Proofs.YthkcgimnagpmaaaW.PrintWords Go.Proofs.YthkcgimnagpmaaaGp Go.Proofs.Ythkcgimnagpmaaa.PP

end Go.Proofs.YthkcgimnagpmaaaQ
namespace Go.Proofs.YthkcgimnagpmaaaQ
open Go Go.RowKit Go.Proofs.YthkcgimnagpmaaaW.PrintWords Go.Proofs.YthkcgimnagpmaaaGp Go.Proofs.Ythkcgimnagpmaaa.PP

def topV (w : Int) : Int := shl .i64 1 w
def hiV (w : Int) : Int := wrap64 (topV w - 1)
theorem hiV_le {w : Int} (h0 : 1 ≤ w) (h1 : w ≤ 8) : hiV w ≤ 65535 := by
  have : w = 1 ∨ w = 2 ∨ w = 3 ∨ w = 4 ∨ w = 5 ∨ w = 6 ∨ w = 7 ∨ w = 8 := by omega
  rcases this with rfl | rfl | rfl | rfl | rfl | rfl | rfl | rfl <;> simp [hiV, topV, shl, IntKind.wrap, IntKind.bits, IntKind.signed, wrap64]
def allT (hi : Int) (l : List Int) : Bool := l.all (fun x => decide (0 ≤ x ∧ x ≤ hi))
def tableB (a0 n w : Int) (l : List Int) : Bool :=
  decide (0 ≤ a0 ∧ a0 ≤ 9999) && (decide (1 ≤ n ∧ n ≤ 24) && (decide (1 ≤ w ∧ w ≤ 8) && (decide ((l.length : Int) = 3 * n) && allT (hiV w) l)))
end Go.Proofs.YthkcgimnagpmaaaQ
namespace Go.Proofs.YthkcgimnagpmaaaQ
open Go Go.RowKit Go.Proofs.YthkcgimnagpmaaaW.PrintWords Go.Proofs.YthkcgimnagpmaaaGp Go.Proofs.Ythkcgimnagpmaaa.PP

theorem xor_zero {v : Int} (h0 : 0 ≤ v) (h1 : v ≤ 1000000) : Go.bits .xor .i64 0 v = v := by
  have e : Go.bits .xor .i64 0 v = IntKind.i64.wrap (((BitVec.ofInt 64 0 ^^^ BitVec.ofInt 64 v : BitVec 64)).toNat : Int) := by unfold Go.bits; rfl
  have z : (BitVec.ofInt 64 0 ^^^ BitVec.ofInt 64 v : BitVec 64) = BitVec.ofInt 64 v := by
    rw [show (BitVec.ofInt 64 0 : BitVec 64) = 0#64 from rfl, BitVec.zero_xor]
  have n : ((BitVec.ofInt 64 v).toNat : Int) = v := by
    rw [BitVec.toNat_ofInt]
    have : ((2 ^ 64 : Nat) : Int) = 18446744073709551616 := by decide
    rw [this]
    omega
  rw [e, z, n]
  have w : IntKind.i64.wrap v = if v % 18446744073709551616 ≥ 9223372036854775808 then v % 18446744073709551616 - 18446744073709551616 else v % 18446744073709551616 := by
    unfold IntKind.wrap
    simp [IntKind.bits, IntKind.signed]
  rw [w]
  split <;> omega
def xorL (l : List Int) (a : Int) (ps : List Int) : Int := ps.foldl (fun a p => Go.bits .xor .i64 a (rd l p)) a
theorem spec_reValue_l0 (a0 n w : Int) (l : List Int) (x20 : List Int) (hl : (x20.length : Int) ≤ 9223372036854775806) : ∀ (t pre : List Int) (a : Int), x20 = pre ++ t → (∀ p ∈ t, 0 ≤ p ∧ p < (l.length : Int)) →
    Ev (fun k => spec_reValue.l0 k a x20 (x20.length : Int) (pre.length : Int) a0 n w l) (xorL l a t) := by
  intro t
  induction t with
  | nil =>
    intro pre a e hp
    refine ev_succ ?_
    simp only [spec_reValue.l0]
    exact ev_neg (by rw [e]; exact not_lt_end) (ev_some rfl)
  | cons s t ih =>
    intro pre a e hp
    have hm : ((pre.length : Nat) : Int) < (x20.length : Int) := by rw [e]; exact lt_mid
    have hg : rd x20 (pre.length : Int) = s := by rw [e]; exact rd_mid
    obtain ⟨p0, p1⟩ := hp s (by simp)
    refine ev_succ ?_
    simp only [spec_reValue.l0, hg]
    refine ev_pos hm (ev_pos (by omega) (ev_pos hm (ev_pos p0 (ev_pos p1 ?_))))
    rw [winc (by omega)]
    have := ih (pre ++ [s]) (Go.bits .xor .i64 a (rd l s)) (by rw [e]; simp) (fun p h => hp p (by simp [h]))
    rw [len_one] at this
    exact this
section
variable {a0 n w : Int} {l : List Int} (hB : tableB a0 n w l = true) {s : ByteArray} (hz : (s.size : Int) ≤ 9223372036854775806)
include hB hz
end

section
variable (a0 n w : Int) (l : List Int) (ks ts : List ByteArray) (hk : (ks.length : Int) ≤ 9223372036854775806) (hks : ∀ s ∈ ks, (s.size : Int) ≤ 9223372036854775806) (hts : ∀ s ∈ ts, (s.size : Int) ≤ 9223372036854775806) (hl : (l.length : Int) ≤ 9223372036854775806)
include hk hks hts hl
end
end Go.Proofs.YthkcgimnagpmaaaQ
namespace Go.Proofs.YthkcgimnagpmaaaQ
open Go Go.RowKit Go.Proofs.YthkcgimnagpmaaaW.PrintWords Go.Proofs.YthkcgimnagpmaaaW.PrintMore Go.Proofs.YthkcgimnagpmaaaGp Go.Proofs.Ythkcgimnagpmaaa.PP

theorem ofInt_nat {a : Int} (h0 : 0 ≤ a) (h1 : a ≤ 65535) : (BitVec.ofInt 64 a).toNat = a.toNat := by
  have : ((BitVec.ofInt 64 a).toNat : Int) = a := by
    rw [BitVec.toNat_ofInt]
    have : ((2 ^ 64 : Nat) : Int) = 18446744073709551616 := by decide
    rw [this]
    omega
  omega
theorem xorN {a b : Int} (ha : 0 ≤ a) (ha' : a ≤ 65535) (hb : 0 ≤ b) (hb' : b ≤ 65535) : Go.bits .xor .i64 a b = ((a.toNat ^^^ b.toNat : Nat) : Int) := by
  have e : Go.bits .xor .i64 a b = IntKind.i64.wrap (((BitVec.ofInt 64 a ^^^ BitVec.ofInt 64 b : BitVec 64)).toNat : Int) := by unfold Go.bits; rfl
  have hlt : a.toNat ^^^ b.toNat < 2 ^ 16 := Nat.xor_lt_two_pow (by omega) (by omega)
  rw [e, BitVec.toNat_xor, ofInt_nat ha ha', ofInt_nat hb hb']
  generalize a.toNat ^^^ b.toNat = v at *
  have w : IntKind.i64.wrap (v : Int) = if (v : Int) % 18446744073709551616 ≥ 9223372036854775808 then (v : Int) % 18446744073709551616 - 18446744073709551616 else (v : Int) % 18446744073709551616 := by
    unfold IntKind.wrap
    simp [IntKind.bits, IntKind.signed]
  rw [w]
  split <;> omega
theorem hiV_pow {w : Int} (h0 : 1 ≤ w) (h1 : w ≤ 8) : hiV w = ((2 ^ w.toNat : Nat) : Int) - 1 := by
  have : w = 1 ∨ w = 2 ∨ w = 3 ∨ w = 4 ∨ w = 5 ∨ w = 6 ∨ w = 7 ∨ w = 8 := by omega
  rcases this with rfl | rfl | rfl | rfl | rfl | rfl | rfl | rfl <;> simp [hiV, topV, shl, IntKind.wrap, IntKind.bits, IntKind.signed, wrap64]
theorem topV_hi {w : Int} (h0 : 1 ≤ w) (h1 : w ≤ 8) : topV w = hiV w + 1 ∧ 1 ≤ topV w ∧ topV w ≤ 65536 := by
  have : w = 1 ∨ w = 2 ∨ w = 3 ∨ w = 4 ∨ w = 5 ∨ w = 6 ∨ w = 7 ∨ w = 8 := by omega
  rcases this with rfl | rfl | rfl | rfl | rfl | rfl | rfl | rfl <;> simp [hiV, topV, shl, IntKind.wrap, IntKind.bits, IntKind.signed, wrap64]
theorem xor_hi {w a b : Int} (h0 : 1 ≤ w) (h1 : w ≤ 8) (ha : 0 ≤ a ∧ a ≤ hiV w) (hb : 0 ≤ b ∧ b ≤ hiV w) : 0 ≤ Go.bits .xor .i64 a b ∧ Go.bits .xor .i64 a b ≤ hiV w := by
  have hh := hiV_le h0 h1
  have hp := hiV_pow h0 h1
  rw [xorN ha.1 (by omega) hb.1 (by omega)]
  have hlt : a.toNat ^^^ b.toNat < 2 ^ w.toNat := Nat.xor_lt_two_pow (by omega) (by omega)
  omega
theorem xor3 {m : List Int} {x y z : Int} (hx : 0 ≤ rd m x ∧ rd m x ≤ 65535) (hy : 0 ≤ rd m y ∧ rd m y ≤ 65535) (hz : 0 ≤ rd m z ∧ rd m z ≤ 65535) : xorL m 0 [x, y, z] = (((rd m x).toNat ^^^ (rd m y).toNat ^^^ (rd m z).toNat : Nat) : Int) := by
  have h1 : (rd m x).toNat ^^^ (rd m y).toNat < 2 ^ 16 := Nat.xor_lt_two_pow (by omega) (by omega)
  simp only [xorL, List.foldl_cons, List.foldl_nil]
  rw [xor_zero hx.1 (by omega), xorN hx.1 hx.2 hy.1 hy.2, xorN (by omega) (by omega) hz.1 hz.2, Int.toNat_natCast]
theorem nx1 (v b c : Nat) : (v ^^^ (0 ^^^ b ^^^ c)) ^^^ b ^^^ c = v := by
  apply Nat.eq_of_testBit_eq
  intro i
  simp only [Nat.testBit_xor, Nat.zero_testBit]
  cases v.testBit i <;> cases b.testBit i <;> cases c.testBit i <;> rfl
theorem nx2 (v a c : Nat) : a ^^^ (v ^^^ (a ^^^ 0 ^^^ c)) ^^^ c = v := by
  apply Nat.eq_of_testBit_eq
  intro i
  simp only [Nat.testBit_xor, Nat.zero_testBit]
  cases v.testBit i <;> cases a.testBit i <;> cases c.testBit i <;> rfl
theorem nx3 (v a b : Nat) : a ^^^ b ^^^ (v ^^^ (a ^^^ b ^^^ 0)) = v := by
  apply Nat.eq_of_testBit_eq
  intro i
  simp only [Nat.testBit_xor, Nat.zero_testBit]
  cases v.testBit i <;> cases a.testBit i <;> cases b.testBit i <;> rfl
def vX (E : Edges) (V : List Int) (m : List Int) (s : Nat × Int) : Int := Go.bits .xor .i64 (rd V (s.1 : Int)) (xorL m 0 (edg E s.1))
def vI (E : Edges) (V : List Int) (m : List Int) (s : Nat × Int) : Int := Go.bits .xor .i64 (rd V (s.1 : Int)) (impl_TableByPeeling.sum (m.set s.2.toNat 0) (edg E s.1))
section
variable {a0 n w : Int} {l : List ByteArray} {V : List Int}
theorem tbl_step (h0 : 1 ≤ n) (h1 : n ≤ 24) (w0 : 1 ≤ w) (w1 : w ≤ 8) {m : List Int} {s : Nat × Int} (hm : (m.length : Int) = 3 * n) (hR : InR 0 (hiV w) m) (hV : 0 ≤ rd V (s.1 : Int) ∧ rd V (s.1 : Int) ≤ hiV w) (hi : s.1 < l.length) (hp : s.2 ∈ edg (hypE a0 n l) s.1) (hz : rd m s.2 = 0) :
    vI (hypE a0 n l) V m s = vX (hypE a0 n l) V m s ∧ (0 ≤ vX (hypE a0 n l) V m s ∧ vX (hypE a0 n l) V m s ≤ hiV w) ∧
      xorL (m.set s.2.toNat (vX (hypE a0 n l) V m s)) 0 (edg (hypE a0 n l) s.1) = rd V (s.1 : Int) := by
  obtain ⟨x, y, z, e, _, g0, g1, g2, g3⟩ := hyp_edge a0 h0 h1 hi
  rw [e] at hp
  have hh := hiV_le w0 w1
  have hpr : 0 ≤ s.2 ∧ s.2 < (m.length : Int) := by
    simp only [List.mem_cons, List.not_mem_nil, or_false] at hp
    omega
  have b1 := hR x (by omega) (by omega)
  have b2 := hR y (by omega) (by omega)
  have b3 := hR z (by omega) (by omega)
  have e3 := xor3 (m := m) (x := x) (y := y) (z := z) (by omega) (by omega) (by omega)
  have x12 := xor_hi w0 w1 b1 b2
  have hs : impl_TableByPeeling.sum m [x, y, z] = xorL m 0 [x, y, z] := by
    have r0 : rd [x, y, z] 0 = x := rfl
    have r1 : rd [x, y, z] 1 = y := rfl
    have r2 : rd [x, y, z] 2 = z := rfl
    unfold impl_TableByPeeling.sum
    simp only [xorL, List.foldl_cons, List.foldl_nil, r0, r1, r2]
    rw [xor_zero b1.1 (by omega)]
  have hx3 : 0 ≤ xorL m 0 [x, y, z] ∧ xorL m 0 [x, y, z] ≤ hiV w := by
    rw [← hs]
    unfold impl_TableByPeeling.sum
    exact xor_hi w0 w1 x12 b3
  have hv : vX (hypE a0 n l) V m s = Go.bits .xor .i64 (rd V (s.1 : Int)) (xorL m 0 [x, y, z]) := by unfold vX; rw [e]
  have hvr : 0 ≤ vX (hypE a0 n l) V m s ∧ vX (hypE a0 n l) V m s ≤ hiV w := by rw [hv]; exact xor_hi w0 w1 hV hx3
  refine ⟨?_, hvr, ?_⟩
  · unfold vI vX
    rw [e, set_same hpr.1 hpr.2 hz, hs]
  · have hN : vX (hypE a0 n l) V m s = (((rd V (s.1 : Int)).toNat ^^^ ((rd m x).toNat ^^^ (rd m y).toNat ^^^ (rd m z).toNat) : Nat) : Int) := by
      rw [hv, xorN hV.1 (by omega) hx3.1 (by omega), e3, Int.toNat_natCast]
    generalize vX (hypE a0 n l) V m s = v at *
    have hR' : InR 0 (hiV w) (m.set s.2.toNat v) := hR.set hpr.1 hvr
    have hlen : ((m.set s.2.toNat v).length : Int) = 3 * n := by rw [List.length_set]; exact hm
    have c1 := hR' x (by omega) (by omega)
    have c2 := hR' y (by omega) (by omega)
    have c3 := hR' z (by omega) (by omega)
    rw [e, xor3 (by omega) (by omega) (by omega)]
    simp only [List.mem_cons, List.not_mem_nil, or_false] at hp
    rcases hp with h | h | h
    · rw [h] at hz hpr ⊢
      rw [rd_set_eq hpr.1 hpr.2, rd_set_ne hpr.1 (by omega) (by omega), rd_set_ne hpr.1 (by omega) (by omega), hN, hz, Int.toNat_natCast, show (0 : Int).toNat = 0 from rfl, nx1]
      omega
    · rw [h] at hz hpr ⊢
      rw [rd_set_eq hpr.1 hpr.2, rd_set_ne hpr.1 (by omega) (by omega), rd_set_ne hpr.1 (by omega) (by omega), hN, hz, Int.toNat_natCast, show (0 : Int).toNat = 0 from rfl, nx2]
      omega
    · rw [h] at hz hpr ⊢
      rw [rd_set_eq hpr.1 hpr.2, rd_set_ne hpr.1 (by omega) (by omega), rd_set_ne hpr.1 (by omega) (by omega), hN, hz, Int.toNat_natCast, show (0 : Int).toNat = 0 from rfl, nx3]
      omega
def cell0 (n : Int) : List Int := List.replicate (3 * n).toNat 0
def stepsT (a0 n : Int) (l : List ByteArray) : List (Nat × Int) := (peelAll (3 * n).toNat (hypE a0 n l)).1
def cellsV (a0 n : Int) (l : List ByteArray) (V : List Int) : List Int := fillB (vX (hypE a0 n l) V) (stepsT a0 n l) (cell0 n)
theorem cell0_len (h0 : 1 ≤ n) : ((cell0 n).length : Int) = 3 * n := by simp [cell0]; omega
theorem cellsV_len : (cellsV a0 n l V).length = (3 * n).toNat := by rw [cellsV, fillB_len]; simp [cell0]
theorem edgT_lt {i : Nat} {p : Int} (hp : p ∈ edg (hypE a0 n l) i) : i < l.length := by
  by_cases hi : i < l.length
  · exact hi
  · unfold edg at hp
    rw [List.getD_eq_getElem?_getD, List.getElem?_eq_none (by rw [hypE_len]; omega)] at hp
    simp at hp
theorem cellE (h0 : 1 ≤ n) (h1 : n ≤ 24) : ∀ i, ∀ p ∈ edg (hypE a0 n l) i, 0 ≤ p ∧ p < ((cell0 n).length : Int) := fun i p hp => by
  rw [cell0_len h0]
  obtain ⟨x, y, z, e, _, g0, g1, g2, g3⟩ := hyp_edge a0 h0 h1 (edgT_lt hp)
  rw [e] at hp
  simp only [List.mem_cons, List.not_mem_nil, or_false] at hp
  omega
theorem cellZ (h0 : 1 ≤ n) (h1 : n ≤ 24) : ∀ i, ∀ p ∈ edg (hypE a0 n l) i, rd (cell0 n) p = 0 := fun i p hp => by
  obtain ⟨q0, q1⟩ := cellE h0 h1 i p hp
  exact rd_rep q0 (by simpa [cell0] using q1)
theorem foldl_same {f g : Int → Int → Int} (e : List Int) : ∀ (a : Int), (∀ p ∈ e, ∀ x, f x p = g x p) → e.foldl f a = e.foldl g a := by
  induction e with
  | nil => intro a _; rfl
  | cons p t ih =>
    intro a h
    rw [List.foldl_cons, List.foldl_cons, h p (by simp)]
    exact ih _ (fun q hq => h q (by simp [hq]))
theorem xorL_congr {m m' : List Int} (e : List Int) (a : Int) (h : ∀ p ∈ e, rd m p = rd m' p) : xorL m a e = xorL m' a e := by
  unfold xorL
  exact foldl_same e a (fun p hp x => by rw [h p hp])
theorem tbl_both (h0 : 1 ≤ n) (h1 : n ≤ 24) (w0 : 1 ≤ w) (w1 : w ≤ 8) (hV : InR 0 (hiV w) V) (hl : V.length = l.length) : fillB (vI (hypE a0 n l) V) (stepsT a0 n l) (cell0 n) = cellsV a0 n l V ∧ InR 0 (hiV w) (cellsV a0 n l V) ∧
    ∀ s ∈ stepsT a0 n l, xorL (cellsV a0 n l V) 0 (edg (hypE a0 n l) s.1) = rd V (s.1 : Int) := by
  have hK : KeySteps a0 n l (stepsT a0 n l) := key_steps a0 n l
  have hh : 0 ≤ hiV w := by have := topV_hi w0 w1; omega
  have hR0 : InR 0 (hiV w) (cell0 n) := InR.rep _ (by omega)
  have hml := cell0_len h0
  have hVi : ∀ {i : Nat}, i < l.length → 0 ≤ rd V (i : Int) ∧ rd V (i : Int) ≤ hiV w := fun hi => hV _ (by omega) (by omega)
  have c1 := fillB_congr (vI (hypE a0 n l) V) (vX (hypE a0 n l) V) (cell0 n) (cellE h0 h1) (InR 0 (hiV w)) hR0 (fun m s hm hR hp hz => by
    obtain ⟨e1, e2, _⟩ := tbl_step (w := w) (V := V) h0 h1 w0 w1 (by rw [hm]; exact hml) hR (hVi (edgT_lt hp)) (edgT_lt hp) hp (hz.trans (cellZ h0 h1 _ _ hp))
    exact ⟨e1, hR.set (cellE h0 h1 _ _ hp).1 (by rw [e1]; exact e2)⟩) _ _ hK.ok
  have c2 := fillB_good (E := hypE a0 n l) (vX (hypE a0 n l) V) (fun m i => xorL m 0 (edg (hypE a0 n l) i) = rd V (i : Int)) (cell0 n) (cellE h0 h1) (fun m m' i hc hG => by
    rw [← xorL_congr _ _ hc]; exact hG) (InR 0 (hiV w)) hR0 (fun m s hm hR hp hz => by
    obtain ⟨_, e2, e3⟩ := tbl_step (w := w) (V := V) h0 h1 w0 w1 (by rw [hm]; exact hml) hR (hVi (edgT_lt hp)) (edgT_lt hp) hp (hz.trans (cellZ h0 h1 _ _ hp))
    exact ⟨hR.set (cellE h0 h1 _ _ hp).1 e2, e3⟩) _ _ hK.ok
  exact ⟨c1.1, c2.1, c2.2⟩
def buildT (a0 n w : Int) (l : List ByteArray) (V : List Int) : Int × Int × Int × List Int × Bool := if (coreE (3 * n).toNat (hypE a0 n l)).length = 0 then (a0, n, w, cellsV a0 n l V, true) else (0, 0, 0, [], false)
theorem tbl_l0 (h0 : 1 ≤ n) (h1 : n ≤ 24) (w0 : 1 ≤ w) (w1 : w ≤ 8) (hV : InR 0 (hiV w) V) (hlV : V.length = l.length) (hl : l.length ≤ 40) (ix hP o0 o1 o2 : Int) : impl_TableByPeeling.l0 (stepsL (stepsT a0 n l)) ix V hP (hypE a0 n l) o0 o1 o2 (cell0 n) = some (o0, o1, o2, cellsV a0 n l V, true) := by
  have hK : KeySteps a0 n l (stepsT a0 n l) := key_steps a0 n l
  have hml := cell0_len h0
  have hg : (stepsL (stepsT a0 n l)).all (impl_TableByPeeling.ok (hypE a0 n l) V (cell0 n).length) = true := by
    rw [List.all_eq_true]
    intro s hs
    obtain ⟨q, hq, rfl⟩ := List.mem_map.1 hs
    obtain ⟨g0, g1⟩ := hK.rng q hq
    obtain ⟨x, y, z, e, _, q0, q1, q2, q3⟩ := hyp_edge a0 h0 h1 g0
    have r0 : rd [x, y, z] 0 = x := rfl
    have r1 : rd [x, y, z] 1 = y := rfl
    have r2 : rd [x, y, z] 2 = z := rfl
    have hpr : 0 ≤ q.2 ∧ q.2 < 3 * n := by
      rw [e] at g1
      simp only [List.mem_cons, List.not_mem_nil, or_false] at g1
      omega
    simp only [impl_TableByPeeling.ok, impl_TableByPeeling.in3, mkS51, rd_edge, e, r0, r1, r2, hypE_len, List.length_cons, List.length_nil, Bool.and_eq_true, decide_eq_true_eq]
    exact ⟨decide_eq_true (by omega), decide_eq_true (by omega), decide_eq_true (by omega), by omega, by omega, decide_eq_true (by omega)⟩
  have hlen : (stepsL (stepsT a0 n l)).length = (stepsT a0 n l).length := by simp [stepsL]
  have hkl := hK.len
  unfold impl_TableByPeeling.l0
  rw [if_pos ⟨hg, by omega, by omega⟩]
  have hf : (stepsL (stepsT a0 n l)).foldr (fun s m => impl_TableByPeeling.step (hypE a0 n l) V m s) (cell0 n) = fillB (vI (hypE a0 n l) V) (stepsT a0 n l) (cell0 n) := by
    unfold stepsL fillB
    rw [List.foldr_map]
    congr 1
    funext s m
    simp only [impl_TableByPeeling.step, mkS51, rd_edge, List.set_set, vI]
  rw [hf, (tbl_both (a0 := a0) h0 h1 w0 w1 hV hlV).1]
theorem valuesOk_l0 (w0 : 0 ≤ w) (x0 : List Int) (hl : (x0.length : Int) ≤ 1000000) : ∀ (t pre : List Int), x0 = pre ++ t → (∀ x ∈ t, 0 ≤ x ∧ x ≤ hiV w) →
    Ev (fun k => slices_IndexFunc_int_int_at_impl_valuesOk_1.l0 k x0 (x0.length : Int) (pre.length : Int) w) (-1) := by
  intro t
  induction t with
  | nil =>
    intro pre h _
    refine ev_succ ?_
    simp only [slices_IndexFunc_int_int_at_impl_valuesOk_1.l0]
    exact ev_neg (by rw [h]; exact not_lt_end) (Ev.now _)
  | cons x t ih =>
    intro pre h hx
    have hm : ((pre.length : Nat) : Int) < (x0.length : Int) := by rw [h]; exact lt_mid
    have hg : rd x0 (pre.length : Int) = x := by rw [h]; exact rd_mid
    have e1 : impl_valuesOk_1.f x w = some false := by
      unfold impl_valuesOk_1.f
      rw [if_pos w0, impl_in, show wrap64 (shl .i64 1 w - 1) = hiV w from rfl, decide_eq_true (hx x (by simp))]; rfl
    have next := ih (pre ++ [x]) (by rw [h]; simp) (fun y hy => hx y (by simp [hy]))
    rw [len_one] at next
    refine ev_succ ?_
    simp only [slices_IndexFunc_int_int_at_impl_valuesOk_1.l0, hg, e1]
    rw [winc (by omega)]
    exact ev_pos hm (ev_pos (by omega) (ev_pos hm (ev_bind _ (Ev.now _) (ev_neg (by simp) next))))
theorem impl_valuesOk_f (w0 : 1 ≤ w) (w1 : w ≤ 8) (hV : InR 0 (hiV w) V) (hlV : V.length = l.length) (hl : l.length ≤ 1000) (hz : ∀ s ∈ l, s.size ≤ 1000) : Ev (fun k => impl_valuesOk.f k a0 l V n w) (keyedB a0 l n) := by
  have h1 := valuesOk_l0 (w := w) (by omega) V (by omega) V [] rfl (fun x hx => by
    obtain ⟨i, hi, rfl⟩ := List.mem_iff_getElem.1 hx
    have := hV (i : Int) (by omega) (by omega)
    rw [rd_get hi] at this
    exact this)
  have ek := impl_AreKeys_f l (by omega) (fun s hs => by have := hz s hs; omega)
  unfold impl_valuesOk.f keyedB slices_ContainsFunc_int_int_at_impl_valuesOk_1.f slices_IndexFunc_int_int_at_impl_valuesOk_1.f impl_widthOk.f
  rw [impl_isSeedP_f, impl_segmentOk_f, impl_in]
  refine ev_bind _ (Ev.now _) ?_
  by_cases c1 : 0 ≤ a0 ∧ a0 ≤ 9999
  · rw [decide_eq_true c1]
    refine ev_pos rfl (ev_bind _ ek ?_)
    by_cases c2 : areKeysB l = true
    · rw [c2]
      refine ev_pos rfl (ev_bind _ (Ev.now _) ?_)
      by_cases c3 : 1 ≤ n ∧ n ≤ 24
      · rw [decide_eq_true c3]
        exact ev_pos rfl (ev_bind true (ev_some (by simp; omega)) (ev_pos rfl (ev_pos (by omega) (ev_bind _ (ev_bind _ h1 (Ev.now _)) (ev_some (by simp))))))
      · rw [decide_eq_false c3]
        exact ev_neg (by simp) (ev_some (by simp))
    · rw [Bool.eq_false_iff.2 c2]
      exact ev_neg (by simp) (ev_some (by simp))
  · rw [decide_eq_false c1]
    exact ev_neg (by simp) (ev_some (by simp))
theorem impl_TableByPeeling_f (w0 : 1 ≤ w) (w1 : w ≤ 8) (hV : InR 0 (hiV w) V) (hlV : V.length = l.length) (hl : l.length ≤ 1000) (hz : ∀ s ∈ l, s.size ≤ 1000) : Ev (fun k => impl_TableByPeeling.f k a0 l V n w) (if keyedB a0 l n = true then buildT a0 n w l V else (0, 0, 0, [], false)) := by
  have hv := impl_valuesOk_f (a0 := a0) (n := n) w0 w1 hV hlV hl hz
  unfold impl_TableByPeeling.f
  refine ev_bind _ hv ?_
  by_cases c : keyedB a0 l n = true
  · obtain ⟨ha, hk, h0, h1⟩ := keyedB_ok c
    have hl40 := (keys_small hk).1
    rw [if_pos c]
    refine ev_pos c (ev_bind _ (impl_hyper_f ha.1 (by omega) (by omega) (by omega) hl hz) (ev_bind _ (impl_order_f (hyp_good a0 h0 h1 hl40)) ?_))
    unfold buildT
    by_cases c3 : (coreE (3 * n).toNat (hypE a0 n l)).length = 0
    · rw [if_pos c3]
      exact ev_pos (by simp [c3]) (ev_pos (by omega) (ev_pos (by omega) (ev_some' (tbl_l0 h0 h1 w0 w1 hV hlV hl40 _ _ a0 n w))))
    · rw [if_neg c3]
      exact ev_neg (by simpa using c3) (Ev.now _)
  · rw [if_neg c]
    exact ev_neg c (Ev.now _)

theorem spec_tbl_l0 (ha : 0 ≤ a0 ∧ a0 ≤ 9999) (h0 : 1 ≤ n) (h1 : n ≤ 24) (hlV : V.length = l.length) (hz : ∀ s ∈ l, s.size ≤ 1000) {xs : List (Nat × Int)} (hx : xs.length ≤ 1000) (hr : ∀ s ∈ xs, s.1 < l.length ∧ s.2 ∈ edg (hypE a0 n l) s.1) : ∀ j, j ≤ xs.length →
    Ev (fun k => spec_rePeeled.l0 k l V (stepsL xs) ((j : Int) - 1) a0 n w (fillB (vX (hypE a0 n l) V) (xs.drop j) (cell0 n))) (a0, n, w, fillB (vX (hypE a0 n l) V) xs (cell0 n), true) := by
  intro j
  induction j with
  | zero =>
    intro _
    refine ev_succ ?_
    simp only [spec_rePeeled.l0, List.drop_zero]
    exact ev_neg (by omega) (Ev.now _)
  | succ j ih =>
    intro hj
    have hs := hr xs[j] (List.getElem_mem (by omega))
    obtain ⟨x, y, z, e, e2, g0, g1, g2, g3⟩ := hyp_edge a0 h0 h1 hs.1
    have hml : (fillB (vX (hypE a0 n l) V) (xs.drop (j + 1)) (cell0 n)).length = (cell0 n).length := fillB_len _ _ _
    have hm0 := cell0_len h0
    have hpr := cellE h0 h1 _ _ hs.2
    have next := ih (by omega)
    have hd : xs.drop j = xs[j] :: xs.drop (j + 1) := List.drop_eq_getElem_cons (by omega)
    rw [hd, fillB_cons] at next
    generalize fillB (vX (hypE a0 n l) V) (xs.drop (j + 1)) (cell0 n) = m at hml next ⊢
    have hsz := hz l[(xs[j]).1] (List.getElem_mem hs.1)
    have hval : Ev (fun k => spec_reValue.f k a0 n w m (rdOf ByteArray.empty l ((xs[j]).1 : Int))) (xorL m 0 (edg (hypE a0 n l) (xs[j]).1)) := by
      rw [rdOf_get hs.1]
      generalize hk : l[(xs[j]).1]'hs.1 = key at *
      rw [e2]
      unfold spec_reValue.f
      refine ev_bind _ (spec_peTriple_f a0 n _ (by omega) ha.1 (by omega)) ?_
      exact spec_reValue_l0 a0 n w m _ (by simp [tripL]) _ [] 0 rfl (fun p h => by
        have := tripL_range a0 key h0 h1 p h
        omega)
    have hst := rd_step xs (n := j) (by omega)
    have hsl : (stepsL xs).length = xs.length := by simp [stepsL]
    refine ev_succ ?_
    rw [show (((j + 1 : Nat) : Int) - 1) = (j : Int) from by omega]
    simp only [spec_rePeeled.l0, hst, mkS51]
    rw [w64 (x := (j : Int) - 1) (by omega) (by omega)]
    have hs1 := hs.1
    exact ev_pos (by omega) (ev_pos (by omega) (ev_pos (by omega) (ev_pos (by omega) (ev_pos (by omega) (ev_pos (by omega) (ev_bind _ hval (ev_pos hpr.1 (ev_pos (by omega) next))))))))
theorem spec_rePeeled_f (ha : 0 ≤ a0 ∧ a0 ≤ 9999) (h0 : 1 ≤ n) (h1 : n ≤ 24) (hlV : V.length = l.length) (hl : l.length ≤ 40) (hz : ∀ s ∈ l, s.size ≤ 1000) : Ev (fun k => spec_rePeeled.f k a0 l V n w) (buildT a0 n w l V) := by
  obtain ⟨hG, hP, _, _⟩ := goodB_ok (hyp_good a0 h0 h1 hl)
  have hp := spec_pePeel_f hG (cs := []) (by simp) (by simp) true
  rw [hP] at hp
  have hX : peelC (3 * n).toNat (hypE a0 n l) (chc [] ++ if true = true then List.replicate (hypE a0 n l).length 0 else []) (allE (hypE a0 n l)) = peelAll (3 * n).toNat (hypE a0 n l) := by
    simp [chc, peelAll]
  rw [hX] at hp
  have hK : KeySteps a0 n l (stepsT a0 n l) := key_steps a0 n l
  have hkl := hK.len
  have this := spec_tbl_l0 (w := w) (V := V) ha h0 h1 hlV hz (xs := stepsT a0 n l) (by omega) hK.rng (stepsT a0 n l).length (Nat.le_refl _)
  rw [List.drop_length] at this
  have hsl : ∀ xs : List (Nat × Int), (stepsL xs).length = xs.length := fun xs => by simp [stepsL]
  have hcl : ∀ c : List Nat, (castL c).length = c.length := fun c => by simp [castL]
  unfold spec_rePeeled.f buildT
  refine ev_bind _ (spec_peHyper_f ha.1 (by omega) (by omega) (by omega) (by omega) hz) (ev_bind _ hp ?_)
  have hkl' : (peelAll (3 * n).toNat (hypE a0 n l)).1.length ≤ l.length := hkl
  rw [w64 (x := 3 * n) (by omega) (by omega), hsl, hcl, w64 (by omega) (by omega)]
  by_cases c3 : (coreE (3 * n).toNat (hypE a0 n l)).length = 0
  · have c3' : (peelAll (3 * n).toNat (hypE a0 n l)).2.length = 0 := c3
    rw [if_pos c3]
    exact ev_neg (by omega) (ev_pos (by omega) (ev_pos (by omega) this))
  · have c3' : ¬ (peelAll (3 * n).toNat (hypE a0 n l)).2.length = 0 := c3
    rw [if_neg c3]
    exact ev_pos (by omega) (Ev.now _)
def printsL (a0 w : Int) (l : List ByteArray) : List Int := l.map (fun s => placeV a0 9 s (topV w))
theorem prints_in (w0 : 1 ≤ w) (w1 : w ≤ 8) : InR 0 (hiV w) (printsL a0 w l) := fun p h0 h1 => by
  obtain ⟨t1, t2, t3⟩ := topV_hi w0 w1
  have hi : p.toNat < (printsL a0 w l).length := by omega
  have : rd (printsL a0 w l) p = (printsL a0 w l)[p.toNat] := by
    have := rd_get hi
    rwa [Int.toNat_of_nonneg h0] at this
  rw [this]
  simp only [printsL, List.getElem_map]
  have := placeV_range a0 9 (l[p.toNat]'(by simpa [printsL] using hi)) (n := topV w) t2 (by omega)
  omega
theorem prints_len : (printsL a0 w l).length = l.length := by simp [printsL]
def printV (a0 n w : Int) (l : List ByteArray) : Int × Int × Int × List Int × Bool := if (1 ≤ w ∧ w ≤ 8) ∧ keyedB a0 l n = true then buildT a0 n w l (printsL a0 w l) else (0, 0, 0, [], false)
theorem impl_pf_l0 (ha : 0 ≤ a0 ∧ a0 ≤ 9999) (w0 : 1 ≤ w) (w1 : w ≤ 8) (hl : l.length ≤ 1000) (hz : ∀ s ∈ l, s.size ≤ 1000) : ∀ (t pre : List ByteArray), l = pre ++ t →
    Ev (fun k => impl_PrintFilterOf.l0 k a0 l n w (printsL a0 w pre) l (l.length : Int) (pre.length : Int)) (if keyedB a0 l n = true then buildT a0 n w l (printsL a0 w l) else (0, 0, 0, [], false)) := by
  intro t
  induction t with
  | nil =>
    intro pre h
    have hpre : pre = l := by rw [h]; simp
    refine ev_succ ?_
    simp only [impl_PrintFilterOf.l0]
    rw [hpre]
    exact ev_neg (by omega) (ev_bind _ (impl_TableByPeeling_f w0 w1 (prints_in w0 w1) prints_len hl hz) (Ev.now _))
  | cons s t ih =>
    intro pre h
    have hm : ((pre.length : Nat) : Int) < (l.length : Int) := by rw [h]; exact lt_mid
    have hg : rdOf ByteArray.empty l (pre.length : Int) = s := by rw [h]; exact rdOf_mid
    have hsz := hz s (by rw [h]; simp)
    have next := ih (pre ++ [s]) (by rw [h]; simp)
    rw [len_one] at next
    have hT : printsL a0 w (pre ++ [s]) = printsL a0 w pre ++ [placeV a0 9 s (topV w)] := by simp [printsL]
    rw [hT] at next
    refine ev_succ ?_
    simp only [impl_PrintFilterOf.l0, hg]
    rw [winc (by omega)]
    exact ev_pos hm (ev_pos (by omega) (ev_pos hm (ev_pos (by omega) (ev_bind _ (impl_place_f a0 9 s (topV w) (by omega) ha.1 (by omega) (by omega) (by omega)) (ev_pos (by rw [prints_len]; omega) next)))))
theorem impl_PrintFilterOf_f (a0 n w : Int) {l : List ByteArray} (hl : l.length ≤ 1000) (hz : ∀ s ∈ l, s.size ≤ 1000) : Ev (fun k => impl_PrintFilterOf.f k a0 l n w) (printV a0 n w l) := by
  have bad : ∀ b : Bool, b = true → Ev (fun k => impl_PrintFilterOf.j0 k a0 l n w b) (0, 0, 0, [], false) := fun b hb => by
    refine ev_succ ?_
    simp only [impl_PrintFilterOf.j0]
    exact ev_pos hb (Ev.now _)
  have ek := impl_AreKeys_f l (by omega) (fun s hs => by have := hz s hs; omega)
  unfold impl_PrintFilterOf.f printV impl_widthOk.f
  rw [impl_isSeedP_f, impl_in]
  refine ev_bind _ (Ev.now _) ?_
  by_cases c1 : 0 ≤ a0 ∧ a0 ≤ 9999
  · refine ev_pos (decide_eq_true c1) (ev_bind _ (Ev.now _) ?_)
    by_cases c2 : 1 ≤ w ∧ w ≤ 8
    · refine ev_pos (decide_eq_true c2) (ev_bind _ ek ?_)
      by_cases c3 : areKeysB l = true
      · have := impl_pf_l0 (n := n) c1 c2.1 c2.2 hl hz l [] rfl
        have e : (if (1 ≤ w ∧ w ≤ 8) ∧ keyedB a0 l n = true then buildT a0 n w l (printsL a0 w l) else (0, 0, 0, [], false)) = (if keyedB a0 l n = true then buildT a0 n w l (printsL a0 w l) else (0, 0, 0, [], false)) := by simp [c2]
        rw [e]
        refine ev_succ ?_
        simp only [impl_PrintFilterOf.j0]
        exact ev_neg (by simp [c3]) this
      · rw [if_neg (fun h => c3 (keyedB_ok h.2).2.1)]
        exact bad _ (by simp [c3])
    · rw [if_neg (fun h => c2 h.1)]
      exact ev_neg (by simpa using c2) (bad _ rfl)
  · rw [if_neg (fun h => c1 (keyedB_ok h.2).1)]
    exact ev_neg (by simpa using c1) (bad _ rfl)
theorem spec_fiPrint_f (ha : 0 ≤ a0 ∧ a0 ≤ 9999) (w0 : 0 ≤ w) {s : ByteArray} (hz : s.size ≤ 1000) : Ev (fun k => spec_fiPrint.f k a0 w s) (placeV a0 9 s (topV w)) := by
  unfold spec_fiPrint.f spec_reTop.f
  rw [if_pos w0]
  exact ev_bind _ (Ev.now _) (ev_bind _ (spec_biPlace_f a0 9 s (topV w) (by omega) ha.1 (by omega) (by omega) (by omega)) (Ev.now _))
theorem spec_pf_l0 (c : keyedB a0 l n = true) (w0 : 1 ≤ w) (hl : l.length ≤ 1000) (hz : ∀ s ∈ l, s.size ≤ 1000) : ∀ (t pre : List ByteArray), l = pre ++ t →
    Ev (fun k => spec_PrintFilterOf.l0 k a0 l n w (printsL a0 w pre) l (l.length : Int) (pre.length : Int)) (buildT a0 n w l (printsL a0 w l)) := by
  obtain ⟨ha, hk, h0, h1⟩ := keyedB_ok c
  have hl40 := (keys_small hk).1
  intro t
  induction t with
  | nil =>
    intro pre h
    have hpre : pre = l := by rw [h]; simp
    refine ev_succ ?_
    simp only [spec_PrintFilterOf.l0]
    rw [hpre]
    exact ev_neg (by omega) (ev_bind _ (spec_rePeeled_f ha h0 h1 prints_len hl40 hz) (Ev.now _))
  | cons s t ih =>
    intro pre h
    have hm : ((pre.length : Nat) : Int) < (l.length : Int) := by rw [h]; exact lt_mid
    have hg : rdOf ByteArray.empty l (pre.length : Int) = s := by rw [h]; exact rdOf_mid
    have hsz := hz s (by rw [h]; simp)
    have next := ih (pre ++ [s]) (by rw [h]; simp)
    rw [len_one] at next
    have hT : printsL a0 w (pre ++ [s]) = printsL a0 w pre ++ [placeV a0 9 s (topV w)] := by simp [printsL]
    rw [hT] at next
    refine ev_succ ?_
    simp only [spec_PrintFilterOf.l0, hg]
    rw [winc (by omega)]
    exact ev_pos hm (ev_pos (by omega) (ev_pos hm (ev_bind _ (spec_fiPrint_f ha (by omega) hsz) (ev_pos (by rw [prints_len]; omega) next))))
theorem spec_PrintFilterOf_f (a0 n w : Int) {l : List ByteArray} (hl : l.length ≤ 1000) (hz : ∀ s ∈ l, s.size ≤ 1000) : Ev (fun k => spec_PrintFilterOf.f k a0 l n w) (printV a0 n w l) := by
  have bad : ∀ b : Bool, b = true → Ev (fun k => spec_PrintFilterOf.j0 k a0 l n w b) (0, 0, 0, [], false) := fun b hb => by
    refine ev_succ ?_
    simp only [spec_PrintFilterOf.j0]
    exact ev_pos hb (Ev.now _)
  unfold spec_PrintFilterOf.f printV spec_reWidth.f
  rw [spec_in]
  refine ev_bind _ (spec_peKeyed_f a0 n hl hz) ?_
  by_cases c : keyedB a0 l n = true
  · refine ev_pos c (ev_bind _ (ev_bind _ (Ev.now _) (Ev.now _)) ?_)
    by_cases c2 : 1 ≤ w ∧ w ≤ 8
    · rw [if_pos ⟨c2, c⟩]
      refine ev_succ ?_
      simp only [spec_PrintFilterOf.j0]
      exact ev_neg (by simp; omega) (spec_pf_l0 c c2.1 hl hz l [] rfl)
    · rw [if_neg (fun h => c2 h.1)]
      exact bad _ (by rw [decide_eq_false c2]; rfl)
  · rw [if_neg (fun h => c h.2)]
    exact ev_neg c (bad _ rfl)
end
end Go.Proofs.YthkcgimnagpmaaaQ
namespace Go.Proofs.Ythkcgimnagpmaaa.Pure
open Go Go.RowKit Go.Proofs.YthkcgimnagpmaaaW.PrintWords Go.Proofs.YthkcgimnagpmaaaW.PrintMore Go.Proofs.YthkcgimnagpmaaaGp Go.Proofs.Ythkcgimnagpmaaa.PP Go.Proofs.YthkcgimnagpmaaaQ

theorem eqTable_same (a0 a1 n : Int) (l : List Int) (hl : (l.length : Int) ≤ 9223372036854775806) : Ev (fun k => laws_eqTable.f k a0 a1 n l a0 a1 n l) true := by
  unfold laws_eqTable.f
  exact ev_pos rfl (ev_pos rfl (ev_pos rfl (ev_bind true (by simpa using eqIntS_f l l hl) (ev_pos rfl (Ev.now _)))))
theorem markTable_f (a0 a1 n : Int) (l : List Int) (a : Int) (h0 : 0 ≤ a) (h1 : a + (l.length : Int) ≤ 4611686018427387904) : Ev (fun k => laws_markTable.f k a0 a1 n l a) (a + (l.length : Int), counts l.length a) := by
  unfold laws_markTable.f
  exact ev_bind _ (markIntS_f l a h0 h1) (Ev.now _)
theorem heldTable_f (a0 a1 n : Int) (m : Nat) (a : Int) (h0 : 0 ≤ a) (h1 : a + (m : Int) ≤ 4611686018427387904) : Ev (fun k => laws_heldTable.f k a0 a1 n (counts m a) a) (a + (m : Int)) := by
  unfold laws_heldTable.f
  exact ev_bind _ (heldIntS_f m a h0 h1) (ev_neg (by omega) (Ev.now _))
section
variable (a0 n w : Int) {l : List ByteArray} (hl : (l.length : Int) ≤ 9223372036854775806) (hz : ∀ s ∈ l, (s.size : Int) ≤ 9223372036854775806)
include hl hz
theorem impl_g : Ev (fun k => impl_PrintFilterOf.f k a0 l n w) (printV a0 n w l) := by
  by_cases c3 : areKeysB l = true
  · have hs := keys_small c3
    exact impl_PrintFilterOf_f a0 n w (by omega) hs.2
  have bad : ∀ b : Bool, b = true → Ev (fun k => impl_PrintFilterOf.j0 k a0 l n w b) (0, 0, 0, [], false) := fun b hb => by
    refine ev_succ ?_
    simp only [impl_PrintFilterOf.j0]
    exact ev_pos hb (Ev.now _)
  have ek := impl_AreKeys_f l hl hz
  have hv : printV a0 n w l = (0, 0, 0, [], false) := if_neg (fun h => c3 (keyedB_ok h.2).2.1)
  rw [hv]
  unfold impl_PrintFilterOf.f impl_widthOk.f
  rw [impl_isSeedP_f, impl_in]
  refine ev_bind _ (Ev.now _) ?_
  by_cases c1 : 0 ≤ a0 ∧ a0 ≤ 9999
  · refine ev_pos (decide_eq_true c1) (ev_bind _ (Ev.now _) ?_)
    by_cases c2 : 1 ≤ w ∧ w ≤ 8
    · exact ev_pos (decide_eq_true c2) (ev_bind _ ek (bad _ (by simp [c3])))
    · exact ev_neg (by simpa using c2) (bad _ rfl)
  · exact ev_neg (by simpa using c1) (bad _ rfl)
theorem spec_g : Ev (fun k => spec_PrintFilterOf.f k a0 l n w) (printV a0 n w l) := by
  by_cases c3 : areKeysB l = true
  · have hs := keys_small c3
    exact spec_PrintFilterOf_f a0 n w (by omega) hs.2
  have bad : ∀ b : Bool, b = true → Ev (fun k => spec_PrintFilterOf.j0 k a0 l n w b) (0, 0, 0, [], false) := fun b hb => by
    refine ev_succ ?_
    simp only [spec_PrintFilterOf.j0]
    exact ev_pos hb (Ev.now _)
  have hv : printV a0 n w l = (0, 0, 0, [], false) := if_neg (fun h => c3 (keyedB_ok h.2).2.1)
  rw [hv]
  have eb := spec_biKeys_f l hl hz
  rw [Bool.eq_false_iff.2 c3] at eb
  have ek : Ev (fun k => spec_peKeyed.f k a0 l n) false := by
    unfold spec_peKeyed.f
    rw [spec_in]
    refine ev_bind _ (Ev.now _) ?_
    by_cases c : 0 ≤ a0 ∧ a0 ≤ 9999
    · exact ev_pos (decide_eq_true c) (ev_bind _ eb (ev_neg (by simp) (Ev.now _)))
    · exact ev_neg (by simpa using c) (Ev.now _)
  unfold spec_PrintFilterOf.f
  exact ev_bind _ ek (ev_neg (by simp) (bad _ rfl))
end
theorem printV_len (a0 n w : Int) (l : List ByteArray) : (printV a0 n w l).2.2.2.1.length ≤ 1000 := by
  unfold printV buildT
  split
  · rename_i h
    obtain ⟨_, _, _, n1⟩ := keyedB_ok h.2
    split
    · have : (cellsV a0 n l (printsL a0 w l)).length = (3 * n).toNat := cellsV_len
      simp only []
      omega
    · simp
  · simp
theorem FnExactPrintFilterOf : laws_FnExactPrintFilterOf.Pure := by
  intro a0 l n w ha0 hkl hks hn hw
  have := maxLen_eq
  refine Ev.rounds (r := true) ?_
  unfold laws_FnExactPrintFilterOf.f
  refine ev_bind _ (szStringS_f l 1048576 hkl hks (by omega) (by omega)) ?_
  by_cases c : left1 1048576 l < 0
  · exact ev_pos c (Ev.now _)
  obtain ⟨e1, hz⟩ := left1_ok c
  have hp := sumSz_nonneg l
  have hs1 : ∀ s ∈ l, (s.size : Int) ≤ 9223372036854775806 := fun s h => by have := size_le_sumSz h; omega
  have hT := toStringS_f l (by omega)
  have hS := spec_g a0 n w (l := l) (by omega) hs1
  have hI := impl_g a0 n w (l := l) (by omega) hs1
  have hlen := printV_len a0 n w l
  refine ev_neg c (ev_bind _ hT (ev_bind _ hS (ev_bind _ hT (ev_bind _ hI ?_))))
  generalize printV a0 n w l = R at *
  obtain ⟨r0, r1, r2, m, ok⟩ := R
  simp only at hlen
  have hE := eqTable_same r0 r1 r2 m (by omega)
  have hH := heldTable_f r0 r1 r2 m.length 1 (by omega) (by omega)
  refine ev_bind _ hE (ev_pos rfl (ev_succ ?_))
  simp only [laws_FnExactPrintFilterOf.j0, bne_self_eq_false, Bool.false_eq_true, if_false]
  refine ev_bind _ hT (ev_bind true (by simpa using eqStringS_f l l (by omega)) (ev_pos rfl (ev_bind _ (markStringS_f l 1 (by omega) (by omega)) (ev_neg (by simp only; omega) (ev_bind _ hE (ev_pos rfl (ev_succ ?_)))))))
  simp only [laws_FnExactPrintFilterOf.j1, Bool.false_eq_true, if_false]
  refine ev_bind _ (markTable_f r0 r1 r2 m 1 (by omega) (by omega)) (ev_bind _ hH (ev_neg (by omega) (ev_pos rfl (ev_bind _ hT (ev_bind _ hI (ev_bind _ hE (ev_pos rfl (ev_succ ?_))))))))
  simp only [laws_FnExactPrintFilterOf.j2, bne_self_eq_false, Bool.false_eq_true, if_false]
  exact ev_bind _ hH (ev_neg (by omega) (ev_pos rfl (Ev.now _)))
end Go.Proofs.Ythkcgimnagpmaaa.Pure
