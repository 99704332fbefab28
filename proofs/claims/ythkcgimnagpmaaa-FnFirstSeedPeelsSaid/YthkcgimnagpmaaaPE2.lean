/- Peeling: the reference's degrees, free places, the edge at a place, and its peeling. -/
import Derived.Test.YthkcgimnagpmaaaPAx3
import Derived.Test.YthkcgimnagpmaaaPAx4
import Derived.Test.YthkcgimnagpmaaaPAx13
import Derived.Test.YthkcgimnagpmaaaPE1
import Derived.Test.YthkcgimnagpmaaaPS0
namespace Go.Proofs.YthkcgimnagpmaaaQ
open Go Go.RowKit Go.Proofs.YthkcgimnagpmaaaW.PrintWords Go.Proofs.YthkcgimnagpmaaaGp Go.Proofs.Ythkcgimnagpmaaa.PA

theorem spec_peAll_l0 {n : Nat} (hn : n ≤ 1000) : ∀ (d i : Nat), i + d = n →
    Ev (fun k => spec_peAll.l0 k (castL (List.range i)) (n : Int) (i : Int)) (castL (List.range n)) := by
  intro d
  induction d with
  | zero =>
    intro i h
    obtain rfl : i = n := by omega
    refine ev_succ ?_
    simp only [spec_peAll.l0]
    exact ev_neg (by omega) (Ev.now _)
  | succ d ih =>
    intro i h
    have next := ih (i + 1) (by omega)
    rw [List.range_succ, castL_app] at next
    refine ev_succ ?_
    simp only [spec_peAll.l0]
    rw [winc (by omega)]
    exact ev_pos (by omega) (ev_pos (by rw [castL_len]; simp; omega) next)
theorem spec_peAll_f {E : Edges} (hn : E.length ≤ 1000) (P : Int) : Ev (fun k => spec_peAll.f k P E) (castL (allE E)) := by
  unfold spec_peAll.f
  exact spec_peAll_l0 hn E.length 0 (by omega)
theorem spec_degrees_l1 {P : Nat} {E : Edges} {x13 : List Int} {n : Int} {r : List Int} {q i : Nat} (e : List Int) (hi : (i : Int) < 9223372036854775806) (he : (e.length : Int) ≤ 9223372036854775806) (hr : ∀ p ∈ e, 0 ≤ p ∧ p < (P : Int)) (ps : List Int) (hps : ps.length + e.length ≤ 1000000)
    (H : Ev (fun k => spec_peDegrees.l0 k (cntL (ps ++ e) P) x13 n ((i + 1 : Nat) : Int) (q : Int) E) r) : ∀ (t pre : List Int), e = pre ++ t →
    Ev (fun k => spec_peDegrees.l1 k (cntL (ps ++ pre) P) x13 n (i : Int) e (e.length : Int) (pre.length : Int) (q : Int) E) r := by
  intro t
  induction t with
  | nil =>
    intro pre h
    have hp : e = pre := by rw [h, List.append_nil]
    subst hp
    refine ev_succ ?_
    simp only [spec_peDegrees.l1]
    refine ev_neg (by omega) ?_
    rw [winc (by omega)]
    exact H
  | cons x t ih =>
    intro pre h
    have hm : ((pre.length : Nat) : Int) < (e.length : Int) := by rw [h]; exact lt_mid
    have hg : rd e (pre.length : Int) = x := by rw [h]; exact rd_mid
    obtain ⟨x0, x1⟩ := hr x (by rw [h]; simp)
    have hc := count_le_len (ps ++ pre) x
    have hl : e.length = pre.length + (t.length + 1) := by rw [h]; simp
    rw [List.length_append] at hc
    refine ev_succ ?_
    simp only [spec_peDegrees.l1, hg]
    refine ev_pos hm (ev_pos (by omega) (ev_pos hm (ev_pos x0 (ev_pos (by rw [cntL_len]; exact x1) ?_))))
    rw [winc (by omega), cntL_rd _ x0 x1, wcount (by omega), cntL_set _ x0, List.append_assoc]
    have := ih (pre ++ [x]) (by rw [h]; simp)
    rw [len_one] at this
    exact this
theorem spec_degrees_l0 {P : Nat} {E : Edges} (hG : GoodH P E) {L : List Nat} (hL : ∀ i ∈ L, i < E.length) (hl : L.length ≤ 1000) (q : Nat) : ∀ (t pre : List Nat), L = pre ++ t →
    Ev (fun k => spec_peDegrees.l0 k (cntL (plsL E pre) P) (castL L) (L.length : Int) (pre.length : Int) (q : Int) E) (cntL (plsL E L) P) := by
  intro t
  have hn := hG.len
  induction t with
  | nil =>
    intro pre h
    have hp : L = pre := by rw [h, List.append_nil]
    subst hp
    refine ev_succ ?_
    simp only [spec_peDegrees.l0]
    exact ev_neg (by omega) (Ev.now _)
  | cons j t ih =>
    intro pre h
    have hm : ((pre.length : Nat) : Int) < (L.length : Int) := by rw [h]; exact lt_mid
    have hg : rd (castL L) (pre.length : Int) = (j : Int) := by rw [h]; exact rd_castmid
    have hj := hL j (by rw [h]; simp)
    have next := ih (pre ++ [j]) (by rw [h]; simp)
    rw [len_one] at next
    have hb := plsL_len hG pre
    obtain ⟨he, hr⟩ := hG.edge j
    have hpe : plsL E (pre ++ [j]) = plsL E pre ++ edg E j := by simp [plsL]
    rw [hpe] at next
    have hlen : L.length = pre.length + (t.length + 1) := by rw [h]; simp
    refine ev_succ ?_
    simp only [spec_peDegrees.l0, hg, rd_edg]
    refine ev_pos hm (ev_pos (by omega) (ev_pos (by rw [castL_len]; exact hm) (ev_pos (by omega) (ev_pos (by omega) ?_))))
    have := spec_degrees_l1 (P := P) (E := E) (x13 := castL L) (n := (L.length : Int)) (q := q) (edg E j) (by omega) (by omega) hr (plsL E pre) (by omega) next (edg E j) [] rfl
    rw [List.append_nil] at this
    exact this
theorem spec_degrees_f {P : Nat} {E : Edges} (hG : GoodH P E) {L : List Nat} (hL : ∀ i ∈ L, i < E.length) (hl : L.length ≤ 1000) : Ev (fun k => spec_peDegrees.f k (P : Int) E (castL L)) (cntL (plsL E L) P) := by
  have hp := hG.plc
  unfold spec_peDegrees.f
  refine ev_pos (by omega) (ev_pos (by omega) ?_)
  have := spec_degrees_l0 hG hL hl P L [] rfl
  rw [show plsL E [] = [] from rfl, cntL_nil] at this
  rw [castL_len]
  exact this
theorem spec_free_l0 {P : Nat} (ps : List Int) (hP : P ≤ 1000) : ∀ (d i : Nat), i + d = P →
    Ev (fun k => spec_peFree.l0 k (freeUp ps i) (cntL ps P) (P : Int) (i : Int)) (freeUp ps P) := by
  intro d
  induction d with
  | zero =>
    intro i h
    have hi : i = P := by omega
    refine ev_succ ?_
    simp only [spec_peFree.l0]
    refine ev_neg (by omega) (ev_some (by rw [hi]))
  | succ d ih =>
    intro i h
    have next := ih (i + 1) (by omega)
    have hl := freeUp_len ps i
    rw [freeUp_succ] at next
    refine ev_succ ?_
    simp only [spec_peFree.l0]
    rw [cntL_rd ps (by omega) (by omega)]
    refine ev_pos (by omega) (ev_pos (by omega) (ev_pos (by rw [cntL_len]; omega) ?_))
    rw [winc (by omega)]
    by_cases c : ps.count (i : Int) = 1
    · rw [if_pos c] at next
      exact ev_pos (by omega) (ev_pos (by omega) next)
    · rw [if_neg c] at next
      exact ev_neg (by omega) next
theorem spec_free_f {P : Nat} {E : Edges} (hG : GoodH P E) {L : List Nat} (hL : ∀ i ∈ L, i < E.length) (hl : L.length ≤ 1000) : Ev (fun k => spec_peFree.f k (P : Int) E (castL L)) (freeL P E L) := by
  unfold spec_peFree.f
  refine ev_bind _ (spec_degrees_f hG hL hl) ?_
  have := spec_free_l0 (plsL E L) hG.plc P 0 (by omega)
  rw [cntL_len, ← freeL_up]
  exact this
def withV (o : Option Nat) : Int := match o with | some j => (j : Int) | none => -1
theorem spec_with_l0 {P : Nat} {E : Edges} (hG : GoodH P E) {L : List Nat} (hL : ∀ i ∈ L, i < E.length) (hl : L.length ≤ 1000) (p : Int) (q : Nat) : ∀ (t pre : List Nat), L = pre ++ t →
    Ev (fun k => spec_peWith.l0 k p (castL L) (L.length : Int) (pre.length : Int) (q : Int) E) (withV (withE E t p)) := by
  intro t
  have hn := hG.len
  induction t with
  | nil =>
    intro pre h
    have hp : L = pre := by rw [h, List.append_nil]
    subst hp
    refine ev_succ ?_
    simp only [spec_peWith.l0]
    exact ev_neg (by omega) (Ev.now _)
  | cons j t ih =>
    intro pre h
    have hm : ((pre.length : Nat) : Int) < (L.length : Int) := by rw [h]; exact lt_mid
    have hg : rd (castL L) (pre.length : Int) = (j : Int) := by rw [h]; exact rd_castmid
    have hj := hL j (by rw [h]; simp)
    have next := ih (pre ++ [j]) (by rw [h]; simp)
    rw [len_one] at next
    have he := (hG.edge j).1
    refine ev_succ ?_
    simp only [spec_peWith.l0, hg, rd_edg]
    refine ev_pos hm (ev_pos (by omega) (ev_pos (by rw [castL_len]; exact hm) (ev_pos (by omega) (ev_pos (by omega) (ev_bind _ (spec_l1Has_f (edg E j) p (by omega)) ?_)))))
    unfold withE
    rw [List.find?_cons, winc (by omega)]
    by_cases c : (edg E j).contains p = true
    · rw [c]; exact ev_pos rfl (Ev.now _)
    · rw [Bool.eq_false_iff.2 c]
      exact ev_neg (by simp) next
theorem spec_with_f {P : Nat} {E : Edges} (hG : GoodH P E) {L : List Nat} (hL : ∀ i ∈ L, i < E.length) (hl : L.length ≤ 1000) (p : Int) : Ev (fun k => spec_peWith.f k (P : Int) E (castL L) p) (withV (withE E L p)) := by
  unfold spec_peWith.f
  rw [castL_len]
  exact spec_with_l0 hG hL hl p P L [] rfl
theorem spec_drop_l0 {L : List Nat} (hl : L.length ≤ 1000) (i : Nat) : ∀ (t pre : List Nat), L = pre ++ t →
    Ev (fun k => spec_l1Drop.l0 k (i : Int) (castL (dropE pre i)) (castL L) (L.length : Int) (pre.length : Int)) (castL (dropE L i)) := by
  intro t
  induction t with
  | nil =>
    intro pre h
    have hp : L = pre := by rw [h, List.append_nil]
    subst hp
    refine ev_succ ?_
    simp only [spec_l1Drop.l0]
    exact ev_neg (by omega) (Ev.now _)
  | cons j t ih =>
    intro pre h
    have hm : ((pre.length : Nat) : Int) < (L.length : Int) := by rw [h]; exact lt_mid
    have hg : rd (castL L) (pre.length : Int) = (j : Int) := by rw [h]; exact rd_castmid
    have next := ih (pre ++ [j]) (by rw [h]; simp)
    rw [len_one] at next
    have hd : dropE (pre ++ [j]) i = if j = i then dropE pre i else dropE pre i ++ [j] := by
      unfold dropE
      rw [List.filter_append]
      by_cases c : j = i <;> simp [c]
    rw [hd] at next
    have hdl := List.Sublist.length_le (dropE_sub pre i)
    have hlen : L.length = pre.length + (t.length + 1) := by rw [h]; simp
    refine ev_succ ?_
    simp only [spec_l1Drop.l0, hg]
    rw [winc (by omega)]
    refine ev_pos hm (ev_pos (by omega) (ev_pos (by rw [castL_len]; exact hm) ?_))
    by_cases c : j = i
    · rw [if_pos c] at next
      exact ev_pos (by omega) next
    · rw [if_neg c, castL_app] at next
      exact ev_neg (by omega) (ev_pos (by rw [castL_len]; omega) next)
theorem spec_drop_f {L : List Nat} (hl : L.length ≤ 1000) (i : Nat) : Ev (fun k => spec_l1Drop.f k (castL L) (i : Int)) (castL (dropE L i)) := by
  unfold spec_l1Drop.f
  rw [castL_len]
  exact spec_drop_l0 hl i L [] rfl
/-- Choices as they come, and as the model takes them. -/
def chc (cs : List Int) : List Nat := cs.map Int.toNat
theorem stepE_rd {P : Nat} {E : Edges} {L : List Nat} {c : Int} (hc : 0 ≤ c) (h : freeL P E L ≠ []) : ∃ i, stepE P E L c.toNat = some (i, rd (freeL P E L) (Int.tmod c ((freeL P E L).length : Int))) ∧ 0 ≤ Int.tmod c ((freeL P E L).length : Int) ∧ Int.tmod c ((freeL P E L).length : Int) < ((freeL P E L).length : Int) := by
  have hl : ¬ (freeL P E L).length = 0 := fun e => h (List.length_eq_zero_iff.1 e)
  have e : Int.tmod c ((freeL P E L).length : Int) = ((c.toNat % (freeL P E L).length : Nat) : Int) := by
    rw [Int.tmod_eq_emod_of_nonneg hc, Int.natCast_emod, Int.toNat_of_nonneg hc]
  have hm : c.toNat % (freeL P E L).length < (freeL P E L).length := Nat.mod_lt _ (by omega)
  unfold stepE
  rw [if_neg hl, e]
  exact ⟨_, rfl, by omega, by omega⟩
section
variable {P : Nat} {E : Edges} (hG : GoodH P E) {cs : List Int} {on : Bool} {acc : List S51} {L : List Nat} (hL : Rg E.length L)
include hG hL
theorem j1_end (hf : freeL P E L = []) (kk : Int) : Ev (fun k => spec_pePeel.j1 k cs on acc (castL L) kk true (P : Int) E) (acc, castL L) := by
  have hn := hG.len
  have hl := hL.len
  refine ev_succ ?_
  simp only [spec_pePeel.j1]
  refine ev_pos trivial (ev_bind _ (spec_free_f hG (fun i hi => hL.lt hi) (by omega)) (ev_pos (by rw [hf]; rfl) (Ev.now _)))
theorem j1_go {kk : Nat} (hk : kk < cs.length) (hkl : kk ≤ 100000) (ha : acc.length ≤ 1000000) {i : Nat} (hs : stepE P E L (rd cs (kk : Int)).toNat = some (i, rd (freeL P E L) (Int.tmod (rd cs (kk : Int)) ((freeL P E L).length : Int))))
    (h0 : 0 ≤ Int.tmod (rd cs (kk : Int)) ((freeL P E L).length : Int)) (h1 : Int.tmod (rd cs (kk : Int)) ((freeL P E L).length : Int) < ((freeL P E L).length : Int)) {r : List S51 × List Int}
    (H : Ev (fun k => spec_pePeel.l0 k cs on (acc ++ [mkS51 (i, rd (freeL P E L) (Int.tmod (rd cs (kk : Int)) ((freeL P E L).length : Int)))]) (castL (dropE L i)) ((kk + 1 : Nat) : Int) (P : Int) E) r) :
    Ev (fun k => spec_pePeel.j1 k cs on acc (castL L) (kk : Int) true (P : Int) E) r := by
  have hn := hG.len
  have hl := hL.len
  obtain ⟨_, _, hw⟩ := stepE_some hs
  have hwv := spec_with_f hG (fun i hi => hL.lt hi) (by omega) (rd (freeL P E L) (Int.tmod (rd cs (kk : Int)) ((freeL P E L).length : Int))) (L := L)
  rw [hw] at hwv
  refine ev_succ ?_
  simp only [spec_pePeel.j1]
  refine ev_pos trivial (ev_bind _ (spec_free_f hG (fun i hi => hL.lt hi) (by omega)) (ev_neg (by omega) (ev_pos (by omega) (ev_pos (by omega) (ev_pos h0 (ev_pos h1 (ev_bind _ hwv (ev_pos (by omega) (ev_bind _ (spec_drop_f (by omega) i) ?_)))))))))
  rw [winc (by omega)]
  exact H
theorem j1_zero {kk : Nat} (hk : cs.length ≤ kk) (hkl : kk ≤ 100000) (ha : acc.length ≤ 1000000) {i : Nat} (hf : freeL P E L ≠ []) (hs : stepE P E L 0 = some (i, rd (freeL P E L) 0)) {r : List S51 × List Int}
    (H : Ev (fun k => spec_pePeel.l0 k cs on (acc ++ [mkS51 (i, rd (freeL P E L) 0)]) (castL (dropE L i)) ((kk + 1 : Nat) : Int) (P : Int) E) r) :
    Ev (fun k => spec_pePeel.j1 k cs on acc (castL L) (kk : Int) true (P : Int) E) r := by
  have hn := hG.len
  have hl := hL.len
  have hz : ¬ (freeL P E L).length = 0 := fun e => hf (List.length_eq_zero_iff.1 e)
  obtain ⟨_, _, hw⟩ := stepE_some hs
  have hwv := spec_with_f hG (fun i hi => hL.lt hi) (by omega) (rd (freeL P E L) 0) (L := L)
  rw [hw] at hwv
  refine ev_succ ?_
  simp only [spec_pePeel.j1]
  refine ev_pos trivial (ev_bind _ (spec_free_f hG (fun i hi => hL.lt hi) (by omega)) (ev_neg (by omega) (ev_neg (by omega) (ev_pos (by omega) (ev_bind _ hwv (ev_pos (by omega) (ev_bind _ (spec_drop_f (by omega) i) ?_)))))))
  rw [winc (by omega)]
  exact H
end
theorem mkApp (acc : List S51) (s : Nat × Int) (l : List (Nat × Int)) : (acc ++ [mkS51 s]) ++ stepsL l = acc ++ stepsL (s :: l) := by simp [stepsL]
theorem spec_peel_on {P : Nat} {E : Edges} (hG : GoodH P E) {cs : List Int} : ∀ (d : Nat) (L : List Nat) (acc : List S51) (kk : Nat), Rg E.length L → L.length ≤ d → cs.length ≤ kk → kk + d ≤ 100000 → acc.length + d ≤ 1000000 →
    Ev (fun k => spec_pePeel.l0 k cs true acc (castL L) (kk : Int) (P : Int) E) (acc ++ stepsL (peelC P E (List.replicate d 0) L).1, castL (peelC P E (List.replicate d 0) L).2) := by
  have stop : ∀ (d : Nat) (L : List Nat) (acc : List S51) (kk : Nat), Rg E.length L → freeL P E L = [] → Ev (fun k => spec_pePeel.l0 k cs true acc (castL L) (kk : Int) (P : Int) E) (acc ++ stepsL (peelC P E (List.replicate d 0) L).1, castL (peelC P E (List.replicate d 0) L).2) := by
    intro d L acc kk hL hf
    have e : peelC P E (List.replicate d 0) L = ([], L) := by
      cases d with
      | zero => rfl
      | succ d => rw [List.replicate_succ, peelC_cons_none _ _ hf]
    rw [e]
    refine ev_succ ?_
    simp only [spec_pePeel.l0]
    refine ev_pos trivial ?_
    have := j1_end hG hL (cs := cs) (on := true) (acc := acc) hf (kk : Int)
    simpa [stepsL] using this
  intro d
  induction d with
  | zero =>
    intro L acc kk hL hd _ _ _
    have : L = [] := List.length_eq_zero_iff.1 (by omega)
    exact stop 0 L acc kk hL (by rw [this]; exact freeL_nil)
  | succ d ih =>
    intro L acc kk hL hd hk hkd ha
    by_cases hf : freeL P E L = []
    · exact stop (d + 1) L acc kk hL hf
    · obtain ⟨i, hs⟩ := step_zero hf
      obtain ⟨_, _, hw⟩ := stepE_some hs
      have hi := (withE_some hw).1
      have hdl := dropE_len hL.nodup hi
      rw [List.replicate_succ, peelC_cons_some _ hs]
      refine ev_succ ?_
      simp only [spec_pePeel.l0]
      refine ev_pos trivial (j1_zero hG hL hk (by omega) (by omega) hf hs ?_)
      have := ih (dropE L i) (acc ++ [mkS51 (i, rd (freeL P E L) 0)]) (kk + 1) (hL.drop i) (by omega) (by omega) (by omega) (by simp; omega)
      rw [mkApp] at this
      exact this
/-- The reference's peeling: by choices, and where 'on' is true by the choice 0 behind them. -/
theorem spec_peel_cs {P : Nat} {E : Edges} (hG : GoodH P E) {cs : List Int} (hcs : ∀ c ∈ cs, 0 ≤ c) (hcl : cs.length ≤ 1000) (on : Bool) {d : Nat} (hd : d ≤ 2000) : ∀ (t pre : List Int) (L : List Nat) (acc : List S51), cs = pre ++ t → Rg E.length L → L.length ≤ d → acc.length + t.length ≤ 900000 →
    Ev (fun k => spec_pePeel.l0 k cs on acc (castL L) (pre.length : Int) (P : Int) E) (acc ++ stepsL (peelC P E (chc t ++ if on = true then List.replicate d 0 else []) L).1, castL (peelC P E (chc t ++ if on = true then List.replicate d 0 else []) L).2) := by
  intro t
  induction t with
  | nil =>
    intro pre L acc h hL hld ha
    have hp : cs = pre := by rw [h, List.append_nil]
    subst hp
    cases on with
    | true =>
      rw [if_pos rfl]
      exact spec_peel_on hG d L acc cs.length hL hld (Nat.le_refl _) (by omega) (by omega)
    | false =>
      rw [if_neg (by simp)]
      refine ev_succ ?_
      simp only [spec_pePeel.l0]
      refine ev_neg (by simp) ?_
      rw [decide_eq_false (by omega)]
      refine ev_succ ?_
      simp only [spec_pePeel.j1]
      exact ev_neg (by simp) (ev_some (by simp [chc, peelC, stepsL]))
  | cons c t ih =>
    intro pre L acc h hL hld ha
    have hm : pre.length < cs.length := by rw [h]; simp
    have hg : rd cs (pre.length : Int) = c := by rw [h]; exact rd_mid
    have hc : 0 ≤ c := hcs c (by rw [h]; simp)
    have hl1 : Ev (fun k => spec_pePeel.j1 k cs on acc (castL L) (pre.length : Int) true (P : Int) E) (acc ++ stepsL (peelC P E (chc (c :: t) ++ if on = true then List.replicate d 0 else []) L).1, castL (peelC P E (chc (c :: t) ++ if on = true then List.replicate d 0 else []) L).2) := by
      simp only [chc, List.map_cons, List.cons_append]
      by_cases hf : freeL P E L = []
      · rw [peelC_cons_none _ _ hf]
        have := j1_end hG hL (cs := cs) (on := on) (acc := acc) hf (pre.length : Int)
        simpa [stepsL] using this
      · obtain ⟨i, hs, h0, h1⟩ := stepE_rd hc hf
        obtain ⟨_, _, hw⟩ := stepE_some hs
        have hdl := dropE_len hL.nodup (withE_some hw).1
        rw [peelC_cons_some _ hs]
        have next := ih (pre ++ [c]) (dropE L i) (acc ++ [mkS51 (i, rd (freeL P E L) (Int.tmod c ((freeL P E L).length : Int)))]) (by rw [h]; simp) (hL.drop i) (by omega) (by simp at ha ⊢; omega)
        rw [len_one, mkApp] at next
        simp only [List.length_cons] at ha
        exact j1_go hG hL (kk := pre.length) hm (by omega) (by omega) (by rw [hg]; exact hs) (by rw [hg]; exact h0) (by rw [hg]; exact h1) (by rw [hg]; exact next)
    refine ev_succ ?_
    simp only [spec_pePeel.l0]
    by_cases ho : on = true
    · exact ev_pos ho hl1
    · refine ev_neg ho ?_
      rw [decide_eq_true (by omega)]
      exact hl1
theorem spec_pePeel_f {P : Nat} {E : Edges} (hG : GoodH P E) {cs : List Int} (hcs : ∀ c ∈ cs, 0 ≤ c) (hcl : cs.length ≤ 1000) (on : Bool) :
    Ev (fun k => spec_pePeel.f k (P : Int) E cs on) (stepsL (peelC P E (chc cs ++ if on = true then List.replicate E.length 0 else []) (allE E)).1, castL (peelC P E (chc cs ++ if on = true then List.replicate E.length 0 else []) (allE E)).2) := by
  have hn := hG.len
  unfold spec_pePeel.f
  have := spec_peel_cs hG hcs hcl on (d := E.length) (by omega) cs [] (allE E) [] rfl (Rg.all _) (by simp [allE]) (by simp; omega)
  rw [List.nil_append] at this
  exact ev_bind _ (spec_peAll_f hn _) this
theorem spec_peCore_f {P : Nat} {E : Edges} (hG : GoodH P E) : Ev (fun k => spec_peCore.f k (P : Int) E) (castL (coreE P E)) := by
  unfold spec_peCore.f
  have := spec_pePeel_f hG (cs := []) (by simp) (by simp) true
  exact ev_bind _ this (Ev.now _)
end Go.Proofs.YthkcgimnagpmaaaQ
