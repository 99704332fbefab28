import Derived.Test.YtephjmmkggcmeaaCG4
import Derived.Test.YtephjmmkggcmeaaCG2
import Derived.Test.YtephjmmkggcmeaaCG3
import Derived.Test.YtephjmmkggcmeaaCG1
namespace Go.Proofs.YtephjmmkggcmeaaQ.CK
open Classical

def shareB (a b : List Int) : Bool := a.any (fun n => b.contains n)
def scan (ls : List (List Int)) (p : List Int) (k : Int) : Nat → Nat → List Int → List Nat → List Int × List Nat
  | 0, _, o, t => (o, t)
  | m + 1, j, o, t => if (decide (o.getD j 0 < 0) && shareB (el ls j) p) = true then scan ls p k m (j + 1) (o.set j k) (t ++ [j]) else scan ls p k m (j + 1) o t
def bfs (ls : List (List Int)) (k : Int) : Nat → List Int → List Nat → List Int
  | 0, o, _ => o
  | _ + 1, o, [] => o
  | f + 1, o, i :: t => bfs ls k f (scan ls (el ls i) k ls.length 0 o (i :: t)).1 (scan ls (el ls i) k ls.length 0 o (i :: t)).2.tail
def outer (ls : List (List Int)) : Nat → Nat → List Int → Nat → List Int × Nat
  | 0, _, o, c => (o, c)
  | m + 1, i, o, c => if 0 ≤ o.getD i 0 then outer ls m (i + 1) o c else outer ls m (i + 1) (bfs ls (c : Int) (ls.length + 1) (o.set i (c : Int)) [i]) (c + 1)
def groupsG (ls : List (List Int)) : List (List Nat) :=
  (List.range (outer ls ls.length 0 (List.replicate ls.length (-1)) 0).2).map (fun (k : Nat) => (List.range ls.length).filter (fun i => decide ((outer ls ls.length 0 (List.replicate ls.length (-1)) 0).1.getD i 0 = (k : Int))))

section
variable {ls : List (List Int)}
theorem shareB_iff {i j : Nat} : shareB (el ls j) (el ls i) = true ↔ Adj ls j i := by
  unfold shareB Adj
  rw [List.any_eq_true]
  constructor
  · rintro ⟨x, h1, h2⟩
    exact ⟨x, h1, List.contains_iff_mem.1 h2⟩
  · rintro ⟨x, h1, h2⟩
    exact ⟨x, h1, List.contains_iff_mem.2 h2⟩
theorem getD_set {o : List Int} {j i : Nat} {v : Int} (h : j < o.length) : (o.set j v).getD i 0 = if j = i then v else o.getD i 0 := by
  rw [List.getD_eq_getElem?_getD]
  by_cases c : j = i
  · subst c
    rw [List.getElem?_set_self (by simpa using h), if_pos rfl]
    rfl
  · rw [List.getElem?_set_ne c, if_neg c, ← List.getD_eq_getElem?_getD]
theorem scan_ok (p : List Int) {k : Int} (hk : 0 ≤ k) : ∀ (m j : Nat) (o : List Int) (t : List Nat), j + m ≤ o.length →
    (scan ls p k m j o t).1.length = o.length ∧ (∀ q, (scan ls p k m j o t).1.getD q 0 = if j ≤ q ∧ q < j + m ∧ o.getD q 0 < 0 ∧ shareB (el ls q) p = true then k else o.getD q 0) ∧
    (scan ls p k m j o t).2 = t ++ (List.range' j m).filter (fun q => decide (o.getD q 0 < 0 ∧ shareB (el ls q) p = true))
  | 0, j, o, t, _ => ⟨rfl, fun q => by rw [if_neg (by omega)]; rfl, by simp [scan]⟩
  | m + 1, j, o, t, h => by
    simp only [scan]
    by_cases c : (decide (o.getD j 0 < 0) && shareB (el ls j) p) = true
    · rw [if_pos c]
      rw [Bool.and_eq_true, decide_eq_true_eq] at c
      obtain ⟨h1, h2, h3⟩ := scan_ok p hk m (j + 1) (o.set j k) (t ++ [j]) (by rw [List.length_set]; omega)
      rw [List.length_set] at h1
      refine ⟨h1, fun q => ?_, ?_⟩
      · rw [h2, getD_set (by omega)]
        by_cases e : j = q
        · subst e
          rw [if_neg (by omega), if_pos rfl, if_pos ⟨Nat.le_refl _, by omega, c⟩]
        · rw [if_neg e]
          by_cases g : j + 1 ≤ q ∧ q < j + 1 + m ∧ o.getD q 0 < 0 ∧ shareB (el ls q) p = true
          · rw [if_pos g, if_pos ⟨by omega, by omega, g.2.2⟩]
          · rw [if_neg g, if_neg (fun g' => g ⟨by omega, by omega, g'.2.2⟩)]
      · rw [h3, List.range'_succ, List.filter_cons, if_pos (by simpa using c), List.append_assoc, List.singleton_append]
        congr 2
        apply List.filter_congr
        intro q hq
        have := (List.mem_range'_1.1 hq).1
        rw [getD_set (by omega), if_neg (by omega)]
    · rw [if_neg c]
      obtain ⟨h1, h2, h3⟩ := scan_ok p hk m (j + 1) o t (by omega)
      rw [Bool.and_eq_true, decide_eq_true_eq] at c
      refine ⟨h1, fun q => ?_, ?_⟩
      · rw [h2]
        by_cases e : j = q
        · subst e
          rw [if_neg (by omega), if_neg (fun g => c g.2.2)]
        · by_cases g : j + 1 ≤ q ∧ q < j + 1 + m ∧ o.getD q 0 < 0 ∧ shareB (el ls q) p = true
          · rw [if_pos g, if_pos ⟨by omega, by omega, g.2.2⟩]
          · rw [if_neg g, if_neg (fun g' => g ⟨by omega, by omega, g'.2.2⟩)]
      · rw [h3, List.range'_succ, List.filter_cons, if_neg (by simpa using c)]
structure Bfs (ls : List (List Int)) (k : Int) (i : Nat) (o0 o : List Int) (t : List Nat) : Prop where
  len : o.length = ls.length
  rest : ∀ q, o.getD q 0 ≠ k → o.getD q 0 = o0.getD q 0
  found : Found ls i (fun q => q < ls.length ∧ o.getD q 0 = k) t
  nodup : t.Nodup
def freeN (o : List Int) (n : Nat) : Nat := (List.range n).countP (fun q => decide (o.getD q 0 < 0))
theorem bfs_step {k : Int} (hk : 0 ≤ k) {i : Nat} {o0 o : List Int} {a : Nat} {t : List Nat} (h : Bfs ls k i o0 o (a :: t)) (h0 : ∀ q, Reach ls i q → o0.getD q 0 < 0) :
    Bfs ls k i o0 (scan ls (el ls a) k ls.length 0 o (a :: t)).1 (scan ls (el ls a) k ls.length 0 o (a :: t)).2.tail ∧
    (scan ls (el ls a) k ls.length 0 o (a :: t)).2.tail.length + freeN (scan ls (el ls a) k ls.length 0 o (a :: t)).1 ls.length + 1 ≤ (a :: t).length + freeN o ls.length := by
  obtain ⟨s1, s2, s3⟩ := scan_ok (ls := ls) (el ls a) hk ls.length 0 o (a :: t) (by rw [h.len]; omega)
  have ha := h.found.sub a (by simp)
  have hra := h.found.sound a ha
  have htl : (scan ls (el ls a) k ls.length 0 o (a :: t)).2.tail = t ++ (List.range' 0 ls.length).filter (fun q => decide (o.getD q 0 < 0 ∧ shareB (el ls q) (el ls a) = true)) := by
    rw [s3, List.cons_append, List.tail_cons]
  have new : ∀ q, q < ls.length → o.getD q 0 < 0 → shareB (el ls q) (el ls a) = true → Reach ls i q := fun q hq _ h2 => .step hra.1 hq (shareB_iff.1 h2).symm
  refine ⟨⟨by rw [s1, h.len], fun q hq => ?_, ⟨?_, fun q hq => ?_, fun q hq => ?_, fun q r hq hqt hr hadj => ?_⟩, ?_⟩, ?_⟩
  · rw [s2] at hq ⊢
    by_cases c : 0 ≤ q ∧ q < 0 + ls.length ∧ o.getD q 0 < 0 ∧ shareB (el ls q) (el ls a) = true
    · rw [if_pos c] at hq; exact absurd rfl hq
    · rw [if_neg c] at hq ⊢; exact h.rest q hq
  · have hi := h.found.here
    refine ⟨hi.1, ?_⟩
    rw [s2]
    split
    · rfl
    · exact hi.2
  · obtain ⟨h1, h2⟩ := hq
    rw [s2] at h2
    by_cases c : 0 ≤ q ∧ q < 0 + ls.length ∧ o.getD q 0 < 0 ∧ shareB (el ls q) (el ls a) = true
    · exact ⟨new q h1 c.2.2.1 c.2.2.2, h1⟩
    · rw [if_neg c] at h2
      exact h.found.sound q ⟨h1, h2⟩
  · rw [htl, List.mem_append] at hq
    rcases hq with hq | hq
    · obtain ⟨h1, h2⟩ := h.found.sub q (by simp [hq])
      refine ⟨h1, ?_⟩
      rw [s2]
      split
      · rfl
      · exact h2
    · rw [List.mem_filter, List.mem_range'_1, decide_eq_true_eq] at hq
      refine ⟨by omega, ?_⟩
      rw [s2, if_pos ⟨hq.1.1, hq.1.2, hq.2⟩]
  · obtain ⟨h1, h2⟩ := hq
    refine ⟨hr, ?_⟩
    rw [htl, List.mem_append, not_or] at hqt
    rw [s2] at h2 ⊢
    by_cases c : 0 ≤ q ∧ q < 0 + ls.length ∧ o.getD q 0 < 0 ∧ shareB (el ls q) (el ls a) = true
    · exact absurd (List.mem_filter.2 ⟨List.mem_range'_1.2 ⟨c.1, c.2.1⟩, decide_eq_true c.2.2⟩) hqt.2
    · rw [if_neg c] at h2
      by_cases e : q = a
      · subst e
        by_cases g : o.getD r 0 < 0
        · rw [if_pos ⟨Nat.zero_le _, by omega, g, shareB_iff.2 hadj.symm⟩]
        · rw [if_neg (fun g' => g g'.2.2.1)]
          apply Classical.byContradiction
          intro hne
          have := h.rest r hne
          have h4 := h0 r (.step hra.1 hr hadj)
          omega
      · have := h.found.shut q r ⟨h1, h2⟩ (by simp [e, hqt.1]) hr hadj
        split
        · rfl
        · exact this.2
  · rw [htl]
    rw [List.nodup_append]
    have hn := List.nodup_cons.1 h.nodup
    refine ⟨hn.2, (List.nodup_range' (step := 1)).filter _, fun x hx y hy e => ?_⟩
    subst e
    rw [List.mem_filter, decide_eq_true_eq] at hy
    have := (h.found.sub x (by simp [hx])).2
    omega
  · rw [htl, List.length_append, List.length_cons]
    have hcnt : freeN (scan ls (el ls a) k ls.length 0 o (a :: t)).1 ls.length + ((List.range' 0 ls.length).filter (fun q => decide (o.getD q 0 < 0 ∧ shareB (el ls q) (el ls a) = true))).length = freeN o ls.length := by
      unfold freeN
      rw [← List.countP_eq_length_filter, ← List.range_eq_range']
      have : ∀ l : List Nat, (∀ q ∈ l, q < ls.length) → l.countP (fun q => decide ((scan ls (el ls a) k ls.length 0 o (a :: t)).1.getD q 0 < 0)) + l.countP (fun q => decide (o.getD q 0 < 0 ∧ shareB (el ls q) (el ls a) = true)) = l.countP (fun q => decide (o.getD q 0 < 0)) := fun l => by
        induction l with
        | nil => simp
        | cons q l ih =>
          intro hl
          have ih := ih (fun r hr => hl r (by simp [hr]))
          have hq := hl q (by simp)
          rw [List.countP_cons, List.countP_cons, List.countP_cons]
          by_cases c : o.getD q 0 < 0 ∧ shareB (el ls q) (el ls a) = true
          · have e1 : (scan ls (el ls a) k ls.length 0 o (a :: t)).1.getD q 0 = k := by rw [s2, if_pos ⟨Nat.zero_le _, by omega, c⟩]
            rw [e1, decide_eq_true c, decide_eq_true c.1, decide_eq_false (show ¬ k < 0 by omega)]
            simp only [if_true, Bool.false_eq_true, if_false]
            omega
          · have e1 : (scan ls (el ls a) k ls.length 0 o (a :: t)).1.getD q 0 = o.getD q 0 := by rw [s2, if_neg (fun g => c g.2.2)]
            rw [e1, decide_eq_false c]
            simp only [Bool.false_eq_true, if_false]
            omega
      exact this _ (fun q hq => List.mem_range.1 hq)
    omega
theorem bfs_ok {k : Int} (hk : 0 ≤ k) {i : Nat} {o0 : List Int} (h0 : ∀ q, Reach ls i q → o0.getD q 0 < 0) : ∀ (f : Nat) (o : List Int) (t : List Nat), Bfs ls k i o0 o t → t.length + freeN o ls.length < f → Bfs ls k i o0 (bfs ls k f o t) []
  | 0, _, _, _, hf => by omega
  | f + 1, o, [], h, _ => by simpa [bfs] using h
  | f + 1, o, a :: t, h, hf => by
    obtain ⟨h1, h2⟩ := bfs_step hk h h0
    simp only [bfs]
    exact bfs_ok hk h0 f _ _ h1 (by omega)
structure Outer (ls : List (List Int)) (i : Nat) (o : List Int) (c : Nat) : Prop where
  len : o.length = ls.length
  cnt : c = ((heads ls).filter (fun h => decide (h < i))).length
  told : ∀ (a h : Nat), ((heads ls).filter (fun h => decide (h < i)))[a]? = some h → ∀ q, q < ls.length → (o.getD q 0 = (a : Int) ↔ Reach ls h q)
  free : ∀ q, q < ls.length → (∀ h, h ∈ heads ls → h < i → ¬ Reach ls h q) → o.getD q 0 < 0
theorem heads_sorted : (heads ls).Pairwise (· < ·) := List.pairwise_lt_range.filter _
theorem filter_succ {l : List Nat} (hs : l.Pairwise (· < ·)) (i : Nat) : l.filter (fun h => decide (h < i + 1)) = l.filter (fun h => decide (h < i)) ++ (if i ∈ l then [i] else []) := by
  induction l with
  | nil => simp
  | cons x l ih =>
    rw [List.pairwise_cons] at hs
    have ih := ih hs.2
    rw [List.filter_cons, List.filter_cons]
    rcases Nat.lt_trichotomy x i with h | h | h
    · rw [if_pos (by simpa using by omega), if_pos (by simpa using h), ih, List.cons_append]
      congr 2
      have : (i ∈ x :: l) ↔ i ∈ l := by rw [List.mem_cons]; exact ⟨fun e => e.resolve_left (by omega), .inr⟩
      simp [this]
    · subst h
      have hn : l.filter (fun h => decide (h < x)) = [] := by
        rw [List.filter_eq_nil_iff]
        intro y hy
        have := hs.1 y hy
        simp; omega
      have hn2 : l.filter (fun h => decide (h < x + 1)) = [] := by
        rw [List.filter_eq_nil_iff]
        intro y hy
        have := hs.1 y hy
        simp; omega
      rw [if_pos (by simp), if_neg (by simp), hn, hn2, if_pos (by simp)]
      rfl
    · have hn : ∀ m, m ≤ i + 1 → l.filter (fun h => decide (h < m)) = [] := fun m hm => by
        rw [List.filter_eq_nil_iff]
        intro y hy
        have := hs.1 y hy
        simp; omega
      have : ¬ i ∈ x :: l := fun e => by
        rcases List.mem_cons.1 e with e | e
        · omega
        · have := hs.1 i e; omega
      rw [if_neg (by simpa using by omega), if_neg (by simpa using by omega), hn _ (Nat.le_refl _), hn _ (by omega), if_neg this]
      rfl
theorem outer_ok : ∀ (m i : Nat) (o : List Int) (c : Nat), i + m = ls.length → Outer ls i o c → Outer ls ls.length (outer ls m i o c).1 (outer ls m i o c).2
  | 0, i, o, c, h, H => by
    have : i = ls.length := by omega
    subst this
    exact H
  | m + 1, i, o, c, h, H => by
    simp only [outer]
    have hnth : ∀ (a hh : Nat), ((heads ls).filter (fun h => decide (h < i)))[a]? = some hh → hh ∈ heads ls ∧ hh < i := fun a hh e => by
      have := List.mem_of_getElem? e
      rw [List.mem_filter, decide_eq_true_eq] at this
      exact this
    by_cases g : 0 ≤ o.getD i 0
    · rw [if_pos g]
      have hnh : ¬ i ∈ heads ls := fun hi => by
        have : o.getD i 0 < 0 := H.free i (by omega) (fun h2 hh hlt hr => by
          have := head_uniq hi hh (.refl i) hr
          omega)
        omega
      have hf : (heads ls).filter (fun h => decide (h < i + 1)) = (heads ls).filter (fun h => decide (h < i)) := by
        rw [filter_succ heads_sorted, if_neg hnh, List.append_nil]
      refine outer_ok m (i + 1) o c (by omega) ⟨H.len, by rw [hf]; exact H.cnt, by rw [hf]; exact H.told, fun q hq hno => H.free q hq (fun h2 hh hlt => hno h2 hh (by omega))⟩
    · rw [if_neg g]
      have hi : i ∈ heads ls := by
        obtain ⟨h2, hh, hr⟩ := head_of (ls := ls) i i (Nat.le_refl _) (by omega)
        by_cases e : h2 = i
        · exact e ▸ hh
        · have hlt : h2 < i := by have := (mem_heads.1 hh).2 h2 (.refl _); have := (mem_heads.1 hh).2 i hr; omega
          have hm : h2 ∈ (heads ls).filter (fun h => decide (h < i)) := List.mem_filter.2 ⟨hh, by simpa using hlt⟩
          obtain ⟨a, ha⟩ := List.getElem?_of_mem hm
          have := (H.told a h2 ha i (by omega)).2 hr
          omega
      have h0 : ∀ q, Reach ls i q → o.getD q 0 < 0 := fun q hq => H.free q (hq.lt (by omega)) (fun h2 hh hlt hr => by
        have := head_uniq hi hh hq hr
        omega)
      have hset : ∀ q, (o.set i (c : Int)).getD q 0 = if i = q then (c : Int) else o.getD q 0 := fun q => getD_set (by rw [H.len]; omega)
      have hlt : ∀ q, q < ls.length → o.getD q 0 ≠ (c : Int) := fun q hq e => by
        by_cases r : ∀ h2, h2 ∈ heads ls → h2 < i → ¬ Reach ls h2 q
        · have := H.free q hq r; omega
        · simp only [Classical.not_forall, Classical.not_not] at r
          obtain ⟨h2, hh, hlt, hr⟩ := r
          have hm : h2 ∈ (heads ls).filter (fun h => decide (h < i)) := List.mem_filter.2 ⟨hh, by simpa using hlt⟩
          obtain ⟨a, ha⟩ := List.getElem?_of_mem hm
          have h3 := (H.told a h2 ha q hq).2 hr
          have h4 : a < c := by
            rw [H.cnt]
            exact (List.getElem?_eq_some_iff.1 ha).1
          omega
      have hB : Bfs ls (c : Int) i o (o.set i (c : Int)) [i] := by
        refine ⟨by rw [List.length_set, H.len], fun q hq => ?_, ⟨⟨by omega, by rw [hset, if_pos rfl]⟩, fun q hq => ?_, fun q hq => ?_, fun q r hq hqt => ?_⟩, by simp⟩
        · rw [hset] at hq ⊢
          by_cases e : i = q
          · rw [if_pos e] at hq; exact absurd rfl hq
          · rw [if_neg e]
        · obtain ⟨h1, h2⟩ := hq
          rw [hset] at h2
          by_cases e : i = q
          · subst e; exact ⟨.refl _, h1⟩
          · rw [if_neg e] at h2
            exact absurd h2 (hlt q h1)
        · rw [List.mem_singleton] at hq
          subst hq
          exact ⟨by omega, by rw [hset, if_pos rfl]⟩
        · obtain ⟨h1, h2⟩ := hq
          rw [hset, if_neg (fun e => hqt (by simp [e]))] at h2
          exact absurd h2 (hlt q h1)
      have hfree : freeN (o.set i (c : Int)) ls.length ≤ ls.length - 1 := by
        unfold freeN
        have : (List.range ls.length).countP (fun q => decide ((o.set i (c : Int)).getD q 0 < 0)) + 1 ≤ (List.range ls.length).countP (fun _ => true) := countP_lt (fun _ _ _ => rfl) ⟨i, List.mem_range.2 (by omega), rfl, by
          rw [hset, if_pos rfl]
          exact decide_eq_false (by omega)⟩
        rw [List.countP_true, List.length_range] at this
        omega
      obtain ⟨b1, b2, b3, _⟩ := bfs_ok (by omega) h0 (ls.length + 1) _ [i] hB (by simp; omega)
      have hall := b3.all
      generalize bfs ls (c : Int) (ls.length + 1) (o.set i (c : Int)) [i] = o' at b1 b2 hall
      have hf : (heads ls).filter (fun h => decide (h < i + 1)) = (heads ls).filter (fun h => decide (h < i)) ++ [i] := by
        rw [filter_succ heads_sorted, if_pos hi]
      refine outer_ok m (i + 1) o' (c + 1) (by omega) ⟨b1, by rw [hf, List.length_append, ← H.cnt]; rfl, fun a h2 ha q hq => ?_, fun q hq hno => ?_⟩
      · rw [hf, List.getElem?_append] at ha
        have hc := H.cnt
        by_cases l : a < ((heads ls).filter (fun h => decide (h < i))).length
        · rw [if_pos l] at ha
          rw [← H.told a h2 ha q hq]
          obtain ⟨hh, hlt2⟩ := hnth a h2 ha
          by_cases e : o'.getD q 0 = (c : Int)
          · have hr := (hall q).1 ⟨hq, e⟩
            have := h0 q hr
            constructor
            · intro e2; omega
            · intro e2; omega
          · rw [b2 q e]
        · rw [if_neg l] at ha
          have hac : a = c := by
            have := (List.getElem?_eq_some_iff.1 ha).1
            simp at this
            omega
          rw [show a - ((heads ls).filter (fun h => decide (h < i))).length = 0 from by omega] at ha
          have h2i : h2 = i := by simpa using ha.symm
          subst h2i
          rw [hac]
          exact ⟨fun e => (hall q).1 ⟨hq, e⟩, fun e => ((hall q).2 e).2⟩
      · have hne : o'.getD q 0 ≠ (c : Int) := fun e => hno i hi (by omega) ((hall q).1 ⟨hq, e⟩)
        rw [b2 q hne]
        exact H.free q hq (fun h2 hh hlt2 => hno h2 hh (by omega))
theorem groupsG_eq : groupsG ls = groupsC ls := by
  have H : Outer ls 0 (List.replicate ls.length (-1)) 0 := by
    have hn : (heads ls).filter (fun h => decide (h < 0)) = [] := by
      rw [List.filter_eq_nil_iff]
      intro y _; simp
    refine ⟨List.length_replicate, by rw [hn]; rfl, fun a h e => by rw [hn] at e; simp at e, fun q hq _ => ?_⟩
    rw [List.getD_eq_getElem?_getD, List.getElem?_replicate, if_pos hq]
    decide
  have F := outer_ok ls.length 0 _ 0 (by omega) H
  unfold groupsG groupsC
  generalize (outer ls ls.length 0 (List.replicate ls.length (-1)) 0) = r at F
  have hf : (heads ls).filter (fun h => decide (h < ls.length)) = heads ls := by
    rw [List.filter_eq_self]
    intro h hh
    simpa using (mem_heads.1 hh).1
  obtain ⟨_, f2, f3, _⟩ := F
  rw [hf] at f2 f3
  apply List.ext_getElem
  · rw [List.length_map, List.length_map, List.length_range, f2]
  · intro a h1 h2
    rw [List.length_map] at h2
    rw [List.getElem_map, List.getElem_map, List.getElem_range]
    unfold comp
    apply List.filter_congr
    intro q hq
    rw [decide_eq_decide]
    exact f3 a _ (List.getElem?_eq_getElem h2) q (List.mem_range.1 hq)
end
end Go.Proofs.YtephjmmkggcmeaaQ.CK
namespace Go.Proofs.YtephjmmkggcmeaaQ
open Go Go.RowKit Go.Proofs.YtephjmmkggcmeaaW.PrintWords Go.Proofs.YtephjmmkggcmeaaW.PrintMore Go.Proofs.YtephjmmkggcmeaaGp Go.Proofs.Ytephjmmkggcmeaa.PG
open CK (el)

theorem slices_Index_int_l0 (x0 : List Int) (a : Int) (hl : (x0.length : Int) ≤ 9223372036854775806) : ∀ (t pre : List Int), x0 = pre ++ t →
    ∃ r, Ev (fun k => slices_Index_int_int.l0 k x0 a (x0.length : Int) (pre.length : Int)) r ∧ decide (r ≥ 0) = t.contains a := by
  intro t
  induction t with
  | nil =>
    intro pre h
    refine ⟨-1, ev_succ ?_, by simp⟩
    simp only [slices_Index_int_int.l0]
    exact ev_neg (by rw [h]; exact not_lt_end) (Ev.now _)
  | cons x t ih =>
    intro pre h
    have hm : ((pre.length : Nat) : Int) < (x0.length : Int) := by rw [h]; exact lt_mid
    have hg : rd x0 (pre.length : Int) = x := by rw [h]; exact rd_mid
    by_cases c : a = x
    · refine ⟨(pre.length : Int), ev_succ ?_, by simp [c]⟩
      simp only [slices_Index_int_int.l0, hg]
      exact ev_pos hm (ev_pos (by omega) (ev_pos hm (ev_pos c (Ev.now _))))
    · obtain ⟨r, h1, h2⟩ := ih (pre ++ [x]) (by rw [h]; simp)
      rw [len_one] at h1
      refine ⟨r, ev_succ ?_, by rw [h2]; simp [c]⟩
      simp only [slices_Index_int_int.l0, hg]
      refine ev_pos hm (ev_pos (by omega) (ev_pos hm (ev_neg c ?_)))
      rw [winc (by omega)]
      exact h1
theorem slices_Contains_int_f (l : List Int) (a : Int) (hl : (l.length : Int) ≤ 9223372036854775806) : Ev (fun k => slices_Contains_int_int.f k l a) (l.contains a) := by
  obtain ⟨r, h1, h2⟩ := slices_Index_int_l0 l a hl l [] rfl
  unfold slices_Contains_int_int.f slices_Index_int_int.f
  refine ev_bind _ h1 (ev_some h2)
def zs (l : List Nat) : List Int := l.map fun (n : Nat) => (n : Int)
theorem zs_len (l : List Nat) : (zs l).length = l.length := by simp [zs]
theorem zs_snoc (l : List Nat) (n : Nat) : zs (l ++ [n]) = zs l ++ [(n : Int)] := by simp [zs]
theorem zs_tail (l : List Nat) : (zs l).drop 1 = zs l.tail := by cases l <;> simp [zs]
theorem zs_hd (a : Nat) (t : List Nat) : rd (zs (a :: t)) 0 = (a : Int) := by simp [zs, rd]
theorem zs_mem {l : List Nat} {n : Nat} : (n : Int) ∈ zs l ↔ n ∈ l := by
  unfold zs
  rw [List.mem_map]
  constructor
  · rintro ⟨a, h, e⟩
    have : a = n := by omega
    exact this ▸ h
  · intro h; exact ⟨n, h, rfl⟩
theorem zs_contains (l : List Nat) (n : Nat) : (zs l).contains (n : Int) = decide (n ∈ l) := by
  rw [Bool.eq_iff_iff, List.contains_iff_mem, zs_mem, decide_eq_true_eq]
theorem zs_get (l : List Nat) {i : Nat} (h : i < l.length) : rd (zs l) (i : Int) = (l[i] : Int) := by
  rw [rd_get (by rw [zs_len]; exact h)]
  simp [zs]
theorem rd_nat (l : List Int) (q : Nat) : rd l (q : Int) = l.getD q 0 := by simp [rd]
theorem rdll_nat (L : List (List Int)) (q : Nat) : rd_L3 L (q : Int) = el L q := by
  unfold rd_L3 el
  rw [Int.toNat_natCast]
theorem el_get {L : List (List Int)} {q : Nat} (h : q < L.length) : el L q = L[q] := by
  unfold el
  rw [List.getD_eq_getElem?_getD, List.getElem?_eq_getElem h]
  rfl
theorem el_len {L : List (List Int)} (hL : ∀ e ∈ L, e.length ≤ 1000) (q : Nat) : (el L q).length ≤ 1000 := by
  unfold el
  rw [List.getD_eq_getElem?_getD]
  cases h : L[q]? with
  | none => simp
  | some x => exact hL x (List.mem_of_getElem? h)
def prs (a n : Int) (l : List ByteArray) : List (List Int) := l.map fun s => [placeV a 0 s n, placeV a 1 s n]
theorem prs_len (a n : Int) (l : List ByteArray) : (prs a n l).length = l.length := by simp [prs]
theorem prs_el {a n : Int} {l : List ByteArray} {i : Nat} (h : i < l.length) : el (prs a n l) i = [placeV a 0 l[i] n, placeV a 1 l[i] n] := by
  rw [el_get (by rw [prs_len]; exact h)]
  simp [prs]
theorem prs_pairs (a n : Int) (l : List ByteArray) : CK.Pairs (prs a n l) := fun i hi => ⟨_, _, prs_el (by rwa [prs_len] at hi)⟩
theorem prs_two {a n : Int} {l : List ByteArray} : ∀ e ∈ prs a n l, e.length ≤ 1000 := by
  intro e he
  obtain ⟨s, _, rfl⟩ := List.mem_map.1 he
  simp
def keyedC (a : Int) (l : List ByteArray) (n : Int) : Bool := decide (0 ≤ a ∧ a ≤ 9999) && areKeysB l && decide (1 ≤ n ∧ n ≤ 64)
theorem keyedC_ok {a n : Int} {l : List ByteArray} (h : keyedC a l n = true) : (0 ≤ a ∧ a ≤ 9999) ∧ areKeysB l = true ∧ 1 ≤ n ∧ n ≤ 64 := by
  unfold keyedC at h
  simp only [Bool.and_eq_true, decide_eq_true_eq] at h
  exact ⟨h.1.1, h.1.2, h.2⟩
theorem keys_small {l : List ByteArray} (h : areKeysB l = true) : l.length ≤ 40 ∧ ∀ s ∈ l, s.size ≤ 1000 :=
  ⟨areKeysB_len h, fun s hs => by have := isKeyB_size (areKeysB_all h s hs); omega⟩
section
variable {a n : Int}
theorem spec_cuKeyed_f (a n : Int) {l : List ByteArray} (hl : l.length ≤ 1000) (hz : ∀ s ∈ l, s.size ≤ 1000) : Ev (fun k => spec_cuKeyed.f k a l n) (keyedC a l n) := by
  have hk := spec_biKeys_f l (by omega) (fun s hs => by have := hz s hs; omega)
  unfold spec_cuKeyed.f spec_cuSize.f keyedC
  simp only [spec_in, Option.bind_some]
  by_cases c : 0 ≤ a ∧ a ≤ 9999
  · rw [decide_eq_true c, Bool.true_and, if_pos rfl]
    simp only [Option.bind_some]
    by_cases d : 1 ≤ n ∧ n ≤ 64
    · rw [decide_eq_true d, Bool.and_true]
      exact ev_pos rfl (ev_bind _ hk (Ev.now _))
    · rw [decide_eq_false d, Bool.and_false]
      exact ev_neg (by simp) (Ev.now _)
  · rw [decide_eq_false c, Bool.false_and, Bool.false_and, if_neg (by simp)]
    simp only [Option.bind_some]
    exact ev_neg (by simp) (Ev.now _)
theorem spec_cuCells_f (ha : 0 ≤ a) (ha' : a ≤ 9999) (s : ByteArray) (hz : s.size ≤ 1000) : Ev (fun k => spec_cuCells.f k a s n) [placeV a 0 s n, placeV a 1 s n] := by
  unfold spec_cuCells.f
  exact ev_bind _ (spec_biPlace_f a 0 s n (by omega) ha (by omega) (by omega) (by omega)) (ev_bind _ (spec_biPlace_f a 1 s n (by omega) ha (by omega) (by omega) (by omega)) (Ev.now _))
theorem impl_cellsOf_f (ha : 0 ≤ a) (ha' : a ≤ 9999) (s : ByteArray) (hz : s.size ≤ 1000) : Ev (fun k => impl_cellsOf.f k a s n) (placeV a 0 s n, placeV a 1 s n) := by
  unfold impl_cellsOf.f
  exact ev_bind _ (impl_place_f a 0 s n (by omega) ha (by omega) (by omega) (by omega)) (ev_bind _ (impl_place_f a 1 s n (by omega) ha (by omega) (by omega) (by omega)) (Ev.now _))
theorem spec_cuPairs_f (ha : 0 ≤ a) (ha' : a ≤ 9999) {l : List ByteArray} (hl : l.length ≤ 1000) (hz : ∀ s ∈ l, s.size ≤ 1000) : Ev (fun k => spec_cuPairs.f k a l n) (prs a n l) := by
  have H : ∀ (t pre : List ByteArray), l = pre ++ t → Ev (fun k => spec_cuPairs.l0 k a n (prs a n pre) l (l.length : Int) (pre.length : Int)) (prs a n l) := by
    intro t
    induction t with
    | nil =>
      intro pre h
      have hp : l = pre := by rw [h, List.append_nil]
      subst hp
      refine ev_succ ?_
      simp only [spec_cuPairs.l0]
      exact ev_neg (by omega) (Ev.now _)
    | cons x t ih =>
      intro pre h
      have hm : ((pre.length : Nat) : Int) < (l.length : Int) := by rw [h]; exact lt_mid
      have hg : rdOf ByteArray.empty l (pre.length : Int) = x := by rw [h]; exact rdOf_mid
      refine ev_succ ?_
      simp only [spec_cuPairs.l0, hg]
      refine ev_pos hm (ev_pos (by omega) (ev_pos hm (ev_bind _ (spec_cuCells_f ha ha' x (hz x (by rw [h]; simp))) (ev_pos (by rw [prs_len]; omega) ?_))))
      rw [winc (by omega)]
      have := ih (pre ++ [x]) (by rw [h]; simp)
      rw [len_one] at this
      unfold prs at this ⊢
      rw [List.map_append, List.map_singleton] at this
      exact this
  unfold spec_cuPairs.f
  exact H l [] rfl
theorem impl_pairs_go (ha : 0 ≤ a) (ha' : a ≤ 9999) {l : List ByteArray} (hl : l.length ≤ 1000) (hz : ∀ s ∈ l, s.size ≤ 1000) : Ev (fun k => impl_pairs.l0 k a n [] l (l.length : Int) 0) (prs a n l, true) := by
  have H : ∀ (t pre : List ByteArray), l = pre ++ t → Ev (fun k => impl_pairs.l0 k a n (prs a n pre) l (l.length : Int) (pre.length : Int)) (prs a n l, true) := by
    intro t
    induction t with
    | nil =>
      intro pre h
      have hp : l = pre := by rw [h, List.append_nil]
      subst hp
      refine ev_succ ?_
      simp only [impl_pairs.l0]
      exact ev_neg (by omega) (Ev.now _)
    | cons x t ih =>
      intro pre h
      have hm : ((pre.length : Nat) : Int) < (l.length : Int) := by rw [h]; exact lt_mid
      have hg : rdOf ByteArray.empty l (pre.length : Int) = x := by rw [h]; exact rdOf_mid
      refine ev_succ ?_
      simp only [impl_pairs.l0, hg]
      refine ev_pos hm (ev_pos (by omega) (ev_pos hm (ev_bind _ (impl_cellsOf_f ha ha' x (hz x (by rw [h]; simp))) (ev_pos (by rw [prs_len]; omega) ?_))))
      rw [winc (by omega)]
      have := ih (pre ++ [x]) (by rw [h]; simp)
      rw [len_one] at this
      unfold prs at this ⊢
      rw [List.map_append, List.map_singleton] at this
      exact this
  exact H l [] rfl
theorem impl_pairs_f (a n : Int) {l : List ByteArray} (hl : l.length ≤ 1000) (hz : ∀ s ∈ l, s.size ≤ 1000) : Ev (fun k => impl_pairs.f k a l n) (if keyedC a l n = true then (prs a n l, true) else ([], false)) := by
  have hk := impl_AreKeys_f l (by omega) (fun s hs => by have := hz s hs; omega)
  have j1 : Ev (fun k => impl_pairs.j0 k a l n true) ([], false) := ev_succ (by simp only [impl_pairs.j0]; exact ev_pos (by trivial) (Ev.now _))
  unfold impl_pairs.f impl_isSeed.f impl_cellsOk.f keyedC
  simp only [impl_in, Option.bind_some]
  by_cases c : 0 ≤ a ∧ a ≤ 9999
  · rw [decide_eq_true c, Bool.true_and]
    refine ev_pos rfl (ev_bind _ hk ?_)
    by_cases e : areKeysB l = true
    · rw [e, Bool.true_and]
      refine ev_pos rfl ?_
      by_cases d : 1 ≤ n ∧ n ≤ 64
      · rw [decide_eq_true d, if_pos rfl]
        refine ev_succ ?_
        simp only [impl_pairs.j0]
        exact ev_neg (by simp) (impl_pairs_go c.1 c.2 hl hz)
      · rw [decide_eq_false d, if_neg (by simp)]
        exact j1
    · rw [Bool.eq_false_iff.2 e, Bool.false_and, if_neg (by simp)]
      exact ev_neg (by simp) j1
  · rw [decide_eq_false c, Bool.false_and, Bool.false_and, if_neg (by simp)]
    exact ev_neg (by simp) j1
theorem impl_CellsOf_f {l : List ByteArray} (h : keyedC a l n = true) {s : ByteArray} (hs : s ∈ l) : Ev (fun k => impl_CellsOf.f k a s n) (placeV a 0 s n, placeV a 1 s n, true) := by
  obtain ⟨h1, h2, h3⟩ := keyedC_ok h
  obtain ⟨_, hz⟩ := keys_small h2
  have hk := impl_IsKey_f s (by have := hz s hs; omega)
  rw [areKeysB_all h2 s hs] at hk
  unfold impl_CellsOf.f impl_isSeed.f impl_cellsOk.f
  simp only [impl_in, Option.bind_some, decide_eq_true h1, decide_eq_true h3]
  exact ev_pos (by trivial) (ev_bind _ hk (ev_pos rfl (ev_pos (by trivial) (ev_bind _ (impl_cellsOf_f h1.1 h1.2 s (hz s hs)) (Ev.now _)))))
end
theorem cells_ok {s : List Int} (hs : Bys s) {p : Int} (sd : Int) (h0 : 0 ≤ p) (h1 : p ≤ 100000000000000000) : ∃ v p' sd', spec_l1Cur_cells.f s p sd = some (v, p', sd') ∧ (-1 ≤ v ∧ v ≤ 65) ∧ 0 ≤ p' ∧ p' ≤ p + 10 := by
  obtain ⟨b, p1, sd1, e1, q0, q1⟩ := one_ok hs sd 10 h0 (by omega)
  unfold spec_l1Cur_cells.f
  rw [e1, Option.bind_some]
  by_cases c : b = true
  · obtain ⟨v, p2, sd2, e2, hv, r0, r1⟩ := among_ok hs sd1 (l := [(-1), 0, 64, 65]) (by simp) q0 (by omega)
    rw [if_pos c, e2]
    refine ⟨v, p2, sd2, rfl, ?_, r0, by omega⟩
    simp only [List.mem_cons, List.not_mem_nil, or_false] at hv
    omega
  · obtain ⟨v, p2, sd2, e2, hv, r0, r1⟩ := among_ok hs sd1 (l := [4, 8, 16, 64]) (by simp) q0 (by omega)
    obtain ⟨u, p3, sd3, e3, hu, s0, s1⟩ := pick_ok hs sd2 (n := v) r0 (by omega)
    rw [if_neg c, e2]
    simp only [Option.bind_some, e3]
    simp only [List.mem_cons, List.not_mem_nil, or_false] at hv
    refine ⟨_, p3, sd3, rfl, ?_, s0, by omega⟩
    rw [w64 (by omega) (by omega)]
    omega
theorem keyed_ok {s : List Int} (hs : Bys s) {p : Int} (sd : Int) (h0 : 0 ≤ p) (h1 : p ≤ 10000000000000000) :
    ∃ a l n p' sd', Ev (fun k => spec_l1Cur_keyed.f k s p sd) (a, l, n, p', sd') ∧ (-1 ≤ a ∧ a ≤ 10000) ∧ Kys 42 l ∧ (-1 ≤ n ∧ n ≤ 65) ∧ 0 ≤ p' ∧ p' ≤ p + 700 := by
  obtain ⟨a, p1, sd1, e1, ha, q0, q1⟩ := seed9_ok hs sd h0 (by omega)
  obtain ⟨v, p2, sd2, e2, hv, r0, r1⟩ := among_ok hs sd1 (l := [3, 5, 8, 12]) (by simp) q0 (by omega)
  simp only [List.mem_cons, List.not_mem_nil, or_false] at hv
  obtain ⟨l, p3, sd3, e3, hk, s0, s1⟩ := anyKeys_ok hs sd2 (n := v.toNat) (by omega) r0 (by omega)
  obtain ⟨n, p4, sd4, e4, hn, t0, t1⟩ := cells_ok hs sd3 s0 (by omega)
  obtain ⟨b, p5, sd5, e5, u0, u1⟩ := one_ok hs sd4 2 t0 (by omega)
  obtain ⟨m, p6, sd6, e6, hm, v0, v1⟩ := pick_ok hs sd5 (n := 4) u0 (by omega)
  rw [Int.toNat_of_nonneg (by omega)] at e3
  unfold spec_l1Cur_keyed.f
  simp only [e1, e2, Option.bind_some]
  by_cases c : b = true
  · refine ⟨a, l, wrap64 ((l.length : Int) + m), p6, sd6, ev_bind _ e3 ?_, ha, hk, ?_, v0, by omega⟩
    · simp only [e4, e5, Option.bind_some]
      refine ev_pos c ?_
      rw [e6]
      exact Ev.now _
    · have := hk.1
      rw [w64 (by omega) (by omega)]
      omega
  · refine ⟨a, l, n, p5, sd5, ev_bind _ e3 ?_, ha, hk, hn, u0, by omega⟩
    simp only [e4, e5, Option.bind_some]
    exact ev_neg c (Ev.now _)
end Go.Proofs.YtephjmmkggcmeaaQ
namespace Go.Proofs.YtephjmmkggcmeaaQ
open Go Go.RowKit Go.Proofs.YtephjmmkggcmeaaW.PrintWords Go.Proofs.YtephjmmkggcmeaaW.PrintMore Go.Proofs.YtephjmmkggcmeaaGp Go.Proofs.Ytephjmmkggcmeaa.PG
open CK (el shareB scan bfs outer groupsG groupsC freeN)

section
variable {L : List (List Int)}
theorem idx_val (hL : ∀ e ∈ L, e.length ≤ 1000) {a : Nat} {tt : List Nat} (h1 : a < L.length) (x0 : List Int) (hx : x0.length ≤ 1000) : ∀ (t pre : List Int), x0 = pre ++ t →
    ∃ r : Int, Ev (fun k => slices_IndexFunc_int_int_at_impl_groups_1.l0 k x0 (x0.length : Int) (pre.length : Int) L (zs (a :: tt))) r ∧ decide (r ≥ 0) = shareB t (el L a) := by
  have hlen := el_len hL a
  have hz : (0 : Int) < ((zs (a :: tt)).length : Int) := by rw [zs_len, List.length_cons]; omega
  intro t
  induction t with
  | nil =>
    intro pre h
    refine ⟨-1, ev_succ ?_, rfl⟩
    simp only [slices_IndexFunc_int_int_at_impl_groups_1.l0]
    exact ev_neg (by rw [h]; exact not_lt_end) (Ev.now _)
  | cons x t ih =>
    intro pre h
    have hm : ((pre.length : Nat) : Int) < (x0.length : Int) := by rw [h]; exact lt_mid
    have hxr : rd x0 (pre.length : Int) = x := by rw [h]; exact rd_mid
    have hc := slices_Contains_int_f (el L a) x (by omega)
    have e1 : Ev (fun k => impl_groups_1.f k x L (zs (a :: tt))) ((el L a).contains x) := by
      unfold impl_groups_1.f
      simp only [zs_hd, rdll_nat]
      exact ev_pos (by omega) (ev_pos (by omega) (ev_pos (by omega) (ev_bind _ hc (Ev.now _))))
    by_cases c : (el L a).contains x = true
    · refine ⟨(pre.length : Int), ev_succ ?_, ?_⟩
      · simp only [slices_IndexFunc_int_int_at_impl_groups_1.l0, hxr]
        exact ev_pos hm (ev_pos (by omega) (ev_pos hm (ev_bind _ e1 (ev_pos c (Ev.now _)))))
      · unfold shareB
        rw [List.any_cons, c, Bool.true_or]
        exact decide_eq_true (by omega)
    · obtain ⟨r, hr, hd⟩ := ih (pre ++ [x]) (by rw [h]; simp)
      rw [len_one] at hr
      refine ⟨r, ev_succ ?_, ?_⟩
      · simp only [slices_IndexFunc_int_int_at_impl_groups_1.l0, hxr]
        rw [winc (by omega)]
        exact ev_pos hm (ev_pos (by omega) (ev_pos hm (ev_bind _ e1 (ev_neg c hr))))
      · rw [hd]
        unfold shareB
        rw [List.any_cons, Bool.eq_false_iff.2 c, Bool.false_or]
theorem cont_val (hL : ∀ e ∈ L, e.length ≤ 1000) {a : Nat} {tt : List Nat} (h1 : a < L.length) (x0 : List Int) (hx : x0.length ≤ 1000) : Ev (fun k => slices_ContainsFunc_int_int_at_impl_groups_1.f k x0 L (zs (a :: tt))) (shareB x0 (el L a)) := by
  obtain ⟨r, hr, hd⟩ := idx_val hL (tt := tt) h1 x0 hx x0 [] rfl
  rw [← hd]
  unfold slices_ContainsFunc_int_int_at_impl_groups_1.f slices_IndexFunc_int_int_at_impl_groups_1.f
  exact ev_bind _ hr (Ev.now _)
theorem scan_len {k : Int} (p : List Int) : ∀ (m j : Nat) (o : List Int) (t : List Nat), (scan L p k m j o t).1.length = o.length
  | 0, _, _, _ => rfl
  | m + 1, j, o, t => by
    rw [scan]
    split
    · rw [scan_len p m]; simp
    · rw [scan_len p m]
theorem scan_mem {k : Int} (p : List Int) {n : Nat} : ∀ (m j : Nat) (o : List Int) (t : List Nat), j + m ≤ n → (∀ x ∈ t, x < n) → ∀ x ∈ (scan L p k m j o t).2, x < n
  | 0, _, _, _, _, h => h
  | m + 1, j, o, t, e, h => by
    rw [scan]
    split
    · exact scan_mem p m (j + 1) _ _ (by omega) (fun x hx => by
        rcases List.mem_append.1 hx with hx | hx
        · exact h x hx
        · rw [List.mem_singleton.1 hx]; omega)
    · exact scan_mem p m (j + 1) _ _ (by omega) h
theorem free_set {o : List Int} {j n : Nat} {k : Int} (hk : 0 ≤ k) (hj : j < n) (hl : o.length = n) (h : o.getD j 0 < 0) : freeN (o.set j k) n + 1 = freeN o n := by
  have := CK.countP_update (n := n) (fun q => decide ((o.set j k).getD q 0 < 0)) (fun q => decide (o.getD q 0 < 0)) (d := j) (fun i hi => by rw [CK.getD_set (by omega), if_neg (Ne.symm hi)]) hj
  rw [if_pos (by simpa using h), if_neg (by simp only [decide_eq_true_eq]; rw [CK.getD_set (by omega), if_pos rfl]; omega)] at this
  exact this
theorem scan_free {k : Int} (hk : 0 ≤ k) (p : List Int) {n : Nat} : ∀ (m j : Nat) (o : List Int) (t : List Nat), j + m ≤ n → o.length = n → (scan L p k m j o t).2.length + freeN (scan L p k m j o t).1 n = t.length + freeN o n
  | 0, _, _, _, _, _ => rfl
  | m + 1, j, o, t, e, h => by
    rw [scan]
    split
    · rename_i c
      rw [Bool.and_eq_true, decide_eq_true_eq] at c
      have := free_set hk (by omega : j < n) h c.1
      rw [scan_free hk p m (j + 1) _ _ (by omega) (by rw [List.length_set]; exact h), List.length_append, List.length_singleton]
      omega
    · exact scan_free hk p m (j + 1) _ _ (by omega) h
theorem bfs_len {k : Int} : ∀ (f : Nat) (o : List Int) (t : List Nat), (bfs L k f o t).length = o.length
  | 0, _, _ => rfl
  | _ + 1, _, [] => rfl
  | f + 1, o, i :: t => by rw [bfs, bfs_len f, scan_len]
theorem gv_l3 (hn : L.length ≤ 1000) (hL : ∀ e ∈ L, e.length ≤ 1000) {m i a : Nat} (ha : a < L.length) {X R : List (List Int)} : ∀ (d j : Nat) (o : List Int) (t : List Nat), j + d = L.length → o.length = L.length → t.length + freeN o L.length ≤ 3000 →
    Ev (fun k => impl_groups.l2 k X (scan L (el L a) (m : Int) d j o (a :: t)).1 (m : Int) (L.length : Int) (i : Int) L (zs (scan L (el L a) (m : Int) d j o (a :: t)).2.tail)) R →
    Ev (fun k => impl_groups.l3 k X o (m : Int) (L.length : Int) (i : Int) (L.length : Int) (j : Int) L (zs (a :: t))) R := by
  intro d
  induction d with
  | zero =>
    intro j o t hj ho hf H
    refine ev_succ ?_
    simp only [impl_groups.l3]
    refine ev_neg (by omega) (ev_pos (by rw [zs_len, List.length_cons]; omega) ?_)
    rw [← zs_tail] at H
    exact H
  | succ d ih =>
    intro j o t hj ho hf H
    have hz : (zs (a :: t)).length = t.length + 1 := by simp [zs]
    have hb := cont_val hL (tt := t) ha (el L j) (el_len hL j)
    rw [scan] at H
    refine ev_succ ?_
    simp only [impl_groups.l3, Int.toNat_natCast, rd_nat, rdll_nat, ← zs_snoc]
    rw [winc (by omega)]
    by_cases c : o.getD j 0 < 0
    · by_cases cb : shareB (el L j) (el L a) = true
      · rw [if_pos (by rw [Bool.and_eq_true, decide_eq_true_eq]; exact ⟨c, cb⟩)] at H
        have hfs := free_set (k := (m : Int)) (by omega) (by omega : j < L.length) ho c
        have h1 := ih (j + 1) (o.set j (m : Int)) (t ++ [j]) (by omega) (by rw [List.length_set]; exact ho) (by rw [List.length_append, List.length_singleton]; omega) H
        exact ev_pos (by omega) (ev_pos (by omega) (ev_pos (by omega) (ev_pos c (ev_pos (by omega) (ev_bind _ hb (ev_pos cb (ev_pos (by omega) h1)))))))
      · rw [if_neg (by rw [Bool.and_eq_true]; exact fun g => cb g.2)] at H
        exact ev_pos (by omega) (ev_pos (by omega) (ev_pos (by omega) (ev_pos c (ev_pos (by omega) (ev_bind _ hb (ev_neg cb (ih (j + 1) o t (by omega) ho hf H)))))))
    · rw [if_neg (by rw [Bool.and_eq_true, decide_eq_true_eq]; exact fun g => c g.1)] at H
      exact ev_pos (by omega) (ev_pos (by omega) (ev_pos (by omega) (ev_neg c (ih (j + 1) o t (by omega) ho hf H))))
theorem gv_l2 (hn : L.length ≤ 1000) (hL : ∀ e ∈ L, e.length ≤ 1000) {m i : Nat} (hi : i ≤ 1000) {X R : List (List Int)} (hX : X.length ≤ 1000) : ∀ (f : Nat) (o : List Int) (t : List Nat), f ≤ 2000 → t.length + freeN o L.length < f → o.length = L.length → (∀ x ∈ t, x < L.length) →
    Ev (fun k => impl_groups.l1 k (X ++ [[]]) (bfs L (m : Int) f o t) (L.length : Int) ((i + 1 : Nat) : Int) L) R →
    Ev (fun k => impl_groups.l2 k X o (m : Int) (L.length : Int) (i : Int) L (zs t)) R := by
  intro f
  induction f with
  | zero => intro o t _ h; omega
  | succ f ih =>
    intro o t hf h ho ht H
    cases t with
    | nil =>
      refine ev_succ ?_
      simp only [impl_groups.l2]
      rw [winc (by omega)]
      exact ev_neg (by simp [zs]) (ev_pos (by omega) H)
    | cons a t =>
      have ha := ht a List.mem_cons_self
      have hz : (zs (a :: t)).length = t.length + 1 := by simp [zs]
      rw [bfs] at H
      have hfr := scan_free (L := L) (k := (m : Int)) (by omega) (el L a) L.length 0 o (a :: t) (by omega) ho
      have hle : 0 < (scan L (el L a) (m : Int) L.length 0 o (a :: t)).2.length := by
        have hg : ∀ (d j : Nat) (o : List Int) (t : List Nat), 0 < t.length → 0 < (scan L (el L a) (m : Int) d j o t).2.length := by
          intro d
          induction d with
          | zero => intro j o t h; exact h
          | succ d ih =>
            intro j o t h
            rw [scan]
            split
            · exact ih _ _ _ (by simp)
            · exact ih _ _ _ h
        exact hg _ _ _ _ (by simp)
      refine ev_succ ?_
      simp only [impl_groups.l2]
      refine ev_pos (by omega) (gv_l3 hn hL ha L.length 0 o t (by omega) ho (by simp only [List.length_cons] at h; omega) (ih _ _ (by omega) ?_ (by rw [scan_len]; exact ho) (fun x hx => scan_mem _ _ _ _ _ (by omega) ht x (List.mem_of_mem_tail hx)) H))
      rw [List.length_tail]
      simp only [List.length_cons] at h hfr ⊢
      omega
theorem gv_l1 (hn : L.length ≤ 1000) (hL : ∀ e ∈ L, e.length ≤ 1000) {R : List (List Int)} : ∀ (d i c : Nat) (o : List Int), i + d = L.length → c ≤ i → o.length = L.length →
    Ev (fun k => impl_groups.l4 k (List.replicate (outer L d i o c).2 []) (outer L d i o c).1 (L.length : Int) 0) R →
    Ev (fun k => impl_groups.l1 k (List.replicate c []) o (L.length : Int) (i : Int) L) R := by
  intro d
  induction d with
  | zero =>
    intro i c o hi hc ho H
    refine ev_succ ?_
    simp only [impl_groups.l1, outer] at H ⊢
    rw [← ho] at H ⊢
    exact ev_neg (by omega) H
  | succ d ih =>
    intro i c o hi hc ho H
    rw [outer] at H
    refine ev_succ ?_
    simp only [impl_groups.l1, Int.toNat_natCast, List.length_replicate, rd_nat]
    by_cases g : 0 ≤ o.getD i 0
    · rw [if_pos g] at H
      rw [winc (by omega)]
      exact ev_pos (by omega) (ev_pos (by omega) (ev_pos (by omega) (ev_pos g (ih (i + 1) c o (by omega) (by omega) ho H))))
    · rw [if_neg g] at H
      have hfr := free_set (k := (c : Int)) (by omega) (by omega : i < L.length) ho (by omega)
      have hfl : freeN o L.length ≤ L.length := by
        have := List.countP_le_length (p := fun q => decide (o.getD q 0 < 0)) (l := List.range L.length)
        rw [List.length_range] at this
        exact this
      refine ev_pos (by omega) (ev_pos (by omega) (ev_pos (by omega) (ev_neg g ?_)))
      have h1 := ih (i + 1) (c + 1) _ (by omega) (by omega) (by rw [bfs_len, List.length_set]; exact ho) H
      rw [List.replicate_succ'] at h1
      exact gv_l2 hn hL (by omega) (by simp; omega) (L.length + 1) (o.set i (c : Int)) [i] (by omega) (by simp; omega) (by rw [List.length_set]; exact ho) (fun x hx => by rw [List.mem_singleton.1 hx]; omega) h1
theorem gv_l4 {m n : Nat} {o : List Int} (hn : n ≤ 1000) (hmn : m ≤ n) (ho : o.length = n) (hof : ∀ q, q < n → 0 ≤ o.getD q 0 ∧ o.getD q 0 < (m : Int)) : ∀ (d i : Nat), i + d = n →
    Ev (fun k => impl_groups.l4 k ((List.range m).map fun (q : Nat) => zs ((List.range i).filter fun x => decide (o.getD x 0 = (q : Int)))) o (n : Int) (i : Int))
      ((List.range m).map fun (q : Nat) => zs ((List.range n).filter fun x => decide (o.getD x 0 = (q : Int)))) := by
  intro d
  induction d with
  | zero =>
    intro i hi
    obtain rfl : i = n := by omega
    refine ev_succ ?_
    simp only [impl_groups.l4]
    exact ev_neg (by omega) (Ev.now _)
  | succ d ih =>
    intro i hi
    obtain ⟨o0, o1⟩ := hof i (by omega)
    obtain ⟨q, hq⟩ : ∃ q : Nat, o.getD i 0 = (q : Int) := ⟨(o.getD i 0).toNat, by omega⟩
    have h1 := ih (i + 1) (by omega)
    have hl : ∀ x : Nat, ((List.range m).map fun (q : Nat) => zs ((List.range x).filter fun x => decide (o.getD x 0 = (q : Int)))).length = m := by simp
    have hset : ((List.range m).map fun (q : Nat) => zs ((List.range i).filter fun x => decide (o.getD x 0 = (q : Int)))).set q (el ((List.range m).map fun (q : Nat) => zs ((List.range i).filter fun x => decide (o.getD x 0 = (q : Int)))) q ++ [(i : Int)]) = (List.range m).map fun (q : Nat) => zs ((List.range (i + 1)).filter fun x => decide (o.getD x 0 = (q : Int))) := by
      apply List.ext_getElem
      · simp
      · intro a ha hb
        rw [hl] at hb
        rw [List.getElem_set]
        by_cases e : q = a
        · subst e
          rw [if_pos rfl, List.getElem_map, List.getElem_range, List.range_succ, List.filter_append, List.filter_cons, if_pos (by simpa using hq), List.filter_nil, zs_snoc]
          congr 1
          unfold el
          rw [List.getD_eq_getElem?_getD, List.getElem?_eq_getElem (by rw [hl]; exact hb), Option.getD_some, List.getElem_map, List.getElem_range]
        · rw [if_neg e, List.getElem_map, List.getElem_map, List.getElem_range, List.range_succ, List.filter_append, List.filter_cons, if_neg (by simp only [decide_eq_true_eq, hq]; omega), List.filter_nil, List.append_nil]
    refine ev_succ ?_
    have hle : (el ((List.range m).map fun (q : Nat) => zs ((List.range i).filter fun x => decide (o.getD x 0 = (q : Int)))) q).length ≤ 1000 := by
      refine el_len (fun e he => ?_) q
      obtain ⟨x, _, rfl⟩ := List.mem_map.1 he
      rw [zs_len]
      have := List.length_filter_le (fun y => decide (o.getD y 0 = (x : Int))) (List.range i)
      rw [List.length_range] at this
      omega
    simp only [impl_groups.l4, rd_nat, hq, rdll_nat, Int.toNat_natCast, hset]
    rw [winc (by omega)]
    refine ev_pos (by omega) (ev_pos (by omega) (ev_pos (by omega) (ev_pos (by omega) (ev_pos (by rw [hl]; omega) (ev_pos (by omega) h1)))))
theorem gv_l0 {n : Nat} (hn : n ≤ 1000) {R : List (List Int)} (H : Ev (fun k => impl_groups.l1 k [] (List.replicate n (-1)) (L.length : Int) 0 L) R) : ∀ (d i : Nat) (o : List Int), i + d = n → o.length = n → (∀ p : Nat, p < i → o.getD p 0 = -1) →
    Ev (fun k => impl_groups.l0 k [] o (n : Int) (i : Int) L) R := by
  intro d
  induction d with
  | zero =>
    intro i o hi hl hz
    have e : o = List.replicate n (-1) := by
      apply List.ext_getElem
      · simpa using hl
      · intro a ha hb
        have := hz a (by omega)
        rw [List.getD_eq_getElem?_getD, List.getElem?_eq_getElem ha, Option.getD_some] at this
        rw [this, List.getElem_replicate]
    subst e
    refine ev_succ ?_
    simp only [impl_groups.l0]
    exact ev_neg (by omega) H
  | succ d ih =>
    intro i o hi hl hz
    have h1 := ih (i + 1) (o.set i (-1)) (by omega) (by rw [List.length_set]; exact hl) (fun p hp => by
      rw [CK.getD_set (by omega)]
      split
      · rfl
      · exact hz p (by omega))
    refine ev_succ ?_
    simp only [impl_groups.l0, Int.toNat_natCast]
    rw [winc (by omega)]
    exact ev_pos (by omega) (ev_pos (by omega) (ev_pos (by omega) h1))
theorem impl_groups_val (hn : L.length ≤ 1000) (hL : ∀ e ∈ L, e.length ≤ 1000) : Ev (fun k => impl_groups.f k L) ((groupsC L).map zs) := by
  have H : CK.Outer L 0 (List.replicate L.length (-1)) 0 := by
    have hn : (CK.heads L).filter (fun h => decide (h < 0)) = [] := by
      rw [List.filter_eq_nil_iff]
      intro y _; simp
    refine ⟨List.length_replicate, by rw [hn]; rfl, fun a h e => by rw [hn] at e; simp at e, fun q hq _ => ?_⟩
    rw [List.getD_eq_getElem?_getD, List.getElem?_replicate, if_pos hq]
    decide
  have F := CK.outer_ok L.length 0 _ 0 (by omega) H
  have hG := CK.groupsG_eq (ls := L)
  unfold groupsG at hG
  have hcl : (outer L L.length 0 (List.replicate L.length (-1)) 0).2 ≤ L.length := by
    have h1 := CK.heads_len (ls := L)
    rw [← hG, List.length_map, List.length_range] at h1
    exact h1
  have hrg : ∀ q, q < L.length → 0 ≤ (outer L L.length 0 (List.replicate L.length (-1)) 0).1.getD q 0 ∧ (outer L L.length 0 (List.replicate L.length (-1)) 0).1.getD q 0 < ((outer L L.length 0 (List.replicate L.length (-1)) 0).2 : Int) := by
    intro q hq
    obtain ⟨h, h1, h2⟩ := CK.head_of q q (Nat.le_refl _) hq
    have hf : (CK.heads L).filter (fun h => decide (h < L.length)) = CK.heads L := by
      rw [List.filter_eq_self]
      intro h hh
      simpa using (CK.mem_heads.1 hh).1
    obtain ⟨_, f2, f3, _⟩ := F
    rw [hf] at f2 f3
    obtain ⟨a, ha, e⟩ := List.mem_iff_getElem.1 h1
    have := (f3 a h (by rw [List.getElem?_eq_getElem ha, e]) q hq).2 h2
    omega
  have h4 := gv_l4 (m := (outer L L.length 0 (List.replicate L.length (-1)) 0).2) (n := L.length) (o := (outer L L.length 0 (List.replicate L.length (-1)) 0).1) hn hcl F.len hrg L.length 0 (by omega)
  have e0 : ((List.range (outer L L.length 0 (List.replicate L.length (-1)) 0).2).map fun (q : Nat) => zs ((List.range 0).filter fun x => decide ((outer L L.length 0 (List.replicate L.length (-1)) 0).1.getD x 0 = (q : Int)))) = List.replicate (outer L L.length 0 (List.replicate L.length (-1)) 0).2 [] := by
    apply List.ext_getElem
    · simp
    · intro a ha hb
      simp [zs]
  rw [e0] at h4
  have h1 := gv_l1 hn hL L.length 0 0 (List.replicate L.length (-1)) (by omega) (Nat.le_refl _) (by simp) h4
  have h0 := gv_l0 (L := L) hn h1 L.length 0 (List.replicate L.length 0) (by omega) (by simp) (fun p hp => absurd hp (by omega))
  have e1 : (groupsC L).map zs = (List.range (outer L L.length 0 (List.replicate L.length (-1)) 0).2).map fun (q : Nat) => zs ((List.range L.length).filter fun x => decide ((outer L L.length 0 (List.replicate L.length (-1)) 0).1.getD x 0 = (q : Int))) := by
    rw [← hG, List.map_map]
    rfl
  rw [e1]
  unfold impl_groups.f
  simp only [Int.toNat_natCast, List.length_replicate, Option.bind_some]
  exact ev_pos (by omega) (ev_pos (by omega) h0)
end
end Go.Proofs.YtephjmmkggcmeaaQ
namespace Go.Proofs.YtephjmmkggcmeaaQ.CK
open Classical
section
variable {ls : List (List Int)}
theorem el_set_self {i : Nat} (h : i < ls.length) (p : List Int) : el (ls.set i p) i = p := by
  unfold el
  rw [List.getD_eq_getElem?_getD, List.getElem?_set_self (by simpa using h)]
  rfl
theorem el_set_ne {i j : Nat} (h : i ≠ j) (p : List Int) : el (ls.set i p) j = el ls j := by
  unfold el
  rw [List.getD_eq_getElem?_getD, List.getElem?_set_ne h, ← List.getD_eq_getElem?_getD]
theorem Pairs.set (hp : Pairs ls) (i : Nat) (a b : Int) : Pairs (ls.set i [a, b]) := by
  intro j hj
  rw [List.length_set] at hj
  by_cases c : i = j
  · subst c
    exact ⟨a, b, el_set_self hj _⟩
  · rw [el_set_ne c]
    exact hp j hj
end
end Go.Proofs.YtephjmmkggcmeaaQ.CK
namespace Go.Proofs.YtephjmmkggcmeaaQ.CK
open Classical

def putN : List Nat → Nat → List Nat
  | [], n => [n]
  | x :: t, n => if x < n then x :: putN t n else if x = n then x :: t else n :: x :: t
theorem mem_putN {l : List Nat} {n x : Nat} : x ∈ putN l n ↔ x ∈ l ∨ x = n := by
  induction l with
  | nil => simp [putN]
  | cons y t ih =>
    rw [putN]
    split
    · rw [List.mem_cons, ih, List.mem_cons]
      constructor
      · rintro (h | h | h)
        · exact .inl (.inl h)
        · exact .inl (.inr h)
        · exact .inr h
      · rintro ((h | h) | h)
        · exact .inl h
        · exact .inr (.inl h)
        · exact .inr (.inr h)
    · split
      · rename_i e
        subst e
        constructor
        · exact .inl
        · rintro (h | h)
          · exact h
          · rw [h]; exact List.mem_cons_self
      · rw [List.mem_cons]
        constructor
        · rintro (h | h)
          · exact .inr h
          · exact .inl h
        · rintro (h | h)
          · exact .inr h
          · exact .inl h
theorem sorted_putN {l : List Nat} (n : Nat) (h : l.Pairwise (· < ·)) : (putN l n).Pairwise (· < ·) := by
  induction l with
  | nil => simp [putN]
  | cons y t ih =>
    rw [List.pairwise_cons] at h
    rw [putN]
    split
    · rename_i c
      rw [List.pairwise_cons]
      refine ⟨fun x hx => ?_, ih h.2⟩
      rcases mem_putN.1 hx with hx | hx
      · exact h.1 x hx
      · omega
    · split
      · rw [List.pairwise_cons]; exact h
      · rename_i c1 c2
        rw [List.pairwise_cons, List.pairwise_cons]
        refine ⟨fun x hx => ?_, h⟩
        rcases List.mem_cons.1 hx with hx | hx
        · omega
        · have := h.1 x hx; omega
theorem putN_len {l : List Nat} {n : Nat} (h : n ∉ l) : (putN l n).length = l.length + 1 := by
  induction l with
  | nil => rfl
  | cons y t ih =>
    rw [List.mem_cons, not_or] at h
    rw [putN]
    split
    · rw [List.length_cons, ih h.2, List.length_cons]
    · rw [if_neg (fun e => h.1 e.symm)]
      rfl
theorem sorted_eq : ∀ {l m : List Nat}, l.Pairwise (· < ·) → m.Pairwise (· < ·) → (∀ x, x ∈ l ↔ x ∈ m) → l = m
  | [], [], _, _, _ => rfl
  | [], y :: m, _, _, h => absurd ((h y).2 List.mem_cons_self) (by simp)
  | x :: l, [], _, _, h => absurd ((h x).1 List.mem_cons_self) (by simp)
  | x :: l, y :: m, hl, hm, h => by
    rw [List.pairwise_cons] at hl hm
    have hxy : x = y := by
      have h1 := (h x).1 List.mem_cons_self
      have h2 := (h y).2 List.mem_cons_self
      rcases List.mem_cons.1 h1 with e | h1
      · exact e
      · rcases List.mem_cons.1 h2 with e | h2
        · exact e.symm
        · have := hl.1 y h2
          have := hm.1 x h1
          omega
    subst hxy
    rw [sorted_eq hl.2 hm.2 (fun z => ?_)]
    constructor
    · intro hz
      rcases List.mem_cons.1 ((h z).1 (List.mem_cons_of_mem _ hz)) with e | h'
      · have := hl.1 z hz; omega
      · exact h'
    · intro hz
      rcases List.mem_cons.1 ((h z).2 (List.mem_cons_of_mem _ hz)) with e | h'
      · have := hm.1 z hz; omega
      · exact h'
section
variable {ls : List (List Int)}
noncomputable def passG (ls : List (List Int)) : Nat → Nat → List Nat → Bool → List Nat × Bool
  | 0, _, o, g => (o, g)
  | m + 1, i, o, g => if i ∉ o ∧ ∃ k ∈ o, Adj ls k i then passG ls m (i + 1) (putN o i) true else passG ls m (i + 1) o g
noncomputable def growG (ls : List (List Int)) : Nat → List Nat → List Nat
  | 0, o => o
  | f + 1, o => if (passG ls ls.length 0 o false).2 = true then growG ls f (passG ls ls.length 0 o false).1 else (passG ls ls.length 0 o false).1
structure Part (ls : List (List Int)) (i : Nat) (o : List Nat) : Prop where
  srt : o.Pairwise (· < ·)
  sub : ∀ j ∈ o, j < ls.length ∧ Reach ls i j
  first : i ∈ o
theorem Part.put {i j : Nat} {o : List Nat} (h : Part ls i o) (hj : j < ls.length) {k : Nat} (hk : k ∈ o) (ha : Adj ls k j) : Part ls i (putN o j) :=
  ⟨sorted_putN j h.srt, fun x hx => by
    rcases mem_putN.1 hx with hx | rfl
    · exact h.sub x hx
    · exact ⟨hj, .step (h.sub k hk).2 hj ha⟩, mem_putN.2 (.inl h.first)⟩
theorem passG_part {q : Nat} : ∀ (m i : Nat) (o : List Nat) (g : Bool), i + m = ls.length → Part ls q o → Part ls q (passG ls m i o g).1 ∧ o.length ≤ (passG ls m i o g).1.length ∧ ((passG ls m i o g).2 = true → g = true ∨ o.length < (passG ls m i o g).1.length)
  | 0, _, _, g, _, h => ⟨h, Nat.le_refl _, fun h => .inl h⟩
  | m + 1, i, o, g, e, h => by
    rw [passG]
    split
    · rename_i c
      obtain ⟨c1, k, hk, ha⟩ := c
      obtain ⟨h1, h2, h3⟩ := passG_part m (i + 1) (putN o i) true (by omega) (h.put (by omega) hk ha)
      rw [putN_len c1] at h2
      exact ⟨h1, by omega, fun _ => .inr (by omega)⟩
    · exact passG_part m (i + 1) o g (by omega) h
theorem passG_false : ∀ (m i : Nat) (o : List Nat) (g : Bool), (passG ls m i o g).2 = false → (passG ls m i o g).1 = o ∧ g = false ∧ ∀ j, i ≤ j → j < i + m → j ∉ o → ¬ ∃ k ∈ o, Adj ls k j
  | 0, i, o, g, h => ⟨rfl, h, fun j h1 h2 => by omega⟩
  | m + 1, i, o, g, h => by
    rw [passG] at h ⊢
    split
    · rename_i c
      rw [if_pos c] at h
      have := (passG_false m (i + 1) (putN o i) true h).2.1
      cases this
    · rename_i c
      rw [if_neg c] at h
      obtain ⟨h1, h2, h3⟩ := passG_false m (i + 1) o g h
      refine ⟨h1, h2, fun j a b hj hk => ?_⟩
      by_cases e : j = i
      · subst e; exact c ⟨hj, hk⟩
      · exact h3 j (by omega) (by omega) hj hk
theorem part_len {i : Nat} {o : List Nat} (h : Part ls i o) : o.length ≤ ls.length := by
  have hn : o.Nodup := h.srt.imp (fun h => Nat.ne_of_lt h)
  have := nodup_leN hn (V := List.range ls.length) (fun x hx => List.mem_range.2 (h.sub x hx).1)
  simpa using this
theorem comp_sorted (i : Nat) : (comp ls i).Pairwise (· < ·) := List.pairwise_lt_range.filter _
theorem part_closed {i : Nat} {o : List Nat} (h : Part ls i o) (hc : ∀ j, j < ls.length → j ∉ o → ¬ ∃ k ∈ o, Adj ls k j) : o = comp ls i := by
  refine sorted_eq h.srt (comp_sorted i) (fun x => ?_)
  rw [mem_comp]
  constructor
  · exact h.sub x
  · rintro ⟨hl, hr⟩
    clear hl
    induction hr with
    | refl => exact h.first
    | @step j k h1 hk ha ih =>
      by_cases e : k ∈ o
      · exact e
      · exact absurd ⟨j, ih, ha⟩ (hc k hk e)
theorem growG_comp {i : Nat} : ∀ (f : Nat) (o : List Nat), Part ls i o → ls.length < f + o.length → growG ls f o = comp ls i
  | 0, o, h, hf => by have := part_len h; omega
  | f + 1, o, h, hf => by
    obtain ⟨h1, h2, h3⟩ := passG_part ls.length 0 o false (by omega) h
    rw [growG]
    by_cases c : (passG ls ls.length 0 o false).2 = true
    · rw [if_pos c]
      rcases h3 c with e | h3
      · cases e
      · exact growG_comp f _ h1 (by omega)
    · rw [if_neg c]
      obtain ⟨e1, _, e2⟩ := passG_false ls.length 0 o false (by simpa using c)
      rw [e1]
      exact part_closed h (fun j hj hn => e2 j (by omega) (by omega) hn)
theorem part_one {i : Nat} (hi : i < ls.length) : Part ls i [i] := ⟨by simp, fun j hj => by rw [List.mem_singleton] at hj; subst hj; exact ⟨hi, .refl _⟩, by simp⟩
theorem growG_one {i : Nat} (hi : i < ls.length) : growG ls ls.length [i] = comp ls i := growG_comp _ _ (part_one hi) (by simp)
theorem comp_head {i : Nat} (hi : i < ls.length) : (comp ls i).headD 0 = i ↔ i ∈ heads ls := by
  have hs := comp_sorted (ls := ls) i
  have hm := comp_self (ls := ls) hi
  constructor
  · intro h
    refine mem_heads.2 ⟨hi, fun j hj => ?_⟩
    have hj' : j ∈ comp ls i := mem_comp.2 ⟨hj.lt hi, hj⟩
    cases hc : comp ls i with
    | nil => rw [hc] at hm; cases hm
    | cons x t =>
      rw [hc] at h hj' hs
      simp only [List.headD_cons] at h
      subst h
      rw [List.pairwise_cons] at hs
      rcases List.mem_cons.1 hj' with e | h'
      · omega
      · have := hs.1 j h'; omega
  · intro h
    obtain ⟨_, h2⟩ := mem_heads.1 h
    cases hc : comp ls i with
    | nil => rw [hc] at hm; cases hm
    | cons x t =>
      have hx : x ∈ comp ls i := by rw [hc]; exact List.mem_cons_self
      have := h2 x (mem_comp.1 hx).2
      rw [hc] at hm hs
      rw [List.pairwise_cons] at hs
      simp only [List.headD_cons]
      rcases List.mem_cons.1 hm with e | h'
      · exact e.symm
      · have := hs.1 i h'; omega
end
end Go.Proofs.YtephjmmkggcmeaaQ.CK
namespace Go.Proofs.YtephjmmkggcmeaaQ.CK
open Classical

def nubZ : List Int → List Int
  | [] => []
  | x :: t => if t.contains x then nubZ t else x :: nubZ t
theorem mem_nubZ {l : List Int} {x : Int} : x ∈ nubZ l ↔ x ∈ l := by
  induction l with
  | nil => simp [nubZ]
  | cons y t ih =>
    rw [nubZ]
    split
    · rename_i c
      rw [ih, List.mem_cons]
      refine ⟨.inr, fun h => ?_⟩
      rcases h with rfl | h
      · simpa using c
      · exact h
    · rw [List.mem_cons, List.mem_cons, ih]
theorem nodup_nubZ (l : List Int) : (nubZ l).Nodup := by
  induction l with
  | nil => simp [nubZ]
  | cons y t ih =>
    rw [nubZ]
    split
    · exact ih
    · rename_i c
      rw [List.nodup_cons]
      exact ⟨fun h => c (by simpa using mem_nubZ.1 h), ih⟩
theorem nodup_len {S V : List Int} (hS : S.Nodup) (hV : V.Nodup) (h : ∀ x, x ∈ S ↔ x ∈ V) : S.length = V.length :=
  Nat.le_antisymm (nodup_le hS (fun x hx => (h x).1 hx)) (nodup_le hV (fun x hx => (h x).2 hx))
theorem nubZ_len {l V : List Int} (hV : V.Nodup) (h : ∀ x, x ∈ V ↔ x ∈ l) : (nubZ l).length = V.length :=
  nodup_len (nodup_nubZ l) hV (fun x => mem_nubZ.trans (h x).symm)
section
variable {ls : List (List Int)}
def cellsL (ls : List (List Int)) (is : List Nat) : List Int := is.flatMap (el ls)
def wideN (ls : List (List Int)) (is : List Nat) : Nat := (nubZ (cellsL ls is)).length
theorem mem_cellsL {is : List Nat} {x : Int} : x ∈ cellsL ls is ↔ ∃ i ∈ is, x ∈ el ls i := by simp [cellsL]
def mostOf (ls : List (List Int)) (gs : List (List Nat)) : Nat := (gs.map fun g => min g.length (wideN ls g)).sum
theorem mostOf_le (gs : List (List Nat)) : mostOf ls gs ≤ (gs.map List.length).sum := by
  induction gs with
  | nil => simp [mostOf]
  | cons g gs ih =>
    simp only [mostOf, List.map_cons, List.sum_cons] at ih ⊢
    omega
noncomputable def mostC (ls : List (List Int)) : Nat := mostOf ls (groupsC ls)
end
end Go.Proofs.YtephjmmkggcmeaaQ.CK
namespace Go.Proofs.YtephjmmkggcmeaaQ
open Go Go.RowKit Go.Proofs.YtephjmmkggcmeaaW.PrintWords Go.Proofs.YtephjmmkggcmeaaW.PrintMore Go.Proofs.YtephjmmkggcmeaaGp Go.Proofs.Ytephjmmkggcmeaa.PG
open CK (el comp heads groupsC putN passG growG Adj Pairs)
open Classical

def insI (s : Int) : List Int → List Int
  | [] => [s]
  | q :: t => if q < s then q :: insI s t else if q = s then q :: t else s :: q :: t
theorem put_l0 (x0 : List Int) (s : Int) (hx : x0.length ≤ 1000000) : ∀ (t pre : List Int), x0 = pre ++ t →
    Ev (fun k => spec_l1Put.l0 k x0 s (pre.length : Int)) (pre ++ insI s t) := by
  intro t
  induction t with
  | nil =>
    intro pre h
    have hp : x0 = pre := by rw [h, List.append_nil]
    subst hp
    refine ev_succ ?_
    simp only [spec_l1Put.l0]
    refine ev_neg (by omega) (ev_bind _ (Ev.now _) (ev_pos (by omega) (ev_pos (by omega) (ev_bind _ (Ev.now _) ?_))))
    rw [Int.toNat_natCast, List.take_length, List.nil_append]
    refine ev_pos (by simp; omega) (ev_bind _ (Ev.now _) (ev_pos (by omega) (ev_bind _ (Ev.now _) (ev_bind _ (Ev.now _) (ev_pos (by simp; omega) (ev_some ?_))))))
    simp [insI]
  | cons q t ih =>
    intro pre h
    have hm : ((pre.length : Nat) : Int) < (x0.length : Int) := by rw [h]; exact lt_mid
    have hg : rd x0 (pre.length : Int) = q := by rw [h]; exact rd_mid
    refine ev_succ ?_
    simp only [spec_l1Put.l0, hg]
    refine ev_pos hm (ev_pos (by omega) ?_)
    unfold insI
    by_cases c : q < s
    · refine ev_pos c ?_
      rw [winc (by omega), if_pos c]
      have := ih (pre ++ [q]) (by rw [h]; simp)
      rw [len_one] at this
      simpa using this
    · refine ev_neg c ?_
      rw [if_neg c]
      by_cases d : q = s
      · refine ev_pos d (ev_some ?_)
        rw [if_pos d, h]
      · refine ev_neg d (ev_bind _ (Ev.now _) (ev_pos (by omega) (ev_bind _ (Ev.now _) ?_)))
        have et : x0.take pre.length = pre := by rw [h]; simp
        have ed : x0.drop pre.length = q :: t := by rw [h]; simp
        have hl : x0.length = pre.length + (t.length + 1) := by rw [h]; simp
        rw [Int.toNat_natCast, et, ed, List.nil_append, if_neg d]
        refine ev_pos (by simp; omega) (ev_bind _ (Ev.now _) (ev_pos (by omega) (ev_bind _ (Ev.now _) (ev_bind _ (Ev.now _) (ev_pos (by simp; omega) (ev_some ?_))))))
        simp
theorem put_f (l : List Int) (s : Int) (h : l.length ≤ 1000000) : Ev (fun k => spec_l1Put.f k l s) (insI s l) := put_l0 l s h l [] rfl
theorem zs_put (l : List Nat) (n : Nat) : insI (n : Int) (zs l) = zs (putN l n) := by
  induction l with
  | nil => rfl
  | cons x t ih =>
    have e : zs (x :: t) = (x : Int) :: zs t := rfl
    rw [e, insI, putN]
    by_cases c : x < n
    · rw [if_pos c, if_pos (by omega), ih]; rfl
    · rw [if_neg c, if_neg (by omega)]
      by_cases d : x = n
      · rw [if_pos d, if_pos (by omega)]; rfl
      · rw [if_neg d, if_neg (by omega)]; rfl
section
variable {L : List (List Int)}
theorem adj_pair {k i : Nat} {a b : Int} (h : el L i = [a, b]) : Adj L k i ↔ ((el L k).contains a = true ∨ (el L k).contains b = true) := by
  unfold Adj
  rw [h, List.contains_iff_mem, List.contains_iff_mem]
  constructor
  · rintro ⟨x, h1, h2⟩
    rcases List.mem_cons.1 h2 with rfl | h2
    · exact .inl h1
    · rw [List.mem_singleton.1 h2] at h1; exact .inr h1
  · rintro (h | h)
    · exact ⟨a, h, by simp⟩
    · exact ⟨b, h, by simp⟩
theorem cg_in {o s : List Nat} {i : Nat} (ho : o.length ≤ 2000) (hs : s.length ≤ 2000) (hin : i ∈ o) (p : List Int) {g : Bool} {R : List Int} (hi : i ≤ 1000)
    (H : Ev (fun k => spec_cuGroup.l1 k L (zs o) g L (L.length : Int) ((i + 1 : Nat) : Int)) R) : ∀ (t pre : List Nat), s = pre ++ t →
    Ev (fun k => spec_cuGroup.l2 k L (zs o) g (i : Int) p L (L.length : Int) (i : Int) (zs s) ((zs s).length : Int) (pre.length : Int)) R := by
  have hz : (zs s).length = s.length := zs_len s
  intro t
  induction t with
  | nil =>
    intro pre h
    have hp : s = pre := by rw [h, List.append_nil]
    subst hp
    refine ev_succ ?_
    simp only [spec_cuGroup.l2]
    rw [winc (i := i) (by omega)]
    exact ev_neg (by omega) H
  | cons x t ih =>
    intro pre h
    have hm : pre.length < s.length := by rw [h]; simp
    have h1 := ih (pre ++ [x]) (by rw [h]; simp)
    rw [len_one] at h1
    have hc := spec_l1Has_f (zs o) (i : Int) (by rw [zs_len]; omega)
    rw [zs_contains, decide_eq_true hin] at hc
    refine ev_succ ?_
    simp only [spec_cuGroup.l2]
    rw [winc (i := pre.length) (by omega)]
    exact ev_pos (by omega) (ev_pos (by omega) (ev_pos (by omega) (ev_bind _ hc (ev_pos rfl h1))))
theorem cg_l2 (hL : ∀ e ∈ L, e.length ≤ 1000) {o : List Nat} {i : Nat} (ho : o.length ≤ 1000) (hlt : ∀ k ∈ o, k < L.length) (hin : i ∉ o) {a b : Int} (he : el L i = [a, b]) {g : Bool} {R : List Int} (hi : i ≤ 1000)
    (H1 : (∃ k ∈ o, Adj L k i) → Ev (fun k => spec_cuGroup.l1 k L (zs (putN o i)) true L (L.length : Int) ((i + 1 : Nat) : Int)) R)
    (H2 : (¬ ∃ k ∈ o, Adj L k i) → Ev (fun k => spec_cuGroup.l1 k L (zs o) g L (L.length : Int) ((i + 1 : Nat) : Int)) R) : ∀ (t pre : List Nat), o = pre ++ t → (∀ k ∈ pre, ¬ Adj L k i) →
    Ev (fun k => spec_cuGroup.l2 k L (zs o) g (i : Int) [a, b] L (L.length : Int) (i : Int) (zs o) ((zs o).length : Int) (pre.length : Int)) R := by
  have hz : (zs o).length = o.length := zs_len o
  intro t
  induction t with
  | nil =>
    intro pre h hpre
    have hp : o = pre := by rw [h, List.append_nil]
    subst hp
    refine ev_succ ?_
    simp only [spec_cuGroup.l2]
    rw [winc (i := i) (by omega)]
    exact ev_neg (by omega) (H2 (fun ⟨k, hk, ha⟩ => hpre k hk ha))
  | cons x t ih =>
    intro pre h hpre
    have hm : pre.length < o.length := by rw [h]; simp
    have hx : rd (zs o) (pre.length : Int) = (x : Int) := by
      rw [zs_get o hm]
      simp [h]
    have hxo : x ∈ o := by rw [h]; simp
    have hxl := hlt x hxo
    have hc := spec_l1Has_f (zs o) (i : Int) (by rw [zs_len]; omega)
    rw [zs_contains, decide_eq_false hin] at hc
    have hel := el_len hL x
    have ha := spec_l1Has_f (el L x) a (by omega)
    have hb := spec_l1Has_f (el L x) b (by omega)
    have hput := put_f (zs o) (i : Int) (by rw [zs_len]; omega)
    rw [zs_put] at hput
    have hgo : Adj L x i → Ev (fun k => spec_cuGroup.l2 k L (zs (putN o i)) true (i : Int) [a, b] L (L.length : Int) (i : Int) (zs o) ((zs o).length : Int) ((pre.length + 1 : Nat) : Int)) R := fun had => by
      have := cg_in (o := putN o i) (s := o) (i := i) (by rw [CK.putN_len hin]; omega) (by omega) (CK.mem_putN.2 (.inr rfl)) [a, b] hi (H1 ⟨x, hxo, had⟩) t (pre ++ [x]) (by rw [h]; simp)
      rw [len_one] at this
      exact this
    refine ev_succ ?_
    simp only [spec_cuGroup.l2, hx, rdll_nat]
    rw [winc (i := pre.length) (by omega)]
    refine ev_pos (by omega) (ev_pos (by omega) (ev_pos (by omega) (ev_bind _ hc (ev_neg (by simp) (ev_pos (by omega) (ev_pos (by omega) (ev_pos (by simp) ?_)))))))
    refine ev_bind _ ha ?_
    by_cases c1 : (el L x).contains a = true
    · exact ev_pos c1 (ev_bind _ hput (hgo ((adj_pair he).2 (.inl c1))))
    · refine ev_neg c1 (ev_pos (by simp) (ev_bind _ hb ?_))
      by_cases c2 : (el L x).contains b = true
      · exact ev_pos c2 (ev_bind _ hput (hgo ((adj_pair he).2 (.inr c2))))
      · have h1 := ih (pre ++ [x]) (by rw [h]; simp) (fun k hk => by
          rcases List.mem_append.1 hk with hk | hk
          · exact hpre k hk
          · rw [List.mem_singleton.1 hk, adj_pair he]
            exact fun h => h.elim c1 c2)
        rw [len_one] at h1
        exact ev_neg c2 h1
theorem cg_l1 (hp : Pairs L) (hn : L.length ≤ 1000) (hL : ∀ e ∈ L, e.length ≤ 1000) {q : Nat} {R : List Int} : ∀ (d i : Nat) (o : List Nat) (g : Bool), i + d = L.length → CK.Part L q o →
    Ev (fun k => spec_cuGroup.l0 k L (zs (passG L d i o g).1) (passG L d i o g).2) R →
    Ev (fun k => spec_cuGroup.l1 k L (zs o) g L (L.length : Int) (i : Int)) R := by
  intro d
  induction d with
  | zero =>
    intro i o g hi hP H
    refine ev_succ ?_
    simp only [spec_cuGroup.l1, passG] at H ⊢
    exact ev_neg (by omega) H
  | succ d ih =>
    intro i o g hi hP H
    obtain ⟨a, b, he⟩ := hp i (by omega)
    have hlen := CK.part_len hP
    rw [passG] at H
    refine ev_succ ?_
    simp only [spec_cuGroup.l1, rdll_nat, he]
    refine ev_pos (by omega) (ev_pos (by omega) (ev_pos (by omega) ?_))
    by_cases c : i ∈ o
    · rw [if_neg (fun h => h.1 c)] at H
      exact cg_in (by omega) (by omega) c [a, b] (by omega) (ih (i + 1) o g (by omega) hP H) o [] rfl
    · by_cases e : ∃ k ∈ o, Adj L k i
      · rw [if_pos ⟨c, e⟩] at H
        obtain ⟨k, hk, ha⟩ := e
        exact cg_l2 hL (by omega) (fun k hk => (hP.sub k hk).1) c he (by omega) (fun _ => ih (i + 1) (putN o i) true (by omega) (hP.put (by omega) hk ha) H) (fun h => absurd ⟨k, hk, ha⟩ h) o [] rfl (fun k hk => by cases hk)
      · rw [if_neg (fun h => e h.2)] at H
        exact cg_l2 hL (by omega) (fun k hk => (hP.sub k hk).1) c he (by omega) (fun h => absurd h e) (fun _ => ih (i + 1) o g (by omega) hP H) o [] rfl (fun k hk => by cases hk)
theorem cg_l0 (hp : Pairs L) (hn : L.length ≤ 1000) (hL : ∀ e ∈ L, e.length ≤ 1000) {q : Nat} : ∀ (f : Nat) (o : List Nat), CK.Part L q o → L.length < f + o.length →
    Ev (fun k => spec_cuGroup.l0 k L (zs o) true) (zs (growG L f o)) := by
  intro f
  induction f with
  | zero => intro o h hf; have := CK.part_len h; omega
  | succ f ih =>
    intro o h hf
    obtain ⟨h1, h2, h3⟩ := CK.passG_part L.length 0 o false (by omega) h
    refine ev_succ ?_
    simp only [spec_cuGroup.l0]
    refine ev_pos (by trivial) (cg_l1 hp hn hL L.length 0 o false (by omega) h ?_)
    rw [growG]
    by_cases c : (passG L L.length 0 o false).2 = true
    · rw [if_pos c, c]
      refine ih _ h1 ?_
      rcases h3 c with e | h3
      · cases e
      · omega
    · rw [if_neg c, Bool.eq_false_iff.2 c]
      refine ev_succ ?_
      simp only [spec_cuGroup.l0]
      exact ev_neg (by simp) (Ev.now _)
theorem spec_cuGroup_f (hp : Pairs L) (hn : L.length ≤ 1000) (hL : ∀ e ∈ L, e.length ≤ 1000) {i : Nat} (hi : i < L.length) : Ev (fun k => spec_cuGroup.f k L (i : Int)) (zs (comp L i)) := by
  unfold spec_cuGroup.f
  have := cg_l0 hp hn hL (q := i) L.length [i] (CK.part_one hi) (by simp)
  rw [CK.growG_one hi] at this
  exact this
theorem spec_cuGroups_f (hp : Pairs L) (hn : L.length ≤ 1000) (hL : ∀ e ∈ L, e.length ≤ 1000) : Ev (fun k => spec_cuGroups.f k L) ((groupsC L).map zs) := by
  have H : ∀ (d i : Nat), i + d = L.length → Ev (fun k => spec_cuGroups.l0 k L ((((List.range i).filter fun x => decide (x ∈ heads L)).map (comp L)).map zs) (L.length : Int) (i : Int)) ((((List.range L.length).filter fun x => decide (x ∈ heads L)).map (comp L)).map zs) := by
    intro d
    induction d with
    | zero =>
      intro i hi
      obtain rfl : i = L.length := by omega
      refine ev_succ ?_
      simp only [spec_cuGroups.l0]
      exact ev_neg (by omega) (Ev.now _)
    | succ d ih =>
      intro i hi
      have hil : i < L.length := by omega
      have h1 := ih (i + 1) (by omega)
      have hg := spec_cuGroup_f hp hn hL hil
      have hm := CK.comp_self hil
      have hh := CK.comp_head hil
      have hlen : ((((List.range i).filter fun x => decide (x ∈ heads L)).map (comp L)).map zs).length ≤ i := by
        rw [List.length_map, List.length_map]
        have := List.length_filter_le (fun x => decide (x ∈ heads L)) (List.range i)
        rwa [List.length_range] at this
      have hpos : 0 < (zs (comp L i)).length := by rw [zs_len]; exact List.length_pos_of_mem hm
      have h0 : rd (zs (comp L i)) 0 = ((comp L i).headD 0 : Nat) := by
        cases hc : comp L i with
        | nil => rw [hc] at hm; cases hm
        | cons x t => rfl
      rw [List.range_succ, List.filter_append, List.map_append, List.map_append] at h1
      refine ev_succ ?_
      simp only [spec_cuGroups.l0]
      rw [winc (by omega)]
      refine ev_pos (by omega) (ev_bind _ hg (ev_pos (by omega) ?_))
      by_cases c : i ∈ heads L
      · rw [List.filter_cons, if_pos (by simpa using c), List.filter_nil] at h1
        exact ev_pos (by rw [h0]; have := hh.2 c; omega) (ev_pos (by omega) h1)
      · rw [List.filter_cons, if_neg (by simpa using c), List.filter_nil, List.map_nil, List.map_nil, List.append_nil] at h1
        exact ev_neg (by rw [h0]; intro e; exact c (hh.1 (by omega))) h1
  have e : (List.range L.length).filter (fun x => decide (x ∈ heads L)) = heads L := by
    have : ∀ x ∈ List.range L.length, decide (x ∈ heads L) = decide (∀ j, CK.Reach L x j → x ≤ j) := fun x hx => by
      rw [decide_eq_decide, CK.mem_heads]
      exact ⟨fun h => h.2, fun h => ⟨List.mem_range.1 hx, h⟩⟩
    unfold heads
    refine List.filter_congr (fun x hx => ?_)
    have := this x hx
    unfold heads at this
    exact this
  have h := H L.length 0 (by omega)
  unfold spec_cuGroups.f groupsC
  rw [e] at h
  exact h
end
end Go.Proofs.YtephjmmkggcmeaaQ
namespace Go.Proofs.YtephjmmkggcmeaaQ
open Go Go.RowKit Go.Proofs.YtephjmmkggcmeaaW.PrintWords Go.Proofs.YtephjmmkggcmeaaW.PrintMore Go.Proofs.YtephjmmkggcmeaaGp Go.Proofs.Ytephjmmkggcmeaa.PG
open CK (el groupsC Pairs wideN cellsL mostOf mostC)

def Small (L : List (List Int)) : Prop := ∀ i, ∀ x ∈ el L i, 0 ≤ x ∧ x ≤ 1000
theorem mem_nubI {l : List Int} {x : Int} : x ∈ nubI l ↔ x ∈ l := by
  induction l with
  | nil => simp [nubI]
  | cons y t ih =>
    rw [nubI]
    split
    · rename_i c
      rw [ih, List.mem_cons]
      refine ⟨.inr, fun h => h.elim (fun e => ?_) id⟩
      rw [e]; simpa using c
    · rw [List.mem_cons, List.mem_cons, ih]
theorem nodup_nubI (l : List Int) : (nubI l).Nodup := by
  induction l with
  | nil => simp [nubI]
  | cons y t ih =>
    rw [nubI]
    split
    · exact ih
    · rename_i c
      rw [List.nodup_cons]
      exact ⟨fun h => c (by simpa using mem_nubI.1 h), ih⟩
theorem okC_small {x : Int} (h : 0 ≤ x ∧ x ≤ 1000) : okC x = true := by
  unfold okC
  rw [Bool.and_eq_true, decide_eq_true_eq, decide_eq_true_eq]
  omega
section
variable {L : List (List Int)}
theorem impl_cellCount_f (hp : Pairs L) (hs : Small L) {g : List Nat} (hg : ∀ i ∈ g, i < L.length) (hl : g.length ≤ 1000000) : Ev (fun k => impl_cellCount.f k L (zs g)) ((wideN L g : Nat) : Int) := by
  have H : ∀ (t pre : List Nat) (S : List Int), g = pre ++ t → (∀ x, x ∈ S ↔ x ∈ cellsL L pre) → Ev (fun k => impl_cellCount.l0 k L S (zs g) ((zs g).length : Int) (pre.length : Int)) ((wideN L g : Nat) : Int) := by
    have hz : (zs g).length = g.length := zs_len g
    intro t
    induction t with
    | nil =>
      intro pre S h hS
      have hp : g = pre := by rw [h, List.append_nil]
      subst hp
      have e : (nubI S).length = wideN L g := by
        unfold wideN
        exact (CK.nubZ_len (nodup_nubI S) (fun x => mem_nubI.trans (hS x))).symm
      refine ev_succ ?_
      simp only [impl_cellCount.l0]
      exact ev_neg (by omega) (ev_some (by rw [e]))
    | cons x t ih =>
      intro pre S h hS
      have hm : pre.length < g.length := by rw [h]; simp
      have hx : rd (zs g) (pre.length : Int) = (x : Int) := by
        rw [zs_get g hm]
        simp [h]
      have hxl := hg x (by rw [h]; simp)
      obtain ⟨a, b, he⟩ := hp x hxl
      have ha := okC_small (hs x a (by rw [he]; simp))
      have hb := okC_small (hs x b (by rw [he]; simp))
      have h1 := ih (pre ++ [x]) (b :: a :: S) (by rw [h]; simp) (fun y => by
        rw [CK.mem_cellsL, List.mem_cons, List.mem_cons, hS, CK.mem_cellsL]
        constructor
        · rintro (e | e | ⟨i, hi, hy⟩)
          · exact ⟨x, by simp, by rw [he, e]; simp⟩
          · exact ⟨x, by simp, by rw [he, e]; simp⟩
          · exact ⟨i, List.mem_append_left _ hi, hy⟩
        · rintro ⟨i, hi, hy⟩
          rcases List.mem_append.1 hi with hi | hi
          · exact .inr (.inr ⟨i, hi, hy⟩)
          · rw [List.mem_singleton.1 hi, he] at hy
            rcases List.mem_cons.1 hy with e | hy
            · exact .inr (.inl e)
            · exact .inl (List.mem_singleton.1 hy))
      rw [len_one] at h1
      have r0 : rd [a, b] 0 = a := rfl
      have r1 : rd [a, b] 1 = b := rfl
      refine ev_succ ?_
      simp only [impl_cellCount.l0, hx, rdll_nat, he, r0, r1]
      rw [winc (i := pre.length) (by omega)]
      exact ev_pos (by omega) (ev_pos (by omega) (ev_pos (by omega) (ev_pos (by omega) (ev_pos (by omega) (ev_pos (by simp) (ev_pos (by simp) (ev_pos ha (ev_pos hb h1))))))))
  unfold impl_cellCount.f
  exact ev_pos (by rw [zs_len]; exact hl) (H g [] [] rfl (fun x => by simp [cellsL]))
theorem group_ok {g : List Nat} (h : g ∈ groupsC L) : (∀ i ∈ g, i < L.length) ∧ g.length ≤ L.length := by
  obtain ⟨i, hi, rfl⟩ := List.mem_map.1 h
  exact ⟨fun j hj => (CK.mem_comp.1 hj).1, by
    have := CK.nodup_leN (CK.comp_nodup (ls := L) i) (V := List.range L.length) (fun x hx => List.mem_range.2 (CK.mem_comp.1 hx).1)
    rwa [List.length_range] at this⟩
theorem zl_len (G : List (List Nat)) : (G.map zs).length = G.length := List.length_map _
theorem el_map {G : List (List Nat)} {q : Nat} (h : q < G.length) : el (G.map zs) q = zs G[q] := by
  rw [el_get (by rw [zl_len]; exact h), List.getElem_map]
theorem most_l0 (hp : Pairs L) (hs : Small L) (hn : L.length ≤ 1000) {G : List (List Nat)} (hG : ∀ g ∈ G, (∀ i ∈ g, i < L.length) ∧ g.length ≤ L.length) (hGl : G.length ≤ 1000) : ∀ (t pre : List (List Nat)), G = pre ++ t →
    Ev (fun k => impl_MostPlaced.l0 k L ((mostOf L pre : Nat) : Int) (G.map zs) ((G.map zs).length : Int) (pre.length : Int)) (((mostOf L G : Nat) : Int), true) := by
  have hz : (G.map zs).length = G.length := zl_len G
  intro t
  induction t with
  | nil =>
    intro pre h
    have hp : G = pre := by rw [h, List.append_nil]
    subst hp
    refine ev_succ ?_
    simp only [impl_MostPlaced.l0]
    exact ev_neg (by omega) (Ev.now _)
  | cons g t ih =>
    intro pre h
    have hm : pre.length < G.length := by rw [h]; simp
    have hgG : g ∈ G := by rw [h]; simp
    obtain ⟨g1, g2⟩ := hG g hgG
    have he : el (G.map zs) pre.length = zs g := by
      rw [el_map hm]
      simp [h]
    have hc := impl_cellCount_f hp hs g1 (by omega)
    have h1 := ih (pre ++ [g]) (by rw [h]; simp)
    have hle := CK.mostOf_le (ls := L) pre
    have hsum : (pre.map List.length).sum ≤ 1000 * pre.length := by
      have : ∀ P : List (List Nat), (∀ p ∈ P, p.length ≤ 1000) → (P.map List.length).sum ≤ 1000 * P.length := by
        intro P
        induction P with
        | nil => intro _; simp
        | cons p P ihP =>
          intro hP
          have a1 := hP p List.mem_cons_self
          have a2 := ihP (fun q hq => hP q (List.mem_cons_of_mem _ hq))
          simp only [List.map_cons, List.sum_cons, List.length_cons]
          omega
      exact this pre (fun p hp => by have := (hG p (by rw [h]; exact List.mem_append_left _ hp)).2; omega)
    have em : mostOf L (pre ++ [g]) = mostOf L pre + min g.length (wideN L g) := by
      unfold mostOf
      rw [List.map_append, List.sum_append]
      simp
    rw [len_one, em] at h1
    have hw : wrap64 (((mostOf L pre : Nat) : Int) + mn ((wideN L g : Nat) : Int) ((zs g).length : Int)) = ((mostOf L pre + min g.length (wideN L g) : Nat) : Int) := by
      rw [zs_len]
      have hmn : mn ((wideN L g : Nat) : Int) (g.length : Int) = ((min g.length (wideN L g) : Nat) : Int) := by unfold mn; split <;> omega
      rw [hmn, w64 (by omega) (by omega)]
      omega
    refine ev_succ ?_
    simp only [impl_MostPlaced.l0, rdll_nat, he]
    rw [winc (i := pre.length) (by omega)]
    refine ev_pos (by omega) (ev_pos (by omega) (ev_pos (by omega) (ev_bind _ hc ?_)))
    rw [hw]
    exact h1
end
section
variable {a n : Int} {l : List ByteArray}
theorem place_small (h : keyedC a l n = true) (s : ByteArray) {c : Int} : 0 ≤ placeV a c s n ∧ placeV a c s n ≤ 1000 := by
  obtain ⟨_, _, h3, h4⟩ := keyedC_ok h
  have := placeV_range a c s h3 (by omega)
  omega
theorem prs_small (h : keyedC a l n = true) : Small (prs a n l) := by
  intro i x hx
  by_cases c : i < l.length
  · rw [prs_el c] at hx
    rcases List.mem_cons.1 hx with e | hx
    · rw [e]; exact place_small h _
    · rw [List.mem_singleton.1 hx]; exact place_small h _
  · unfold el at hx
    rw [List.getD_eq_getElem?_getD, List.getElem?_eq_none (by rw [prs_len]; omega)] at hx
    cases hx
theorem impl_MostPlaced_f (h : keyedC a l n = true) : Ev (fun k => impl_MostPlaced.f k a l n) (((mostC (prs a n l) : Nat) : Int), true) := by
  obtain ⟨h1, h2, h3⟩ := keyedC_ok h
  obtain ⟨hl, hz⟩ := keys_small h2
  have hpf := impl_pairs_f a n (l := l) (by omega) hz
  rw [if_pos h] at hpf
  have hpl := prs_len a n l
  have hgr := impl_groups_val (L := prs a n l) (by omega) prs_two
  have hgl := CK.heads_len (ls := prs a n l)
  unfold impl_MostPlaced.f
  refine ev_bind _ hpf (ev_pos rfl (ev_bind _ hgr ?_))
  exact most_l0 (prs_pairs a n l) (prs_small h) (by omega) (fun g hg => group_ok hg) (by omega) _ [] rfl
theorem impl_KeyGroups_f (hl : l.length ≤ 1000) (hz : ∀ s ∈ l, s.size ≤ 1000) : Ev (fun k => impl_KeyGroups.f k a l n) (if keyedC a l n = true then ((groupsC (prs a n l)).map zs, true) else ([], false)) := by
  have hpf := impl_pairs_f a n (l := l) hl hz
  have hpl := prs_len a n l
  unfold impl_KeyGroups.f
  by_cases h : keyedC a l n = true
  · rw [if_pos h] at hpf ⊢
    exact ev_bind _ hpf (ev_pos rfl (ev_bind _ (impl_groups_val (L := prs a n l) (by omega) prs_two) (Ev.now _)))
  · rw [if_neg h] at hpf ⊢
    exact ev_bind _ hpf (ev_neg (by simp) (Ev.now _))
theorem spec_KeyGroups_f (hl : l.length ≤ 1000) (hz : ∀ s ∈ l, s.size ≤ 1000) : Ev (fun k => spec_KeyGroups.f k a l n) (if keyedC a l n = true then ((groupsC (prs a n l)).map zs, true) else ([], false)) := by
  have hk := spec_cuKeyed_f a n hl hz
  have hpl := prs_len a n l
  unfold spec_KeyGroups.f
  by_cases h : keyedC a l n = true
  · rw [if_pos h]
    rw [h] at hk
    have h1 := (keyedC_ok h).1
    exact ev_bind _ hk (ev_pos rfl (ev_bind _ (spec_cuPairs_f h1.1 h1.2 hl hz) (ev_bind _ (spec_cuGroups_f (prs_pairs a n l) (by omega) prs_two) (Ev.now _))))
  · rw [if_neg h]
    rw [Bool.eq_false_iff.2 h] at hk
    exact ev_bind _ hk (ev_neg (by simp) (Ev.now _))
end
end Go.Proofs.YtephjmmkggcmeaaQ
namespace Go.Proofs.YtephjmmkggcmeaaQ
open Go Go.RowKit Go.Proofs.YtephjmmkggcmeaaW.PrintWords Go.Proofs.YtephjmmkggcmeaaGp Go.Proofs.Ytephjmmkggcmeaa.PG

end Go.Proofs.YtephjmmkggcmeaaQ
namespace Go.Proofs.YtephjmmkggcmeaaQ
open Go Go.RowKit Go.Proofs.YtephjmmkggcmeaaW.PrintWords Go.Proofs.YtephjmmkggcmeaaGp Go.Proofs.Ytephjmmkggcmeaa.PG

namespace LW
theorem has_l0 (x0 : List Int) (a : Int) (hl : (x0.length : Int) ≤ 9223372036854775806) : ∀ (t pre : List Int), x0 = pre ++ t →
    Ev (fun k => laws_pHas.l0 k a x0 (x0.length : Int) (pre.length : Int)) (t.contains a) := by
  intro t
  induction t with
  | nil =>
    intro pre h
    refine ev_succ ?_
    simp only [laws_pHas.l0]
    exact ev_neg (by rw [h]; exact not_lt_end) (ev_some (by simp))
  | cons x t ih =>
    intro pre h
    have hm : ((pre.length : Nat) : Int) < (x0.length : Int) := by rw [h]; exact lt_mid
    have hg : rd x0 (pre.length : Int) = x := by rw [h]; exact rd_mid
    refine ev_succ ?_
    simp only [laws_pHas.l0, hg]
    refine ev_pos hm (ev_pos (by omega) (ev_pos hm ?_))
    by_cases c : x = a
    · exact ev_pos c (ev_some (by simp [c]))
    · refine ev_neg c ?_
      rw [winc (by omega)]
      have := ih (pre ++ [x]) (by rw [h]; simp)
      rw [len_one] at this
      have e : (x :: t).contains a = t.contains a := by simp [Ne.symm c]
      rw [e]
      exact this
theorem has_f (l : List Int) (a : Int) (hl : (l.length : Int) ≤ 9223372036854775806) : Ev (fun k => laws_pHas.f k l a) (l.contains a) := by
  unfold laws_pHas.f
  exact has_l0 l a hl l [] rfl
theorem same_l0 (x0 y0 : List Int) (hl : (x0.length : Int) ≤ 9223372036854775806) (hy : y0.length = x0.length) : ∀ (t pre u pru : List Int), x0 = pre ++ t → y0 = pru ++ u → pru.length = pre.length →
    Ev (fun k => laws_pSameInts.l0 k x0 y0 (x0.length : Int) (pre.length : Int)) (decide (t = u)) := by
  intro t
  induction t with
  | nil =>
    intro pre u pru h h2 hp
    have : u = [] := by
      have e1 : y0.length = pru.length + u.length := by rw [h2]; simp
      have e2 : x0.length = pre.length := by rw [h]; simp
      exact List.length_eq_zero_iff.1 (by omega)
    subst this
    refine ev_succ ?_
    simp only [laws_pSameInts.l0]
    exact ev_neg (by rw [h]; exact not_lt_end) (ev_some (by simp))
  | cons x t ih =>
    intro pre u pru h h2 hp
    have hm : ((pre.length : Nat) : Int) < (x0.length : Int) := by rw [h]; exact lt_mid
    have hg : rd x0 (pre.length : Int) = x := by rw [h]; exact rd_mid
    cases u with
    | nil =>
      have e1 : y0.length = pru.length := by rw [h2]; simp
      omega
    | cons y u =>
      have hg2 : rd y0 (pre.length : Int) = y := by rw [h2, ← hp]; exact rd_mid
      refine ev_succ ?_
      simp only [laws_pSameInts.l0, hg, hg2]
      by_cases c : x = y
      · subst c
        have := ih (pre ++ [x]) u (pru ++ [x]) (by rw [h]; simp) (by rw [h2]; simp) (by simp [hp])
        rw [len_one] at this
        rw [show decide (x :: t = x :: u) = decide (t = u) from by simp, winc (by omega)]
        exact ev_pos hm (ev_pos (by omega) (ev_pos hm (ev_pos (by omega) (ev_pos rfl this))))
      · rw [decide_eq_false (fun e => c (List.cons.inj e).1)]
        exact ev_pos hm (ev_pos (by omega) (ev_pos hm (ev_pos (by omega) (ev_neg c (Ev.now _)))))
theorem same_f (l l' : List Int) (hl : (l.length : Int) ≤ 9223372036854775806) (h : l'.length = l.length) : Ev (fun k => laws_pSameInts.f k l l') (decide (l = l')) := by
  unfold laws_pSameInts.f
  exact ev_pos (by omega) (same_l0 l l' hl h l [] l' [] rfl rfl rfl)
theorem sameI_f (l l' : List Int) (hl : (l.length : Int) ≤ 9223372036854775806) : Ev (fun k => laws_pSameInts.f k l l') (decide (l = l')) := by
  by_cases h : l'.length = l.length
  · exact same_f l l' hl h
  · unfold laws_pSameInts.f
    exact ev_neg (by omega) (ev_some (decide_eq_false (fun e => h (by rw [e]))).symm)
end LW
end Go.Proofs.YtephjmmkggcmeaaQ
namespace Go.Proofs.Ytephjmmkggcmeaa.Pure
open Go Go.RowKit Go.Proofs.YtephjmmkggcmeaaW.PrintWords Go.Proofs.YtephjmmkggcmeaaW.PrintMore Go.Proofs.YtephjmmkggcmeaaGp Go.Proofs.Ytephjmmkggcmeaa.PG Go.Proofs.YtephjmmkggcmeaaQ
open CK (el groupsC Pairs wideN cellsL mostOf mostC)

theorem lists_f {G : List (List Nat)} (hG : G.length ≤ 1000) (hg : ∀ g ∈ G, g.length ≤ 1000) : Ev (fun k => laws_rSameLists.f k (G.map zs) (G.map zs)) true := by
  have hz : (G.map zs).length = G.length := zl_len G
  have H : ∀ (t pre : List (List Nat)), G = pre ++ t → Ev (fun k => laws_rSameLists.l0 k (G.map zs) (G.map zs) ((G.map zs).length : Int) (pre.length : Int)) true := by
    intro t
    induction t with
    | nil =>
      intro pre h
      have hp : G = pre := by rw [h, List.append_nil]
      subst hp
      refine ev_succ ?_
      simp only [laws_rSameLists.l0]
      exact ev_neg (by omega) (Ev.now _)
    | cons g t ih =>
      intro pre h
      have hm : pre.length < G.length := by rw [h]; simp
      have h1 := ih (pre ++ [g]) (by rw [h]; simp)
      rw [len_one] at h1
      have hlen : (zs G[pre.length]).length ≤ 1000 := by rw [zs_len]; exact hg _ (List.getElem_mem hm)
      have hs := LW.sameI_f (zs G[pre.length]) (zs G[pre.length]) (by omega)
      rw [decide_eq_true rfl] at hs
      refine ev_succ ?_
      simp only [laws_rSameLists.l0, rdll_nat, el_map hm]
      rw [winc (i := pre.length) (by omega)]
      exact ev_pos (by omega) (ev_pos (by omega) (ev_pos (by omega) (ev_pos (by omega) (ev_bind _ hs (ev_pos rfl h1)))))
  unfold laws_rSameLists.f
  exact ev_pos rfl (H G [] rfl)
section
variable {L : List (List Int)}
theorem cells_off {pre rest : List (List Nat)} {g : List Nat} (h : groupsC L = pre ++ g :: rest) {x : Nat} (hx : x ∈ g) {c : Int} (hc : c ∈ el L x) : c ∉ cellsL L pre.flatten := by
  intro hin
  obtain ⟨j, hj, hcj⟩ := CK.mem_cellsL.1 hin
  obtain ⟨g', hg', hjg'⟩ := List.mem_flatten.1 hj
  have m1 : g ∈ groupsC L := by rw [h]; simp
  have m2 : g' ∈ groupsC L := by rw [h]; exact List.mem_append_left _ hg'
  obtain ⟨i, hi, rfl⟩ := List.mem_map.1 m1
  obtain ⟨i', hi', rfl⟩ := List.mem_map.1 m2
  have := CK.cells_apart hi hi' (x := c) ⟨x, (CK.mem_comp.1 hx).2, hc⟩ ⟨j, (CK.mem_comp.1 hjg').2, hcj⟩
  subst this
  have hnd := CK.flat_nodup (ls := L)
  rw [h, List.flatten_append, List.flatten_cons] at hnd
  have hd := (List.nodup_append.1 hnd).2.2
  exact hd x (List.mem_flatten.2 ⟨_, hg', hx⟩) x (List.mem_append_left _ hx) rfl
theorem not_seen {pre rest : List (List Nat)} {p t : List Nat} {x : Nat} (h : groupsC L = pre ++ (p ++ x :: t) :: rest) : x ∉ pre.flatten ++ p := by
  have hnd := CK.flat_nodup (ls := L)
  rw [h, List.flatten_append, List.flatten_cons, ← List.append_assoc, ← List.append_assoc] at hnd
  have h1 := (List.nodup_append.1 hnd).1
  have h2 := (List.nodup_append.1 h1).2.2
  intro hin
  exact h2 x hin x (List.mem_cons_self) rfl
end
section
variable {a n : Int} {l : List ByteArray}
theorem gk_l1 (hk : keyedC a l n = true) {pre rest : List (List Nat)} {g : List Nat} (hg : groupsC (prs a n l) = pre ++ g :: rest) {U : List Int} {sum : Int} (hs0 : 0 ≤ sum) (hs1 : sum ≤ 1000000)
    (hU : ∀ x ∈ U, x ∈ cellsL (prs a n l) pre.flatten) (hUl : U.length ≤ 1000) {R : Bool}
    (H : ∀ O : List Int, O.Nodup → (∀ x, x ∈ O ↔ x ∈ cellsL (prs a n l) g) → O.length ≤ 2 * g.length → Ev (fun k => laws_FnGroupsOfKeys.l0 k a l n (zs (pre.flatten ++ g)) (U ++ O) (sum + ((min g.length (wideN (prs a n l) g) : Nat) : Int)) ((groupsC (prs a n l)).map zs) (((groupsC (prs a n l)).map zs).length : Int) ((pre.length + 1 : Nat) : Int)) R) :
    ∀ (t p : List Nat) (O : List Int), g = p ++ t → O.Nodup → (∀ x, x ∈ O ↔ x ∈ cellsL (prs a n l) p) → O.length ≤ 2 * p.length →
    Ev (fun k => laws_FnGroupsOfKeys.l1 k a l n (zs (pre.flatten ++ p)) U sum (zs g) O ((groupsC (prs a n l)).map zs) (((groupsC (prs a n l)).map zs).length : Int) (pre.length : Int) (zs g) ((zs g).length : Int) (p.length : Int)) R := by
  obtain ⟨h1, h2, h3⟩ := keyedC_ok hk
  obtain ⟨hl, hz⟩ := keys_small h2
  have hpl := prs_len a n l
  have hgG : g ∈ groupsC (prs a n l) := by rw [hg]; simp
  obtain ⟨g1, g2⟩ := group_ok hgG
  have hfl := CK.flat_len (ls := prs a n l)
  have hpre : pre.flatten.length + g.length ≤ l.length := by
    rw [hg, List.flatten_append, List.flatten_cons, List.length_append, List.length_append] at hfl
    omega
  have hpn : pre.length ≤ 1000 := by
    have := CK.heads_len (ls := prs a n l)
    rw [hg, List.length_append] at this
    omega
  have hzg : (zs g).length = g.length := zs_len g
  intro t
  induction t with
  | nil =>
    intro p O h hO hOm hOl
    have hp : g = p := by rw [h, List.append_nil]
    subst hp
    have hw : O.length = wideN (prs a n l) g := by
      unfold wideN
      exact (CK.nubZ_len hO hOm).symm
    have hH := H O hO hOm hOl
    refine ev_succ ?_
    simp only [laws_FnGroupsOfKeys.l1, hzg]
    rw [winc (i := pre.length) (by omega)]
    refine ev_neg (by omega) (ev_pos (by omega) (ev_bind _ (Ev.now _) ?_))
    by_cases c : (O.length : Int) < (g.length : Int)
    · refine ev_pos c ?_
      rw [w64 (by omega) (by omega), show sum + (O.length : Int) = sum + ((min g.length (wideN (prs a n l) g) : Nat) : Int) from by omega]
      exact hH
    · refine ev_neg c ?_
      rw [w64 (by omega) (by omega), show sum + (g.length : Int) = sum + ((min g.length (wideN (prs a n l) g) : Nat) : Int) from by omega]
      exact hH
  | cons x t ih =>
    intro p O h hO hOm hOl
    have hm : p.length < g.length := by rw [h]; simp
    have hgl : g.length = p.length + (t.length + 1) := by rw [h]; simp
    have hx : rd (zs g) (p.length : Int) = (x : Int) := by
      rw [zs_get g hm]
      simp [h]
    have hxg : x ∈ g := by rw [h]; simp
    have hxl : x < l.length := by have := g1 x hxg; omega
    have hns := not_seen (L := prs a n l) (by rw [← h]; exact hg)
    have e1 := LW.has_f (zs (pre.flatten ++ p)) (x : Int) (by rw [zs_len, List.length_append]; omega)
    rw [zs_contains, decide_eq_false hns] at e1
    have hC := impl_CellsOf_f hk (s := l[x]) (List.getElem_mem hxl)
    have hpe := prs_el (a := a) (n := n) hxl
    have ca : placeV a 0 l[x] n ∈ el (prs a n l) x := by rw [hpe]; simp
    have cb : placeV a 1 l[x] n ∈ el (prs a n l) x := by rw [hpe]; simp
    have na : placeV a 0 l[x] n ∉ U := fun hu => cells_off hg hxg ca (hU _ hu)
    have nb : placeV a 1 l[x] n ∉ U := fun hu => cells_off hg hxg cb (hU _ hu)
    have e2 := LW.has_f U (placeV a 0 l[x] n) (by omega)
    rw [show U.contains (placeV a 0 l[x] n) = false from by rw [Bool.eq_false_iff]; simpa using na] at e2
    have e3 := LW.has_f U (placeV a 1 l[x] n) (by omega)
    rw [show U.contains (placeV a 1 l[x] n) = false from by rw [Bool.eq_false_iff]; simpa using nb] at e3
    have hrl : rdOf ByteArray.empty l (x : Int) = l[x] := rdOf_get hxl
    generalize placeV a 0 l[x] n = A at *
    generalize placeV a 1 l[x] n = B at *
    have hcm : ∀ (Q : List Int), (∀ y, y ∈ Q ↔ (y ∈ O ∨ y = A ∨ y = B)) → ∀ y, y ∈ Q ↔ y ∈ cellsL (prs a n l) (p ++ [x]) := fun Q hQ y => by
      rw [hQ, hOm, CK.mem_cellsL, CK.mem_cellsL]
      constructor
      · rintro (⟨i, hi, hy⟩ | e | e)
        · exact ⟨i, List.mem_append_left _ hi, hy⟩
        · exact ⟨x, by simp, by rw [e]; exact ca⟩
        · exact ⟨x, by simp, by rw [e]; exact cb⟩
      · rintro ⟨i, hi, hy⟩
        rcases List.mem_append.1 hi with hi | hi
        · exact .inl ⟨i, hi, hy⟩
        · rw [List.mem_singleton.1 hi, hpe] at hy
          rcases List.mem_cons.1 hy with e | hy
          · exact .inr (.inl e)
          · exact .inr (.inr (List.mem_singleton.1 hy))
    have hgo : ∀ Q : List Int, Q.Nodup → (∀ y, y ∈ Q ↔ (y ∈ O ∨ y = A ∨ y = B)) → Q.length ≤ O.length + 2 → Ev (fun k => laws_FnGroupsOfKeys.l1 k a l n (zs (pre.flatten ++ p) ++ [(x : Int)]) U sum (zs g) Q ((groupsC (prs a n l)).map zs) (((groupsC (prs a n l)).map zs).length : Int) (pre.length : Int) (zs g) ((zs g).length : Int) ((p.length + 1 : Nat) : Int)) R := fun Q hQ hQm hQl => by
      have := ih (p ++ [x]) Q (by rw [h]; simp) hQ (hcm Q hQm) (by rw [List.length_append, List.length_singleton]; omega)
      rw [len_one, ← List.append_assoc, zs_snoc] at this
      exact this
    have hOA : ∀ y, O.contains y = true ↔ y ∈ O := fun y => List.contains_iff_mem
    have eA := LW.has_f O A (by omega)
    have eB := LW.has_f O B (by omega)
    have eB2 := LW.has_f (O ++ [A]) B (by rw [List.length_append, List.length_singleton]; omega)
    refine ev_succ ?_
    simp only [laws_FnGroupsOfKeys.l1, hx]
    refine ev_pos (by omega) (ev_pos (by omega) (ev_pos (by omega) (ev_bind _ e1 (ev_neg (by simp) (ev_neg (by omega) ?_)))))
    rw [decide_eq_false (show ¬ ((x : Int) ≥ (l.length : Int)) by omega)]
    refine ev_succ ?_
    simp only [laws_FnGroupsOfKeys.j3, hrl]
    refine ev_neg (by simp) (ev_pos (by rw [zs_len, List.length_append]; omega) (ev_bind _ (Ev.now _) (ev_pos (by omega) (ev_pos (by omega) (ev_bind _ hC (ev_pos rfl (ev_bind _ e2 (ev_neg (by simp) (ev_bind _ e3 ?_)))))))))
    refine ev_succ ?_
    simp only [laws_FnGroupsOfKeys.j4]
    rw [winc (i := p.length) (by omega)]
    refine ev_neg (by simp) (ev_bind _ eA ?_)
    by_cases c1 : O.contains A = true
    · refine ev_pos c1 (ev_bind _ eB ?_)
      by_cases c2 : O.contains B = true
      · refine ev_pos c2 (hgo O hO (fun y => ⟨.inl, fun h => h.elim id (fun h => h.elim (fun e => e ▸ (hOA A).1 c1) (fun e => e ▸ (hOA B).1 c2))⟩) (by omega))
      · refine ev_neg c2 (ev_pos (by omega) (hgo (O ++ [B]) ?_ (fun y => ?_) (by simp)))
        · rw [List.nodup_append]
          exact ⟨hO, by simp, fun u hu v hv e => c2 ((hOA B).2 (by rw [← List.mem_singleton.1 hv, ← e]; exact hu))⟩
        · rw [List.mem_append, List.mem_singleton]
          exact ⟨fun h => h.elim .inl (fun e => .inr (.inr e)), fun h => h.elim .inl (fun h => h.elim (fun e => .inl (e ▸ (hOA A).1 c1)) .inr)⟩
    · have hOn : (O ++ [A]).Nodup := by
        rw [List.nodup_append]
        exact ⟨hO, by simp, fun u hu v hv e => c1 ((hOA A).2 (by rw [← List.mem_singleton.1 hv, ← e]; exact hu))⟩
      refine ev_neg c1 (ev_pos (by omega) (ev_bind _ (Ev.now _) (ev_bind _ eB2 ?_)))
      by_cases c2 : (O ++ [A]).contains B = true
      · refine ev_pos c2 (hgo (O ++ [A]) hOn (fun y => ?_) (by simp))
        have hb := List.contains_iff_mem.1 c2
        rw [List.mem_append, List.mem_singleton] at hb ⊢
        refine ⟨fun h => h.elim .inl (fun e => .inr (.inl e)), fun h => h.elim .inl (fun h => h.elim .inr (fun e => ?_))⟩
        rw [e]; exact hb
      · refine ev_neg c2 (ev_pos (by simp; omega) (hgo (O ++ [A] ++ [B]) ?_ (fun y => ?_) (by simp)))
        · rw [List.nodup_append]
          exact ⟨hOn, by simp, fun u hu v hv e => c2 (List.contains_iff_mem.2 (by rw [← List.mem_singleton.1 hv, ← e]; exact hu))⟩
        · simp only [List.mem_append, List.mem_singleton, or_assoc]
theorem gk_l0 (hk : keyedC a l n = true) : ∀ (rest pre : List (List Nat)) (U : List Int), groupsC (prs a n l) = pre ++ rest → (∀ x ∈ U, x ∈ cellsL (prs a n l) pre.flatten) → U.length ≤ 2 * pre.flatten.length →
    Ev (fun k => laws_FnGroupsOfKeys.l0 k a l n (zs pre.flatten) U ((mostOf (prs a n l) pre : Nat) : Int) ((groupsC (prs a n l)).map zs) (((groupsC (prs a n l)).map zs).length : Int) (pre.length : Int)) true := by
  obtain ⟨h1, h2, h3⟩ := keyedC_ok hk
  obtain ⟨hl, hz⟩ := keys_small h2
  have hpl := prs_len a n l
  have hfl := CK.flat_len (ls := prs a n l)
  have hzG : ((groupsC (prs a n l)).map zs).length = (groupsC (prs a n l)).length := zl_len _
  have hGl := CK.heads_len (ls := prs a n l)
  intro rest
  induction rest with
  | nil =>
    intro pre U h hU hUl
    have hp : groupsC (prs a n l) = pre := by rw [h, List.append_nil]
    have hm := impl_MostPlaced_f hk
    refine ev_succ ?_
    simp only [laws_FnGroupsOfKeys.l0]
    rw [← hp]
    refine ev_neg (by omega) (ev_bind _ hm (ev_pos rfl (ev_pos rfl ?_)))
    rw [zs_len, hfl, hpl]
    exact ev_some (by simp)
  | cons g rest ih =>
    intro pre U h hU hUl
    have hm : pre.length < (groupsC (prs a n l)).length := by rw [h]; simp
    have he : el ((groupsC (prs a n l)).map zs) pre.length = zs g := by
      rw [el_map hm]
      simp [h]
    have hfl2 : pre.flatten.length ≤ l.length := by
      rw [h, List.flatten_append, List.length_append] at hfl
      omega
    have hle := CK.mostOf_le (ls := prs a n l) pre
    have hsm : (pre.map List.length).sum = pre.flatten.length := by rw [List.length_flatten]
    have em : mostOf (prs a n l) (pre ++ [g]) = mostOf (prs a n l) pre + min g.length (wideN (prs a n l) g) := by
      unfold mostOf
      rw [List.map_append, List.sum_append]
      simp
    have hgo := gk_l1 hk (pre := pre) (rest := rest) (g := g) h (U := U) (sum := ((mostOf (prs a n l) pre : Nat) : Int)) (by omega) (by omega) hU (by omega) (R := true) (fun O hO hOm hOl => by
      have := ih (pre ++ [g]) (U ++ O) (by rw [h]; simp) (fun x hx => by
        rw [List.flatten_append, List.flatten_cons, List.flatten_nil, List.append_nil]
        have split : ∀ y, y ∈ cellsL (prs a n l) (pre.flatten ++ g) ↔ (y ∈ cellsL (prs a n l) pre.flatten ∨ y ∈ cellsL (prs a n l) g) := fun y => by simp [cellsL]
        rw [split]
        rcases List.mem_append.1 hx with hx | hx
        · exact .inl (hU x hx)
        · exact .inr ((hOm x).1 hx)) (by
        rw [List.flatten_append, List.flatten_cons, List.flatten_nil, List.append_nil, List.length_append, List.length_append]
        omega)
      rw [len_one, em, List.flatten_append, List.flatten_cons, List.flatten_nil, List.append_nil] at this
      rw [show (((mostOf (prs a n l) pre + min g.length (wideN (prs a n l) g) : Nat)) : Int) = ((mostOf (prs a n l) pre : Nat) : Int) + ((min g.length (wideN (prs a n l) g) : Nat) : Int) from by omega] at this
      exact this) g [] [] rfl (by simp) (fun x => by simp [cellsL]) (by simp)
    rw [List.append_nil] at hgo
    refine ev_succ ?_
    simp only [laws_FnGroupsOfKeys.l0, rdll_nat, he]
    exact ev_pos (by omega) (ev_pos (by omega) (ev_pos (by omega) hgo))
end
theorem DrawKeyGroups_ok {s : List Int} (hs : Bys s) : ∃ a l n, Ev (fun k => spec_DrawKeyGroups.f k s) (a, l, n) ∧ Kys 42 l := by
  obtain ⟨a, l, n, p', sd', e, _, hk, _⟩ := keyed_ok hs 0 (p := 0) (by omega) (by omega)
  refine ⟨a, l, n, ?_, hk⟩
  unfold spec_DrawKeyGroups.f
  exact ev_bind _ e (Ev.now _)
theorem FnGroupsOfKeys : laws_FnGroupsOfKeys.Pure := by
  intro l0 l1 h0 _ hw0 h1 _ _
  refine Ev.rounds (r := true) ?_
  unfold laws_FnGroupsOfKeys.f
  obtain ⟨b, eb, hb⟩ := big_f h0 h1
  rw [eb]
  refine ev_bind _ (Ev.now _) ?_
  by_cases c : b = true
  · exact ev_pos c (Ev.now _)
  obtain ⟨g0, _⟩ := hb (by simpa using c)
  have hs := bys g0 hw0
  obtain ⟨a, l, n, ed, hk⟩ := DrawKeyGroups_ok hs
  have hl : l.length ≤ 1000 := by have := hk.1; omega
  have hz : ∀ s ∈ l, s.size ≤ 1000 := fun s hs => by have := hk.2 s hs; omega
  have i1 := impl_KeyGroups_f (a := a) (n := n) hl hz
  have s1 := spec_KeyGroups_f (a := a) (n := n) hl hz
  by_cases h : keyedC a l n = true
  · rw [if_pos h] at i1 s1
    have hpl := prs_len a n l
    have hGl := CK.heads_len (ls := prs a n l)
    have hsame := lists_f (G := groupsC (prs a n l)) (by omega) (fun g hg => by have := (group_ok hg).2; omega)
    refine ev_neg c (ev_bind _ ed (ev_bind _ i1 (ev_bind _ s1 (ev_neg (by simp) (ev_bind _ hsame (ev_succ ?_))))))
    simp only [laws_FnGroupsOfKeys.j0]
    refine ev_neg (by simp) (ev_pos (by trivial) ?_)
    have := gk_l0 h (groupsC (prs a n l)) [] [] rfl (fun x hx => by cases hx) (by simp)
    exact this
  · rw [if_neg h] at i1 s1
    have hsame := lists_f (G := []) (by simp) (fun g hg => by cases hg)
    refine ev_neg c (ev_bind _ ed (ev_bind _ i1 (ev_bind _ s1 (ev_neg (by simp) (ev_bind _ hsame (ev_succ ?_))))))
    simp only [laws_FnGroupsOfKeys.j0]
    exact ev_neg (by simp) (ev_neg (by simp) (Ev.now _))
end Go.Proofs.Ytephjmmkggcmeaa.Pure
