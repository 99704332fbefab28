import Derived.Test.YtephjmmkggcmeaaCM2
import Derived.Test.YtephjmmkggcmeaaCM4
import Derived.Test.YtephjmmkggcmeaaCM5
import Derived.Test.YtephjmmkggcmeaaCM1
namespace Go.Proofs.YtephjmmkggcmeaaQ.CK
open Classical

def el (ls : List (List Int)) (i : Nat) : List Int := ls.getD i []
def Adj (ls : List (List Int)) (i j : Nat) : Prop := ∃ x, x ∈ el ls i ∧ x ∈ el ls j
inductive Reach (ls : List (List Int)) : Nat → Nat → Prop
  | refl (i : Nat) : Reach ls i i
  | step {i j k : Nat} : Reach ls i j → k < ls.length → Adj ls j k → Reach ls i k
theorem Adj.symm {ls : List (List Int)} {i j : Nat} (h : Adj ls i j) : Adj ls j i := by
  obtain ⟨x, h1, h2⟩ := h
  exact ⟨x, h2, h1⟩
theorem Reach.trans {ls : List (List Int)} {i j k : Nat} (h : Reach ls i j) (h' : Reach ls j k) : Reach ls i k := by
  induction h' with
  | refl => exact h
  | step _ hk ha ih => exact .step ih hk ha
theorem Reach.lt {ls : List (List Int)} {i j : Nat} (h : Reach ls i j) (hi : i < ls.length) : j < ls.length := by
  cases h with
  | refl => exact hi
  | step _ hk _ => exact hk
theorem Reach.symm {ls : List (List Int)} {i j : Nat} (h : Reach ls i j) (hi : i < ls.length) : Reach ls j i := by
  induction h with
  | refl => exact .refl _
  | step h1 hk ha ih => exact (Reach.step (.refl _) (h1.lt hi) ha.symm).trans ih
def Cell (ls : List (List Int)) (i : Nat) (x : Int) : Prop := ∃ j, Reach ls i j ∧ x ∈ el ls j
noncomputable def comp (ls : List (List Int)) (i : Nat) : List Nat := (List.range ls.length).filter (fun j => decide (Reach ls i j))
def Fits (ls : List (List Int)) : Prop := ∀ i, i < ls.length → ∀ V : List Int, V.Nodup → (∀ x, x ∈ V ↔ Cell ls i x) → (comp ls i).length ≤ V.length
def Own (ls : List (List Int)) (m : Nat) (f : Nat → Int) : Prop := (∀ i, i < m → f i ∈ el ls i) ∧ ∀ i j, i < m → j < m → f i = f j → i = j
def Pairs (ls : List (List Int)) : Prop := ∀ i, i < ls.length → ∃ a b, el ls i = [a, b]

theorem countP_lt {α : Type} {p q : α → Bool} : ∀ {l : List α}, (∀ x ∈ l, p x = true → q x = true) → (∃ x ∈ l, q x = true ∧ p x = false) → l.countP p + 1 ≤ l.countP q
  | [], _, h => by obtain ⟨x, hx, _⟩ := h; simp at hx
  | y :: l, hm, h => by
    have hle : l.countP p ≤ l.countP q := List.countP_mono_left (fun x hx => hm x (by simp [hx]))
    rw [List.countP_cons, List.countP_cons]
    obtain ⟨x, hx, h1, h2⟩ := h
    rcases List.mem_cons.1 hx with rfl | hx
    · simp [h1, h2]; omega
    · have ih := countP_lt (fun x hx => hm x (by simp [hx])) ⟨x, hx, h1, h2⟩
      have hy := hm y (by simp)
      by_cases c : p y = true
      · simp [c, hy c]; omega
      · simp [c]; omega
noncomputable def cnt (n : Nat) (o : Nat → Int) (v : Int) : Nat := (List.range n).countP (fun i => decide (o i = v))
theorem countP_update {n : Nat} (p q : Nat → Bool) {d : Nat} (h : ∀ i, i ≠ d → p i = q i) (hd : d < n) : (List.range n).countP p + (if q d then 1 else 0) = (List.range n).countP q + (if p d then 1 else 0) := by
  induction n with
  | zero => omega
  | succ n ih =>
    rw [List.range_succ, List.countP_append, List.countP_append, List.countP_singleton, List.countP_singleton]
    by_cases c : d = n
    · subst c
      have e : (List.range d).countP p = (List.range d).countP q := List.countP_congr (fun i hi => by
        rw [List.mem_range] at hi
        rw [h i (by omega)])
      rw [e]; omega
    · have := ih (by omega)
      rw [h n (fun e => c e.symm)]
      omega
theorem cnt_le_one {n : Nat} {o : Nat → Int} (h : ∀ v, cnt n o v ≤ 1) : ∀ i j, i < n → j < n → o i = o j → i = j := by
  intro i j hi hj e
  by_cases c : i = j
  · exact c
  exfalso
  have h2 := countP_update (n := n) (fun q => decide (o q = o i)) (fun q => decide (o q = o i ∧ q ≠ i)) (d := i) (fun q hq => by simp [hq]) hi
  have h3 : 0 < (List.range n).countP (fun q => decide (o q = o i ∧ q ≠ i)) := List.countP_pos_iff.2 ⟨j, List.mem_range.2 hj, by simp [e]; exact fun e' => c e'.symm⟩
  have h4 := h (o i)
  unfold cnt at h4
  rw [show decide (o i = o i) = true from by simp, show decide (o i = o i ∧ i ≠ i) = false from by simp] at h2
  simp only [if_true, Bool.false_eq_true, if_false] at h2
  omega
theorem cnt_inj {n : Nat} {o : Nat → Int} (h : ∀ i j, i < n → j < n → o i = o j → i = j) (v : Int) : cnt n o v ≤ 1 := by
  induction n with
  | zero => simp [cnt]
  | succ n ih =>
    have hi := ih (fun i j hi hj => h i j (by omega) (by omega))
    unfold cnt at *
    rw [List.range_succ, List.countP_append, List.countP_singleton]
    by_cases c : o n = v
    · have : (List.range n).countP (fun i => decide (o i = v)) = 0 := by
        rw [List.countP_eq_zero]
        intro i hi' e
        rw [List.mem_range] at hi'
        have e2 := of_decide_eq_true e
        have := h i n (by omega) (by omega) (e2.trans c.symm)
        omega
      rw [this]; split <;> omega
    · simp [c]; exact hi
theorem sum_cnt {n : Nat} {o : Nat → Int} : ∀ {R : List Int}, R.Nodup → (R.map (cnt n o)).sum = (List.range n).countP (fun i => decide (o i ∈ R))
  | [], _ => by simp
  | v :: R, h => by
    rw [List.nodup_cons] at h
    rw [List.map_cons, List.sum_cons, sum_cnt h.2]
    unfold cnt
    generalize List.range n = l
    induction l with
    | nil => simp
    | cons i l ih =>
      simp only [List.countP_cons]
      by_cases c : o i = v
      · have : ¬ o i ∈ R := fun e => h.1 (c ▸ e)
        simp [c] at this ⊢
        simp [this]
        simp at ih
        omega
      · by_cases c2 : o i ∈ R <;> simp [c, c2] <;> simp at ih <;> omega
theorem sum_ge {g : Int → Nat} {u : Int} : ∀ {R : List Int}, R.Nodup → u ∈ R → g u = 2 → (∀ v ∈ R, 1 ≤ g v) → R.length + 1 ≤ (R.map g).sum
  | [], _, h, _, _ => by simp at h
  | v :: R, hn, h, h2, h1 => by
    rw [List.nodup_cons] at hn
    have base : ∀ R : List Int, (∀ v ∈ R, 1 ≤ g v) → R.length ≤ (R.map g).sum := fun R => by
      induction R with
      | nil => simp
      | cons v R ih =>
        intro h
        have := ih (fun v hv => h v (by simp [hv]))
        have := h v (by simp)
        simp; omega
    rcases List.mem_cons.1 h with rfl | h
    · have := base R (fun v hv => h1 v (by simp [hv]))
      simp; omega
    · have := sum_ge hn.2 h h2 (fun v hv => h1 v (by simp [hv]))
      have := h1 v (by simp)
      simp; omega

section
variable {ls : List (List Int)} {n : Nat}
def Twice (ls : List (List Int)) (n : Nat) (o : Nat → Int) (u : Int) : Prop := (∀ i, i < n → o i ∈ el ls i) ∧ cnt n o u = 2 ∧ ∀ v, v ≠ u → cnt n o v ≤ 1
def Path (ls : List (List Int)) (n : Nat) (o : Nat → Int) : Nat → Int → Int → Prop
  | 0, v, w => w = v
  | k + 1, v, w => ∃ d v', d < n ∧ o d = v ∧ v' ∈ el ls d ∧ Path ls n o k v' w
theorem Path.snoc {o : Nat → Int} : ∀ {k : Nat} {v w : Int}, Path ls n o k v w → ∀ {d : Nat} {x : Int}, d < n → o d = w → x ∈ el ls d → Path ls n o (k + 1) v x
  | 0, _, _, h, d, x, hd, ho, hx => ⟨d, x, hd, ho.trans h, hx, rfl⟩
  | _ + 1, _, _, ⟨e, v', he, ho', hv, hp⟩, _, _, hd, ho, hx => ⟨e, v', he, ho', hv, hp.snoc hd ho hx⟩
theorem path_other {o o' : Nat → Int} {d : Nat} {u : Int} (hd : o d = u) (ho : ∀ i, i ≠ d → o' i = o i) : ∀ (k : Nat) (x w : Int), Path ls n o k x w → Path ls n o' k x w ∨ ∃ j, j ≤ k ∧ Path ls n o j u w
  | 0, x, w, h => .inl h
  | k + 1, x, w, ⟨e, v', he, ho', hv, hp⟩ => by
    by_cases c : e = d
    · subst c
      have : x = u := ho'.symm.trans hd
      subst this
      exact .inr ⟨k + 1, Nat.le_refl _, e, v', he, ho', hv, hp⟩
    · rcases path_other hd ho k v' w hp with h | ⟨j, hj, h⟩
      · exact .inl ⟨e, v', he, (ho e c).trans ho', hv, h⟩
      · exact .inr ⟨j, by omega, h⟩
theorem cnt_switch {o : Nat → Int} {d : Nat} {v' : Int} (hd : d < n) (hne : v' ≠ o d) (w : Int) :
    cnt n (fun i => if i = d then v' else o i) w = if w = o d then cnt n o w - 1 else if w = v' then cnt n o w + 1 else cnt n o w := by
  have h := countP_update (n := n) (fun i => decide ((if i = d then v' else o i) = w)) (fun i => decide (o i = w)) (d := d) (fun i hi => by simp [hi]) hd
  unfold cnt
  show (List.range n).countP (fun i => decide ((if i = d then v' else o i) = w)) = _
  simp only [if_true, decide_eq_true_eq] at h
  by_cases c : w = o d
  · subst c
    rw [if_pos rfl] at h ⊢
    rw [if_neg hne] at h
    omega
  · rw [if_neg c]
    rw [if_neg (fun e => c e.symm)] at h
    by_cases c2 : w = v'
    · subst c2
      rw [if_pos rfl] at h ⊢
      omega
    · rw [if_neg c2]
      rw [if_neg (fun e => c2 e.symm)] at h
      omega
theorem Twice.switch {o : Nat → Int} {u : Int} (h : Twice ls n o u) (hno : ¬ ∃ f, Own ls n f) {d : Nat} {v' : Int} (hd : d < n) (ho : o d = u) (hv : v' ∈ el ls d) (hne : v' ≠ u) :
    cnt n o v' = 1 ∧ Twice ls n (fun i => if i = d then v' else o i) v' := by
  obtain ⟨h1, h2, h3⟩ := h
  subst ho
  have hc := cnt_switch (n := n) (o := o) hd hne
  have hin : ∀ i, i < n → (if i = d then v' else o i) ∈ el ls i := fun i hi => by
    by_cases c : i = d
    · subst c; simpa using hv
    · simpa [c] using h1 i hi
  have hle := h3 v' hne
  have h0 : cnt n o v' ≠ 0 := fun h0 => hno ⟨fun i => if i = d then v' else o i, hin, cnt_le_one (fun w => by
    rw [hc]
    split
    · rename_i e; rw [e, h2]; omega
    · split
      · rename_i e; rw [e, h0]; omega
      · rename_i e _; exact h3 w e)⟩
  have h11 : cnt n o v' = 1 := by omega
  refine ⟨h11, hin, ?_, fun w hw => ?_⟩
  · rw [hc, if_neg hne, if_pos rfl, h11]
  · rw [hc]
    by_cases e : w = o d
    · rw [if_pos e, e, h2]; omega
    · rw [if_neg e, if_neg hw]
      exact h3 w e
theorem Twice.full (hno : ¬ ∃ f, Own ls n f) : ∀ (k : Nat) (o : Nat → Int) (u : Int), Twice ls n o u → ∀ w, Path ls n o k u w → 1 ≤ cnt n o w := by
  intro k
  induction k using Nat.strongRecOn with
  | ind k ih =>
    intro o u h w hp
    cases k with
    | zero =>
      have hw : w = u := hp
      have := h.2.1
      rw [hw]; omega
    | succ k =>
      obtain ⟨d, v', hd, ho, hv, hp⟩ := hp
      by_cases c : v' = u
      · subst c
        exact ih k (by omega) o v' h w hp
      · obtain ⟨h1, h'⟩ := h.switch hno hd ho hv c
        rcases path_other (o' := fun i => if i = d then v' else o i) ho (fun i hi => by simp [hi]) k v' w hp with q | ⟨j, hj, q⟩
        · have := ih k (by omega) _ v' h' w q
          have hc := cnt_switch (n := n) (o := o) (v' := v') hd (by rw [ho]; exact c) w
          rw [ho] at hc
          by_cases e1 : w = u
          · have := h.2.1
            rw [e1]; omega
          · by_cases e2 : w = v'
            · rw [e2]; omega
            · rw [if_neg e1, if_neg e2] at hc
              omega
        · exact ih j (by omega) o u h w q
end

section
variable {ls : List (List Int)}
noncomputable def within (ls : List (List Int)) (S : List Int) : Nat := (List.range ls.length).countP (fun i => decide (∀ x ∈ el ls i, x ∈ S))
def Closed (ls : List (List Int)) (S : List Int) : Prop := ∀ i, i < ls.length → ∀ x ∈ el ls i, x ∈ S → ∀ y ∈ el ls i, y ∈ S
theorem nodup_le : ∀ {S V : List Int}, S.Nodup → (∀ x ∈ S, x ∈ V) → S.length ≤ V.length
  | [], _, _, _ => by simp
  | x :: S, V, hn, h => by
    rw [List.nodup_cons] at hn
    have hx := h x (by simp)
    have := nodup_le (S := S) (V := V.erase x) hn.2 (fun y hy => (List.mem_erase_of_ne (fun e => hn.1 (by rw [← e]; exact hy))).2 (h y (by simp [hy])))
    rw [List.length_erase_of_mem hx] at this
    have := List.length_pos_of_mem hx
    simp; omega
theorem grow (hp : Pairs ls) {m : Nat} {V : List Int} (hV : ∀ x, Cell ls m x → x ∈ V) : ∀ (d : Nat) (S : List Int), V.length - S.length ≤ d → S.Nodup → (∀ x ∈ S, Cell ls m x) → S.length + 1 ≤ within ls S →
    ∃ S', S'.Nodup ∧ (∀ x ∈ S, x ∈ S') ∧ (∀ x ∈ S', Cell ls m x) ∧ S'.length + 1 ≤ within ls S' ∧ Closed ls S' := by
  intro d
  induction d with
  | zero =>
    intro S hd hn hc hw
    refine ⟨S, hn, fun x h => h, hc, hw, ?_⟩
    intro i hi x hx hxS y hy
    apply Classical.byContradiction
    intro hyS
    have hcy : Cell ls m y := by
      obtain ⟨j, hj, hxj⟩ := hc x hxS
      exact ⟨i, .step hj hi ⟨x, hxj, hx⟩, hy⟩
    have h1 := nodup_le (S := y :: S) (V := V) (List.nodup_cons.2 ⟨hyS, hn⟩) (fun z hz => by
      rcases List.mem_cons.1 hz with rfl | hz
      · exact hV _ hcy
      · exact hV _ (hc z hz))
    simp at h1
    omega
  | succ d ih =>
    intro S hd hn hc hw
    by_cases hcl : Closed ls S
    · exact ⟨S, hn, fun x h => h, hc, hw, hcl⟩
    · unfold Closed at hcl
      simp only [Classical.not_forall] at hcl
      obtain ⟨i, hi, x, hx, hxS, y, hy, hyS⟩ := hcl
      have hcy : Cell ls m y := by
        obtain ⟨j, hj, hxj⟩ := hc x hxS
        exact ⟨i, .step hj hi ⟨x, hxj, hx⟩, hy⟩
      have hn' : (y :: S).Nodup := List.nodup_cons.2 ⟨hyS, hn⟩
      have hc' : ∀ z ∈ y :: S, Cell ls m z := fun z hz => by
        rcases List.mem_cons.1 hz with rfl | hz
        · exact hcy
        · exact hc z hz
      have hlen := nodup_le hn' (fun z hz => hV z (hc' z hz))
      have hgrow : within ls S + 1 ≤ within ls (y :: S) := by
        refine countP_lt (fun j _ h => ?_) ⟨i, List.mem_range.2 hi, ?_, ?_⟩
        · exact decide_eq_true (fun z hz => List.mem_cons_of_mem _ (of_decide_eq_true h z hz))
        · refine decide_eq_true (fun z hz => ?_)
          obtain ⟨a, b, e⟩ := hp i hi
          rw [e] at hx hy hz
          simp only [List.mem_cons, List.not_mem_nil, or_false] at hx hy hz
          have hxy : x ≠ y := fun e => hyS (e ▸ hxS)
          have : z = y ∨ z = x := by
            rcases hx with rfl | rfl <;> rcases hy with rfl | rfl <;> rcases hz with rfl | rfl <;> simp_all
          rcases this with rfl | rfl
          · exact List.mem_cons_self
          · exact List.mem_cons_of_mem _ hxS
        · exact decide_eq_false (fun h => hyS (h y hy))
      simp at hlen
      obtain ⟨S', a, b, c, d', e⟩ := ih (y :: S) (by simp; omega) hn' hc' (by simp; omega)
      exact ⟨S', a, fun z hz => b z (by simp [hz]), c, d', e⟩
theorem exists_nodup (p : Int → Prop) : ∀ L : List Int, ∃ V : List Int, V.Nodup ∧ ∀ x, x ∈ V ↔ x ∈ L ∧ p x
  | [] => ⟨[], by simp, by simp⟩
  | y :: L => by
    obtain ⟨V, h1, h2⟩ := exists_nodup p L
    by_cases c : p y ∧ ¬ y ∈ V
    · refine ⟨y :: V, List.nodup_cons.2 ⟨c.2, h1⟩, fun x => ?_⟩
      rw [List.mem_cons, List.mem_cons, h2]
      constructor
      · rintro (rfl | ⟨h, h'⟩)
        · exact ⟨.inl rfl, c.1⟩
        · exact ⟨.inr h, h'⟩
      · rintro ⟨rfl | h, h'⟩
        · exact .inl rfl
        · exact .inr ⟨h, h'⟩
    · refine ⟨V, h1, fun x => ?_⟩
      rw [List.mem_cons, h2]
      constructor
      · rintro ⟨h, h'⟩
        exact ⟨.inr h, h'⟩
      · rintro ⟨rfl | h, h'⟩
        · apply Classical.byContradiction
          intro hn
          exact c ⟨h', fun e => hn ((h2 _).1 e)⟩
        · exact ⟨h, h'⟩
theorem mem_el_flat {i : Nat} {x : Int} (h : x ∈ el ls i) : x ∈ ls.flatten := by
  unfold el at h
  rw [List.getD_eq_getElem?_getD] at h
  by_cases c : i < ls.length
  · rw [List.getElem?_eq_getElem c] at h
    exact List.mem_flatten.2 ⟨_, List.getElem_mem c, h⟩
  · rw [List.getElem?_eq_none (by omega)] at h
    simp at h
theorem own_step (hp : Pairs ls) (hF : Fits ls) {m : Nat} (hm : m < ls.length) {f : Nat → Int} (hf : Own ls m f) : ∃ f', Own ls (m + 1) f' := by
  apply Classical.byContradiction
  intro hno
  obtain ⟨a, b, hab⟩ := hp m hm
  have ha : a ∈ el ls m := by rw [hab]; simp
  have hin : ∀ i, i < m + 1 → (if i = m then a else f i) ∈ el ls i := fun i hi => by
    by_cases c : i = m
    · subst c; simpa using ha
    · simpa [c] using hf.1 i (by omega)
  have hcnt : ∀ v, cnt (m + 1) (fun i => if i = m then a else f i) v = cnt m f v + if a = v then 1 else 0 := fun v => by
    unfold cnt
    rw [List.range_succ, List.countP_append, List.countP_singleton]
    congr 1
    · exact List.countP_congr (fun i hi => by
        rw [List.mem_range] at hi
        simp [show i ≠ m by omega])
    · simp
  have hle := cnt_inj hf.2
  have h2 : cnt (m + 1) (fun i => if i = m then a else f i) a = 2 := by
    have hla := hle a
    have hne : cnt m f a ≠ 0 := fun h0 => hno ⟨_, hin, cnt_le_one (fun v => by
      rw [hcnt]
      by_cases c : a = v
      · subst c; simp [h0]
      · have := hle v; simp [c]; exact this)⟩
    rw [hcnt, if_pos rfl]; omega
  have hT : Twice ls (m + 1) (fun i => if i = m then a else f i) a := ⟨hin, h2, fun v hv => by
    rw [hcnt, if_neg (fun e => hv e.symm)]
    exact hle v⟩
  generalize (fun i => if i = m then a else f i) = o at hT h2 hin hcnt
  have hfull := fun k => Twice.full hno k o a hT
  obtain ⟨R, hRn, hR⟩ := exists_nodup (fun w => ∃ k, Path ls (m + 1) o k a w) ls.flatten
  have hRa : a ∈ R := (hR a).2 ⟨mem_el_flat ha, 0, rfl⟩
  have hRc : ∀ d, d < m + 1 → o d ∈ R → ∀ x ∈ el ls d, x ∈ R := fun d hd ho x hx => by
    obtain ⟨_, k, hk⟩ := (hR _).1 ho
    exact (hR x).2 ⟨mem_el_flat hx, k + 1, hk.snoc hd rfl hx⟩
  have hcell : ∀ (k : Nat) (v w : Int), Cell ls m v → Path ls (m + 1) o k v w → Cell ls m w := by
    intro k
    induction k with
    | zero =>
      intro v w hv hp
      have : w = v := hp
      rw [this]; exact hv
    | succ k ih =>
      rintro v w ⟨j, hj, hvj⟩ ⟨d, v', hd, ho, hv', hp⟩
      exact ih v' w ⟨d, .step hj (by omega) ⟨v, hvj, by have := hT.1 d hd; rw [ho] at this; exact this⟩, hv'⟩ hp
  have hsum := sum_ge (g := cnt (m + 1) o) hRn hRa h2 (fun v hv => by
    obtain ⟨_, k, hk⟩ := (hR v).1 hv
    exact hfull k v hk)
  rw [sum_cnt hRn] at hsum
  have hw : R.length + 1 ≤ within ls R := by
    refine Nat.le_trans hsum ?_
    unfold within
    have hsplit : List.range ls.length = List.range (m + 1) ++ (List.range' (m + 1) (ls.length - (m + 1))) := by
      have := List.range'_append_1 (s := 0) (m := m + 1) (n := ls.length - (m + 1))
      rw [Nat.zero_add, show m + 1 + (ls.length - (m + 1)) = ls.length from by omega] at this
      rw [List.range_eq_range', List.range_eq_range', this]
    rw [hsplit, List.countP_append]
    refine Nat.le_trans (List.countP_mono_left (fun i hi h => ?_)) (Nat.le_add_right _ _)
    exact decide_eq_true (hRc i (List.mem_range.1 hi) (of_decide_eq_true h))
  obtain ⟨S, hSn, hRS, hSc, hSw, hScl⟩ := grow hp (m := m) (V := ls.flatten) (fun x hx => by
    obtain ⟨j, _, h⟩ := hx
    exact mem_el_flat h) (ls.flatten.length) R (by omega) hRn (fun x hx => by
      obtain ⟨_, k, hk⟩ := (hR x).1 hx
      exact hcell k a x ⟨m, .refl _, ha⟩ hk) hw
  have hall : ∀ j, Reach ls m j → ∀ x ∈ el ls j, x ∈ S := by
    intro j hj
    induction hj with
    | refl => exact hScl m hm a ha (hRS a hRa)
    | step _ hk hadj ih =>
      obtain ⟨x, h1, h2⟩ := hadj
      exact hScl _ hk x h2 (ih x h1)
  have hfit := hF m hm S hSn (fun x => ⟨hSc x, fun ⟨j, hj, hx⟩ => hall j hj x hx⟩)
  have hle2 : within ls S ≤ (comp ls m).length := by
    unfold within comp
    rw [← List.countP_eq_length_filter]
    refine List.countP_mono_left (fun i hi h => decide_eq_true ?_)
    rw [List.mem_range] at hi
    obtain ⟨a', b', e⟩ := hp i hi
    have ha' : a' ∈ el ls i := by rw [e]; simp
    obtain ⟨j, hj, hx⟩ := hSc a' (of_decide_eq_true h a' ha')
    exact .step hj hi ⟨a', hx, ha'⟩
  omega
theorem own_of_fits (hp : Pairs ls) (hF : Fits ls) : ∃ f, Own ls ls.length f := by
  have : ∀ m, m ≤ ls.length → ∃ f, Own ls m f := by
    intro m
    induction m with
    | zero => exact fun _ => ⟨fun _ => 0, fun i hi => by omega, fun i j hi => by omega⟩
    | succ m ih =>
      intro h
      obtain ⟨f, hf⟩ := ih (by omega)
      exact own_step hp hF (by omega) hf
  exact this _ (Nat.le_refl _)
theorem own_count {f : Nat → Int} (hf : Own ls ls.length f) {is : List Nat} (hn : is.Nodup) (hi : ∀ i ∈ is, i < ls.length) {V : List Int} (hV : ∀ i ∈ is, ∀ x ∈ el ls i, x ∈ V) : is.length ≤ V.length := by
  have h1 : (is.map f).Nodup := by
    rw [List.Nodup, List.pairwise_map]
    exact List.Pairwise.imp_of_mem (fun {i j} hi' hj' hne e => hne (hf.2 i j (hi i hi') (hi j hj') e)) hn
  have := nodup_le h1 (V := V) (fun x hx => by
    obtain ⟨i, h, rfl⟩ := List.mem_map.1 hx
    exact hV i h _ (hf.1 i (hi i h)))
  simpa using this
theorem fits_of_own {f : Nat → Int} (hf : Own ls ls.length f) : Fits ls := fun i hi V hn hV => by
  refine own_count hf (List.nodup_range.filter _) (fun j hj => List.mem_range.1 (List.mem_filter.1 hj).1) (fun j hj x hx => (hV x).2 ⟨j, of_decide_eq_true (List.mem_filter.1 hj).2, hx⟩)
end
end Go.Proofs.YtephjmmkggcmeaaQ.CK
namespace Go.Proofs.YtephjmmkggcmeaaQ.CK
open Classical
section
variable {ls : List (List Int)}
noncomputable def heads (ls : List (List Int)) : List Nat := (List.range ls.length).filter (fun i => decide (∀ j, Reach ls i j → i ≤ j))
noncomputable def groupsC (ls : List (List Int)) : List (List Nat) := (heads ls).map (comp ls)
theorem mem_comp {i j : Nat} : j ∈ comp ls i ↔ j < ls.length ∧ Reach ls i j := by
  unfold comp
  rw [List.mem_filter, List.mem_range, decide_eq_true_eq]
theorem mem_heads {i : Nat} : i ∈ heads ls ↔ i < ls.length ∧ ∀ j, Reach ls i j → i ≤ j := by
  unfold heads
  rw [List.mem_filter, List.mem_range, decide_eq_true_eq]
theorem comp_eq {i j : Nat} (hi : i < ls.length) (h : Reach ls i j) : comp ls i = comp ls j := by
  unfold comp
  apply List.filter_congr
  intro k _
  rw [decide_eq_decide]
  exact ⟨fun h' => (h.symm hi).trans h', fun h' => h.trans h'⟩
theorem comp_nodup (i : Nat) : (comp ls i).Nodup := List.nodup_range.filter _
theorem comp_self {i : Nat} (hi : i < ls.length) : i ∈ comp ls i := mem_comp.2 ⟨hi, .refl _⟩
theorem head_of : ∀ (n j : Nat), j ≤ n → j < ls.length → ∃ i, i ∈ heads ls ∧ Reach ls i j := by
  intro n
  induction n with
  | zero =>
    intro j hj hl
    exact ⟨j, mem_heads.2 ⟨hl, fun k _ => by omega⟩, .refl _⟩
  | succ n ih =>
    intro j hj hl
    by_cases c : ∀ k, Reach ls j k → j ≤ k
    · exact ⟨j, mem_heads.2 ⟨hl, c⟩, .refl _⟩
    · simp only [Classical.not_forall] at c
      obtain ⟨k, hk, hlt⟩ := c
      obtain ⟨i, h1, h2⟩ := ih k (by omega) (hk.lt hl)
      exact ⟨i, h1, h2.trans (hk.symm hl)⟩
theorem head_uniq {i i' j : Nat} (h : i ∈ heads ls) (h' : i' ∈ heads ls) (hj : Reach ls i j) (hj' : Reach ls i' j) : i = i' := by
  obtain ⟨a1, a2⟩ := mem_heads.1 h
  obtain ⟨b1, b2⟩ := mem_heads.1 h'
  have := a2 i' (hj.trans (hj'.symm b1))
  have := b2 i (hj'.trans (hj.symm a1))
  omega
theorem heads_nodup : (heads ls).Nodup := List.nodup_range.filter _
theorem flat_mem {j : Nat} : j ∈ (groupsC ls).flatten ↔ j < ls.length := by
  rw [List.mem_flatten]
  constructor
  · rintro ⟨g, hg, hj⟩
    obtain ⟨i, _, rfl⟩ := List.mem_map.1 hg
    exact (mem_comp.1 hj).1
  · intro hj
    obtain ⟨i, h1, h2⟩ := head_of j j (Nat.le_refl _) hj
    exact ⟨comp ls i, List.mem_map.2 ⟨i, h1, rfl⟩, mem_comp.2 ⟨hj, h2⟩⟩
theorem flat_nodup : (groupsC ls).flatten.Nodup := by
  unfold List.Nodup
  rw [List.pairwise_flatten]
  refine ⟨fun g hg => ?_, ?_⟩
  · obtain ⟨i, _, rfl⟩ := List.mem_map.1 hg
    exact comp_nodup i
  · unfold groupsC
    rw [List.pairwise_map]
    refine List.Pairwise.imp_of_mem (fun {i i'} hi hi' hne x hx y hy e => ?_) heads_nodup
    subst e
    exact hne (head_uniq hi hi' (mem_comp.1 hx).2 (mem_comp.1 hy).2)
theorem nodup_leN : ∀ {S V : List Nat}, S.Nodup → (∀ x ∈ S, x ∈ V) → S.length ≤ V.length
  | [], _, _, _ => by simp
  | x :: S, V, hn, h => by
    rw [List.nodup_cons] at hn
    have hx := h x (by simp)
    have := nodup_leN (S := S) (V := V.erase x) hn.2 (fun y hy => (List.mem_erase_of_ne (fun e => hn.1 (by rw [← e]; exact hy))).2 (h y (by simp [hy])))
    rw [List.length_erase_of_mem hx] at this
    have := List.length_pos_of_mem hx
    simp; omega
theorem flat_len : (groupsC ls).flatten.length = ls.length := by
  have h1 := nodup_leN (flat_nodup (ls := ls)) (V := List.range ls.length) (fun x hx => List.mem_range.2 (flat_mem.1 hx))
  have h2 := nodup_leN (List.nodup_range (n := ls.length)) (V := (groupsC ls).flatten) (fun x hx => flat_mem.2 (List.mem_range.1 hx))
  rw [List.length_range] at h1 h2
  omega
theorem sum_len : ((groupsC ls).map List.length).sum = ls.length := by rw [← List.length_flatten, flat_len]
theorem heads_len : (groupsC ls).length ≤ ls.length := by
  unfold groupsC heads
  rw [List.length_map]
  exact Nat.le_trans (List.length_filter_le _ _) (by rw [List.length_range]; exact Nat.le_refl _)

structure Found (ls : List (List Int)) (i : Nat) (F : Nat → Prop) (todo : List Nat) : Prop where
  here : F i
  sound : ∀ j, F j → Reach ls i j ∧ j < ls.length
  sub : ∀ j ∈ todo, F j
  shut : ∀ j k, F j → j ∉ todo → k < ls.length → Adj ls j k → F k
theorem Found.all {i : Nat} {F : Nat → Prop} (h : Found ls i F []) : ∀ j, F j ↔ Reach ls i j := by
  intro j
  refine ⟨fun hj => (h.sound j hj).1, fun hj => ?_⟩
  induction hj with
  | refl => exact h.here
  | step h1 hk ha ih => exact h.shut _ _ ih (by simp) hk ha
end
end Go.Proofs.YtephjmmkggcmeaaQ.CK
namespace Go.Proofs.YtephjmmkggcmeaaQ.CK
open Classical

def shareB (a b : List Int) : Bool := a.any (fun n => b.contains n)
def scan (ls : List (List Int)) (p : List Int) (k : Int) : Nat → Nat → List Int → List Nat → List Int × List Nat
  | 0, _, o, t => (o, t)
  | m + 1, j, o, t => if (decide (o.getD j 0 < 0) && shareB (el ls j) p) = true then scan ls p k m (j + 1) (o.set j k) (t ++ [j]) else scan ls p k m (j + 1) o t
def bfs (ls : List (List Int)) (k : Int) : Nat → List Int → List Nat → List Int
  | 0, o, _ => o
  | _ + 1, o, [] => o
  | f + 1, o, i :: t => bfs ls k f (scan ls (el ls i) k ls.length 0 o (i :: t)).1 (scan ls (el ls i) k ls.length 0 o (i :: t)).2.tail
def outer (ls : List (List Int)) : Nat → Nat → List Int → Nat → List Int × Nat
  | 0, _, o, c => (o, c)
  | m + 1, i, o, c => if 0 ≤ o.getD i 0 then outer ls m (i + 1) o c else outer ls m (i + 1) (bfs ls (c : Int) (ls.length + 1) (o.set i (c : Int)) [i]) (c + 1)
def groupsG (ls : List (List Int)) : List (List Nat) :=
  (List.range (outer ls ls.length 0 (List.replicate ls.length (-1)) 0).2).map (fun (k : Nat) => (List.range ls.length).filter (fun i => decide ((outer ls ls.length 0 (List.replicate ls.length (-1)) 0).1.getD i 0 = (k : Int))))

section
variable {ls : List (List Int)}
theorem getD_set {o : List Int} {j i : Nat} {v : Int} (h : j < o.length) : (o.set j v).getD i 0 = if j = i then v else o.getD i 0 := by
  rw [List.getD_eq_getElem?_getD]
  by_cases c : j = i
  · subst c
    rw [List.getElem?_set_self (by simpa using h), if_pos rfl]
    rfl
  · rw [List.getElem?_set_ne c, if_neg c, ← List.getD_eq_getElem?_getD]
structure Bfs (ls : List (List Int)) (k : Int) (i : Nat) (o0 o : List Int) (t : List Nat) : Prop where
  len : o.length = ls.length
  rest : ∀ q, o.getD q 0 ≠ k → o.getD q 0 = o0.getD q 0
  found : Found ls i (fun q => q < ls.length ∧ o.getD q 0 = k) t
  nodup : t.Nodup
def freeN (o : List Int) (n : Nat) : Nat := (List.range n).countP (fun q => decide (o.getD q 0 < 0))
structure Outer (ls : List (List Int)) (i : Nat) (o : List Int) (c : Nat) : Prop where
  len : o.length = ls.length
  cnt : c = ((heads ls).filter (fun h => decide (h < i))).length
  told : ∀ (a h : Nat), ((heads ls).filter (fun h => decide (h < i)))[a]? = some h → ∀ q, q < ls.length → (o.getD q 0 = (a : Int) ↔ Reach ls h q)
  free : ∀ q, q < ls.length → (∀ h, h ∈ heads ls → h < i → ¬ Reach ls h q) → o.getD q 0 < 0
end
end Go.Proofs.YtephjmmkggcmeaaQ.CK
namespace Go.Proofs.YtephjmmkggcmeaaQ
open Go Go.RowKit Go.Proofs.YtephjmmkggcmeaaW.PrintWords Go.Proofs.YtephjmmkggcmeaaW.PrintMore Go.Proofs.YtephjmmkggcmeaaGp Go.Proofs.Ytephjmmkggcmeaa.PM
open CK (el)

theorem slices_Index_int_l0 (x0 : List Int) (a : Int) (hl : (x0.length : Int) ≤ 9223372036854775806) : ∀ (t pre : List Int), x0 = pre ++ t →
    ∃ r, Ev (fun k => slices_Index_int_int.l0 k x0 a (x0.length : Int) (pre.length : Int)) r ∧ decide (r ≥ 0) = t.contains a := by
  intro t
  induction t with
  | nil =>
    intro pre h
    refine ⟨-1, ev_succ ?_, by simp⟩
    simp only [slices_Index_int_int.l0]
    exact ev_neg (by rw [h]; exact not_lt_end) (Ev.now _)
  | cons x t ih =>
    intro pre h
    have hm : ((pre.length : Nat) : Int) < (x0.length : Int) := by rw [h]; exact lt_mid
    have hg : rd x0 (pre.length : Int) = x := by rw [h]; exact rd_mid
    by_cases c : a = x
    · refine ⟨(pre.length : Int), ev_succ ?_, by simp [c]⟩
      simp only [slices_Index_int_int.l0, hg]
      exact ev_pos hm (ev_pos (by omega) (ev_pos hm (ev_pos c (Ev.now _))))
    · obtain ⟨r, h1, h2⟩ := ih (pre ++ [x]) (by rw [h]; simp)
      rw [len_one] at h1
      refine ⟨r, ev_succ ?_, by rw [h2]; simp [c]⟩
      simp only [slices_Index_int_int.l0, hg]
      refine ev_pos hm (ev_pos (by omega) (ev_pos hm (ev_neg c ?_)))
      rw [winc (by omega)]
      exact h1
theorem slices_Contains_int_f (l : List Int) (a : Int) (hl : (l.length : Int) ≤ 9223372036854775806) : Ev (fun k => slices_Contains_int_int.f k l a) (l.contains a) := by
  obtain ⟨r, h1, h2⟩ := slices_Index_int_l0 l a hl l [] rfl
  unfold slices_Contains_int_int.f slices_Index_int_int.f
  refine ev_bind _ h1 (ev_some h2)
def zs (l : List Nat) : List Int := l.map fun (n : Nat) => (n : Int)
theorem zs_len (l : List Nat) : (zs l).length = l.length := by simp [zs]
theorem zs_mem {l : List Nat} {n : Nat} : (n : Int) ∈ zs l ↔ n ∈ l := by
  unfold zs
  rw [List.mem_map]
  constructor
  · rintro ⟨a, h, e⟩
    have : a = n := by omega
    exact this ▸ h
  · intro h; exact ⟨n, h, rfl⟩
theorem zs_contains (l : List Nat) (n : Nat) : (zs l).contains (n : Int) = decide (n ∈ l) := by
  rw [Bool.eq_iff_iff, List.contains_iff_mem, zs_mem, decide_eq_true_eq]
theorem zs_get (l : List Nat) {i : Nat} (h : i < l.length) : rd (zs l) (i : Int) = (l[i] : Int) := by
  rw [rd_get (by rw [zs_len]; exact h)]
  simp [zs]
theorem rd_nat (l : List Int) (q : Nat) : rd l (q : Int) = l.getD q 0 := by simp [rd]
theorem rdll_nat (L : List (List Int)) (q : Nat) : rd_L3 L (q : Int) = el L q := by
  unfold rd_L3 el
  rw [Int.toNat_natCast]
theorem el_get {L : List (List Int)} {q : Nat} (h : q < L.length) : el L q = L[q] := by
  unfold el
  rw [List.getD_eq_getElem?_getD, List.getElem?_eq_getElem h]
  rfl
theorem el_len {L : List (List Int)} (hL : ∀ e ∈ L, e.length ≤ 1000) (q : Nat) : (el L q).length ≤ 1000 := by
  unfold el
  rw [List.getD_eq_getElem?_getD]
  cases h : L[q]? with
  | none => simp
  | some x => exact hL x (List.mem_of_getElem? h)
def prs (a n : Int) (l : List ByteArray) : List (List Int) := l.map fun s => [placeV a 0 s n, placeV a 1 s n]
theorem prs_len (a n : Int) (l : List ByteArray) : (prs a n l).length = l.length := by simp [prs]
theorem prs_el {a n : Int} {l : List ByteArray} {i : Nat} (h : i < l.length) : el (prs a n l) i = [placeV a 0 l[i] n, placeV a 1 l[i] n] := by
  rw [el_get (by rw [prs_len]; exact h)]
  simp [prs]
theorem prs_pairs (a n : Int) (l : List ByteArray) : CK.Pairs (prs a n l) := fun i hi => ⟨_, _, prs_el (by rwa [prs_len] at hi)⟩
theorem prs_two {a n : Int} {l : List ByteArray} : ∀ e ∈ prs a n l, e.length ≤ 1000 := by
  intro e he
  obtain ⟨s, _, rfl⟩ := List.mem_map.1 he
  simp
def keyedC (a : Int) (l : List ByteArray) (n : Int) : Bool := decide (0 ≤ a ∧ a ≤ 9999) && areKeysB l && decide (1 ≤ n ∧ n ≤ 64)
theorem keyedC_ok {a n : Int} {l : List ByteArray} (h : keyedC a l n = true) : (0 ≤ a ∧ a ≤ 9999) ∧ areKeysB l = true ∧ 1 ≤ n ∧ n ≤ 64 := by
  unfold keyedC at h
  simp only [Bool.and_eq_true, decide_eq_true_eq] at h
  exact ⟨h.1.1, h.1.2, h.2⟩
theorem keys_small {l : List ByteArray} (h : areKeysB l = true) : l.length ≤ 40 ∧ ∀ s ∈ l, s.size ≤ 1000 :=
  ⟨areKeysB_len h, fun s hs => by have := isKeyB_size (areKeysB_all h s hs); omega⟩
section
variable {a n : Int}
theorem spec_cuKeyed_f (a n : Int) {l : List ByteArray} (hl : l.length ≤ 1000) (hz : ∀ s ∈ l, s.size ≤ 1000) : Ev (fun k => spec_cuKeyed.f k a l n) (keyedC a l n) := by
  have hk := spec_biKeys_f l (by omega) (fun s hs => by have := hz s hs; omega)
  unfold spec_cuKeyed.f spec_cuSize.f keyedC
  simp only [spec_in, Option.bind_some]
  by_cases c : 0 ≤ a ∧ a ≤ 9999
  · rw [decide_eq_true c, Bool.true_and, if_pos rfl]
    simp only [Option.bind_some]
    by_cases d : 1 ≤ n ∧ n ≤ 64
    · rw [decide_eq_true d, Bool.and_true]
      exact ev_pos rfl (ev_bind _ hk (Ev.now _))
    · rw [decide_eq_false d, Bool.and_false]
      exact ev_neg (by simp) (Ev.now _)
  · rw [decide_eq_false c, Bool.false_and, Bool.false_and, if_neg (by simp)]
    simp only [Option.bind_some]
    exact ev_neg (by simp) (Ev.now _)
theorem spec_cuCells_f (ha : 0 ≤ a) (ha' : a ≤ 9999) (s : ByteArray) (hz : s.size ≤ 1000) : Ev (fun k => spec_cuCells.f k a s n) [placeV a 0 s n, placeV a 1 s n] := by
  unfold spec_cuCells.f
  exact ev_bind _ (spec_biPlace_f a 0 s n (by omega) ha (by omega) (by omega) (by omega)) (ev_bind _ (spec_biPlace_f a 1 s n (by omega) ha (by omega) (by omega) (by omega)) (Ev.now _))
theorem impl_cellsOf_f (ha : 0 ≤ a) (ha' : a ≤ 9999) (s : ByteArray) (hz : s.size ≤ 1000) : Ev (fun k => impl_cellsOf.f k a s n) (placeV a 0 s n, placeV a 1 s n) := by
  unfold impl_cellsOf.f
  exact ev_bind _ (impl_place_f a 0 s n (by omega) ha (by omega) (by omega) (by omega)) (ev_bind _ (impl_place_f a 1 s n (by omega) ha (by omega) (by omega) (by omega)) (Ev.now _))
theorem spec_cuPairs_f (ha : 0 ≤ a) (ha' : a ≤ 9999) {l : List ByteArray} (hl : l.length ≤ 1000) (hz : ∀ s ∈ l, s.size ≤ 1000) : Ev (fun k => spec_cuPairs.f k a l n) (prs a n l) := by
  have H : ∀ (t pre : List ByteArray), l = pre ++ t → Ev (fun k => spec_cuPairs.l0 k a n (prs a n pre) l (l.length : Int) (pre.length : Int)) (prs a n l) := by
    intro t
    induction t with
    | nil =>
      intro pre h
      have hp : l = pre := by rw [h, List.append_nil]
      subst hp
      refine ev_succ ?_
      simp only [spec_cuPairs.l0]
      exact ev_neg (by omega) (Ev.now _)
    | cons x t ih =>
      intro pre h
      have hm : ((pre.length : Nat) : Int) < (l.length : Int) := by rw [h]; exact lt_mid
      have hg : rdOf ByteArray.empty l (pre.length : Int) = x := by rw [h]; exact rdOf_mid
      refine ev_succ ?_
      simp only [spec_cuPairs.l0, hg]
      refine ev_pos hm (ev_pos (by omega) (ev_pos hm (ev_bind _ (spec_cuCells_f ha ha' x (hz x (by rw [h]; simp))) (ev_pos (by rw [prs_len]; omega) ?_))))
      rw [winc (by omega)]
      have := ih (pre ++ [x]) (by rw [h]; simp)
      rw [len_one] at this
      unfold prs at this ⊢
      rw [List.map_append, List.map_singleton] at this
      exact this
  unfold spec_cuPairs.f
  exact H l [] rfl
theorem impl_pairs_go (ha : 0 ≤ a) (ha' : a ≤ 9999) {l : List ByteArray} (hl : l.length ≤ 1000) (hz : ∀ s ∈ l, s.size ≤ 1000) : Ev (fun k => impl_pairs.l0 k a n [] l (l.length : Int) 0) (prs a n l, true) := by
  have H : ∀ (t pre : List ByteArray), l = pre ++ t → Ev (fun k => impl_pairs.l0 k a n (prs a n pre) l (l.length : Int) (pre.length : Int)) (prs a n l, true) := by
    intro t
    induction t with
    | nil =>
      intro pre h
      have hp : l = pre := by rw [h, List.append_nil]
      subst hp
      refine ev_succ ?_
      simp only [impl_pairs.l0]
      exact ev_neg (by omega) (Ev.now _)
    | cons x t ih =>
      intro pre h
      have hm : ((pre.length : Nat) : Int) < (l.length : Int) := by rw [h]; exact lt_mid
      have hg : rdOf ByteArray.empty l (pre.length : Int) = x := by rw [h]; exact rdOf_mid
      refine ev_succ ?_
      simp only [impl_pairs.l0, hg]
      refine ev_pos hm (ev_pos (by omega) (ev_pos hm (ev_bind _ (impl_cellsOf_f ha ha' x (hz x (by rw [h]; simp))) (ev_pos (by rw [prs_len]; omega) ?_))))
      rw [winc (by omega)]
      have := ih (pre ++ [x]) (by rw [h]; simp)
      rw [len_one] at this
      unfold prs at this ⊢
      rw [List.map_append, List.map_singleton] at this
      exact this
  exact H l [] rfl
theorem impl_pairs_f (a n : Int) {l : List ByteArray} (hl : l.length ≤ 1000) (hz : ∀ s ∈ l, s.size ≤ 1000) : Ev (fun k => impl_pairs.f k a l n) (if keyedC a l n = true then (prs a n l, true) else ([], false)) := by
  have hk := impl_AreKeys_f l (by omega) (fun s hs => by have := hz s hs; omega)
  have j1 : Ev (fun k => impl_pairs.j0 k a l n true) ([], false) := ev_succ (by simp only [impl_pairs.j0]; exact ev_pos (by trivial) (Ev.now _))
  unfold impl_pairs.f impl_isSeed.f impl_cellsOk.f keyedC
  simp only [impl_in, Option.bind_some]
  by_cases c : 0 ≤ a ∧ a ≤ 9999
  · rw [decide_eq_true c, Bool.true_and]
    refine ev_pos rfl (ev_bind _ hk ?_)
    by_cases e : areKeysB l = true
    · rw [e, Bool.true_and]
      refine ev_pos rfl ?_
      by_cases d : 1 ≤ n ∧ n ≤ 64
      · rw [decide_eq_true d, if_pos rfl]
        refine ev_succ ?_
        simp only [impl_pairs.j0]
        exact ev_neg (by simp) (impl_pairs_go c.1 c.2 hl hz)
      · rw [decide_eq_false d, if_neg (by simp)]
        exact j1
    · rw [Bool.eq_false_iff.2 e, Bool.false_and, if_neg (by simp)]
      exact ev_neg (by simp) j1
  · rw [decide_eq_false c, Bool.false_and, Bool.false_and, if_neg (by simp)]
    exact ev_neg (by simp) j1
end
theorem cells_ok {s : List Int} (hs : Bys s) {p : Int} (sd : Int) (h0 : 0 ≤ p) (h1 : p ≤ 100000000000000000) : ∃ v p' sd', spec_l1Cur_cells.f s p sd = some (v, p', sd') ∧ (-1 ≤ v ∧ v ≤ 65) ∧ 0 ≤ p' ∧ p' ≤ p + 10 := by
  obtain ⟨b, p1, sd1, e1, q0, q1⟩ := one_ok hs sd 10 h0 (by omega)
  unfold spec_l1Cur_cells.f
  rw [e1, Option.bind_some]
  by_cases c : b = true
  · obtain ⟨v, p2, sd2, e2, hv, r0, r1⟩ := among_ok hs sd1 (l := [(-1), 0, 64, 65]) (by simp) q0 (by omega)
    rw [if_pos c, e2]
    refine ⟨v, p2, sd2, rfl, ?_, r0, by omega⟩
    simp only [List.mem_cons, List.not_mem_nil, or_false] at hv
    omega
  · obtain ⟨v, p2, sd2, e2, hv, r0, r1⟩ := among_ok hs sd1 (l := [4, 8, 16, 64]) (by simp) q0 (by omega)
    obtain ⟨u, p3, sd3, e3, hu, s0, s1⟩ := pick_ok hs sd2 (n := v) r0 (by omega)
    rw [if_neg c, e2]
    simp only [Option.bind_some, e3]
    simp only [List.mem_cons, List.not_mem_nil, or_false] at hv
    refine ⟨_, p3, sd3, rfl, ?_, s0, by omega⟩
    rw [w64 (by omega) (by omega)]
    omega
theorem keyed_ok {s : List Int} (hs : Bys s) {p : Int} (sd : Int) (h0 : 0 ≤ p) (h1 : p ≤ 10000000000000000) :
    ∃ a l n p' sd', Ev (fun k => spec_l1Cur_keyed.f k s p sd) (a, l, n, p', sd') ∧ (-1 ≤ a ∧ a ≤ 10000) ∧ Kys 42 l ∧ (-1 ≤ n ∧ n ≤ 65) ∧ 0 ≤ p' ∧ p' ≤ p + 700 := by
  obtain ⟨a, p1, sd1, e1, ha, q0, q1⟩ := seed9_ok hs sd h0 (by omega)
  obtain ⟨v, p2, sd2, e2, hv, r0, r1⟩ := among_ok hs sd1 (l := [3, 5, 8, 12]) (by simp) q0 (by omega)
  simp only [List.mem_cons, List.not_mem_nil, or_false] at hv
  obtain ⟨l, p3, sd3, e3, hk, s0, s1⟩ := anyKeys_ok hs sd2 (n := v.toNat) (by omega) r0 (by omega)
  obtain ⟨n, p4, sd4, e4, hn, t0, t1⟩ := cells_ok hs sd3 s0 (by omega)
  obtain ⟨b, p5, sd5, e5, u0, u1⟩ := one_ok hs sd4 2 t0 (by omega)
  obtain ⟨m, p6, sd6, e6, hm, v0, v1⟩ := pick_ok hs sd5 (n := 4) u0 (by omega)
  rw [Int.toNat_of_nonneg (by omega)] at e3
  unfold spec_l1Cur_keyed.f
  simp only [e1, e2, Option.bind_some]
  by_cases c : b = true
  · refine ⟨a, l, wrap64 ((l.length : Int) + m), p6, sd6, ev_bind _ e3 ?_, ha, hk, ?_, v0, by omega⟩
    · simp only [e4, e5, Option.bind_some]
      refine ev_pos c ?_
      rw [e6]
      exact Ev.now _
    · have := hk.1
      rw [w64 (by omega) (by omega)]
      omega
  · refine ⟨a, l, n, p5, sd5, ev_bind _ e3 ?_, ha, hk, hn, u0, by omega⟩
    simp only [e4, e5, Option.bind_some]
    exact ev_neg c (Ev.now _)
end Go.Proofs.YtephjmmkggcmeaaQ
namespace Go.Proofs.YtephjmmkggcmeaaQ
open Go Go.RowKit Go.Proofs.YtephjmmkggcmeaaW.PrintWords Go.Proofs.YtephjmmkggcmeaaW.PrintMore Go.Proofs.YtephjmmkggcmeaaGp Go.Proofs.Ytephjmmkggcmeaa.PM
open CK (el shareB scan bfs outer groupsG groupsC freeN)

section
variable {L : List (List Int)}
end
end Go.Proofs.YtephjmmkggcmeaaQ
namespace Go.Proofs.YtephjmmkggcmeaaQ.CK
open Classical
section
variable {ls : List (List Int)}
theorem el_set_self {i : Nat} (h : i < ls.length) (p : List Int) : el (ls.set i p) i = p := by
  unfold el
  rw [List.getD_eq_getElem?_getD, List.getElem?_set_self (by simpa using h)]
  rfl
theorem el_set_ne {i j : Nat} (h : i ≠ j) (p : List Int) : el (ls.set i p) j = el ls j := by
  unfold el
  rw [List.getD_eq_getElem?_getD, List.getElem?_set_ne h, ← List.getD_eq_getElem?_getD]
theorem Pairs.set (hp : Pairs ls) (i : Nat) (a b : Int) : Pairs (ls.set i [a, b]) := by
  intro j hj
  rw [List.length_set] at hj
  by_cases c : i = j
  · subst c
    exact ⟨a, b, el_set_self hj _⟩
  · rw [el_set_ne c]
    exact hp j hj
theorem fits_set {f : Nat → Int} (hf : Own ls ls.length f) (i : Nat) : Fits (ls.set i [f i, f i]) := by
  have hO : Own (ls.set i [f i, f i]) (ls.set i [f i, f i]).length f := by
    rw [List.length_set]
    refine ⟨fun j hj => ?_, hf.2⟩
    by_cases c : i = j
    · subst c
      rw [el_set_self hj]; simp
    · rw [el_set_ne c]
      exact hf.1 j hj
  exact fits_of_own hO
theorem fits_step (hp : Pairs ls) (hF : Fits ls) {i : Nat} (hi : i < ls.length) {a b : Int} (e : el ls i = [a, b]) (hn : ¬ Fits (ls.set i [a, a])) : Fits (ls.set i [b, b]) := by
  obtain ⟨f, hf⟩ := own_of_fits hp hF
  have hm := hf.1 i hi
  have hset := fits_set hf i
  rw [e] at hm
  simp only [List.mem_cons, List.not_mem_nil, or_false] at hm
  rcases hm with h | h
  · rw [h] at hset; exact absurd hset hn
  · rw [h] at hset; exact hset
noncomputable def greedy : Nat → Nat → List (List Int) → List Int
  | 0, _, _ => []
  | m + 1, i, ls =>
    let a := (el ls i).getD 0 0
    let b := (el ls i).getD 1 0
    let lo := if a ≤ b then a else b
    let hi := if a ≤ b then b else a
    if Fits (ls.set i [lo, lo]) then lo :: greedy m (i + 1) (ls.set i [lo, lo]) else hi :: greedy m (i + 1) (ls.set i [hi, hi])
theorem greedy_len : ∀ (m i : Nat) (ls : List (List Int)), (greedy m i ls).length = m
  | 0, _, _ => rfl
  | m + 1, i, ls => by
    simp only [greedy]
    have h := greedy_len m (i + 1)
    by_cases c : Fits (ls.set i [if (el ls i).getD 0 0 ≤ (el ls i).getD 1 0 then (el ls i).getD 0 0 else (el ls i).getD 1 0, if (el ls i).getD 0 0 ≤ (el ls i).getD 1 0 then (el ls i).getD 0 0 else (el ls i).getD 1 0])
    · rw [if_pos c, List.length_cons, h]
    · rw [if_neg c, List.length_cons, h]
theorem pair_sorted {p : List Int} {a b : Int} (e : p = [a, b]) : (p.getD 0 0 = a ∧ p.getD 1 0 = b) := by subst e; exact ⟨rfl, rfl⟩
theorem greedy_fits : ∀ (m i : Nat) (ls : List (List Int)), i + m = ls.length → Pairs ls → Fits ls → ∃ ls' : List (List Int), ls'.length = ls.length ∧ Fits ls' ∧ (∀ j, j < i → el ls' j = el ls j) ∧ ∀ j, j < m → el ls' (i + j) = [(greedy m i ls).getD j 0, (greedy m i ls).getD j 0] ∧ (greedy m i ls).getD j 0 ∈ el ls (i + j)
  | 0, i, ls, _, _, hF => ⟨ls, rfl, hF, fun _ _ => rfl, fun j hj => by omega⟩
  | m + 1, i, ls, h, hp, hF => by
    obtain ⟨a, b, e⟩ := hp i (by omega)
    obtain ⟨e1, e2⟩ := pair_sorted e
    have step : ∀ c : Int, c ∈ el ls i → Fits (ls.set i [c, c]) → greedy (m + 1) i ls = c :: greedy m (i + 1) (ls.set i [c, c]) → ∃ ls' : List (List Int), ls'.length = ls.length ∧ Fits ls' ∧ (∀ j, j < i → el ls' j = el ls j) ∧ ∀ j, j < m + 1 → el ls' (i + j) = [(greedy (m + 1) i ls).getD j 0, (greedy (m + 1) i ls).getD j 0] ∧ (greedy (m + 1) i ls).getD j 0 ∈ el ls (i + j) := fun c hc hfc hg => by
      obtain ⟨ls', l1, l2, l3, l4⟩ := greedy_fits m (i + 1) (ls.set i [c, c]) (by rw [List.length_set]; omega) (hp.set i c c) hfc
      rw [List.length_set] at l1
      refine ⟨ls', l1, l2, fun j hj => ?_, fun j hj => ?_⟩
      · rw [l3 j (by omega), el_set_ne (by omega)]
      · rw [hg]
        cases j with
        | zero =>
          rw [Nat.add_zero, l3 i (by omega), el_set_self (by omega)]
          exact ⟨rfl, hc⟩
        | succ j =>
          obtain ⟨q1, q2⟩ := l4 j (by omega)
          rw [show i + 1 + j = i + (j + 1) from by omega] at q1 q2
          rw [el_set_ne (by omega)] at q2
          exact ⟨q1, q2⟩
    have hlo : (if a ≤ b then a else b) ∈ el ls i := by rw [e]; split <;> simp
    have hhi : (if a ≤ b then b else a) ∈ el ls i := by rw [e]; split <;> simp
    by_cases c : Fits (ls.set i [if a ≤ b then a else b, if a ≤ b then a else b])
    · exact step _ hlo c (by simp only [greedy, e1, e2]; rw [if_pos c])
    · refine step _ hhi ?_ (by simp only [greedy, e1, e2]; rw [if_neg c])
      by_cases hab : a ≤ b
      · rw [if_pos hab] at c ⊢
        exact fits_step hp hF (by omega) e c
      · rw [if_neg hab] at c ⊢
        obtain ⟨f, hf⟩ := own_of_fits hp hF
        have hm := hf.1 i (by omega)
        have hset := fits_set hf i
        rw [e] at hm
        simp only [List.mem_cons, List.not_mem_nil, or_false] at hm
        rcases hm with h' | h'
        · rw [h'] at hset; exact hset
        · rw [h'] at hset; exact absurd hset c
theorem greedy_places (hp : Pairs ls) (hF : Fits ls) : (greedy ls.length 0 ls).Nodup ∧ ∀ j, j < ls.length → (greedy ls.length 0 ls).getD j 0 ∈ el ls j := by
  obtain ⟨ls', l1, l2, _, l4⟩ := greedy_fits ls.length 0 ls (by omega) hp hF
  have hp' : Pairs ls' := fun j hj => by
    have := (l4 j (by omega)).1
    rw [Nat.zero_add] at this
    exact ⟨_, _, this⟩
  obtain ⟨f, hf⟩ := own_of_fits hp' l2
  have hfv : ∀ j, j < ls.length → f j = (greedy ls.length 0 ls).getD j 0 := fun j hj => by
    have h1 := hf.1 j (by omega)
    have h2 := (l4 j hj).1
    rw [Nat.zero_add] at h2
    rw [h2] at h1
    simpa using h1
  refine ⟨?_, fun j hj => by have := (l4 j hj).2; rwa [Nat.zero_add] at this⟩
  unfold List.Nodup
  rw [List.pairwise_iff_getElem]
  intro i j hi hj hlt e
  rw [greedy_len] at hi hj
  have := hf.2 i j (by omega) (by omega) (by
    rw [hfv i hi, hfv j hj, List.getD_eq_getElem?_getD, List.getD_eq_getElem?_getD, List.getElem?_eq_getElem (by rw [greedy_len]; exact hi), List.getElem?_eq_getElem (by rw [greedy_len]; exact hj)]
    exact e)
  omega
end
end Go.Proofs.YtephjmmkggcmeaaQ.CK
namespace Go.Proofs.YtephjmmkggcmeaaQ.CK
open Classical

def putN : List Nat → Nat → List Nat
  | [], n => [n]
  | x :: t, n => if x < n then x :: putN t n else if x = n then x :: t else n :: x :: t
theorem mem_putN {l : List Nat} {n x : Nat} : x ∈ putN l n ↔ x ∈ l ∨ x = n := by
  induction l with
  | nil => simp [putN]
  | cons y t ih =>
    rw [putN]
    split
    · rw [List.mem_cons, ih, List.mem_cons]
      constructor
      · rintro (h | h | h)
        · exact .inl (.inl h)
        · exact .inl (.inr h)
        · exact .inr h
      · rintro ((h | h) | h)
        · exact .inl h
        · exact .inr (.inl h)
        · exact .inr (.inr h)
    · split
      · rename_i e
        subst e
        constructor
        · exact .inl
        · rintro (h | h)
          · exact h
          · rw [h]; exact List.mem_cons_self
      · rw [List.mem_cons]
        constructor
        · rintro (h | h)
          · exact .inr h
          · exact .inl h
        · rintro (h | h)
          · exact .inr h
          · exact .inl h
theorem sorted_putN {l : List Nat} (n : Nat) (h : l.Pairwise (· < ·)) : (putN l n).Pairwise (· < ·) := by
  induction l with
  | nil => simp [putN]
  | cons y t ih =>
    rw [List.pairwise_cons] at h
    rw [putN]
    split
    · rename_i c
      rw [List.pairwise_cons]
      refine ⟨fun x hx => ?_, ih h.2⟩
      rcases mem_putN.1 hx with hx | hx
      · exact h.1 x hx
      · omega
    · split
      · rw [List.pairwise_cons]; exact h
      · rename_i c1 c2
        rw [List.pairwise_cons, List.pairwise_cons]
        refine ⟨fun x hx => ?_, h⟩
        rcases List.mem_cons.1 hx with hx | hx
        · omega
        · have := h.1 x hx; omega
theorem putN_len {l : List Nat} {n : Nat} (h : n ∉ l) : (putN l n).length = l.length + 1 := by
  induction l with
  | nil => rfl
  | cons y t ih =>
    rw [List.mem_cons, not_or] at h
    rw [putN]
    split
    · rw [List.length_cons, ih h.2, List.length_cons]
    · rw [if_neg (fun e => h.1 e.symm)]
      rfl
theorem sorted_eq : ∀ {l m : List Nat}, l.Pairwise (· < ·) → m.Pairwise (· < ·) → (∀ x, x ∈ l ↔ x ∈ m) → l = m
  | [], [], _, _, _ => rfl
  | [], y :: m, _, _, h => absurd ((h y).2 List.mem_cons_self) (by simp)
  | x :: l, [], _, _, h => absurd ((h x).1 List.mem_cons_self) (by simp)
  | x :: l, y :: m, hl, hm, h => by
    rw [List.pairwise_cons] at hl hm
    have hxy : x = y := by
      have h1 := (h x).1 List.mem_cons_self
      have h2 := (h y).2 List.mem_cons_self
      rcases List.mem_cons.1 h1 with e | h1
      · exact e
      · rcases List.mem_cons.1 h2 with e | h2
        · exact e.symm
        · have := hl.1 y h2
          have := hm.1 x h1
          omega
    subst hxy
    rw [sorted_eq hl.2 hm.2 (fun z => ?_)]
    constructor
    · intro hz
      rcases List.mem_cons.1 ((h z).1 (List.mem_cons_of_mem _ hz)) with e | h'
      · have := hl.1 z hz; omega
      · exact h'
    · intro hz
      rcases List.mem_cons.1 ((h z).2 (List.mem_cons_of_mem _ hz)) with e | h'
      · have := hm.1 z hz; omega
      · exact h'
section
variable {ls : List (List Int)}
noncomputable def passG (ls : List (List Int)) : Nat → Nat → List Nat → Bool → List Nat × Bool
  | 0, _, o, g => (o, g)
  | m + 1, i, o, g => if i ∉ o ∧ ∃ k ∈ o, Adj ls k i then passG ls m (i + 1) (putN o i) true else passG ls m (i + 1) o g
noncomputable def growG (ls : List (List Int)) : Nat → List Nat → List Nat
  | 0, o => o
  | f + 1, o => if (passG ls ls.length 0 o false).2 = true then growG ls f (passG ls ls.length 0 o false).1 else (passG ls ls.length 0 o false).1
structure Part (ls : List (List Int)) (i : Nat) (o : List Nat) : Prop where
  srt : o.Pairwise (· < ·)
  sub : ∀ j ∈ o, j < ls.length ∧ Reach ls i j
  first : i ∈ o
theorem Part.put {i j : Nat} {o : List Nat} (h : Part ls i o) (hj : j < ls.length) {k : Nat} (hk : k ∈ o) (ha : Adj ls k j) : Part ls i (putN o j) :=
  ⟨sorted_putN j h.srt, fun x hx => by
    rcases mem_putN.1 hx with hx | rfl
    · exact h.sub x hx
    · exact ⟨hj, .step (h.sub k hk).2 hj ha⟩, mem_putN.2 (.inl h.first)⟩
theorem passG_part {q : Nat} : ∀ (m i : Nat) (o : List Nat) (g : Bool), i + m = ls.length → Part ls q o → Part ls q (passG ls m i o g).1 ∧ o.length ≤ (passG ls m i o g).1.length ∧ ((passG ls m i o g).2 = true → g = true ∨ o.length < (passG ls m i o g).1.length)
  | 0, _, _, g, _, h => ⟨h, Nat.le_refl _, fun h => .inl h⟩
  | m + 1, i, o, g, e, h => by
    rw [passG]
    split
    · rename_i c
      obtain ⟨c1, k, hk, ha⟩ := c
      obtain ⟨h1, h2, h3⟩ := passG_part m (i + 1) (putN o i) true (by omega) (h.put (by omega) hk ha)
      rw [putN_len c1] at h2
      exact ⟨h1, by omega, fun _ => .inr (by omega)⟩
    · exact passG_part m (i + 1) o g (by omega) h
theorem passG_false : ∀ (m i : Nat) (o : List Nat) (g : Bool), (passG ls m i o g).2 = false → (passG ls m i o g).1 = o ∧ g = false ∧ ∀ j, i ≤ j → j < i + m → j ∉ o → ¬ ∃ k ∈ o, Adj ls k j
  | 0, i, o, g, h => ⟨rfl, h, fun j h1 h2 => by omega⟩
  | m + 1, i, o, g, h => by
    rw [passG] at h ⊢
    split
    · rename_i c
      rw [if_pos c] at h
      have := (passG_false m (i + 1) (putN o i) true h).2.1
      cases this
    · rename_i c
      rw [if_neg c] at h
      obtain ⟨h1, h2, h3⟩ := passG_false m (i + 1) o g h
      refine ⟨h1, h2, fun j a b hj hk => ?_⟩
      by_cases e : j = i
      · subst e; exact c ⟨hj, hk⟩
      · exact h3 j (by omega) (by omega) hj hk
theorem part_len {i : Nat} {o : List Nat} (h : Part ls i o) : o.length ≤ ls.length := by
  have hn : o.Nodup := h.srt.imp (fun h => Nat.ne_of_lt h)
  have := nodup_leN hn (V := List.range ls.length) (fun x hx => List.mem_range.2 (h.sub x hx).1)
  simpa using this
theorem comp_sorted (i : Nat) : (comp ls i).Pairwise (· < ·) := List.pairwise_lt_range.filter _
theorem part_closed {i : Nat} {o : List Nat} (h : Part ls i o) (hc : ∀ j, j < ls.length → j ∉ o → ¬ ∃ k ∈ o, Adj ls k j) : o = comp ls i := by
  refine sorted_eq h.srt (comp_sorted i) (fun x => ?_)
  rw [mem_comp]
  constructor
  · exact h.sub x
  · rintro ⟨hl, hr⟩
    clear hl
    induction hr with
    | refl => exact h.first
    | @step j k h1 hk ha ih =>
      by_cases e : k ∈ o
      · exact e
      · exact absurd ⟨j, ih, ha⟩ (hc k hk e)
theorem growG_comp {i : Nat} : ∀ (f : Nat) (o : List Nat), Part ls i o → ls.length < f + o.length → growG ls f o = comp ls i
  | 0, o, h, hf => by have := part_len h; omega
  | f + 1, o, h, hf => by
    obtain ⟨h1, h2, h3⟩ := passG_part ls.length 0 o false (by omega) h
    rw [growG]
    by_cases c : (passG ls ls.length 0 o false).2 = true
    · rw [if_pos c]
      rcases h3 c with e | h3
      · cases e
      · exact growG_comp f _ h1 (by omega)
    · rw [if_neg c]
      obtain ⟨e1, _, e2⟩ := passG_false ls.length 0 o false (by simpa using c)
      rw [e1]
      exact part_closed h (fun j hj hn => e2 j (by omega) (by omega) hn)
theorem part_one {i : Nat} (hi : i < ls.length) : Part ls i [i] := ⟨by simp, fun j hj => by rw [List.mem_singleton] at hj; subst hj; exact ⟨hi, .refl _⟩, by simp⟩
theorem growG_one {i : Nat} (hi : i < ls.length) : growG ls ls.length [i] = comp ls i := growG_comp _ _ (part_one hi) (by simp)
theorem comp_head {i : Nat} (hi : i < ls.length) : (comp ls i).headD 0 = i ↔ i ∈ heads ls := by
  have hs := comp_sorted (ls := ls) i
  have hm := comp_self (ls := ls) hi
  constructor
  · intro h
    refine mem_heads.2 ⟨hi, fun j hj => ?_⟩
    have hj' : j ∈ comp ls i := mem_comp.2 ⟨hj.lt hi, hj⟩
    cases hc : comp ls i with
    | nil => rw [hc] at hm; cases hm
    | cons x t =>
      rw [hc] at h hj' hs
      simp only [List.headD_cons] at h
      subst h
      rw [List.pairwise_cons] at hs
      rcases List.mem_cons.1 hj' with e | h'
      · omega
      · have := hs.1 j h'; omega
  · intro h
    obtain ⟨_, h2⟩ := mem_heads.1 h
    cases hc : comp ls i with
    | nil => rw [hc] at hm; cases hm
    | cons x t =>
      have hx : x ∈ comp ls i := by rw [hc]; exact List.mem_cons_self
      have := h2 x (mem_comp.1 hx).2
      rw [hc] at hm hs
      rw [List.pairwise_cons] at hs
      simp only [List.headD_cons]
      rcases List.mem_cons.1 hm with e | h'
      · exact e.symm
      · have := hs.1 i h'; omega
end
end Go.Proofs.YtephjmmkggcmeaaQ.CK
namespace Go.Proofs.YtephjmmkggcmeaaQ.CK
open Classical

def nubZ : List Int → List Int
  | [] => []
  | x :: t => if t.contains x then nubZ t else x :: nubZ t
theorem mem_nubZ {l : List Int} {x : Int} : x ∈ nubZ l ↔ x ∈ l := by
  induction l with
  | nil => simp [nubZ]
  | cons y t ih =>
    rw [nubZ]
    split
    · rename_i c
      rw [ih, List.mem_cons]
      refine ⟨.inr, fun h => ?_⟩
      rcases h with rfl | h
      · simpa using c
      · exact h
    · rw [List.mem_cons, List.mem_cons, ih]
theorem nodup_nubZ (l : List Int) : (nubZ l).Nodup := by
  induction l with
  | nil => simp [nubZ]
  | cons y t ih =>
    rw [nubZ]
    split
    · exact ih
    · rename_i c
      rw [List.nodup_cons]
      exact ⟨fun h => c (by simpa using mem_nubZ.1 h), ih⟩
theorem nodup_len {S V : List Int} (hS : S.Nodup) (hV : V.Nodup) (h : ∀ x, x ∈ S ↔ x ∈ V) : S.length = V.length :=
  Nat.le_antisymm (nodup_le hS (fun x hx => (h x).1 hx)) (nodup_le hV (fun x hx => (h x).2 hx))
theorem nubZ_len {l V : List Int} (hV : V.Nodup) (h : ∀ x, x ∈ V ↔ x ∈ l) : (nubZ l).length = V.length :=
  nodup_len (nodup_nubZ l) hV (fun x => mem_nubZ.trans (h x).symm)
section
variable {ls : List (List Int)}
def cellsL (ls : List (List Int)) (is : List Nat) : List Int := is.flatMap (el ls)
def wideN (ls : List (List Int)) (is : List Nat) : Nat := (nubZ (cellsL ls is)).length
theorem mem_cellsL {is : List Nat} {x : Int} : x ∈ cellsL ls is ↔ ∃ i ∈ is, x ∈ el ls i := by simp [cellsL]
theorem cell_comp {i : Nat} (hi : i < ls.length) (x : Int) : Cell ls i x ↔ x ∈ cellsL ls (comp ls i) := by
  rw [mem_cellsL]
  constructor
  · rintro ⟨j, hr, hx⟩
    exact ⟨j, mem_comp.2 ⟨hr.lt hi, hr⟩, hx⟩
  · rintro ⟨j, hj, hx⟩
    exact ⟨j, (mem_comp.1 hj).2, hx⟩
theorem fits_iff : Fits ls ↔ ∀ g ∈ groupsC ls, g.length ≤ wideN ls g := by
  constructor
  · intro h g hg
    obtain ⟨i, hi, rfl⟩ := List.mem_map.1 hg
    have hl := (mem_heads.1 hi).1
    exact h i hl _ (nodup_nubZ _) (fun x => by rw [mem_nubZ]; exact (cell_comp hl x).symm)
  · intro h i hi V hV hx
    obtain ⟨q, hq, hr⟩ := head_of (ls := ls) i i (Nat.le_refl _) hi
    have hql := (mem_heads.1 hq).1
    rw [← comp_eq hql hr]
    have := h _ (List.mem_map.2 ⟨q, hq, rfl⟩)
    rw [wideN, nubZ_len hV (fun x => by rw [hx, cell_comp hi, ← comp_eq hql hr])] at this
    exact this
def mostOf (ls : List (List Int)) (gs : List (List Nat)) : Nat := (gs.map fun g => min g.length (wideN ls g)).sum
theorem mostOf_le (gs : List (List Nat)) : mostOf ls gs ≤ (gs.map List.length).sum := by
  induction gs with
  | nil => simp [mostOf]
  | cons g gs ih =>
    simp only [mostOf, List.map_cons, List.sum_cons] at ih ⊢
    omega
theorem mostOf_lt {gs : List (List Nat)} : mostOf ls gs < (gs.map List.length).sum ↔ ∃ g ∈ gs, wideN ls g < g.length := by
  induction gs with
  | nil => simp [mostOf]
  | cons g gs ih =>
    have hle := mostOf_le (ls := ls) gs
    have e : mostOf ls (g :: gs) = min g.length (wideN ls g) + mostOf ls gs := rfl
    simp only [e, List.map_cons, List.sum_cons, List.mem_cons]
    constructor
    · intro h
      by_cases c : wideN ls g < g.length
      · exact ⟨g, .inl rfl, c⟩
      · obtain ⟨g', h1, h2⟩ := ih.1 (by omega)
        exact ⟨g', .inr h1, h2⟩
    · rintro ⟨g', rfl | h1, h2⟩
      · omega
      · have := ih.2 ⟨g', h1, h2⟩
        omega
noncomputable def mostC (ls : List (List Int)) : Nat := mostOf ls (groupsC ls)
theorem mostC_lt : mostC ls < ls.length ↔ ¬ Fits ls := by
  rw [fits_iff, mostC]
  have := mostOf_lt (ls := ls) (gs := groupsC ls)
  rw [sum_len] at this
  rw [this]
  constructor
  · rintro ⟨g, h1, h2⟩ h
    have := h g h1; omega
  · intro h
    simp only [Classical.not_forall, Nat.not_le] at h
    obtain ⟨g, h1, h2⟩ := h
    exact ⟨g, h1, h2⟩
end
end Go.Proofs.YtephjmmkggcmeaaQ.CK
namespace Go.Proofs.YtephjmmkggcmeaaQ
open Go Go.RowKit Go.Proofs.YtephjmmkggcmeaaW.PrintWords Go.Proofs.YtephjmmkggcmeaaW.PrintMore Go.Proofs.YtephjmmkggcmeaaGp Go.Proofs.Ytephjmmkggcmeaa.PM
open CK (el comp heads groupsC putN passG growG Adj Pairs)
open Classical

def insI (s : Int) : List Int → List Int
  | [] => [s]
  | q :: t => if q < s then q :: insI s t else if q = s then q :: t else s :: q :: t
theorem insI_len (s : Int) : ∀ l, (insI s l).length ≤ l.length + 1
  | [] => by simp [insI]
  | q :: t => by
    have := insI_len s t
    unfold insI
    split
    · simp; omega
    · split <;> simp
theorem put_l0 (x0 : List Int) (s : Int) (hx : x0.length ≤ 1000000) : ∀ (t pre : List Int), x0 = pre ++ t →
    Ev (fun k => spec_l1Put.l0 k x0 s (pre.length : Int)) (pre ++ insI s t) := by
  intro t
  induction t with
  | nil =>
    intro pre h
    have hp : x0 = pre := by rw [h, List.append_nil]
    subst hp
    refine ev_succ ?_
    simp only [spec_l1Put.l0]
    refine ev_neg (by omega) (ev_bind _ (Ev.now _) (ev_pos (by omega) (ev_pos (by omega) (ev_bind _ (Ev.now _) ?_))))
    rw [Int.toNat_natCast, List.take_length, List.nil_append]
    refine ev_pos (by simp; omega) (ev_bind _ (Ev.now _) (ev_pos (by omega) (ev_bind _ (Ev.now _) (ev_bind _ (Ev.now _) (ev_pos (by simp; omega) (ev_some ?_))))))
    simp [insI]
  | cons q t ih =>
    intro pre h
    have hm : ((pre.length : Nat) : Int) < (x0.length : Int) := by rw [h]; exact lt_mid
    have hg : rd x0 (pre.length : Int) = q := by rw [h]; exact rd_mid
    refine ev_succ ?_
    simp only [spec_l1Put.l0, hg]
    refine ev_pos hm (ev_pos (by omega) ?_)
    unfold insI
    by_cases c : q < s
    · refine ev_pos c ?_
      rw [winc (by omega), if_pos c]
      have := ih (pre ++ [q]) (by rw [h]; simp)
      rw [len_one] at this
      simpa using this
    · refine ev_neg c ?_
      rw [if_neg c]
      by_cases d : q = s
      · refine ev_pos d (ev_some ?_)
        rw [if_pos d, h]
      · refine ev_neg d (ev_bind _ (Ev.now _) (ev_pos (by omega) (ev_bind _ (Ev.now _) ?_)))
        have et : x0.take pre.length = pre := by rw [h]; simp
        have ed : x0.drop pre.length = q :: t := by rw [h]; simp
        have hl : x0.length = pre.length + (t.length + 1) := by rw [h]; simp
        rw [Int.toNat_natCast, et, ed, List.nil_append, if_neg d]
        refine ev_pos (by simp; omega) (ev_bind _ (Ev.now _) (ev_pos (by omega) (ev_bind _ (Ev.now _) (ev_bind _ (Ev.now _) (ev_pos (by simp; omega) (ev_some ?_))))))
        simp
theorem put_f (l : List Int) (s : Int) (h : l.length ≤ 1000000) : Ev (fun k => spec_l1Put.f k l s) (insI s l) := put_l0 l s h l [] rfl
theorem zs_put (l : List Nat) (n : Nat) : insI (n : Int) (zs l) = zs (putN l n) := by
  induction l with
  | nil => rfl
  | cons x t ih =>
    have e : zs (x :: t) = (x : Int) :: zs t := rfl
    rw [e, insI, putN]
    by_cases c : x < n
    · rw [if_pos c, if_pos (by omega), ih]; rfl
    · rw [if_neg c, if_neg (by omega)]
      by_cases d : x = n
      · rw [if_pos d, if_pos (by omega)]; rfl
      · rw [if_neg d, if_neg (by omega)]; rfl
section
variable {L : List (List Int)}
theorem adj_pair {k i : Nat} {a b : Int} (h : el L i = [a, b]) : Adj L k i ↔ ((el L k).contains a = true ∨ (el L k).contains b = true) := by
  unfold Adj
  rw [h, List.contains_iff_mem, List.contains_iff_mem]
  constructor
  · rintro ⟨x, h1, h2⟩
    rcases List.mem_cons.1 h2 with rfl | h2
    · exact .inl h1
    · rw [List.mem_singleton.1 h2] at h1; exact .inr h1
  · rintro (h | h)
    · exact ⟨a, h, by simp⟩
    · exact ⟨b, h, by simp⟩
theorem cg_in {o s : List Nat} {i : Nat} (ho : o.length ≤ 2000) (hs : s.length ≤ 2000) (hin : i ∈ o) (p : List Int) {g : Bool} {R : List Int} (hi : i ≤ 1000)
    (H : Ev (fun k => spec_cuGroup.l1 k L (zs o) g L (L.length : Int) ((i + 1 : Nat) : Int)) R) : ∀ (t pre : List Nat), s = pre ++ t →
    Ev (fun k => spec_cuGroup.l2 k L (zs o) g (i : Int) p L (L.length : Int) (i : Int) (zs s) ((zs s).length : Int) (pre.length : Int)) R := by
  have hz : (zs s).length = s.length := zs_len s
  intro t
  induction t with
  | nil =>
    intro pre h
    have hp : s = pre := by rw [h, List.append_nil]
    subst hp
    refine ev_succ ?_
    simp only [spec_cuGroup.l2]
    rw [winc (i := i) (by omega)]
    exact ev_neg (by omega) H
  | cons x t ih =>
    intro pre h
    have hm : pre.length < s.length := by rw [h]; simp
    have h1 := ih (pre ++ [x]) (by rw [h]; simp)
    rw [len_one] at h1
    have hc := spec_l1Has_f (zs o) (i : Int) (by rw [zs_len]; omega)
    rw [zs_contains, decide_eq_true hin] at hc
    refine ev_succ ?_
    simp only [spec_cuGroup.l2]
    rw [winc (i := pre.length) (by omega)]
    exact ev_pos (by omega) (ev_pos (by omega) (ev_pos (by omega) (ev_bind _ hc (ev_pos rfl h1))))
theorem cg_l2 (hL : ∀ e ∈ L, e.length ≤ 1000) {o : List Nat} {i : Nat} (ho : o.length ≤ 1000) (hlt : ∀ k ∈ o, k < L.length) (hin : i ∉ o) {a b : Int} (he : el L i = [a, b]) {g : Bool} {R : List Int} (hi : i ≤ 1000)
    (H1 : (∃ k ∈ o, Adj L k i) → Ev (fun k => spec_cuGroup.l1 k L (zs (putN o i)) true L (L.length : Int) ((i + 1 : Nat) : Int)) R)
    (H2 : (¬ ∃ k ∈ o, Adj L k i) → Ev (fun k => spec_cuGroup.l1 k L (zs o) g L (L.length : Int) ((i + 1 : Nat) : Int)) R) : ∀ (t pre : List Nat), o = pre ++ t → (∀ k ∈ pre, ¬ Adj L k i) →
    Ev (fun k => spec_cuGroup.l2 k L (zs o) g (i : Int) [a, b] L (L.length : Int) (i : Int) (zs o) ((zs o).length : Int) (pre.length : Int)) R := by
  have hz : (zs o).length = o.length := zs_len o
  intro t
  induction t with
  | nil =>
    intro pre h hpre
    have hp : o = pre := by rw [h, List.append_nil]
    subst hp
    refine ev_succ ?_
    simp only [spec_cuGroup.l2]
    rw [winc (i := i) (by omega)]
    exact ev_neg (by omega) (H2 (fun ⟨k, hk, ha⟩ => hpre k hk ha))
  | cons x t ih =>
    intro pre h hpre
    have hm : pre.length < o.length := by rw [h]; simp
    have hx : rd (zs o) (pre.length : Int) = (x : Int) := by
      rw [zs_get o hm]
      simp [h]
    have hxo : x ∈ o := by rw [h]; simp
    have hxl := hlt x hxo
    have hc := spec_l1Has_f (zs o) (i : Int) (by rw [zs_len]; omega)
    rw [zs_contains, decide_eq_false hin] at hc
    have hel := el_len hL x
    have ha := spec_l1Has_f (el L x) a (by omega)
    have hb := spec_l1Has_f (el L x) b (by omega)
    have hput := put_f (zs o) (i : Int) (by rw [zs_len]; omega)
    rw [zs_put] at hput
    have hgo : Adj L x i → Ev (fun k => spec_cuGroup.l2 k L (zs (putN o i)) true (i : Int) [a, b] L (L.length : Int) (i : Int) (zs o) ((zs o).length : Int) ((pre.length + 1 : Nat) : Int)) R := fun had => by
      have := cg_in (o := putN o i) (s := o) (i := i) (by rw [CK.putN_len hin]; omega) (by omega) (CK.mem_putN.2 (.inr rfl)) [a, b] hi (H1 ⟨x, hxo, had⟩) t (pre ++ [x]) (by rw [h]; simp)
      rw [len_one] at this
      exact this
    refine ev_succ ?_
    simp only [spec_cuGroup.l2, hx, rdll_nat]
    rw [winc (i := pre.length) (by omega)]
    refine ev_pos (by omega) (ev_pos (by omega) (ev_pos (by omega) (ev_bind _ hc (ev_neg (by simp) (ev_pos (by omega) (ev_pos (by omega) (ev_pos (by simp) ?_)))))))
    refine ev_bind _ ha ?_
    by_cases c1 : (el L x).contains a = true
    · exact ev_pos c1 (ev_bind _ hput (hgo ((adj_pair he).2 (.inl c1))))
    · refine ev_neg c1 (ev_pos (by simp) (ev_bind _ hb ?_))
      by_cases c2 : (el L x).contains b = true
      · exact ev_pos c2 (ev_bind _ hput (hgo ((adj_pair he).2 (.inr c2))))
      · have h1 := ih (pre ++ [x]) (by rw [h]; simp) (fun k hk => by
          rcases List.mem_append.1 hk with hk | hk
          · exact hpre k hk
          · rw [List.mem_singleton.1 hk, adj_pair he]
            exact fun h => h.elim c1 c2)
        rw [len_one] at h1
        exact ev_neg c2 h1
theorem cg_l1 (hp : Pairs L) (hn : L.length ≤ 1000) (hL : ∀ e ∈ L, e.length ≤ 1000) {q : Nat} {R : List Int} : ∀ (d i : Nat) (o : List Nat) (g : Bool), i + d = L.length → CK.Part L q o →
    Ev (fun k => spec_cuGroup.l0 k L (zs (passG L d i o g).1) (passG L d i o g).2) R →
    Ev (fun k => spec_cuGroup.l1 k L (zs o) g L (L.length : Int) (i : Int)) R := by
  intro d
  induction d with
  | zero =>
    intro i o g hi hP H
    refine ev_succ ?_
    simp only [spec_cuGroup.l1, passG] at H ⊢
    exact ev_neg (by omega) H
  | succ d ih =>
    intro i o g hi hP H
    obtain ⟨a, b, he⟩ := hp i (by omega)
    have hlen := CK.part_len hP
    rw [passG] at H
    refine ev_succ ?_
    simp only [spec_cuGroup.l1, rdll_nat, he]
    refine ev_pos (by omega) (ev_pos (by omega) (ev_pos (by omega) ?_))
    by_cases c : i ∈ o
    · rw [if_neg (fun h => h.1 c)] at H
      exact cg_in (by omega) (by omega) c [a, b] (by omega) (ih (i + 1) o g (by omega) hP H) o [] rfl
    · by_cases e : ∃ k ∈ o, Adj L k i
      · rw [if_pos ⟨c, e⟩] at H
        obtain ⟨k, hk, ha⟩ := e
        exact cg_l2 hL (by omega) (fun k hk => (hP.sub k hk).1) c he (by omega) (fun _ => ih (i + 1) (putN o i) true (by omega) (hP.put (by omega) hk ha) H) (fun h => absurd ⟨k, hk, ha⟩ h) o [] rfl (fun k hk => by cases hk)
      · rw [if_neg (fun h => e h.2)] at H
        exact cg_l2 hL (by omega) (fun k hk => (hP.sub k hk).1) c he (by omega) (fun h => absurd h e) (fun _ => ih (i + 1) o g (by omega) hP H) o [] rfl (fun k hk => by cases hk)
theorem cg_l0 (hp : Pairs L) (hn : L.length ≤ 1000) (hL : ∀ e ∈ L, e.length ≤ 1000) {q : Nat} : ∀ (f : Nat) (o : List Nat), CK.Part L q o → L.length < f + o.length →
    Ev (fun k => spec_cuGroup.l0 k L (zs o) true) (zs (growG L f o)) := by
  intro f
  induction f with
  | zero => intro o h hf; have := CK.part_len h; omega
  | succ f ih =>
    intro o h hf
    obtain ⟨h1, h2, h3⟩ := CK.passG_part L.length 0 o false (by omega) h
    refine ev_succ ?_
    simp only [spec_cuGroup.l0]
    refine ev_pos (by trivial) (cg_l1 hp hn hL L.length 0 o false (by omega) h ?_)
    rw [growG]
    by_cases c : (passG L L.length 0 o false).2 = true
    · rw [if_pos c, c]
      refine ih _ h1 ?_
      rcases h3 c with e | h3
      · cases e
      · omega
    · rw [if_neg c, Bool.eq_false_iff.2 c]
      refine ev_succ ?_
      simp only [spec_cuGroup.l0]
      exact ev_neg (by simp) (Ev.now _)
theorem spec_cuGroup_f (hp : Pairs L) (hn : L.length ≤ 1000) (hL : ∀ e ∈ L, e.length ≤ 1000) {i : Nat} (hi : i < L.length) : Ev (fun k => spec_cuGroup.f k L (i : Int)) (zs (comp L i)) := by
  unfold spec_cuGroup.f
  have := cg_l0 hp hn hL (q := i) L.length [i] (CK.part_one hi) (by simp)
  rw [CK.growG_one hi] at this
  exact this
theorem spec_cuGroups_f (hp : Pairs L) (hn : L.length ≤ 1000) (hL : ∀ e ∈ L, e.length ≤ 1000) : Ev (fun k => spec_cuGroups.f k L) ((groupsC L).map zs) := by
  have H : ∀ (d i : Nat), i + d = L.length → Ev (fun k => spec_cuGroups.l0 k L ((((List.range i).filter fun x => decide (x ∈ heads L)).map (comp L)).map zs) (L.length : Int) (i : Int)) ((((List.range L.length).filter fun x => decide (x ∈ heads L)).map (comp L)).map zs) := by
    intro d
    induction d with
    | zero =>
      intro i hi
      obtain rfl : i = L.length := by omega
      refine ev_succ ?_
      simp only [spec_cuGroups.l0]
      exact ev_neg (by omega) (Ev.now _)
    | succ d ih =>
      intro i hi
      have hil : i < L.length := by omega
      have h1 := ih (i + 1) (by omega)
      have hg := spec_cuGroup_f hp hn hL hil
      have hm := CK.comp_self hil
      have hh := CK.comp_head hil
      have hlen : ((((List.range i).filter fun x => decide (x ∈ heads L)).map (comp L)).map zs).length ≤ i := by
        rw [List.length_map, List.length_map]
        have := List.length_filter_le (fun x => decide (x ∈ heads L)) (List.range i)
        rwa [List.length_range] at this
      have hpos : 0 < (zs (comp L i)).length := by rw [zs_len]; exact List.length_pos_of_mem hm
      have h0 : rd (zs (comp L i)) 0 = ((comp L i).headD 0 : Nat) := by
        cases hc : comp L i with
        | nil => rw [hc] at hm; cases hm
        | cons x t => rfl
      rw [List.range_succ, List.filter_append, List.map_append, List.map_append] at h1
      refine ev_succ ?_
      simp only [spec_cuGroups.l0]
      rw [winc (by omega)]
      refine ev_pos (by omega) (ev_bind _ hg (ev_pos (by omega) ?_))
      by_cases c : i ∈ heads L
      · rw [List.filter_cons, if_pos (by simpa using c), List.filter_nil] at h1
        exact ev_pos (by rw [h0]; have := hh.2 c; omega) (ev_pos (by omega) h1)
      · rw [List.filter_cons, if_neg (by simpa using c), List.filter_nil, List.map_nil, List.map_nil, List.append_nil] at h1
        exact ev_neg (by rw [h0]; intro e; exact c (hh.1 (by omega))) h1
  have e : (List.range L.length).filter (fun x => decide (x ∈ heads L)) = heads L := by
    have : ∀ x ∈ List.range L.length, decide (x ∈ heads L) = decide (∀ j, CK.Reach L x j → x ≤ j) := fun x hx => by
      rw [decide_eq_decide, CK.mem_heads]
      exact ⟨fun h => h.2, fun h => ⟨List.mem_range.1 hx, h⟩⟩
    unfold heads
    refine List.filter_congr (fun x hx => ?_)
    have := this x hx
    unfold heads at this
    exact this
  have h := H L.length 0 (by omega)
  unfold spec_cuGroups.f groupsC
  rw [e] at h
  exact h
end
end Go.Proofs.YtephjmmkggcmeaaQ
namespace Go.Proofs.YtephjmmkggcmeaaQ
open Go Go.RowKit Go.Proofs.YtephjmmkggcmeaaW.PrintWords Go.Proofs.YtephjmmkggcmeaaW.PrintMore Go.Proofs.YtephjmmkggcmeaaGp Go.Proofs.Ytephjmmkggcmeaa.PM
open CK (el groupsC Pairs wideN cellsL mostOf mostC)

def Small (L : List (List Int)) : Prop := ∀ i, ∀ x ∈ el L i, 0 ≤ x ∧ x ≤ 1000
section
variable {L : List (List Int)}
theorem group_ok {g : List Nat} (h : g ∈ groupsC L) : (∀ i ∈ g, i < L.length) ∧ g.length ≤ L.length := by
  obtain ⟨i, hi, rfl⟩ := List.mem_map.1 h
  exact ⟨fun j hj => (CK.mem_comp.1 hj).1, by
    have := CK.nodup_leN (CK.comp_nodup (ls := L) i) (V := List.range L.length) (fun x hx => List.mem_range.2 (CK.mem_comp.1 hx).1)
    rwa [List.length_range] at this⟩
theorem zl_len (G : List (List Nat)) : (G.map zs).length = G.length := List.length_map _
theorem el_map {G : List (List Nat)} {q : Nat} (h : q < G.length) : el (G.map zs) q = zs G[q] := by
  rw [el_get (by rw [zl_len]; exact h), List.getElem_map]
end
section
variable {a n : Int} {l : List ByteArray}
theorem place_small (h : keyedC a l n = true) (s : ByteArray) {c : Int} : 0 ≤ placeV a c s n ∧ placeV a c s n ≤ 1000 := by
  obtain ⟨_, _, h3, h4⟩ := keyedC_ok h
  have := placeV_range a c s h3 (by omega)
  omega
theorem prs_small (h : keyedC a l n = true) : Small (prs a n l) := by
  intro i x hx
  by_cases c : i < l.length
  · rw [prs_el c] at hx
    rcases List.mem_cons.1 hx with e | hx
    · rw [e]; exact place_small h _
    · rw [List.mem_singleton.1 hx]; exact place_small h _
  · unfold el at hx
    rw [List.getD_eq_getElem?_getD, List.getElem?_eq_none (by rw [prs_len]; omega)] at hx
    cases hx
end
end Go.Proofs.YtephjmmkggcmeaaQ
namespace Go.Proofs.YtephjmmkggcmeaaQ
open Go Go.RowKit Go.Proofs.YtephjmmkggcmeaaW.PrintWords Go.Proofs.YtephjmmkggcmeaaGp Go.Proofs.Ytephjmmkggcmeaa.PM

theorem goesI_iff : ∀ (l S : List Int), goesI S l = true ↔ l.Nodup ∧ ∀ x ∈ l, x ∉ S
  | [], S => by simp [goesI]
  | x :: t, S => by
    rw [goesI, Bool.and_eq_true, goesI_iff t (x :: S)]
    simp only [Bool.not_eq_true', List.contains_eq_mem, decide_eq_false_iff_not, List.nodup_cons, List.mem_cons, not_or]
    constructor
    · rintro ⟨h1, h2, h3⟩
      refine ⟨⟨fun h => (h3 x h).1 rfl, h2⟩, fun y hy => ?_⟩
      rcases hy with rfl | hy
      · exact h1
      · exact (h3 y hy).2
    · rintro ⟨⟨h1, h2⟩, h3⟩
      exact ⟨h3 x (.inl rfl), h2, fun y hy => ⟨fun e => h1 (e ▸ hy), h3 y (.inr hy)⟩⟩
def nodB (l : List Int) : Bool := goesI [] l
theorem nodB_iff {l : List Int} : nodB l = true ↔ l.Nodup := by unfold nodB; rw [goesI_iff]; simp
end Go.Proofs.YtephjmmkggcmeaaQ
namespace Go.Proofs.YtephjmmkggcmeaaQ
open Go Go.RowKit Go.Proofs.YtephjmmkggcmeaaW.PrintWords Go.Proofs.YtephjmmkggcmeaaW.PrintMore Go.Proofs.YtephjmmkggcmeaaGp Go.Proofs.Ytephjmmkggcmeaa.PM
open CK (el groupsC Pairs wideN cellsL mostOf mostC Fits greedy)
open Classical

theorem mem_insI {s x : Int} : ∀ {l : List Int}, x ∈ insI s l ↔ x ∈ l ∨ x = s
  | [] => by simp [insI]
  | q :: t => by
    rw [insI]
    split
    · rw [List.mem_cons, mem_insI, List.mem_cons, or_assoc]
    · split
      · rename_i e
        rw [List.mem_cons]
        exact ⟨.inl, fun h => h.elim id (fun h => .inl (h.trans e.symm))⟩
      · rw [List.mem_cons, List.mem_cons]
        exact ⟨fun h => h.elim .inr .inl, fun h => h.elim .inr .inl⟩
theorem sorted_insI {s : Int} : ∀ {l : List Int}, l.Pairwise (· < ·) → (insI s l).Pairwise (· < ·)
  | [], _ => by simp [insI]
  | q :: t, h => by
    rw [List.pairwise_cons] at h
    rw [insI]
    split
    · rename_i c
      rw [List.pairwise_cons]
      refine ⟨fun x hx => ?_, sorted_insI h.2⟩
      rcases mem_insI.1 hx with hx | rfl
      · exact h.1 x hx
      · exact c
    · split
      · exact List.pairwise_cons.2 h
      · rw [List.pairwise_cons]
        refine ⟨fun x hx => ?_, List.pairwise_cons.2 h⟩
        rcases List.mem_cons.1 hx with rfl | hx
        · omega
        · have := h.1 x hx; omega
section
variable {L : List (List Int)}
theorem spec_cuWide_f (hp : Pairs L) {g : List Nat} (hg : ∀ i ∈ g, i < L.length) (hl : g.length ≤ 10000) : Ev (fun k => spec_cuWide.f k L (zs g)) ((wideN L g : Nat) : Int) := by
  have hz : (zs g).length = g.length := zs_len g
  have H : ∀ (t pre : List Nat) (S : List Int), g = pre ++ t → S.Pairwise (· < ·) → S.length ≤ 2 * pre.length → (∀ x, x ∈ S ↔ x ∈ cellsL L pre) → Ev (fun k => spec_cuWide.l0 k L S (zs g) ((zs g).length : Int) (pre.length : Int)) ((wideN L g : Nat) : Int) := by
    intro t
    induction t with
    | nil =>
      intro pre S h hs hsl hS
      have hp : g = pre := by rw [h, List.append_nil]
      subst hp
      have e : S.length = wideN L g := by
        unfold wideN
        exact (CK.nubZ_len (hs.imp (fun h => Int.ne_of_lt h)) hS).symm
      refine ev_succ ?_
      simp only [spec_cuWide.l0]
      exact ev_neg (by omega) (ev_some (by rw [e]))
    | cons x t ih =>
      intro pre S h hs hsl hS
      have hm : pre.length < g.length := by rw [h]; simp
      have hx : rd (zs g) (pre.length : Int) = (x : Int) := by
        rw [zs_get g hm]
        simp [h]
      have hxl := hg x (by rw [h]; simp)
      obtain ⟨a, b, he⟩ := hp x hxl
      have pa := put_f S a (by omega)
      have la := insI_len a S
      have pb := put_f (insI a S) b (by omega)
      have lb := insI_len b (insI a S)
      have h1 := ih (pre ++ [x]) (insI b (insI a S)) (by rw [h]; simp) (sorted_insI (sorted_insI hs)) (by rw [List.length_append, List.length_singleton]; omega) (fun y => by
        rw [CK.mem_cellsL, mem_insI, mem_insI, hS, CK.mem_cellsL]
        constructor
        · rintro ((⟨i, hi, hy⟩ | e) | e)
          · exact ⟨i, List.mem_append_left _ hi, hy⟩
          · exact ⟨x, by simp, by rw [he, e]; simp⟩
          · exact ⟨x, by simp, by rw [he, e]; simp⟩
        · rintro ⟨i, hi, hy⟩
          rcases List.mem_append.1 hi with hi | hi
          · exact .inl (.inl ⟨i, hi, hy⟩)
          · rw [List.mem_singleton.1 hi, he] at hy
            rcases List.mem_cons.1 hy with e | hy
            · exact .inl (.inr e)
            · exact .inr (List.mem_singleton.1 hy))
      rw [len_one] at h1
      have r0 : rd [a, b] 0 = a := rfl
      have r1 : rd [a, b] 1 = b := rfl
      refine ev_succ ?_
      simp only [spec_cuWide.l0, hx, rdll_nat, he, r0, r1]
      rw [winc (i := pre.length) (by omega)]
      exact ev_pos (by omega) (ev_pos (by omega) (ev_pos (by omega) (ev_pos (by omega) (ev_pos (by omega) (ev_pos (by simp) (ev_bind _ pa (ev_pos (by simp) (ev_bind _ pb h1))))))))
  unfold spec_cuWide.f
  exact H g [] [] rfl (by simp) (by simp) (fun x => by simp [cellsL])
theorem least_f (a b : Int) : spec_l1Least.f a b = some (if a < b then a else b) := by
  unfold spec_l1Least.f
  split <;> rfl
theorem mostN_f (a b : Int) : spec_l1Most.f a b = some (if a > b then a else b) := by
  unfold spec_l1Most.f
  split <;> rfl
theorem spec_cuMost_f (hp : Pairs L) (hn : L.length ≤ 1000) (hL : ∀ e ∈ L, e.length ≤ 1000) : Ev (fun k => spec_cuMost.f k L) ((mostC L : Nat) : Int) := by
  have hGl := CK.heads_len (ls := L)
  have hz : ((groupsC L).map zs).length = (groupsC L).length := zl_len _
  have H : ∀ (t pre : List (List Nat)), groupsC L = pre ++ t → Ev (fun k => spec_cuMost.l0 k L ((mostOf L pre : Nat) : Int) ((groupsC L).map zs) (((groupsC L).map zs).length : Int) (pre.length : Int)) ((mostC L : Nat) : Int) := by
    intro t
    induction t with
    | nil =>
      intro pre h
      have hp : groupsC L = pre := by rw [h, List.append_nil]
      refine ev_succ ?_
      simp only [spec_cuMost.l0]
      rw [← hp]
      exact ev_neg (by omega) (Ev.now _)
    | cons g t ih =>
      intro pre h
      have hm : pre.length < (groupsC L).length := by rw [h]; simp
      have hgG : g ∈ groupsC L := by rw [h]; simp
      obtain ⟨g1, g2⟩ := group_ok hgG
      have he : el ((groupsC L).map zs) pre.length = zs g := by
        rw [el_map hm]
        simp [h]
      have hc := spec_cuWide_f hp g1 (by omega)
      have h1 := ih (pre ++ [g]) (by rw [h]; simp)
      have hle := CK.mostOf_le (ls := L) pre
      have hsm : (pre.map List.length).sum = pre.flatten.length := by rw [List.length_flatten]
      have hfl := CK.flat_len (ls := L)
      rw [h, List.flatten_append, List.length_append] at hfl
      have em : mostOf L (pre ++ [g]) = mostOf L pre + min g.length (wideN L g) := by
        unfold mostOf
        rw [List.map_append, List.sum_append]
        simp
      rw [len_one, em] at h1
      have hmin : (if ((zs g).length : Int) < ((wideN L g : Nat) : Int) then ((zs g).length : Int) else ((wideN L g : Nat) : Int)) = ((min g.length (wideN L g) : Nat) : Int) := by
        rw [zs_len]; split <;> omega
      refine ev_succ ?_
      simp only [spec_cuMost.l0, rdll_nat, he, least_f]
      rw [winc (i := pre.length) (by omega)]
      refine ev_pos (by omega) (ev_pos (by omega) (ev_pos (by omega) (ev_bind _ hc (ev_bind _ (Ev.now _) ?_))))
      rw [hmin, w64 (by omega) (by omega), show ((mostOf L pre : Nat) : Int) + ((min g.length (wideN L g) : Nat) : Int) = ((mostOf L pre + min g.length (wideN L g) : Nat) : Int) from by omega]
      exact h1
  unfold spec_cuMost.f
  exact ev_bind _ (spec_cuGroups_f hp hn hL) (H _ [] rfl)
theorem two_set {F : List (List Int)} (hF : ∀ e ∈ F, e.length ≤ 1000) (i : Nat) (a b : Int) : ∀ e ∈ F.set i [a, b], e.length ≤ 1000 := fun e he => by
  rcases List.mem_or_eq_of_mem_set he with h | h
  · exact hF e h
  · rw [h]; simp
theorem place_l0 (hn : L.length ≤ 1000) : ∀ (d i : Nat) (F : List (List Int)) (acc : List Int), i + d = L.length → F.length = L.length → Pairs F → (∀ e ∈ F, e.length ≤ 1000) → (∀ j, i ≤ j → el F j = el L j) → acc.length = i →
    Ev (fun k => spec_cuPlace.l0 k L F acc L (L.length : Int) (i : Int)) (acc ++ greedy d i F, true) := by
  intro d
  induction d with
  | zero =>
    intro i F acc hi hl hp hF hj ha
    refine ev_succ ?_
    simp only [spec_cuPlace.l0, greedy, List.append_nil]
    exact ev_neg (by omega) (Ev.now _)
  | succ d ih =>
    intro i F acc hi hl hp hF hj ha
    obtain ⟨a, b, he⟩ := hp i (by omega)
    have heL : el L i = [a, b] := by rw [← hj i (Nat.le_refl _)]; exact he
    have g0 : (el F i).getD 0 0 = a := by rw [he]; rfl
    have g1 : (el F i).getD 1 0 = b := by rw [he]; rfl
    have r0 : rd [a, b] 0 = a := rfl
    have r1 : rd [a, b] 1 = b := rfl
    rw [greedy]
    simp only [g0, g1]
    generalize hlo : (if a ≤ b then a else b) = lo
    generalize hhi : (if a ≤ b then b else a) = hi2
    have elo : (if a < b then a else b) = lo := by rw [← hlo]; split <;> split <;> omega
    have ehi : (if a > b then a else b) = hi2 := by rw [← hhi]; split <;> split <;> omega
    have hm := spec_cuMost_f (L := F.set i [lo, lo]) (hp.set i lo lo) (by rw [List.length_set]; omega) (two_set hF i lo lo)
    have hml := CK.mostC_lt (ls := F.set i [lo, lo])
    have hset : ∀ v : Int, ∀ j, i + 1 ≤ j → el (F.set i [v, v]) j = el L j := fun v j hji => by rw [CK.el_set_ne (by omega), hj j (by omega)]
    have s1 : ∀ v : Int, Ev (fun k => spec_cuPlace.l0 k L (F.set i [v, v]) (acc ++ [v]) L (L.length : Int) ((i + 1 : Nat) : Int)) (acc ++ [v] ++ greedy d (i + 1) (F.set i [v, v]), true) := fun v =>
      ih (i + 1) (F.set i [v, v]) (acc ++ [v]) (by omega) (by rw [List.length_set]; exact hl) (hp.set i v v) (two_set hF i v v) (hset v) (by simp [ha])
    rw [List.length_set, hl] at hml
    refine ev_succ ?_
    simp only [spec_cuPlace.l0, rdll_nat, heL, r0, r1, least_f, mostN_f, elo, ehi, Int.toNat_natCast]
    rw [winc (i := i) (by omega)]
    refine ev_pos (by omega) (ev_pos (by omega) (ev_pos (by omega) (ev_pos (by simp) (ev_pos (by simp) (ev_bind _ (Ev.now _) (ev_pos (by omega) (ev_bind _ (Ev.now _) (ev_bind _ hm ?_))))))))
    simp only [List.set_set]
    by_cases c : Fits (F.set i [lo, lo])
    · rw [if_pos c]
      refine ev_neg (fun h => (hml.1 (by omega)) c) (ev_pos (by omega) ?_)
      have := s1 lo
      rw [List.append_assoc] at this
      exact this
    · rw [if_neg c]
      refine ev_pos (by have := hml.2 c; omega) (ev_bind _ (Ev.now _) (ev_pos (by omega) ?_))
      have := s1 hi2
      rw [List.append_assoc] at this
      exact this
noncomputable def placeC (L : List (List Int)) : List Int × Bool := if Fits L then (greedy L.length 0 L, true) else ([], false)
theorem spec_cuPlace_f (hp : Pairs L) (hn : L.length ≤ 1000) (hL : ∀ e ∈ L, e.length ≤ 1000) : Ev (fun k => spec_cuPlace.f k L) (placeC L) := by
  have hm := spec_cuMost_f hp hn hL
  have hml := CK.mostC_lt (ls := L)
  unfold spec_cuPlace.f placeC
  refine ev_bind _ hm ?_
  by_cases c : Fits L
  · rw [if_pos c]
    refine ev_neg (fun h => (hml.1 (by omega)) c) (ev_bind _ (Ev.now _) (ev_pos (by simp; omega) ?_))
    have := place_l0 hn L.length 0 L [] (by omega) rfl hp hL (fun _ _ => rfl) rfl
    exact this
  · rw [if_neg c]
    exact ev_pos (by have := hml.2 c; omega) (Ev.now _)
def IsPl (L : List (List Int)) (pl : List Int) : Prop := pl.length = L.length ∧ pl.Nodup ∧ ∀ j, j < L.length → pl.getD j 0 ∈ el L j
theorem distinct_ok {l : List Int} (hl : l.length ≤ 1000000) (hr : ∀ x ∈ l, -1000000 ≤ x ∧ x ≤ 1000000) : impl_distinct.f l = some (nodB l) := by
  unfold impl_distinct.f
  refine if_pos ⟨hl, ?_⟩
  rw [List.all_eq_true]
  intro x hx
  have := hr x hx
  simp [okI]
  omega
theorem impl_isPlacement_f (hn : L.length ≤ 1000) (hL : ∀ e ∈ L, e.length ≤ 1000) {pl : List Int} (hr : ∀ x ∈ pl, -1000000 ≤ x ∧ x ≤ 1000000) : Ev (fun k => impl_isPlacement.f k L pl) (decide (IsPl L pl)) := by
  have jt : Ev (fun k => impl_isPlacement.j0 k L pl true) false := ev_succ (by simp only [impl_isPlacement.j0]; exact ev_pos (by trivial) (Ev.now _))
  have H : pl.length = L.length → ∀ (d i : Nat), i + d = pl.length → Ev (fun k => impl_isPlacement.l0 k L pl (pl.length : Int) (i : Int)) (decide (∀ j, i ≤ j → j < L.length → pl.getD j 0 ∈ el L j)) := by
    intro hlen d
    induction d with
    | zero =>
      intro i hi
      refine ev_succ ?_
      simp only [impl_isPlacement.l0]
      exact ev_neg (by omega) (ev_some (decide_eq_true (fun j h1 h2 => by omega)).symm)
    | succ d ih =>
      intro i hi
      have h1 := ih (i + 1) (by omega)
      have hc := slices_Contains_int_f (el L i) (pl.getD i 0) (by have := el_len hL i; omega)
      refine ev_succ ?_
      simp only [impl_isPlacement.l0, rd_nat, rdll_nat]
      rw [winc (i := i) (by omega)]
      refine ev_pos (by omega) (ev_pos (by omega) (ev_pos (by omega) (ev_pos (by omega) (ev_bind _ hc ?_))))
      by_cases c : (el L i).contains (pl.getD i 0) = true
      · refine ev_pos c ?_
        rw [show (decide (∀ j, i ≤ j → j < L.length → pl.getD j 0 ∈ el L j)) = decide (∀ j, i + 1 ≤ j → j < L.length → pl.getD j 0 ∈ el L j) from by
          rw [decide_eq_decide]
          refine ⟨fun h j h1 h2 => h j (by omega) h2, fun h j h1 h2 => ?_⟩
          by_cases e : j = i
          · subst e; exact List.contains_iff_mem.1 c
          · exact h j (by omega) h2]
        exact h1
      · exact ev_neg c (ev_some (decide_eq_false (fun h => c (List.contains_iff_mem.2 (h i (Nat.le_refl _) (by omega))))).symm)
  unfold impl_isPlacement.f
  by_cases e : pl.length = L.length
  · refine ev_pos (by omega) ?_
    rw [distinct_ok (by omega) hr]
    refine ev_bind _ (Ev.now _) ?_
    by_cases c : pl.Nodup
    · rw [nodB_iff.2 c]
      refine ev_succ ?_
      simp only [impl_isPlacement.j0]
      refine ev_neg (by simp) ?_
      have := H e pl.length 0 (by omega)
      rw [show decide (IsPl L pl) = decide (∀ j, 0 ≤ j → j < L.length → pl.getD j 0 ∈ el L j) from by
        rw [decide_eq_decide]
        exact ⟨fun h j _ h2 => h.2.2 j h2, fun h => ⟨e, c, fun j hj => h j (by omega) hj⟩⟩]
      exact this
    · rw [Bool.eq_false_iff.2 (fun h => c (nodB_iff.1 h)), decide_eq_false (fun h : IsPl L pl => c h.2.1)]
      exact jt
  · rw [decide_eq_false (fun h : IsPl L pl => e h.1)]
    exact ev_neg (by omega) jt
theorem getD_lt {pl : List Int} {j : Nat} (h : j < pl.length) : pl.getD j 0 = pl[j] := by rw [List.getD_eq_getElem?_getD, List.getElem?_eq_getElem h]; rfl
theorem nodup_take {pl : List Int} : pl.Nodup ↔ ∀ j, j < pl.length → pl.getD j 0 ∉ pl.take j := by
  unfold List.Nodup
  rw [List.pairwise_iff_getElem]
  constructor
  · intro h j hj hm
    obtain ⟨i, hi, e⟩ := List.mem_iff_getElem.1 hm
    rw [List.length_take] at hi
    rw [List.getElem_take, getD_lt hj] at e
    exact h i j (by omega) hj (by omega) e
  · intro h i j hi hj hij e
    refine h j hj ?_
    rw [getD_lt hj, ← e]
    exact List.mem_iff_getElem.2 ⟨i, by rw [List.length_take]; omega, by rw [List.getElem_take]⟩
theorem spec_cuPlaced_f (hn : L.length ≤ 1000) (hL : ∀ e ∈ L, e.length ≤ 1000) {pl : List Int} : Ev (fun k => spec_cuPlaced.f k L pl) (decide (IsPl L pl)) := by
  have H : pl.length = L.length → ∀ (d i : Nat), i + d = pl.length → Ev (fun k => spec_cuPlaced.l0 k L pl pl (pl.length : Int) (i : Int)) (decide (∀ j, i ≤ j → j < L.length → pl.getD j 0 ∈ el L j ∧ pl.getD j 0 ∉ pl.take j)) := by
    intro hlen d
    induction d with
    | zero =>
      intro i hi
      refine ev_succ ?_
      simp only [spec_cuPlaced.l0]
      exact ev_neg (by omega) (ev_some (decide_eq_true (fun j h1 h2 => by omega)).symm)
    | succ d ih =>
      intro i hi
      have h1 := ih (i + 1) (by omega)
      have hc := spec_l1Has_f (el L i) (pl.getD i 0) (by have := el_len hL i; omega)
      have hd := spec_l1Has_f (pl.take i) (pl.getD i 0) (by rw [List.length_take]; omega)
      refine ev_succ ?_
      simp only [spec_cuPlaced.l0, rd_nat, rdll_nat, Int.toNat_natCast]
      rw [winc (i := i) (by omega)]
      refine ev_pos (by omega) (ev_pos (by omega) (ev_pos (by omega) (ev_pos (by omega) (ev_bind _ hc ?_))))
      by_cases c : (el L i).contains (pl.getD i 0) = true
      · refine ev_pos c (ev_pos (by omega) (ev_bind _ hd ?_))
        by_cases e : (pl.take i).contains (pl.getD i 0) = true
        · exact ev_pos e (ev_some (decide_eq_false (fun h => (h i (Nat.le_refl _) (by omega)).2 (List.contains_iff_mem.1 e))).symm)
        · refine ev_neg e ?_
          rw [show (decide (∀ j, i ≤ j → j < L.length → pl.getD j 0 ∈ el L j ∧ pl.getD j 0 ∉ pl.take j)) = decide (∀ j, i + 1 ≤ j → j < L.length → pl.getD j 0 ∈ el L j ∧ pl.getD j 0 ∉ pl.take j) from by
            rw [decide_eq_decide]
            refine ⟨fun h j h1 h2 => h j (by omega) h2, fun h j h1 h2 => ?_⟩
            by_cases e2 : j = i
            · subst e2; exact ⟨List.contains_iff_mem.1 c, fun hm => e (List.contains_iff_mem.2 hm)⟩
            · exact h j (by omega) h2]
          exact h1
      · exact ev_neg c (ev_some (decide_eq_false (fun h => c (List.contains_iff_mem.2 (h i (Nat.le_refl _) (by omega)).1))).symm)
  unfold spec_cuPlaced.f
  by_cases e : pl.length = L.length
  · refine ev_pos (by omega) ?_
    have := H e pl.length 0 (by omega)
    rw [show decide (IsPl L pl) = decide (∀ j, 0 ≤ j → j < L.length → pl.getD j 0 ∈ el L j ∧ pl.getD j 0 ∉ pl.take j) from by
      rw [decide_eq_decide]
      exact ⟨fun h j _ h2 => ⟨h.2.2 j h2, nodup_take.1 h.2.1 j (by omega)⟩, fun h => ⟨e, nodup_take.2 (fun j hj => (h j (by omega) (by omega)).2), fun j hj => (h j (by omega) hj).1⟩⟩]
    exact this
  · rw [decide_eq_false (fun h : IsPl L pl => e h.1)]
    exact ev_neg (by omega) (Ev.now _)
theorem IsPl.small (h : Small L) {pl : List Int} (hp : IsPl L pl) : ∀ x ∈ pl, 0 ≤ x ∧ x ≤ 1000 := by
  intro x hx
  obtain ⟨i, hi, e⟩ := List.mem_iff_getElem.1 hx
  have := hp.2.2 i (by rw [← hp.1]; exact hi)
  rw [getD_lt hi, e] at this
  exact h i x this
theorem placeC_pl (hp : Pairs L) (h : Fits L) : IsPl L (placeC L).1 := by
  obtain ⟨h1, h2⟩ := CK.greedy_places hp h
  unfold placeC
  rw [if_pos h]
  exact ⟨CK.greedy_len _ _ _, h1, h2⟩
end
end Go.Proofs.YtephjmmkggcmeaaQ
namespace Go.Proofs.YtephjmmkggcmeaaQ.MV

def free (now tgt : List Int) (i : Nat) : Bool := decide (now.getD i 0 ≠ tgt.getD i 0) && !now.contains (tgt.getD i 0)
def firstF (now tgt : List Int) : Nat → Nat → Option Nat
  | 0, _ => none
  | m + 1, i => if free now tgt i = true then some i else firstF now tgt m (i + 1)
theorem firstF_some {now tgt : List Int} : ∀ {m i j : Nat}, firstF now tgt m i = some j → free now tgt j = true ∧ i ≤ j ∧ j < i + m
  | 0, i, j, h => by simp [firstF] at h
  | m + 1, i, j, h => by
    rw [firstF] at h
    split at h
    · rename_i c
      obtain rfl := Option.some.inj h
      exact ⟨c, Nat.le_refl _, by omega⟩
    · obtain ⟨h1, h2, h3⟩ := firstF_some h
      exact ⟨h1, by omega, by omega⟩
def wrong : List Int → List Int → Nat
  | a :: l, b :: m => (if a = b then 0 else 1) + wrong l m
  | _, _ => 0
theorem wrong_le : ∀ l m : List Int, wrong l m ≤ l.length
  | [], _ => by simp [wrong]
  | a :: l, [] => by simp [wrong]
  | a :: l, b :: m => by
    have := wrong_le l m
    rw [wrong, List.length_cons]
    split <;> omega
theorem wrong_set : ∀ (l m : List Int) (i : Nat), i < l.length → i < m.length → l.getD i 0 ≠ m.getD i 0 → wrong (l.set i (m.getD i 0)) m + 1 = wrong l m
  | [], _, i, h, _, _ => by simp at h
  | a :: l, [], i, _, h, _ => by simp at h
  | a :: l, b :: m, 0, _, _, h => by
    have h : a ≠ b := by simpa using h
    simp only [List.set_cons_zero, List.getD_cons_zero, wrong, if_pos, if_neg h]
    omega
  | a :: l, b :: m, i + 1, h1, h2, h => by
    have := wrong_set l m i (by simpa using h1) (by simpa using h2) (by simpa using h)
    simp only [List.set_cons_succ, List.getD_cons_succ, wrong]
    omega
def moves (tgt : List Int) : Nat → List Int → List Int → Option (List Int)
  | 0, _, _ => none
  | f + 1, now, out => if now = tgt then some out else match firstF now tgt now.length 0 with
    | none => none
    | some i => moves tgt f (now.set i (tgt.getD i 0)) (out ++ [(i : Int)])
inductive Mv (tgt : List Int) : List Int → List Int → Prop
  | done : Mv tgt tgt []
  | step {now : List Int} (i : Nat) (rest : List Int) : i < now.length → now.getD i 0 ≠ tgt.getD i 0 → tgt.getD i 0 ∉ now → Mv tgt (now.set i (tgt.getD i 0)) rest → Mv tgt now ((i : Int) :: rest)
theorem free_iff {now tgt : List Int} {i : Nat} : free now tgt i = true ↔ now.getD i 0 ≠ tgt.getD i 0 ∧ tgt.getD i 0 ∉ now := by
  simp [free]
theorem moves_mv {tgt : List Int} : ∀ (f : Nat) (now out res : List Int), moves tgt f now out = some res → ∃ rest, res = out ++ rest ∧ Mv tgt now rest
  | 0, _, _, _, h => by simp [moves] at h
  | f + 1, now, out, res, h => by
    rw [moves] at h
    split at h
    · rename_i c
      subst c
      exact ⟨[], by simpa using (Option.some.inj h).symm, .done⟩
    · split at h
      · simp at h
      · rename_i i hi
        obtain ⟨h1, _, h3⟩ := firstF_some hi
        obtain ⟨rest, e, hm⟩ := moves_mv f _ _ _ h
        obtain ⟨g1, g2⟩ := free_iff.1 h1
        exact ⟨(i : Int) :: rest, by rw [e]; simp, .step i rest (by omega) g1 g2 hm⟩
theorem getD_set {l : List Int} {i j : Nat} {v : Int} (hi : i < l.length) : (l.set i v).getD j 0 = if i = j then v else l.getD j 0 := by
  rw [List.getD_eq_getElem?_getD, List.getElem?_set]
  split
  · rename_i e; rfl
  · rw [List.getD_eq_getElem?_getD]
theorem nodup_set : ∀ {l : List Int} (i : Nat) {v : Int}, l.Nodup → v ∉ l → (l.set i v).Nodup
  | [], _, _, h, _ => by simp
  | a :: l, 0, v, h, hv => by
    rw [List.nodup_cons] at h
    rw [List.mem_cons, not_or] at hv
    rw [List.set_cons_zero, List.nodup_cons]
    exact ⟨hv.2, h.2⟩
  | a :: l, i + 1, v, h, hv => by
    rw [List.nodup_cons] at h
    rw [List.mem_cons, not_or] at hv
    rw [List.set_cons_succ, List.nodup_cons]
    refine ⟨fun hm => ?_, nodup_set i h.2 hv.2⟩
    rcases List.mem_or_eq_of_mem_set hm with hm | hm
    · exact h.1 hm
    · exact hv.1 hm.symm
end Go.Proofs.YtephjmmkggcmeaaQ.MV
namespace Go.Proofs.YtephjmmkggcmeaaQ
open Go Go.RowKit Go.Proofs.YtephjmmkggcmeaaW.PrintWords Go.Proofs.YtephjmmkggcmeaaGp Go.Proofs.Ytephjmmkggcmeaa.PM

end Go.Proofs.YtephjmmkggcmeaaQ
namespace Go.Proofs.YtephjmmkggcmeaaQ
open Go Go.RowKit Go.Proofs.YtephjmmkggcmeaaW.PrintWords Go.Proofs.YtephjmmkggcmeaaGp Go.Proofs.Ytephjmmkggcmeaa.PM

namespace LW
theorem has_l0 (x0 : List Int) (a : Int) (hl : (x0.length : Int) ≤ 9223372036854775806) : ∀ (t pre : List Int), x0 = pre ++ t →
    Ev (fun k => laws_pHas.l0 k a x0 (x0.length : Int) (pre.length : Int)) (t.contains a) := by
  intro t
  induction t with
  | nil =>
    intro pre h
    refine ev_succ ?_
    simp only [laws_pHas.l0]
    exact ev_neg (by rw [h]; exact not_lt_end) (ev_some (by simp))
  | cons x t ih =>
    intro pre h
    have hm : ((pre.length : Nat) : Int) < (x0.length : Int) := by rw [h]; exact lt_mid
    have hg : rd x0 (pre.length : Int) = x := by rw [h]; exact rd_mid
    refine ev_succ ?_
    simp only [laws_pHas.l0, hg]
    refine ev_pos hm (ev_pos (by omega) (ev_pos hm ?_))
    by_cases c : x = a
    · exact ev_pos c (ev_some (by simp [c]))
    · refine ev_neg c ?_
      rw [winc (by omega)]
      have := ih (pre ++ [x]) (by rw [h]; simp)
      rw [len_one] at this
      have e : (x :: t).contains a = t.contains a := by simp [Ne.symm c]
      rw [e]
      exact this
theorem has_f (l : List Int) (a : Int) (hl : (l.length : Int) ≤ 9223372036854775806) : Ev (fun k => laws_pHas.f k l a) (l.contains a) := by
  unfold laws_pHas.f
  exact has_l0 l a hl l [] rfl
theorem same_l0 (x0 y0 : List Int) (hl : (x0.length : Int) ≤ 9223372036854775806) (hy : y0.length = x0.length) : ∀ (t pre u pru : List Int), x0 = pre ++ t → y0 = pru ++ u → pru.length = pre.length →
    Ev (fun k => laws_pSameInts.l0 k x0 y0 (x0.length : Int) (pre.length : Int)) (decide (t = u)) := by
  intro t
  induction t with
  | nil =>
    intro pre u pru h h2 hp
    have : u = [] := by
      have e1 : y0.length = pru.length + u.length := by rw [h2]; simp
      have e2 : x0.length = pre.length := by rw [h]; simp
      exact List.length_eq_zero_iff.1 (by omega)
    subst this
    refine ev_succ ?_
    simp only [laws_pSameInts.l0]
    exact ev_neg (by rw [h]; exact not_lt_end) (ev_some (by simp))
  | cons x t ih =>
    intro pre u pru h h2 hp
    have hm : ((pre.length : Nat) : Int) < (x0.length : Int) := by rw [h]; exact lt_mid
    have hg : rd x0 (pre.length : Int) = x := by rw [h]; exact rd_mid
    cases u with
    | nil =>
      have e1 : y0.length = pru.length := by rw [h2]; simp
      omega
    | cons y u =>
      have hg2 : rd y0 (pre.length : Int) = y := by rw [h2, ← hp]; exact rd_mid
      refine ev_succ ?_
      simp only [laws_pSameInts.l0, hg, hg2]
      by_cases c : x = y
      · subst c
        have := ih (pre ++ [x]) u (pru ++ [x]) (by rw [h]; simp) (by rw [h2]; simp) (by simp [hp])
        rw [len_one] at this
        rw [show decide (x :: t = x :: u) = decide (t = u) from by simp, winc (by omega)]
        exact ev_pos hm (ev_pos (by omega) (ev_pos hm (ev_pos (by omega) (ev_pos rfl this))))
      · rw [decide_eq_false (fun e => c (List.cons.inj e).1)]
        exact ev_pos hm (ev_pos (by omega) (ev_pos hm (ev_pos (by omega) (ev_neg c (Ev.now _)))))
theorem same_f (l l' : List Int) (hl : (l.length : Int) ≤ 9223372036854775806) (h : l'.length = l.length) : Ev (fun k => laws_pSameInts.f k l l') (decide (l = l')) := by
  unfold laws_pSameInts.f
  exact ev_pos (by omega) (same_l0 l l' hl h l [] l' [] rfl rfl rfl)
theorem sameI_f (l l' : List Int) (hl : (l.length : Int) ≤ 9223372036854775806) : Ev (fun k => laws_pSameInts.f k l l') (decide (l = l')) := by
  by_cases h : l'.length = l.length
  · exact same_f l l' hl h
  · unfold laws_pSameInts.f
    exact ev_neg (by omega) (ev_some (decide_eq_false (fun e => h (by rw [e]))).symm)
end LW
end Go.Proofs.YtephjmmkggcmeaaQ
namespace Go.Proofs.Ytephjmmkggcmeaa.Pure
open Go Go.RowKit Go.Proofs.YtephjmmkggcmeaaW.PrintWords Go.Proofs.YtephjmmkggcmeaaW.PrintMore Go.Proofs.YtephjmmkggcmeaaGp Go.Proofs.Ytephjmmkggcmeaa.PM Go.Proofs.YtephjmmkggcmeaaQ
open CK (el Pairs Fits)
open Classical

theorem same_from {a b : List Int} (h : a.length = b.length) : a = b ↔ ∀ j, 0 ≤ j → j < a.length → a.getD j 0 = b.getD j 0 := by
  constructor
  · intro e j _ _; rw [e]
  · intro H
    apply List.ext_getElem h
    intro j h1 h2
    have := H j (Nat.zero_le _) h1
    rwa [getD_lt h1, getD_lt h2] at this
theorem equal_f {a b : List Int} (hl : a.length ≤ 1000) : Ev (fun k => slices_Equal_int_int.f k a b) (decide (a = b)) := by
  have H : a.length = b.length → ∀ (d i : Nat), i + d = a.length → Ev (fun k => slices_Equal_int_int.l0 k a b (a.length : Int) (i : Int)) (decide (∀ j, i ≤ j → j < a.length → a.getD j 0 = b.getD j 0)) := by
    intro he d
    induction d with
    | zero =>
      intro i hi
      refine ev_succ ?_
      simp only [slices_Equal_int_int.l0]
      exact ev_neg (by omega) (ev_some (decide_eq_true (fun j h1 h2 => by omega)).symm)
    | succ d ih =>
      intro i hi
      have h1 := ih (i + 1) (by omega)
      refine ev_succ ?_
      simp only [slices_Equal_int_int.l0, rd_nat]
      rw [winc (i := i) (by omega)]
      refine ev_pos (by omega) (ev_pos (by omega) (ev_pos (by omega) (ev_pos (by omega) ?_)))
      by_cases c : a.getD i 0 = b.getD i 0
      · refine ev_pos c ?_
        rw [show decide (∀ j, i ≤ j → j < a.length → a.getD j 0 = b.getD j 0) = decide (∀ j, i + 1 ≤ j → j < a.length → a.getD j 0 = b.getD j 0) from by
          rw [decide_eq_decide]
          refine ⟨fun h j h1 h2 => h j (by omega) h2, fun h j h1 h2 => ?_⟩
          by_cases e2 : j = i
          · subst e2; exact c
          · exact h j (by omega) h2]
        exact h1
      · exact ev_neg c (ev_some (decide_eq_false (fun h => c (h i (Nat.le_refl _) (by omega)))).symm)
  unfold slices_Equal_int_int.f
  by_cases e : a.length = b.length
  · refine ev_pos (by omega) ?_
    rw [show decide (a = b) = decide (∀ j, 0 ≤ j → j < a.length → a.getD j 0 = b.getD j 0) from by rw [decide_eq_decide]; exact same_from e]
    exact H e a.length 0 (by omega)
  · exact ev_neg (by omega) (ev_some (decide_eq_false (fun h => e (by rw [h]))).symm)
theorem same2_f {a b : List Int} (hl : a.length ≤ 1000) : Ev (fun k => spec_l1Same.f k a b) (decide (a = b)) := by
  have H : a.length = b.length → ∀ (d i : Nat), i + d = a.length → Ev (fun k => spec_l1Same.l0 k a b (a.length : Int) (i : Int)) (decide (∀ j, i ≤ j → j < a.length → a.getD j 0 = b.getD j 0)) := by
    intro he d
    induction d with
    | zero =>
      intro i hi
      refine ev_succ ?_
      simp only [spec_l1Same.l0]
      exact ev_neg (by omega) (ev_some (decide_eq_true (fun j h1 h2 => by omega)).symm)
    | succ d ih =>
      intro i hi
      have h1 := ih (i + 1) (by omega)
      refine ev_succ ?_
      simp only [spec_l1Same.l0, rd_nat]
      rw [winc (i := i) (by omega)]
      refine ev_pos (by omega) (ev_pos (by omega) (ev_pos (by omega) (ev_pos (by omega) ?_)))
      by_cases c : a.getD i 0 = b.getD i 0
      · refine ev_pos c ?_
        rw [show decide (∀ j, i ≤ j → j < a.length → a.getD j 0 = b.getD j 0) = decide (∀ j, i + 1 ≤ j → j < a.length → a.getD j 0 = b.getD j 0) from by
          rw [decide_eq_decide]
          refine ⟨fun h j h1 h2 => h j (by omega) h2, fun h j h1 h2 => ?_⟩
          by_cases e2 : j = i
          · subst e2; exact c
          · exact h j (by omega) h2]
        exact h1
      · exact ev_neg c (ev_some (decide_eq_false (fun h => c (h i (Nat.le_refl _) (by omega)))).symm)
  unfold spec_l1Same.f
  by_cases e : a.length = b.length
  · refine ev_pos (by omega) ?_
    rw [show decide (a = b) = decide (∀ j, 0 ≤ j → j < a.length → a.getD j 0 = b.getD j 0) from by rw [decide_eq_decide]; exact same_from e]
    exact H e a.length 0 (by omega)
  · exact ev_neg (by omega) (ev_some (decide_eq_false (fun h => e (by rw [h]))).symm)
theorem own_f {l : List Int} (hl : l.length ≤ 1000) : spec_l1Own.f l = some l := by
  unfold spec_l1Own.f
  simp only [Option.bind_some, List.nil_append]
  exact if_pos (by simp; omega)
theorem clone_f {l : List Int} (hl : l.length ≤ 1000) : slices_Clone_int_int.f l = some l := by
  unfold slices_Clone_int_int.f
  simp only [Option.bind_some, List.nil_append]
  exact if_pos (by simp; omega)
def movesR (tgt : List Int) (f : Nat) (now out : List Int) : List Int × Bool := match MV.moves tgt f now out with
  | some r => (r, true)
  | none => ([], false)
section
variable {tgt : List Int}
theorem im_moved {now out : List Int} (hn : now.length ≤ 1000) {R : List Int × Bool} (H : Ev (fun k => impl_MovesBetween.l0 k tgt now out) R) : ∀ (d i : Nat), i + d = now.length →
    Ev (fun k => impl_MovesBetween.l1 k tgt now out true (now.length : Int) (i : Int)) R := by
  intro d
  induction d with
  | zero =>
    intro i hi
    refine ev_succ ?_
    simp only [impl_MovesBetween.l1]
    exact ev_neg (by omega) (ev_pos (by trivial) H)
  | succ d ih =>
    intro i hi
    refine ev_succ ?_
    simp only [impl_MovesBetween.l1]
    rw [winc (i := i) (by omega)]
    exact ev_pos (by omega) (ev_pos (by trivial) (ih (i + 1) (by omega)))
theorem im_l1 {now out : List Int} (hn : now.length ≤ 1000) (ho : out.length ≤ 100000) (hl : now.length = tgt.length) {R : List Int × Bool}
    (H1 : ∀ j, j < now.length → Ev (fun k => impl_MovesBetween.l0 k tgt (now.set j (tgt.getD j 0)) (out ++ [(j : Int)])) (R) ∨ MV.firstF now tgt now.length 0 ≠ some j)
    (H2 : MV.firstF now tgt now.length 0 = none → R = ([], false)) : ∀ (d i : Nat), i + d = now.length → MV.firstF now tgt now.length 0 = MV.firstF now tgt d i →
    Ev (fun k => impl_MovesBetween.l1 k tgt now out false (now.length : Int) (i : Int)) R := by
  intro d
  induction d with
  | zero =>
    intro i hi hf
    refine ev_succ ?_
    simp only [impl_MovesBetween.l1]
    exact ev_neg (by omega) (ev_neg (by simp) (ev_some (H2 hf).symm))
  | succ d ih =>
    intro i hi hf
    have hil : i < now.length := by omega
    have hc := slices_Contains_int_f now (tgt.getD i 0) (by omega)
    rw [MV.firstF] at hf
    refine ev_succ ?_
    simp only [impl_MovesBetween.l1, rd_nat, Int.toNat_natCast]
    rw [winc (i := i) (by omega)]
    refine ev_pos (by omega) (ev_neg (by simp) (ev_pos (by omega) (ev_pos (by omega) (ev_pos (by omega) ?_))))
    by_cases c : now.getD i 0 = tgt.getD i 0
    · rw [if_neg (by unfold MV.free; rw [Bool.and_eq_true, decide_eq_true_eq]; exact fun h => h.1 c)] at hf
      exact ev_pos c (ih (i + 1) (by omega) hf)
    · refine ev_neg c (ev_bind _ hc ?_)
      by_cases e : now.contains (tgt.getD i 0) = true
      · rw [if_neg (by unfold MV.free; rw [e]; simp)] at hf
        exact ev_pos e (ih (i + 1) (by omega) hf)
      · rw [if_pos (by unfold MV.free; rw [Bool.and_eq_true, decide_eq_true_eq]; exact ⟨c, by simpa using e⟩)] at hf
        refine ev_neg e (ev_pos (by omega) ?_)
        have hlen : ((now.set i (tgt.getD i 0)).length : Int) = (now.length : Int) := by rw [List.length_set]
        have := im_moved (now := now.set i (tgt.getD i 0)) (out := out ++ [(i : Int)]) (by rw [List.length_set]; exact hn) ((H1 i hil).resolve_right (fun h => h hf)) d (i + 1) (by rw [List.length_set]; omega)
        rw [hlen] at this
        exact this
theorem im_l0 : ∀ (f : Nat) (now out : List Int), MV.wrong now tgt < f → now.length = tgt.length → now.length ≤ 1000 → out.length + MV.wrong now tgt ≤ 5000 →
    Ev (fun k => impl_MovesBetween.l0 k tgt now out) (movesR tgt f now out) := by
  intro f
  induction f with
  | zero => intro now out h; omega
  | succ f ih =>
    intro now out h hl hn ho
    have heq := equal_f (a := now) (b := tgt) hn
    unfold movesR
    rw [MV.moves]
    refine ev_succ ?_
    simp only [impl_MovesBetween.l0]
    refine ev_bind _ heq ?_
    by_cases c : now = tgt
    · rw [if_pos c]
      exact ev_pos (decide_eq_true c) (Ev.now _)
    · rw [if_neg c]
      refine ev_neg (by simpa using c) (im_l1 hn (by omega) hl (fun j hj => ?_) (fun hf => by rw [hf]) now.length 0 (by omega) rfl)
      by_cases g : MV.firstF now tgt now.length 0 = some j
      · left
        obtain ⟨h1, _, _⟩ := MV.firstF_some g
        obtain ⟨g1, _⟩ := MV.free_iff.1 h1
        have hw := MV.wrong_set now tgt j hj (by omega) g1
        rw [g]
        exact ih (now.set j (tgt.getD j 0)) (out ++ [(j : Int)]) (by omega) (by rw [List.length_set]; exact hl) (by rw [List.length_set]; exact hn) (by rw [List.length_append, List.length_singleton]; omega)
      · exact .inr g
theorem sm_told {now out : List Int} (hn : now.length ≤ 1000) (ho : out.length ≤ 100000) (hl : now.length = tgt.length) {j : Nat} (hj : j < now.length) {R : List Int × Bool} (H : Ev (fun k => spec_MovesBetween.l0 k tgt (now.set j (tgt.getD j 0)) (out ++ [(j : Int)])) R) : ∀ (d i : Nat), i + d = now.length →
    Ev (fun k => spec_MovesBetween.l1 k tgt now out (j : Int) (now.length : Int) (i : Int)) R := by
  intro d
  induction d with
  | zero =>
    intro i hi
    refine ev_succ ?_
    simp only [spec_MovesBetween.l1, rd_nat, Int.toNat_natCast]
    exact ev_neg (by omega) (ev_neg (by omega) (ev_pos (by omega) (ev_pos (by omega) (ev_pos (by omega) (ev_pos (by omega) H)))))
  | succ d ih =>
    intro i hi
    refine ev_succ ?_
    simp only [spec_MovesBetween.l1]
    rw [winc (i := i) (by omega)]
    exact ev_pos (by omega) (ev_neg (by omega) (ih (i + 1) (by omega)))
theorem sm_l1 {now out : List Int} (hn : now.length ≤ 1000) (ho : out.length ≤ 100000) (hl : now.length = tgt.length) {R : List Int × Bool}
    (H1 : ∀ j, j < now.length → Ev (fun k => spec_MovesBetween.l0 k tgt (now.set j (tgt.getD j 0)) (out ++ [(j : Int)])) (R) ∨ MV.firstF now tgt now.length 0 ≠ some j)
    (H2 : MV.firstF now tgt now.length 0 = none → R = ([], false)) : ∀ (d i : Nat), i + d = now.length → MV.firstF now tgt now.length 0 = MV.firstF now tgt d i →
    Ev (fun k => spec_MovesBetween.l1 k tgt now out (-1) (now.length : Int) (i : Int)) R := by
  intro d
  induction d with
  | zero =>
    intro i hi hf
    refine ev_succ ?_
    simp only [spec_MovesBetween.l1]
    exact ev_neg (by omega) (ev_pos (by omega) (ev_some (H2 hf).symm))
  | succ d ih =>
    intro i hi hf
    have hil : i < now.length := by omega
    have hc := spec_l1Has_f now (tgt.getD i 0) (by omega)
    rw [MV.firstF] at hf
    refine ev_succ ?_
    simp only [spec_MovesBetween.l1, rd_nat]
    rw [winc (i := i) (by omega)]
    refine ev_pos (by omega) (ev_pos (by omega) (ev_pos (by omega) (ev_pos (by omega) (ev_pos (by omega) ?_))))
    by_cases c : now.getD i 0 = tgt.getD i 0
    · rw [if_neg (by unfold MV.free; rw [Bool.and_eq_true, decide_eq_true_eq]; exact fun h => h.1 c)] at hf
      exact ev_pos c (ih (i + 1) (by omega) hf)
    · refine ev_neg c (ev_bind _ hc ?_)
      by_cases e : now.contains (tgt.getD i 0) = true
      · rw [if_neg (by unfold MV.free; rw [e]; simp)] at hf
        exact ev_pos e (ih (i + 1) (by omega) hf)
      · rw [if_pos (by unfold MV.free; rw [Bool.and_eq_true, decide_eq_true_eq]; exact ⟨c, by simpa using e⟩)] at hf
        exact ev_neg e (sm_told hn ho hl hil ((H1 i hil).resolve_right (fun h => h hf)) d (i + 1) (by omega))
theorem sm_l0 : ∀ (f : Nat) (now out : List Int), MV.wrong now tgt < f → now.length = tgt.length → now.length ≤ 1000 → out.length + MV.wrong now tgt ≤ 5000 →
    Ev (fun k => spec_MovesBetween.l0 k tgt now out) (movesR tgt f now out) := by
  intro f
  induction f with
  | zero => intro now out h; omega
  | succ f ih =>
    intro now out h hl hn ho
    have heq := same2_f (a := now) (b := tgt) hn
    unfold movesR
    rw [MV.moves]
    refine ev_succ ?_
    simp only [spec_MovesBetween.l0]
    refine ev_bind _ heq ?_
    by_cases c : now = tgt
    · rw [if_pos c]
      exact ev_pos (decide_eq_true c) (Ev.now _)
    · rw [if_neg c]
      refine ev_neg (by simpa using c) (sm_l1 hn (by omega) hl (fun j hj => ?_) (fun hf => by rw [hf]) now.length 0 (by omega) rfl)
      by_cases g : MV.firstF now tgt now.length 0 = some j
      · left
        obtain ⟨h1, _, _⟩ := MV.firstF_some g
        obtain ⟨g1, _⟩ := MV.free_iff.1 h1
        have hw := MV.wrong_set now tgt j hj (by omega) g1
        rw [g]
        exact ih (now.set j (tgt.getD j 0)) (out ++ [(j : Int)]) (by omega) (by rw [List.length_set]; exact hl) (by rw [List.length_set]; exact hn) (by rw [List.length_append, List.length_singleton]; omega)
      · exact .inr g
end
noncomputable def betw (a : Int) (l : List ByteArray) (n : Int) (from_ tgt : List Int) : List Int × Bool :=
  if keyedC a l n = true ∧ IsPl (prs a n l) from_ ∧ IsPl (prs a n l) tgt then movesR tgt (from_.length + 1) from_ [] else ([], false)
section
variable {a n : Int} {l : List ByteArray}
theorem impl_Moves_f (hl : l.length ≤ 1000) (hz : ∀ s ∈ l, s.size ≤ 1000) {F T : List Int} (hF : ∀ x ∈ F, -1000000 ≤ x ∧ x ≤ 1000000) (hT : ∀ x ∈ T, -1000000 ≤ x ∧ x ≤ 1000000) : Ev (fun k => impl_MovesBetween.f k a l n F T) (betw a l n F T) := by
  have hpf := impl_pairs_f a n (l := l) hl hz
  have hpl := prs_len a n l
  have jt : Ev (fun k => impl_MovesBetween.j0 k F T true) ([], false) := ev_succ (by simp only [impl_MovesBetween.j0]; exact ev_pos (by trivial) (Ev.now _))
  unfold impl_MovesBetween.f betw
  by_cases h : keyedC a l n = true
  · rw [if_pos h] at hpf
    have p1 := impl_isPlacement_f (L := prs a n l) (by omega) prs_two hF
    have p2 := impl_isPlacement_f (L := prs a n l) (by omega) prs_two hT
    refine ev_bind _ hpf (ev_pos rfl (ev_bind _ p1 ?_))
    by_cases c1 : IsPl (prs a n l) F
    · refine ev_pos (decide_eq_true c1) (ev_bind _ p2 ?_)
      by_cases c2 : IsPl (prs a n l) T
      · rw [if_pos ⟨h, c1, c2⟩, decide_eq_true c2]
        refine ev_succ ?_
        have hFl : F.length ≤ 1000 := by rw [c1.1]; omega
        have hw := MV.wrong_le F T
        simp only [impl_MovesBetween.j0, clone_f hFl]
        exact ev_neg (by simp) (ev_bind _ (Ev.now _) (im_l0 (F.length + 1) F [] (by omega) (by rw [c1.1, c2.1]) hFl (by simp; omega)))
      · rw [if_neg (fun g => c2 g.2.2), decide_eq_false c2]
        exact jt
    · rw [if_neg (fun g => c1 g.2.1)]
      exact ev_neg (by simpa using c1) jt
  · rw [if_neg h] at hpf
    rw [if_neg (fun g => h g.1)]
    exact ev_bind _ hpf (ev_neg (by simp) jt)
theorem spec_Moves_f (hl : l.length ≤ 1000) (hz : ∀ s ∈ l, s.size ≤ 1000) {F T : List Int} : Ev (fun k => spec_MovesBetween.f k a l n F T) (betw a l n F T) := by
  have hk := spec_cuKeyed_f a n hl hz
  have hpl := prs_len a n l
  have jt : Ev (fun k => spec_MovesBetween.j0 k F T true) ([], false) := ev_succ (by simp only [spec_MovesBetween.j0]; exact ev_pos (by trivial) (Ev.now _))
  unfold spec_MovesBetween.f betw
  by_cases h : keyedC a l n = true
  · rw [h] at hk
    have h1 := (keyedC_ok h).1
    have p1 := spec_cuPlaced_f (L := prs a n l) (pl := F) (by omega) prs_two
    have p2 := spec_cuPlaced_f (L := prs a n l) (pl := T) (by omega) prs_two
    refine ev_bind _ hk (ev_pos rfl (ev_bind _ (spec_cuPairs_f h1.1 h1.2 hl hz) (ev_bind _ p1 ?_)))
    by_cases c1 : IsPl (prs a n l) F
    · refine ev_pos (decide_eq_true c1) (ev_bind _ p2 ?_)
      by_cases c2 : IsPl (prs a n l) T
      · rw [if_pos ⟨h, c1, c2⟩, decide_eq_true c2]
        refine ev_succ ?_
        have hFl : F.length ≤ 1000 := by rw [c1.1]; omega
        have hw := MV.wrong_le F T
        simp only [spec_MovesBetween.j0, own_f hFl]
        exact ev_neg (by simp) (ev_bind _ (Ev.now _) (sm_l0 (F.length + 1) F [] (by omega) (by rw [c1.1, c2.1]) hFl (by simp; omega)))
      · rw [if_neg (fun g => c2 g.2.2), decide_eq_false c2]
        exact jt
    · rw [if_neg (fun g => c1 g.2.1)]
      exact ev_neg (by simpa using c1) jt
  · rw [Bool.eq_false_iff.2 h] at hk
    rw [if_neg (fun g => h g.1)]
    exact ev_bind _ hk (ev_neg (by simp) (Ev.now _))
theorem impl_IsPl_f (h : keyedC a l n = true) {pl : List Int} (hp : IsPl (prs a n l) pl) : Ev (fun k => impl_IsPlacement.f k a l n pl) (true, true) := by
  obtain ⟨h1, h2, h3⟩ := keyedC_ok h
  obtain ⟨hl, hz⟩ := keys_small h2
  have hpf := impl_pairs_f a n (l := l) (by omega) hz
  rw [if_pos h] at hpf
  have hpl := prs_len a n l
  have hs := IsPl.small (prs_small h) hp
  have p1 := impl_isPlacement_f (L := prs a n l) (by omega) prs_two (pl := pl) (fun x hx => by have := hs x hx; omega)
  rw [decide_eq_true hp] at p1
  unfold impl_IsPlacement.f
  exact ev_bind _ hpf (ev_pos rfl (ev_bind _ p1 (Ev.now _)))
theorem IsPl.move {L : List (List Int)} {F T : List Int} (hF : IsPl L F) (hT : IsPl L T) {i : Nat} (hi : i < F.length) (he : T.getD i 0 ∉ F) : IsPl L (F.set i (T.getD i 0)) := by
  refine ⟨by rw [List.length_set]; exact hF.1, MV.nodup_set i hF.2.1 he, fun j hj => ?_⟩
  rw [MV.getD_set hi]
  split
  · rename_i e; subst e; exact hT.2.2 i (by omega)
  · exact hF.2.2 j hj
theorem mk_l0 (h : keyedC a l n = true) {T : List Int} (hT : IsPl (prs a n l) T) {res : List Int} (hr : res.length ≤ 5000) : ∀ (rest : List Int) (pre : List Int) (now : List Int), MV.Mv T now rest → res = pre ++ rest → IsPl (prs a n l) now → (∀ j : Nat, (j : Int) ∈ pre → now.getD j 0 = T.getD j 0) →
    Ev (fun k => laws_FnMovesKeepPlacements.l0 k a l n T res now res (res.length : Int) (pre.length : Int)) true := by
  intro rest
  induction rest with
  | nil =>
    intro pre now hm hres hp hd
    have e : now = T := by cases hm; rfl
    have hp2 : res = pre := by rw [hres, List.append_nil]
    have hpl := prs_len a n l
    have hl := (keys_small (keyedC_ok h).2.1).1
    have hs := LW.sameI_f now T (by rw [hp.1]; omega)
    rw [decide_eq_true e] at hs
    refine ev_succ ?_
    simp only [laws_FnMovesKeepPlacements.l0]
    rw [hp2]
    exact ev_neg (by omega) (ev_bind _ hs (Ev.now _))
  | cons x rest ih =>
    intro pre now hm hres hp hd
    cases hm with
    | step i _ hi hne hnot hm' =>
      have hpl := prs_len a n l
      have hl := (keys_small (keyedC_ok h).2.1).1
      have hlen : pre.length < res.length := by rw [hres]; simp
      have hx : rd res (pre.length : Int) = (i : Int) := by rw [hres]; exact rd_mid
      have htk : res.take pre.length = pre := by rw [hres]; simp
      have hnl : now.length ≤ 1000 := by rw [hp.1]; omega
      have hTl : now.length = T.length := by rw [hp.1, hT.1]
      have e1 := LW.has_f pre (i : Int) (by omega)
      rw [show pre.contains (i : Int) = false from by
        rw [Bool.eq_false_iff]
        intro hc
        exact hne (hd i (List.contains_iff_mem.1 hc))] at e1
      have e2 := LW.has_f now (T.getD i 0) (by omega)
      rw [show now.contains (T.getD i 0) = false from by rw [Bool.eq_false_iff]; intro hc; exact hnot (List.contains_iff_mem.1 hc)] at e2
      have hmv := IsPl.move hp hT hi hnot
      have e3 := impl_IsPl_f h hmv
      have h1 := ih (pre ++ [(i : Int)]) (now.set i (T.getD i 0)) hm' (by rw [hres]; simp) hmv (fun j hj => by
        rw [MV.getD_set hi]
        split
        · rename_i e; subst e; rfl
        · rename_i e
          rcases List.mem_append.1 hj with hj | hj
          · exact hd j hj
          · exact absurd (by have := List.mem_singleton.1 hj; omega) e)
      rw [len_one] at h1
      refine ev_succ ?_
      simp only [laws_FnMovesKeepPlacements.l0, hx, Int.toNat_natCast, htk, rd_nat]
      refine ev_pos (by omega) (ev_pos (by omega) (ev_pos (by omega) (ev_neg (by omega) (ev_neg (by omega) (ev_pos (by omega) (ev_bind _ e1 (ev_neg (by simp) (ev_pos (by omega) (ev_pos (by omega) (ev_bind _ e2 ?_))))))))))
      refine ev_succ ?_
      simp only [laws_FnMovesKeepPlacements.j2, Int.toNat_natCast, rd_nat]
      rw [winc (i := pre.length) (by omega)]
      exact ev_neg (by simp) (ev_pos (by omega) (ev_pos (by omega) (ev_pos (by omega) (ev_bind _ (Ev.now _) (ev_bind _ e3 (ev_pos rfl (ev_pos rfl h1)))))))
end
theorem drawPlace_ok {s : List Int} (hs : Bys s) {p : Int} (sd : Int) (h0 : 0 ≤ p) (h1 : p ≤ 100000000000000000) : ∃ v p' sd', spec_l1Cur_place.f s p sd 5 = some (v, p', sd') ∧ (-1 ≤ v ∧ v ≤ 8) ∧ 0 ≤ p' ∧ p' ≤ p + 2 := by
  obtain ⟨v, p1, sd1, e1, hv, q0, q1⟩ := pick_ok hs sd (n := 9) h0 (by omega)
  unfold spec_l1Cur_place.f
  rw [mostN_f, Option.bind_some, if_pos (by omega), show wrap64 (5 + 4) = 9 from w64 (by omega) (by omega), e1]
  refine ⟨_, p1, sd1, rfl, ?_, q0, by omega⟩
  rw [w64 (by omega) (by omega)]
  omega
def Vals (l : List Int) : Prop := l.length ≤ 1000 ∧ ∀ x ∈ l, -1 ≤ x ∧ x ≤ 1000
theorem Vals.one {l : List Int} (h : Vals l) (hl : l.length ≤ 900) {v : Int} (hv : -1 ≤ v ∧ v ≤ 1000) : Vals (l ++ [v]) :=
  ⟨by rw [List.length_append, List.length_singleton]; omega, fun x hx => by
    rcases List.mem_append.1 hx with hx | hx
    · exact h.2 x hx
    · rw [List.mem_singleton.1 hx]; exact hv⟩
theorem mb_j2 {s : List Int} (hs : Bys s) (a : Int) (l : List ByteArray) (n : Int) {F T : List Int} (hF : Vals F) (hT : Vals T) (hTl : T.length ≤ 900) {p : Int} (sd : Int) (h0 : 0 ≤ p) (h1 : p ≤ 10000000000000000) :
    ∃ A B, Ev (fun k => spec_DrawMovesBetween.j2 k a l n F T s p sd) (a, l, n, A, B) ∧ Vals A ∧ Vals B := by
  obtain ⟨b, p1, sd1, e1, q0, q1⟩ := one_ok hs sd 10 h0 (by omega)
  by_cases c : b = true
  · obtain ⟨v, p2, sd2, e2, hv, r0, r1⟩ := drawPlace_ok hs sd1 q0 (by omega)
    obtain ⟨b2, p3, sd3, e3, s0, s1⟩ := one_ok hs sd2 3 r0 (by omega)
    have hV := hT.one hTl (v := v) (by omega)
    by_cases d : b2 = true
    · refine ⟨T ++ [v], F, ev_succ ?_, hV, hF⟩
      simp only [spec_DrawMovesBetween.j2, e1, e2, e3, Option.bind_some]
      exact ev_pos c (ev_pos (by omega) (ev_pos d (Ev.now _)))
    · refine ⟨F, T ++ [v], ev_succ ?_, hF, hV⟩
      simp only [spec_DrawMovesBetween.j2, e1, e2, e3, Option.bind_some]
      exact ev_pos c (ev_pos (by omega) (ev_neg d (Ev.now _)))
  · obtain ⟨b2, p3, sd3, e3, s0, s1⟩ := one_ok hs sd1 3 q0 (by omega)
    by_cases d : b2 = true
    · refine ⟨T, F, ev_succ ?_, hT, hF⟩
      simp only [spec_DrawMovesBetween.j2, e1, e3, Option.bind_some]
      exact ev_neg c (ev_pos d (Ev.now _))
    · refine ⟨F, T, ev_succ ?_, hF, hT⟩
      simp only [spec_DrawMovesBetween.j2, e1, e3, Option.bind_some]
      exact ev_neg c (ev_neg d (Ev.now _))
theorem mb_l0 {s : List Int} (hs : Bys s) (a : Int) (l : List ByteArray) (n : Int) {F : List Int} (hF : Vals F) {L : List (List Int)} (hL : Small L) (hp : Pairs L) (hLn : L.length ≤ 900) : ∀ (m : Nat) (T : List Int) (p sd : Int), (T = [] ∨ (T.length = L.length ∧ ∀ j, j < L.length → T.getD j 0 ∈ el L j)) → 0 ≤ p → p + 2 * (m : Int) ≤ 10000000000000000 →
    ∃ A B, Ev (fun k => spec_DrawMovesBetween.l0 k a l n F T L (m : Int) s p sd) (a, l, n, A, B) ∧ Vals A ∧ Vals B := by
  have hVT : ∀ T : List Int, (T = [] ∨ (T.length = L.length ∧ ∀ j, j < L.length → T.getD j 0 ∈ el L j)) → Vals T ∧ T.length ≤ 900 := by
    intro T hT
    rcases hT with rfl | ⟨h1, h2⟩
    · exact ⟨⟨by simp, fun x hx => by cases hx⟩, by simp⟩
    · refine ⟨⟨by omega, fun x hx => ?_⟩, by omega⟩
      obtain ⟨i, hi, e⟩ := List.mem_iff_getElem.1 hx
      have := h2 i (by omega)
      rw [getD_lt hi, e] at this
      have := hL i x this
      omega
  intro m
  induction m with
  | zero =>
    intro T p sd hT h0 h1
    obtain ⟨v1, v2⟩ := hVT T hT
    obtain ⟨A, B, e, hA, hB⟩ := mb_j2 hs a l n hF v1 v2 sd h0 (by omega)
    refine ⟨A, B, ev_succ ?_, hA, hB⟩
    simp only [spec_DrawMovesBetween.l0]
    refine ev_neg (by omega) (ev_succ ?_)
    simp only [spec_DrawMovesBetween.j1]
    exact ev_neg (by simp) e
  | succ m ih =>
    intro T p sd hT h0 h1
    obtain ⟨v1, v2⟩ := hVT T hT
    by_cases c : T.length = 0
    · obtain ⟨A, B, e, hA, hB⟩ := mb_j2 hs a l n hF v1 v2 sd h0 (by omega)
      refine ⟨A, B, ev_succ ?_, hA, hB⟩
      simp only [spec_DrawMovesBetween.l0]
      refine ev_pos (by omega) ?_
      rw [decide_eq_false (show ¬ ((T.length : Int) > 0) by omega)]
      refine ev_succ ?_
      simp only [spec_DrawMovesBetween.j1]
      exact ev_neg (by simp) e
    · rcases hT with rfl | ⟨t1, t2⟩
      · exact absurd rfl c
      obtain ⟨v, p1, sd1, e1, hv, q0, q1⟩ := pick_ok hs sd (n := (T.length : Int)) h0 (by omega)
      obtain ⟨i, rfl⟩ : ∃ i : Nat, v = (i : Int) := ⟨v.toNat, by omega⟩
      have hiT : i < T.length := by omega
      obtain ⟨x, y, he⟩ := hp i (by omega)
      have hx := hL i x (by rw [he]; simp)
      have hy := hL i y (by rw [he]; simp)
      have hti := t2 i (by omega)
      have htv := hL i _ hti
      have hcell : x + y - T.getD i 0 ∈ el L i := by
        rw [he] at hti ⊢
        rcases List.mem_cons.1 hti with e | e
        · rw [e]; simp; omega
        · rw [List.mem_singleton.1 e]; simp
      have r0 : rd [x, y] 0 = x := rfl
      have r1 : rd [x, y] 1 = y := rfl
      have hw : wrap64 (wrap64 (x + y) - T.getD i 0) = x + y - T.getD i 0 := by rw [w64 (x := x + y) (by omega) (by omega), w64 (by omega) (by omega)]
      have hc := spec_l1Has_f T (x + y - T.getD i 0) (by omega)
      by_cases d : T.contains (x + y - T.getD i 0) = true
      · obtain ⟨A, B, e, hA, hB⟩ := ih T p1 sd1 (.inr ⟨t1, t2⟩) q0 (by omega)
        refine ⟨A, B, ev_succ ?_, hA, hB⟩
        simp only [spec_DrawMovesBetween.l0]
        refine ev_pos (by omega) ?_
        rw [decide_eq_true (show ((T.length : Int) > 0) by omega)]
        refine ev_succ ?_
        simp only [spec_DrawMovesBetween.j1, e1, Option.bind_some, rdll_nat, he, r0, r1, rd_nat, hw]
        rw [wdec (i := m) (by omega)]
        exact ev_pos (by trivial) (ev_pos (by omega) (ev_pos (by omega) (ev_pos (by simp) (ev_pos (by simp) (ev_pos (by omega) (ev_bind _ hc (ev_pos d e)))))))
      · obtain ⟨A, B, e, hA, hB⟩ := ih (T.set i (x + y - T.getD i 0)) p1 sd1 (.inr ⟨by rw [List.length_set]; exact t1, fun j hj => by
          rw [MV.getD_set hiT]
          split
          · rename_i e; subst e; exact hcell
          · exact t2 j hj⟩) q0 (by omega)
        refine ⟨A, B, ev_succ ?_, hA, hB⟩
        simp only [spec_DrawMovesBetween.l0]
        refine ev_pos (by omega) ?_
        rw [decide_eq_true (show ((T.length : Int) > 0) by omega)]
        refine ev_succ ?_
        simp only [spec_DrawMovesBetween.j1, e1, Option.bind_some, rdll_nat, he, r0, r1, rd_nat, hw, Int.toNat_natCast]
        rw [wdec (i := m) (by omega)]
        exact ev_pos (by trivial) (ev_pos (by omega) (ev_pos (by omega) (ev_pos (by simp) (ev_pos (by simp) (ev_pos (by omega) (ev_bind _ hc (ev_neg d e)))))))
theorem DrawMoves_ok {s : List Int} (hs : Bys s) : ∃ a l n A B, Ev (fun k => spec_DrawMovesBetween.f k s) (a, l, n, A, B) ∧ Kys 42 l ∧ Vals A ∧ Vals B := by
  obtain ⟨a, l, n, p1, sd1, e1, _, hk, _, q0, q1⟩ := keyed_ok hs 0 (p := 0) (by omega) (by omega)
  have hl : l.length ≤ 1000 := by have := hk.1; omega
  have hz : ∀ s ∈ l, s.size ≤ 1000 := fun s hs => by have := hk.2 s hs; omega
  have hkk := spec_cuKeyed_f a n hl hz
  by_cases h : keyedC a l n = true
  · rw [h] at hkk
    have h1 := (keyedC_ok h).1
    have hpl := prs_len a n l
    have h40 := (keys_small (keyedC_ok h).2.1).1
    obtain ⟨v, p2, sd2, e2, hv, r0, r1⟩ := pick_ok hs sd1 (n := 12) q0 (by omega)
    obtain ⟨m, rfl⟩ : ∃ m : Nat, v = (m : Int) := ⟨v.toNat, by omega⟩
    have hpc := spec_cuPlace_f (prs_pairs a n l) (by omega) prs_two
    have hT : (placeC (prs a n l)).1 = [] ∨ ((placeC (prs a n l)).1.length = (prs a n l).length ∧ ∀ j, j < (prs a n l).length → (placeC (prs a n l)).1.getD j 0 ∈ el (prs a n l) j) := by
      by_cases c : Fits (prs a n l)
      · have := placeC_pl (prs_pairs a n l) c
        exact .inr ⟨this.1, this.2.2⟩
      · left; unfold placeC; rw [if_neg c]
    have hFv : Vals (placeC (prs a n l)).1 := by
      by_cases c : Fits (prs a n l)
      · have hP := placeC_pl (prs_pairs a n l) c
        exact ⟨by rw [hP.1]; omega, fun x hx => by have := IsPl.small (prs_small h) hP x hx; omega⟩
      · unfold placeC; rw [if_neg c]; exact ⟨by simp, fun x hx => by cases hx⟩
    obtain ⟨A, B, e, hA, hB⟩ := mb_l0 hs a l n hFv (prs_small h) (prs_pairs a n l) (by omega) m (placeC (prs a n l)).1 p2 sd2 hT r0 (by omega)
    refine ⟨a, l, n, A, B, ?_, hk, hA, hB⟩
    unfold spec_DrawMovesBetween.f
    refine ev_bind _ e1 (ev_bind _ hkk (ev_pos rfl (ev_bind _ (spec_cuPairs_f h1.1 h1.2 hl hz) (ev_bind _ hpc ?_))))
    simp only [own_f hFv.1, Option.bind_some, e2]
    exact e
  · rw [Bool.eq_false_iff.2 h] at hkk
    have hN : Vals [] := ⟨by simp, fun x hx => by cases hx⟩
    obtain ⟨A, B, e, hA, hB⟩ := mb_j2 hs a l n hN hN (by simp) sd1 q0 (by omega)
    refine ⟨a, l, n, A, B, ?_, hk, hA, hB⟩
    unfold spec_DrawMovesBetween.f
    exact ev_bind _ e1 (ev_bind _ hkk (ev_neg (by simp) e))
theorem mv_len {T : List Int} : ∀ {now rest : List Int}, MV.Mv T now rest → rest.length ≤ now.length := by
  intro now rest h
  have H : ∀ {now rest : List Int}, MV.Mv T now rest → now.length = T.length → rest.length ≤ MV.wrong now T := by
    intro now rest h
    induction h with
    | done => intro _; simp
    | step i rest hi hne hnot _ ih =>
      intro hl
      have := ih (by rw [List.length_set]; exact hl)
      have hw := MV.wrong_set _ T i hi (by omega) hne
      rw [List.length_cons]
      omega
  have hl : now.length = T.length := by
    induction h with
    | done => rfl
    | step i rest hi hne hnot _ ih => rw [List.length_set] at ih; exact ih
  have := H h hl
  have := MV.wrong_le now T
  omega
theorem FnMovesKeepPlacements : laws_FnMovesKeepPlacements.Pure := by
  intro l0 l1 h0 _ hw0 h1 _ _
  refine Ev.rounds (r := true) ?_
  unfold laws_FnMovesKeepPlacements.f
  obtain ⟨b, eb, hb⟩ := big_f h0 h1
  rw [eb]
  refine ev_bind _ (Ev.now _) ?_
  by_cases c : b = true
  · exact ev_pos c (Ev.now _)
  obtain ⟨g0, _⟩ := hb (by simpa using c)
  have hs := bys g0 hw0
  obtain ⟨a, l, n, F, T, ed, hk, hF, hT⟩ := DrawMoves_ok hs
  have hl : l.length ≤ 1000 := by have := hk.1; omega
  have hz : ∀ s ∈ l, s.size ≤ 1000 := fun s hs => by have := hk.2 s hs; omega
  have i1 := impl_Moves_f (a := a) (n := n) hl hz (F := F) (T := T) (fun x hx => by have := hF.2 x hx; omega) (fun x hx => by have := hT.2 x hx; omega)
  have s1 := spec_Moves_f (a := a) (n := n) hl hz (F := F) (T := T)
  generalize hM : betw a l n F T = M at i1 s1
  have hMl : M.1.length ≤ 5000 ∧ (M.2 = true → keyedC a l n = true ∧ IsPl (prs a n l) F ∧ IsPl (prs a n l) T ∧ MV.Mv T F M.1) := by
    unfold betw at hM
    split at hM
    · rename_i hc
      unfold movesR at hM
      split at hM
      · rename_i r hr
        obtain ⟨rest, e, hmv⟩ := MV.moves_mv _ _ _ _ hr
        rw [List.nil_append] at e
        subst e
        subst hM
        have := mv_len hmv
        have := hF.1
        exact ⟨by simp only; omega, fun _ => ⟨hc.1, hc.2.1, hc.2.2, hmv⟩⟩
      · subst hM; exact ⟨by simp, fun h => by cases h⟩
    · subst hM; exact ⟨by simp, fun h => by cases h⟩
  obtain ⟨m1, m2⟩ := hMl
  have hsame := LW.sameI_f M.1 M.1 (by omega)
  rw [decide_eq_true rfl] at hsame
  refine ev_neg c (ev_bind _ ed (ev_bind _ i1 (ev_bind _ s1 (ev_neg (by simp) (ev_bind _ hsame (ev_succ ?_))))))
  simp only [laws_FnMovesKeepPlacements.j0]
  refine ev_neg (by simp) ?_
  by_cases d : M.2 = true
  · obtain ⟨k1, k2, k3, k4⟩ := m2 d
    refine ev_pos d (ev_bind _ (Ev.now _) (ev_pos (by have := hF.1; simp; omega) ?_))
    rw [List.nil_append]
    exact mk_l0 k1 k3 m1 M.1 [] F k4 rfl k2 (fun j hj => by cases hj)
  · exact ev_neg d (Ev.now _)
end Go.Proofs.Ytephjmmkggcmeaa.Pure
