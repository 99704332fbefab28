import Derived.Test.YtephjmmkggcmeaaCC5
import Derived.Test.YtephjmmkggcmeaaCC3
import Derived.Test.YtephjmmkggcmeaaCC1
namespace Go.Proofs.YtephjmmkggcmeaaQ.CK
open Classical

def putN : List Nat → Nat → List Nat
  | [], n => [n]
  | x :: t, n => if x < n then x :: putN t n else if x = n then x :: t else n :: x :: t
theorem mem_putN {l : List Nat} {n x : Nat} : x ∈ putN l n ↔ x ∈ l ∨ x = n := by
  induction l with
  | nil => simp [putN]
  | cons y t ih =>
    rw [putN]
    split
    · rw [List.mem_cons, ih, List.mem_cons]
      constructor
      · rintro (h | h | h)
        · exact .inl (.inl h)
        · exact .inl (.inr h)
        · exact .inr h
      · rintro ((h | h) | h)
        · exact .inl h
        · exact .inr (.inl h)
        · exact .inr (.inr h)
    · split
      · rename_i e
        subst e
        constructor
        · exact .inl
        · rintro (h | h)
          · exact h
          · rw [h]; exact List.mem_cons_self
      · rw [List.mem_cons]
        constructor
        · rintro (h | h)
          · exact .inr h
          · exact .inl h
        · rintro (h | h)
          · exact .inr h
          · exact .inl h
theorem sorted_putN {l : List Nat} (n : Nat) (h : l.Pairwise (· < ·)) : (putN l n).Pairwise (· < ·) := by
  induction l with
  | nil => simp [putN]
  | cons y t ih =>
    rw [List.pairwise_cons] at h
    rw [putN]
    split
    · rename_i c
      rw [List.pairwise_cons]
      refine ⟨fun x hx => ?_, ih h.2⟩
      rcases mem_putN.1 hx with hx | hx
      · exact h.1 x hx
      · omega
    · split
      · rw [List.pairwise_cons]; exact h
      · rename_i c1 c2
        rw [List.pairwise_cons, List.pairwise_cons]
        refine ⟨fun x hx => ?_, h⟩
        rcases List.mem_cons.1 hx with hx | hx
        · omega
        · have := h.1 x hx; omega
theorem putN_len {l : List Nat} {n : Nat} (h : n ∉ l) : (putN l n).length = l.length + 1 := by
  induction l with
  | nil => rfl
  | cons y t ih =>
    rw [List.mem_cons, not_or] at h
    rw [putN]
    split
    · rw [List.length_cons, ih h.2, List.length_cons]
    · rw [if_neg (fun e => h.1 e.symm)]
      rfl
theorem sorted_eq : ∀ {l m : List Nat}, l.Pairwise (· < ·) → m.Pairwise (· < ·) → (∀ x, x ∈ l ↔ x ∈ m) → l = m
  | [], [], _, _, _ => rfl
  | [], y :: m, _, _, h => absurd ((h y).2 List.mem_cons_self) (by simp)
  | x :: l, [], _, _, h => absurd ((h x).1 List.mem_cons_self) (by simp)
  | x :: l, y :: m, hl, hm, h => by
    rw [List.pairwise_cons] at hl hm
    have hxy : x = y := by
      have h1 := (h x).1 List.mem_cons_self
      have h2 := (h y).2 List.mem_cons_self
      rcases List.mem_cons.1 h1 with e | h1
      · exact e
      · rcases List.mem_cons.1 h2 with e | h2
        · exact e.symm
        · have := hl.1 y h2
          have := hm.1 x h1
          omega
    subst hxy
    rw [sorted_eq hl.2 hm.2 (fun z => ?_)]
    constructor
    · intro hz
      rcases List.mem_cons.1 ((h z).1 (List.mem_cons_of_mem _ hz)) with e | h'
      · have := hl.1 z hz; omega
      · exact h'
    · intro hz
      rcases List.mem_cons.1 ((h z).2 (List.mem_cons_of_mem _ hz)) with e | h'
      · have := hm.1 z hz; omega
      · exact h'
section
variable {ls : List (List Int)}
noncomputable def passG (ls : List (List Int)) : Nat → Nat → List Nat → Bool → List Nat × Bool
  | 0, _, o, g => (o, g)
  | m + 1, i, o, g => if i ∉ o ∧ ∃ k ∈ o, Adj ls k i then passG ls m (i + 1) (putN o i) true else passG ls m (i + 1) o g
noncomputable def growG (ls : List (List Int)) : Nat → List Nat → List Nat
  | 0, o => o
  | f + 1, o => if (passG ls ls.length 0 o false).2 = true then growG ls f (passG ls ls.length 0 o false).1 else (passG ls ls.length 0 o false).1
structure Part (ls : List (List Int)) (i : Nat) (o : List Nat) : Prop where
  srt : o.Pairwise (· < ·)
  sub : ∀ j ∈ o, j < ls.length ∧ Reach ls i j
  first : i ∈ o
theorem Part.put {i j : Nat} {o : List Nat} (h : Part ls i o) (hj : j < ls.length) {k : Nat} (hk : k ∈ o) (ha : Adj ls k j) : Part ls i (putN o j) :=
  ⟨sorted_putN j h.srt, fun x hx => by
    rcases mem_putN.1 hx with hx | rfl
    · exact h.sub x hx
    · exact ⟨hj, .step (h.sub k hk).2 hj ha⟩, mem_putN.2 (.inl h.first)⟩
theorem passG_part {q : Nat} : ∀ (m i : Nat) (o : List Nat) (g : Bool), i + m = ls.length → Part ls q o → Part ls q (passG ls m i o g).1 ∧ o.length ≤ (passG ls m i o g).1.length ∧ ((passG ls m i o g).2 = true → g = true ∨ o.length < (passG ls m i o g).1.length)
  | 0, _, _, g, _, h => ⟨h, Nat.le_refl _, fun h => .inl h⟩
  | m + 1, i, o, g, e, h => by
    rw [passG]
    split
    · rename_i c
      obtain ⟨c1, k, hk, ha⟩ := c
      obtain ⟨h1, h2, h3⟩ := passG_part m (i + 1) (putN o i) true (by omega) (h.put (by omega) hk ha)
      rw [putN_len c1] at h2
      exact ⟨h1, by omega, fun _ => .inr (by omega)⟩
    · exact passG_part m (i + 1) o g (by omega) h
theorem passG_false : ∀ (m i : Nat) (o : List Nat) (g : Bool), (passG ls m i o g).2 = false → (passG ls m i o g).1 = o ∧ g = false ∧ ∀ j, i ≤ j → j < i + m → j ∉ o → ¬ ∃ k ∈ o, Adj ls k j
  | 0, i, o, g, h => ⟨rfl, h, fun j h1 h2 => by omega⟩
  | m + 1, i, o, g, h => by
    rw [passG] at h ⊢
    split
    · rename_i c
      rw [if_pos c] at h
      have := (passG_false m (i + 1) (putN o i) true h).2.1
      cases this
    · rename_i c
      rw [if_neg c] at h
      obtain ⟨h1, h2, h3⟩ := passG_false m (i + 1) o g h
      refine ⟨h1, h2, fun j a b hj hk => ?_⟩
      by_cases e : j = i
      · subst e; exact c ⟨hj, hk⟩
      · exact h3 j (by omega) (by omega) hj hk
theorem part_len {i : Nat} {o : List Nat} (h : Part ls i o) : o.length ≤ ls.length := by
  have hn : o.Nodup := h.srt.imp (fun h => Nat.ne_of_lt h)
  have := nodup_leN hn (V := List.range ls.length) (fun x hx => List.mem_range.2 (h.sub x hx).1)
  simpa using this
theorem comp_sorted (i : Nat) : (comp ls i).Pairwise (· < ·) := List.pairwise_lt_range.filter _
theorem part_closed {i : Nat} {o : List Nat} (h : Part ls i o) (hc : ∀ j, j < ls.length → j ∉ o → ¬ ∃ k ∈ o, Adj ls k j) : o = comp ls i := by
  refine sorted_eq h.srt (comp_sorted i) (fun x => ?_)
  rw [mem_comp]
  constructor
  · exact h.sub x
  · rintro ⟨hl, hr⟩
    clear hl
    induction hr with
    | refl => exact h.first
    | @step j k h1 hk ha ih =>
      by_cases e : k ∈ o
      · exact e
      · exact absurd ⟨j, ih, ha⟩ (hc k hk e)
theorem growG_comp {i : Nat} : ∀ (f : Nat) (o : List Nat), Part ls i o → ls.length < f + o.length → growG ls f o = comp ls i
  | 0, o, h, hf => by have := part_len h; omega
  | f + 1, o, h, hf => by
    obtain ⟨h1, h2, h3⟩ := passG_part ls.length 0 o false (by omega) h
    rw [growG]
    by_cases c : (passG ls ls.length 0 o false).2 = true
    · rw [if_pos c]
      rcases h3 c with e | h3
      · cases e
      · exact growG_comp f _ h1 (by omega)
    · rw [if_neg c]
      obtain ⟨e1, _, e2⟩ := passG_false ls.length 0 o false (by simpa using c)
      rw [e1]
      exact part_closed h (fun j hj hn => e2 j (by omega) (by omega) hn)
theorem part_one {i : Nat} (hi : i < ls.length) : Part ls i [i] := ⟨by simp, fun j hj => by rw [List.mem_singleton] at hj; subst hj; exact ⟨hi, .refl _⟩, by simp⟩
theorem growG_one {i : Nat} (hi : i < ls.length) : growG ls ls.length [i] = comp ls i := growG_comp _ _ (part_one hi) (by simp)
theorem comp_head {i : Nat} (hi : i < ls.length) : (comp ls i).headD 0 = i ↔ i ∈ heads ls := by
  have hs := comp_sorted (ls := ls) i
  have hm := comp_self (ls := ls) hi
  constructor
  · intro h
    refine mem_heads.2 ⟨hi, fun j hj => ?_⟩
    have hj' : j ∈ comp ls i := mem_comp.2 ⟨hj.lt hi, hj⟩
    cases hc : comp ls i with
    | nil => rw [hc] at hm; cases hm
    | cons x t =>
      rw [hc] at h hj' hs
      simp only [List.headD_cons] at h
      subst h
      rw [List.pairwise_cons] at hs
      rcases List.mem_cons.1 hj' with e | h'
      · omega
      · have := hs.1 j h'; omega
  · intro h
    obtain ⟨_, h2⟩ := mem_heads.1 h
    cases hc : comp ls i with
    | nil => rw [hc] at hm; cases hm
    | cons x t =>
      have hx : x ∈ comp ls i := by rw [hc]; exact List.mem_cons_self
      have := h2 x (mem_comp.1 hx).2
      rw [hc] at hm hs
      rw [List.pairwise_cons] at hs
      simp only [List.headD_cons]
      rcases List.mem_cons.1 hm with e | h'
      · exact e.symm
      · have := hs.1 i h'; omega
end
end Go.Proofs.YtephjmmkggcmeaaQ.CK
namespace Go.Proofs.YtephjmmkggcmeaaQ.CK
open Classical

def nubZ : List Int → List Int
  | [] => []
  | x :: t => if t.contains x then nubZ t else x :: nubZ t
theorem mem_nubZ {l : List Int} {x : Int} : x ∈ nubZ l ↔ x ∈ l := by
  induction l with
  | nil => simp [nubZ]
  | cons y t ih =>
    rw [nubZ]
    split
    · rename_i c
      rw [ih, List.mem_cons]
      refine ⟨.inr, fun h => ?_⟩
      rcases h with rfl | h
      · simpa using c
      · exact h
    · rw [List.mem_cons, List.mem_cons, ih]
theorem nodup_nubZ (l : List Int) : (nubZ l).Nodup := by
  induction l with
  | nil => simp [nubZ]
  | cons y t ih =>
    rw [nubZ]
    split
    · exact ih
    · rename_i c
      rw [List.nodup_cons]
      exact ⟨fun h => c (by simpa using mem_nubZ.1 h), ih⟩
theorem nodup_len {S V : List Int} (hS : S.Nodup) (hV : V.Nodup) (h : ∀ x, x ∈ S ↔ x ∈ V) : S.length = V.length :=
  Nat.le_antisymm (nodup_le hS (fun x hx => (h x).1 hx)) (nodup_le hV (fun x hx => (h x).2 hx))
theorem nubZ_len {l V : List Int} (hV : V.Nodup) (h : ∀ x, x ∈ V ↔ x ∈ l) : (nubZ l).length = V.length :=
  nodup_len (nodup_nubZ l) hV (fun x => mem_nubZ.trans (h x).symm)
section
variable {ls : List (List Int)}
def cellsL (ls : List (List Int)) (is : List Nat) : List Int := is.flatMap (el ls)
def wideN (ls : List (List Int)) (is : List Nat) : Nat := (nubZ (cellsL ls is)).length
theorem mem_cellsL {is : List Nat} {x : Int} : x ∈ cellsL ls is ↔ ∃ i ∈ is, x ∈ el ls i := by simp [cellsL]
theorem cell_comp {i : Nat} (hi : i < ls.length) (x : Int) : Cell ls i x ↔ x ∈ cellsL ls (comp ls i) := by
  rw [mem_cellsL]
  constructor
  · rintro ⟨j, hr, hx⟩
    exact ⟨j, mem_comp.2 ⟨hr.lt hi, hr⟩, hx⟩
  · rintro ⟨j, hj, hx⟩
    exact ⟨j, (mem_comp.1 hj).2, hx⟩
def crowdedB (ls : List (List Int)) (g : List Nat) : Bool := decide (wideN ls g < g.length)
theorem fits_iff : Fits ls ↔ ∀ g ∈ groupsC ls, g.length ≤ wideN ls g := by
  constructor
  · intro h g hg
    obtain ⟨i, hi, rfl⟩ := List.mem_map.1 hg
    have hl := (mem_heads.1 hi).1
    exact h i hl _ (nodup_nubZ _) (fun x => by rw [mem_nubZ]; exact (cell_comp hl x).symm)
  · intro h i hi V hV hx
    obtain ⟨q, hq, hr⟩ := head_of (ls := ls) i i (Nat.le_refl _) hi
    have hql := (mem_heads.1 hq).1
    rw [← comp_eq hql hr]
    have := h _ (List.mem_map.2 ⟨q, hq, rfl⟩)
    rw [wideN, nubZ_len hV (fun x => by rw [hx, cell_comp hi, ← comp_eq hql hr])] at this
    exact this
def mostOf (ls : List (List Int)) (gs : List (List Nat)) : Nat := (gs.map fun g => min g.length (wideN ls g)).sum
theorem mostOf_le (gs : List (List Nat)) : mostOf ls gs ≤ (gs.map List.length).sum := by
  induction gs with
  | nil => simp [mostOf]
  | cons g gs ih =>
    simp only [mostOf, List.map_cons, List.sum_cons] at ih ⊢
    omega
theorem mostOf_lt {gs : List (List Nat)} : mostOf ls gs < (gs.map List.length).sum ↔ ∃ g ∈ gs, wideN ls g < g.length := by
  induction gs with
  | nil => simp [mostOf]
  | cons g gs ih =>
    have hle := mostOf_le (ls := ls) gs
    have e : mostOf ls (g :: gs) = min g.length (wideN ls g) + mostOf ls gs := rfl
    simp only [e, List.map_cons, List.sum_cons, List.mem_cons]
    constructor
    · intro h
      by_cases c : wideN ls g < g.length
      · exact ⟨g, .inl rfl, c⟩
      · obtain ⟨g', h1, h2⟩ := ih.1 (by omega)
        exact ⟨g', .inr h1, h2⟩
    · rintro ⟨g', rfl | h1, h2⟩
      · omega
      · have := ih.2 ⟨g', h1, h2⟩
        omega
noncomputable def mostC (ls : List (List Int)) : Nat := mostOf ls (groupsC ls)
theorem mostC_lt : mostC ls < ls.length ↔ ¬ Fits ls := by
  rw [fits_iff, mostC]
  have := mostOf_lt (ls := ls) (gs := groupsC ls)
  rw [sum_len] at this
  rw [this]
  constructor
  · rintro ⟨g, h1, h2⟩ h
    have := h g h1; omega
  · intro h
    simp only [Classical.not_forall, Nat.not_le] at h
    obtain ⟨g, h1, h2⟩ := h
    exact ⟨g, h1, h2⟩
noncomputable def crowdC (ls : List (List Int)) : Option (List Nat) := (groupsC ls).find? (crowdedB ls)
theorem crowdC_none : crowdC ls = none ↔ Fits ls := by
  rw [crowdC, List.find?_eq_none, fits_iff]
  constructor
  · intro h g hg
    have := h g hg
    simp only [crowdedB, decide_eq_true_eq] at this
    omega
  · intro h g hg
    have := h g hg
    simp only [crowdedB, decide_eq_true_eq]
    omega
theorem crowdC_some {g : List Nat} (h : crowdC ls = some g) : g ∈ groupsC ls ∧ wideN ls g < g.length := by
  refine ⟨List.mem_of_find?_eq_some h, ?_⟩
  have := List.find?_some h
  simpa [crowdedB] using this
theorem mem_groupsC {g : List Nat} (h : g ∈ groupsC ls) : g.Pairwise (· < ·) ∧ (∀ j ∈ g, j < ls.length) ∧ g ≠ [] := by
  obtain ⟨i, hi, rfl⟩ := List.mem_map.1 h
  have hl := (mem_heads.1 hi).1
  exact ⟨comp_sorted i, fun j hj => (mem_comp.1 hj).1, fun e => by have := comp_self (ls := ls) hl; rw [e] at this; cases this⟩
theorem no_own {f : Nat → Int} (hf : Own ls ls.length f) {is : List Nat} (hn : is.Nodup) (hi : ∀ i ∈ is, i < ls.length) : is.length ≤ wideN ls is :=
  own_count hf hn hi (V := nubZ (cellsL ls is)) (fun i hi _ hx => mem_nubZ.2 (mem_cellsL.2 ⟨i, hi, hx⟩))
end
end Go.Proofs.YtephjmmkggcmeaaQ.CK
namespace Go.Proofs.YtephjmmkggcmeaaQ
open Go Go.RowKit Go.Proofs.YtephjmmkggcmeaaW.PrintWords Go.Proofs.YtephjmmkggcmeaaW.PrintMore Go.Proofs.YtephjmmkggcmeaaGp Go.Proofs.Ytephjmmkggcmeaa.PC
open CK (el comp heads groupsC putN passG growG Adj Pairs)
open Classical

def insI (s : Int) : List Int → List Int
  | [] => [s]
  | q :: t => if q < s then q :: insI s t else if q = s then q :: t else s :: q :: t
theorem insI_len (s : Int) : ∀ l, (insI s l).length ≤ l.length + 1
  | [] => by simp [insI]
  | q :: t => by
    have := insI_len s t
    unfold insI
    split
    · simp; omega
    · split <;> simp
theorem put_l0 (x0 : List Int) (s : Int) (hx : x0.length ≤ 1000000) : ∀ (t pre : List Int), x0 = pre ++ t →
    Ev (fun k => spec_l1Put.l0 k x0 s (pre.length : Int)) (pre ++ insI s t) := by
  intro t
  induction t with
  | nil =>
    intro pre h
    have hp : x0 = pre := by rw [h, List.append_nil]
    subst hp
    refine ev_succ ?_
    simp only [spec_l1Put.l0]
    refine ev_neg (by omega) (ev_bind _ (Ev.now _) (ev_pos (by omega) (ev_pos (by omega) (ev_bind _ (Ev.now _) ?_))))
    rw [Int.toNat_natCast, List.take_length, List.nil_append]
    refine ev_pos (by simp; omega) (ev_bind _ (Ev.now _) (ev_pos (by omega) (ev_bind _ (Ev.now _) (ev_bind _ (Ev.now _) (ev_pos (by simp; omega) (ev_some ?_))))))
    simp [insI]
  | cons q t ih =>
    intro pre h
    have hm : ((pre.length : Nat) : Int) < (x0.length : Int) := by rw [h]; exact lt_mid
    have hg : rd x0 (pre.length : Int) = q := by rw [h]; exact rd_mid
    refine ev_succ ?_
    simp only [spec_l1Put.l0, hg]
    refine ev_pos hm (ev_pos (by omega) ?_)
    unfold insI
    by_cases c : q < s
    · refine ev_pos c ?_
      rw [winc (by omega), if_pos c]
      have := ih (pre ++ [q]) (by rw [h]; simp)
      rw [len_one] at this
      simpa using this
    · refine ev_neg c ?_
      rw [if_neg c]
      by_cases d : q = s
      · refine ev_pos d (ev_some ?_)
        rw [if_pos d, h]
      · refine ev_neg d (ev_bind _ (Ev.now _) (ev_pos (by omega) (ev_bind _ (Ev.now _) ?_)))
        have et : x0.take pre.length = pre := by rw [h]; simp
        have ed : x0.drop pre.length = q :: t := by rw [h]; simp
        have hl : x0.length = pre.length + (t.length + 1) := by rw [h]; simp
        rw [Int.toNat_natCast, et, ed, List.nil_append, if_neg d]
        refine ev_pos (by simp; omega) (ev_bind _ (Ev.now _) (ev_pos (by omega) (ev_bind _ (Ev.now _) (ev_bind _ (Ev.now _) (ev_pos (by simp; omega) (ev_some ?_))))))
        simp
theorem put_f (l : List Int) (s : Int) (h : l.length ≤ 1000000) : Ev (fun k => spec_l1Put.f k l s) (insI s l) := put_l0 l s h l [] rfl
theorem zs_put (l : List Nat) (n : Nat) : insI (n : Int) (zs l) = zs (putN l n) := by
  induction l with
  | nil => rfl
  | cons x t ih =>
    have e : zs (x :: t) = (x : Int) :: zs t := rfl
    rw [e, insI, putN]
    by_cases c : x < n
    · rw [if_pos c, if_pos (by omega), ih]; rfl
    · rw [if_neg c, if_neg (by omega)]
      by_cases d : x = n
      · rw [if_pos d, if_pos (by omega)]; rfl
      · rw [if_neg d, if_neg (by omega)]; rfl
section
variable {L : List (List Int)}
theorem adj_pair {k i : Nat} {a b : Int} (h : el L i = [a, b]) : Adj L k i ↔ ((el L k).contains a = true ∨ (el L k).contains b = true) := by
  unfold Adj
  rw [h, List.contains_iff_mem, List.contains_iff_mem]
  constructor
  · rintro ⟨x, h1, h2⟩
    rcases List.mem_cons.1 h2 with rfl | h2
    · exact .inl h1
    · rw [List.mem_singleton.1 h2] at h1; exact .inr h1
  · rintro (h | h)
    · exact ⟨a, h, by simp⟩
    · exact ⟨b, h, by simp⟩
theorem cg_in {o s : List Nat} {i : Nat} (ho : o.length ≤ 2000) (hs : s.length ≤ 2000) (hin : i ∈ o) (p : List Int) {g : Bool} {R : List Int} (hi : i ≤ 1000)
    (H : Ev (fun k => spec_cuGroup.l1 k L (zs o) g L (L.length : Int) ((i + 1 : Nat) : Int)) R) : ∀ (t pre : List Nat), s = pre ++ t →
    Ev (fun k => spec_cuGroup.l2 k L (zs o) g (i : Int) p L (L.length : Int) (i : Int) (zs s) ((zs s).length : Int) (pre.length : Int)) R := by
  have hz : (zs s).length = s.length := zs_len s
  intro t
  induction t with
  | nil =>
    intro pre h
    have hp : s = pre := by rw [h, List.append_nil]
    subst hp
    refine ev_succ ?_
    simp only [spec_cuGroup.l2]
    rw [winc (i := i) (by omega)]
    exact ev_neg (by omega) H
  | cons x t ih =>
    intro pre h
    have hm : pre.length < s.length := by rw [h]; simp
    have h1 := ih (pre ++ [x]) (by rw [h]; simp)
    rw [len_one] at h1
    have hc := spec_l1Has_f (zs o) (i : Int) (by rw [zs_len]; omega)
    rw [zs_contains, decide_eq_true hin] at hc
    refine ev_succ ?_
    simp only [spec_cuGroup.l2]
    rw [winc (i := pre.length) (by omega)]
    exact ev_pos (by omega) (ev_pos (by omega) (ev_pos (by omega) (ev_bind _ hc (ev_pos rfl h1))))
theorem cg_l2 (hL : ∀ e ∈ L, e.length ≤ 1000) {o : List Nat} {i : Nat} (ho : o.length ≤ 1000) (hlt : ∀ k ∈ o, k < L.length) (hin : i ∉ o) {a b : Int} (he : el L i = [a, b]) {g : Bool} {R : List Int} (hi : i ≤ 1000)
    (H1 : (∃ k ∈ o, Adj L k i) → Ev (fun k => spec_cuGroup.l1 k L (zs (putN o i)) true L (L.length : Int) ((i + 1 : Nat) : Int)) R)
    (H2 : (¬ ∃ k ∈ o, Adj L k i) → Ev (fun k => spec_cuGroup.l1 k L (zs o) g L (L.length : Int) ((i + 1 : Nat) : Int)) R) : ∀ (t pre : List Nat), o = pre ++ t → (∀ k ∈ pre, ¬ Adj L k i) →
    Ev (fun k => spec_cuGroup.l2 k L (zs o) g (i : Int) [a, b] L (L.length : Int) (i : Int) (zs o) ((zs o).length : Int) (pre.length : Int)) R := by
  have hz : (zs o).length = o.length := zs_len o
  intro t
  induction t with
  | nil =>
    intro pre h hpre
    have hp : o = pre := by rw [h, List.append_nil]
    subst hp
    refine ev_succ ?_
    simp only [spec_cuGroup.l2]
    rw [winc (i := i) (by omega)]
    exact ev_neg (by omega) (H2 (fun ⟨k, hk, ha⟩ => hpre k hk ha))
  | cons x t ih =>
    intro pre h hpre
    have hm : pre.length < o.length := by rw [h]; simp
    have hx : rd (zs o) (pre.length : Int) = (x : Int) := by
      rw [zs_get o hm]
      simp [h]
    have hxo : x ∈ o := by rw [h]; simp
    have hxl := hlt x hxo
    have hc := spec_l1Has_f (zs o) (i : Int) (by rw [zs_len]; omega)
    rw [zs_contains, decide_eq_false hin] at hc
    have hel := el_len hL x
    have ha := spec_l1Has_f (el L x) a (by omega)
    have hb := spec_l1Has_f (el L x) b (by omega)
    have hput := put_f (zs o) (i : Int) (by rw [zs_len]; omega)
    rw [zs_put] at hput
    have hgo : Adj L x i → Ev (fun k => spec_cuGroup.l2 k L (zs (putN o i)) true (i : Int) [a, b] L (L.length : Int) (i : Int) (zs o) ((zs o).length : Int) ((pre.length + 1 : Nat) : Int)) R := fun had => by
      have := cg_in (o := putN o i) (s := o) (i := i) (by rw [CK.putN_len hin]; omega) (by omega) (CK.mem_putN.2 (.inr rfl)) [a, b] hi (H1 ⟨x, hxo, had⟩) t (pre ++ [x]) (by rw [h]; simp)
      rw [len_one] at this
      exact this
    refine ev_succ ?_
    simp only [spec_cuGroup.l2, hx, rdll_nat]
    rw [winc (i := pre.length) (by omega)]
    refine ev_pos (by omega) (ev_pos (by omega) (ev_pos (by omega) (ev_bind _ hc (ev_neg (by simp) (ev_pos (by omega) (ev_pos (by omega) (ev_pos (by simp) ?_)))))))
    refine ev_bind _ ha ?_
    by_cases c1 : (el L x).contains a = true
    · exact ev_pos c1 (ev_bind _ hput (hgo ((adj_pair he).2 (.inl c1))))
    · refine ev_neg c1 (ev_pos (by simp) (ev_bind _ hb ?_))
      by_cases c2 : (el L x).contains b = true
      · exact ev_pos c2 (ev_bind _ hput (hgo ((adj_pair he).2 (.inr c2))))
      · have h1 := ih (pre ++ [x]) (by rw [h]; simp) (fun k hk => by
          rcases List.mem_append.1 hk with hk | hk
          · exact hpre k hk
          · rw [List.mem_singleton.1 hk, adj_pair he]
            exact fun h => h.elim c1 c2)
        rw [len_one] at h1
        exact ev_neg c2 h1
theorem cg_l1 (hp : Pairs L) (hn : L.length ≤ 1000) (hL : ∀ e ∈ L, e.length ≤ 1000) {q : Nat} {R : List Int} : ∀ (d i : Nat) (o : List Nat) (g : Bool), i + d = L.length → CK.Part L q o →
    Ev (fun k => spec_cuGroup.l0 k L (zs (passG L d i o g).1) (passG L d i o g).2) R →
    Ev (fun k => spec_cuGroup.l1 k L (zs o) g L (L.length : Int) (i : Int)) R := by
  intro d
  induction d with
  | zero =>
    intro i o g hi hP H
    refine ev_succ ?_
    simp only [spec_cuGroup.l1, passG] at H ⊢
    exact ev_neg (by omega) H
  | succ d ih =>
    intro i o g hi hP H
    obtain ⟨a, b, he⟩ := hp i (by omega)
    have hlen := CK.part_len hP
    rw [passG] at H
    refine ev_succ ?_
    simp only [spec_cuGroup.l1, rdll_nat, he]
    refine ev_pos (by omega) (ev_pos (by omega) (ev_pos (by omega) ?_))
    by_cases c : i ∈ o
    · rw [if_neg (fun h => h.1 c)] at H
      exact cg_in (by omega) (by omega) c [a, b] (by omega) (ih (i + 1) o g (by omega) hP H) o [] rfl
    · by_cases e : ∃ k ∈ o, Adj L k i
      · rw [if_pos ⟨c, e⟩] at H
        obtain ⟨k, hk, ha⟩ := e
        exact cg_l2 hL (by omega) (fun k hk => (hP.sub k hk).1) c he (by omega) (fun _ => ih (i + 1) (putN o i) true (by omega) (hP.put (by omega) hk ha) H) (fun h => absurd ⟨k, hk, ha⟩ h) o [] rfl (fun k hk => by cases hk)
      · rw [if_neg (fun h => e h.2)] at H
        exact cg_l2 hL (by omega) (fun k hk => (hP.sub k hk).1) c he (by omega) (fun h => absurd h e) (fun _ => ih (i + 1) o g (by omega) hP H) o [] rfl (fun k hk => by cases hk)
theorem cg_l0 (hp : Pairs L) (hn : L.length ≤ 1000) (hL : ∀ e ∈ L, e.length ≤ 1000) {q : Nat} : ∀ (f : Nat) (o : List Nat), CK.Part L q o → L.length < f + o.length →
    Ev (fun k => spec_cuGroup.l0 k L (zs o) true) (zs (growG L f o)) := by
  intro f
  induction f with
  | zero => intro o h hf; have := CK.part_len h; omega
  | succ f ih =>
    intro o h hf
    obtain ⟨h1, h2, h3⟩ := CK.passG_part L.length 0 o false (by omega) h
    refine ev_succ ?_
    simp only [spec_cuGroup.l0]
    refine ev_pos (by trivial) (cg_l1 hp hn hL L.length 0 o false (by omega) h ?_)
    rw [growG]
    by_cases c : (passG L L.length 0 o false).2 = true
    · rw [if_pos c, c]
      refine ih _ h1 ?_
      rcases h3 c with e | h3
      · cases e
      · omega
    · rw [if_neg c, Bool.eq_false_iff.2 c]
      refine ev_succ ?_
      simp only [spec_cuGroup.l0]
      exact ev_neg (by simp) (Ev.now _)
theorem spec_cuGroup_f (hp : Pairs L) (hn : L.length ≤ 1000) (hL : ∀ e ∈ L, e.length ≤ 1000) {i : Nat} (hi : i < L.length) : Ev (fun k => spec_cuGroup.f k L (i : Int)) (zs (comp L i)) := by
  unfold spec_cuGroup.f
  have := cg_l0 hp hn hL (q := i) L.length [i] (CK.part_one hi) (by simp)
  rw [CK.growG_one hi] at this
  exact this
theorem spec_cuGroups_f (hp : Pairs L) (hn : L.length ≤ 1000) (hL : ∀ e ∈ L, e.length ≤ 1000) : Ev (fun k => spec_cuGroups.f k L) ((groupsC L).map zs) := by
  have H : ∀ (d i : Nat), i + d = L.length → Ev (fun k => spec_cuGroups.l0 k L ((((List.range i).filter fun x => decide (x ∈ heads L)).map (comp L)).map zs) (L.length : Int) (i : Int)) ((((List.range L.length).filter fun x => decide (x ∈ heads L)).map (comp L)).map zs) := by
    intro d
    induction d with
    | zero =>
      intro i hi
      obtain rfl : i = L.length := by omega
      refine ev_succ ?_
      simp only [spec_cuGroups.l0]
      exact ev_neg (by omega) (Ev.now _)
    | succ d ih =>
      intro i hi
      have hil : i < L.length := by omega
      have h1 := ih (i + 1) (by omega)
      have hg := spec_cuGroup_f hp hn hL hil
      have hm := CK.comp_self hil
      have hh := CK.comp_head hil
      have hlen : ((((List.range i).filter fun x => decide (x ∈ heads L)).map (comp L)).map zs).length ≤ i := by
        rw [List.length_map, List.length_map]
        have := List.length_filter_le (fun x => decide (x ∈ heads L)) (List.range i)
        rwa [List.length_range] at this
      have hpos : 0 < (zs (comp L i)).length := by rw [zs_len]; exact List.length_pos_of_mem hm
      have h0 : rd (zs (comp L i)) 0 = ((comp L i).headD 0 : Nat) := by
        cases hc : comp L i with
        | nil => rw [hc] at hm; cases hm
        | cons x t => rfl
      rw [List.range_succ, List.filter_append, List.map_append, List.map_append] at h1
      refine ev_succ ?_
      simp only [spec_cuGroups.l0]
      rw [winc (by omega)]
      refine ev_pos (by omega) (ev_bind _ hg (ev_pos (by omega) ?_))
      by_cases c : i ∈ heads L
      · rw [List.filter_cons, if_pos (by simpa using c), List.filter_nil] at h1
        exact ev_pos (by rw [h0]; have := hh.2 c; omega) (ev_pos (by omega) h1)
      · rw [List.filter_cons, if_neg (by simpa using c), List.filter_nil, List.map_nil, List.map_nil, List.append_nil] at h1
        exact ev_neg (by rw [h0]; intro e; exact c (hh.1 (by omega))) h1
  have e : (List.range L.length).filter (fun x => decide (x ∈ heads L)) = heads L := by
    have : ∀ x ∈ List.range L.length, decide (x ∈ heads L) = decide (∀ j, CK.Reach L x j → x ≤ j) := fun x hx => by
      rw [decide_eq_decide, CK.mem_heads]
      exact ⟨fun h => h.2, fun h => ⟨List.mem_range.1 hx, h⟩⟩
    unfold heads
    refine List.filter_congr (fun x hx => ?_)
    have := this x hx
    unfold heads at this
    exact this
  have h := H L.length 0 (by omega)
  unfold spec_cuGroups.f groupsC
  rw [e] at h
  exact h
end
end Go.Proofs.YtephjmmkggcmeaaQ
namespace Go.Proofs.YtephjmmkggcmeaaQ
open Go Go.RowKit Go.Proofs.YtephjmmkggcmeaaW.PrintWords Go.Proofs.YtephjmmkggcmeaaW.PrintMore Go.Proofs.YtephjmmkggcmeaaGp Go.Proofs.Ytephjmmkggcmeaa.PC
open CK (el groupsC Pairs wideN cellsL mostOf mostC)

def Small (L : List (List Int)) : Prop := ∀ i, ∀ x ∈ el L i, 0 ≤ x ∧ x ≤ 1000
theorem mem_nubI {l : List Int} {x : Int} : x ∈ nubI l ↔ x ∈ l := by
  induction l with
  | nil => simp [nubI]
  | cons y t ih =>
    rw [nubI]
    split
    · rename_i c
      rw [ih, List.mem_cons]
      refine ⟨.inr, fun h => h.elim (fun e => ?_) id⟩
      rw [e]; simpa using c
    · rw [List.mem_cons, List.mem_cons, ih]
theorem nodup_nubI (l : List Int) : (nubI l).Nodup := by
  induction l with
  | nil => simp [nubI]
  | cons y t ih =>
    rw [nubI]
    split
    · exact ih
    · rename_i c
      rw [List.nodup_cons]
      exact ⟨fun h => c (by simpa using mem_nubI.1 h), ih⟩
theorem okC_small {x : Int} (h : 0 ≤ x ∧ x ≤ 1000) : okC x = true := by
  unfold okC
  rw [Bool.and_eq_true, decide_eq_true_eq, decide_eq_true_eq]
  omega
section
variable {L : List (List Int)}
theorem impl_cellCount_f (hp : Pairs L) (hs : Small L) {g : List Nat} (hg : ∀ i ∈ g, i < L.length) (hl : g.length ≤ 1000000) : Ev (fun k => impl_cellCount.f k L (zs g)) ((wideN L g : Nat) : Int) := by
  have H : ∀ (t pre : List Nat) (S : List Int), g = pre ++ t → (∀ x, x ∈ S ↔ x ∈ cellsL L pre) → Ev (fun k => impl_cellCount.l0 k L S (zs g) ((zs g).length : Int) (pre.length : Int)) ((wideN L g : Nat) : Int) := by
    have hz : (zs g).length = g.length := zs_len g
    intro t
    induction t with
    | nil =>
      intro pre S h hS
      have hp : g = pre := by rw [h, List.append_nil]
      subst hp
      have e : (nubI S).length = wideN L g := by
        unfold wideN
        exact (CK.nubZ_len (nodup_nubI S) (fun x => mem_nubI.trans (hS x))).symm
      refine ev_succ ?_
      simp only [impl_cellCount.l0]
      exact ev_neg (by omega) (ev_some (by rw [e]))
    | cons x t ih =>
      intro pre S h hS
      have hm : pre.length < g.length := by rw [h]; simp
      have hx : rd (zs g) (pre.length : Int) = (x : Int) := by
        rw [zs_get g hm]
        simp [h]
      have hxl := hg x (by rw [h]; simp)
      obtain ⟨a, b, he⟩ := hp x hxl
      have ha := okC_small (hs x a (by rw [he]; simp))
      have hb := okC_small (hs x b (by rw [he]; simp))
      have h1 := ih (pre ++ [x]) (b :: a :: S) (by rw [h]; simp) (fun y => by
        rw [CK.mem_cellsL, List.mem_cons, List.mem_cons, hS, CK.mem_cellsL]
        constructor
        · rintro (e | e | ⟨i, hi, hy⟩)
          · exact ⟨x, by simp, by rw [he, e]; simp⟩
          · exact ⟨x, by simp, by rw [he, e]; simp⟩
          · exact ⟨i, List.mem_append_left _ hi, hy⟩
        · rintro ⟨i, hi, hy⟩
          rcases List.mem_append.1 hi with hi | hi
          · exact .inr (.inr ⟨i, hi, hy⟩)
          · rw [List.mem_singleton.1 hi, he] at hy
            rcases List.mem_cons.1 hy with e | hy
            · exact .inr (.inl e)
            · exact .inl (List.mem_singleton.1 hy))
      rw [len_one] at h1
      have r0 : rd [a, b] 0 = a := rfl
      have r1 : rd [a, b] 1 = b := rfl
      refine ev_succ ?_
      simp only [impl_cellCount.l0, hx, rdll_nat, he, r0, r1]
      rw [winc (i := pre.length) (by omega)]
      exact ev_pos (by omega) (ev_pos (by omega) (ev_pos (by omega) (ev_pos (by omega) (ev_pos (by omega) (ev_pos (by simp) (ev_pos (by simp) (ev_pos ha (ev_pos hb h1))))))))
  unfold impl_cellCount.f
  exact ev_pos (by rw [zs_len]; exact hl) (H g [] [] rfl (fun x => by simp [cellsL]))
theorem group_ok {g : List Nat} (h : g ∈ groupsC L) : (∀ i ∈ g, i < L.length) ∧ g.length ≤ L.length := by
  obtain ⟨i, hi, rfl⟩ := List.mem_map.1 h
  exact ⟨fun j hj => (CK.mem_comp.1 hj).1, by
    have := CK.nodup_leN (CK.comp_nodup (ls := L) i) (V := List.range L.length) (fun x hx => List.mem_range.2 (CK.mem_comp.1 hx).1)
    rwa [List.length_range] at this⟩
theorem zl_len (G : List (List Nat)) : (G.map zs).length = G.length := List.length_map _
theorem el_map {G : List (List Nat)} {q : Nat} (h : q < G.length) : el (G.map zs) q = zs G[q] := by
  rw [el_get (by rw [zl_len]; exact h), List.getElem_map]
end
section
variable {a n : Int} {l : List ByteArray}
theorem place_small (h : keyedC a l n = true) (s : ByteArray) {c : Int} : 0 ≤ placeV a c s n ∧ placeV a c s n ≤ 1000 := by
  obtain ⟨_, _, h3, h4⟩ := keyedC_ok h
  have := placeV_range a c s h3 (by omega)
  omega
theorem prs_small (h : keyedC a l n = true) : Small (prs a n l) := by
  intro i x hx
  by_cases c : i < l.length
  · rw [prs_el c] at hx
    rcases List.mem_cons.1 hx with e | hx
    · rw [e]; exact place_small h _
    · rw [List.mem_singleton.1 hx]; exact place_small h _
  · unfold el at hx
    rw [List.getD_eq_getElem?_getD, List.getElem?_eq_none (by rw [prs_len]; omega)] at hx
    cases hx
end
end Go.Proofs.YtephjmmkggcmeaaQ
namespace Go.Proofs.YtephjmmkggcmeaaQ
open Go Go.RowKit Go.Proofs.YtephjmmkggcmeaaW.PrintWords Go.Proofs.YtephjmmkggcmeaaGp Go.Proofs.Ytephjmmkggcmeaa.PC

theorem goesI_iff : ∀ (l S : List Int), goesI S l = true ↔ l.Nodup ∧ ∀ x ∈ l, x ∉ S
  | [], S => by simp [goesI]
  | x :: t, S => by
    rw [goesI, Bool.and_eq_true, goesI_iff t (x :: S)]
    simp only [Bool.not_eq_true', List.contains_eq_mem, decide_eq_false_iff_not, List.nodup_cons, List.mem_cons, not_or]
    constructor
    · rintro ⟨h1, h2, h3⟩
      refine ⟨⟨fun h => (h3 x h).1 rfl, h2⟩, fun y hy => ?_⟩
      rcases hy with rfl | hy
      · exact h1
      · exact (h3 y hy).2
    · rintro ⟨⟨h1, h2⟩, h3⟩
      exact ⟨h3 x (.inl rfl), h2, fun y hy => ⟨fun e => h1 (e ▸ hy), h3 y (.inr hy)⟩⟩
def nodB (l : List Int) : Bool := goesI [] l
theorem nodB_iff {l : List Int} : nodB l = true ↔ l.Nodup := by unfold nodB; rw [goesI_iff]; simp
end Go.Proofs.YtephjmmkggcmeaaQ
namespace Go.Proofs.YtephjmmkggcmeaaQ
open Go Go.RowKit Go.Proofs.YtephjmmkggcmeaaW.PrintWords Go.Proofs.YtephjmmkggcmeaaW.PrintMore Go.Proofs.YtephjmmkggcmeaaGp Go.Proofs.Ytephjmmkggcmeaa.PC
open CK (el groupsC Pairs wideN cellsL mostOf mostC Fits greedy)
open Classical

theorem mem_insI {s x : Int} : ∀ {l : List Int}, x ∈ insI s l ↔ x ∈ l ∨ x = s
  | [] => by simp [insI]
  | q :: t => by
    rw [insI]
    split
    · rw [List.mem_cons, mem_insI, List.mem_cons, or_assoc]
    · split
      · rename_i e
        rw [List.mem_cons]
        exact ⟨.inl, fun h => h.elim id (fun h => .inl (h.trans e.symm))⟩
      · rw [List.mem_cons, List.mem_cons]
        exact ⟨fun h => h.elim .inr .inl, fun h => h.elim .inr .inl⟩
theorem sorted_insI {s : Int} : ∀ {l : List Int}, l.Pairwise (· < ·) → (insI s l).Pairwise (· < ·)
  | [], _ => by simp [insI]
  | q :: t, h => by
    rw [List.pairwise_cons] at h
    rw [insI]
    split
    · rename_i c
      rw [List.pairwise_cons]
      refine ⟨fun x hx => ?_, sorted_insI h.2⟩
      rcases mem_insI.1 hx with hx | rfl
      · exact h.1 x hx
      · exact c
    · split
      · exact List.pairwise_cons.2 h
      · rw [List.pairwise_cons]
        refine ⟨fun x hx => ?_, List.pairwise_cons.2 h⟩
        rcases List.mem_cons.1 hx with rfl | hx
        · omega
        · have := h.1 x hx; omega
section
variable {L : List (List Int)}
theorem spec_cuWide_f (hp : Pairs L) {g : List Nat} (hg : ∀ i ∈ g, i < L.length) (hl : g.length ≤ 10000) : Ev (fun k => spec_cuWide.f k L (zs g)) ((wideN L g : Nat) : Int) := by
  have hz : (zs g).length = g.length := zs_len g
  have H : ∀ (t pre : List Nat) (S : List Int), g = pre ++ t → S.Pairwise (· < ·) → S.length ≤ 2 * pre.length → (∀ x, x ∈ S ↔ x ∈ cellsL L pre) → Ev (fun k => spec_cuWide.l0 k L S (zs g) ((zs g).length : Int) (pre.length : Int)) ((wideN L g : Nat) : Int) := by
    intro t
    induction t with
    | nil =>
      intro pre S h hs hsl hS
      have hp : g = pre := by rw [h, List.append_nil]
      subst hp
      have e : S.length = wideN L g := by
        unfold wideN
        exact (CK.nubZ_len (hs.imp (fun h => Int.ne_of_lt h)) hS).symm
      refine ev_succ ?_
      simp only [spec_cuWide.l0]
      exact ev_neg (by omega) (ev_some (by rw [e]))
    | cons x t ih =>
      intro pre S h hs hsl hS
      have hm : pre.length < g.length := by rw [h]; simp
      have hx : rd (zs g) (pre.length : Int) = (x : Int) := by
        rw [zs_get g hm]
        simp [h]
      have hxl := hg x (by rw [h]; simp)
      obtain ⟨a, b, he⟩ := hp x hxl
      have pa := put_f S a (by omega)
      have la := insI_len a S
      have pb := put_f (insI a S) b (by omega)
      have lb := insI_len b (insI a S)
      have h1 := ih (pre ++ [x]) (insI b (insI a S)) (by rw [h]; simp) (sorted_insI (sorted_insI hs)) (by rw [List.length_append, List.length_singleton]; omega) (fun y => by
        rw [CK.mem_cellsL, mem_insI, mem_insI, hS, CK.mem_cellsL]
        constructor
        · rintro ((⟨i, hi, hy⟩ | e) | e)
          · exact ⟨i, List.mem_append_left _ hi, hy⟩
          · exact ⟨x, by simp, by rw [he, e]; simp⟩
          · exact ⟨x, by simp, by rw [he, e]; simp⟩
        · rintro ⟨i, hi, hy⟩
          rcases List.mem_append.1 hi with hi | hi
          · exact .inl (.inl ⟨i, hi, hy⟩)
          · rw [List.mem_singleton.1 hi, he] at hy
            rcases List.mem_cons.1 hy with e | hy
            · exact .inl (.inr e)
            · exact .inr (List.mem_singleton.1 hy))
      rw [len_one] at h1
      have r0 : rd [a, b] 0 = a := rfl
      have r1 : rd [a, b] 1 = b := rfl
      refine ev_succ ?_
      simp only [spec_cuWide.l0, hx, rdll_nat, he, r0, r1]
      rw [winc (i := pre.length) (by omega)]
      exact ev_pos (by omega) (ev_pos (by omega) (ev_pos (by omega) (ev_pos (by omega) (ev_pos (by omega) (ev_pos (by simp) (ev_bind _ pa (ev_pos (by simp) (ev_bind _ pb h1))))))))
  unfold spec_cuWide.f
  exact H g [] [] rfl (by simp) (by simp) (fun x => by simp [cellsL])
theorem least_f (a b : Int) : spec_l1Least.f a b = some (if a < b then a else b) := by
  unfold spec_l1Least.f
  split <;> rfl
theorem mostN_f (a b : Int) : spec_l1Most.f a b = some (if a > b then a else b) := by
  unfold spec_l1Most.f
  split <;> rfl
theorem spec_cuMost_f (hp : Pairs L) (hn : L.length ≤ 1000) (hL : ∀ e ∈ L, e.length ≤ 1000) : Ev (fun k => spec_cuMost.f k L) ((mostC L : Nat) : Int) := by
  have hGl := CK.heads_len (ls := L)
  have hz : ((groupsC L).map zs).length = (groupsC L).length := zl_len _
  have H : ∀ (t pre : List (List Nat)), groupsC L = pre ++ t → Ev (fun k => spec_cuMost.l0 k L ((mostOf L pre : Nat) : Int) ((groupsC L).map zs) (((groupsC L).map zs).length : Int) (pre.length : Int)) ((mostC L : Nat) : Int) := by
    intro t
    induction t with
    | nil =>
      intro pre h
      have hp : groupsC L = pre := by rw [h, List.append_nil]
      refine ev_succ ?_
      simp only [spec_cuMost.l0]
      rw [← hp]
      exact ev_neg (by omega) (Ev.now _)
    | cons g t ih =>
      intro pre h
      have hm : pre.length < (groupsC L).length := by rw [h]; simp
      have hgG : g ∈ groupsC L := by rw [h]; simp
      obtain ⟨g1, g2⟩ := group_ok hgG
      have he : el ((groupsC L).map zs) pre.length = zs g := by
        rw [el_map hm]
        simp [h]
      have hc := spec_cuWide_f hp g1 (by omega)
      have h1 := ih (pre ++ [g]) (by rw [h]; simp)
      have hle := CK.mostOf_le (ls := L) pre
      have hsm : (pre.map List.length).sum = pre.flatten.length := by rw [List.length_flatten]
      have hfl := CK.flat_len (ls := L)
      rw [h, List.flatten_append, List.length_append] at hfl
      have em : mostOf L (pre ++ [g]) = mostOf L pre + min g.length (wideN L g) := by
        unfold mostOf
        rw [List.map_append, List.sum_append]
        simp
      rw [len_one, em] at h1
      have hmin : (if ((zs g).length : Int) < ((wideN L g : Nat) : Int) then ((zs g).length : Int) else ((wideN L g : Nat) : Int)) = ((min g.length (wideN L g) : Nat) : Int) := by
        rw [zs_len]; split <;> omega
      refine ev_succ ?_
      simp only [spec_cuMost.l0, rdll_nat, he, least_f]
      rw [winc (i := pre.length) (by omega)]
      refine ev_pos (by omega) (ev_pos (by omega) (ev_pos (by omega) (ev_bind _ hc (ev_bind _ (Ev.now _) ?_))))
      rw [hmin, w64 (by omega) (by omega), show ((mostOf L pre : Nat) : Int) + ((min g.length (wideN L g) : Nat) : Int) = ((mostOf L pre + min g.length (wideN L g) : Nat) : Int) from by omega]
      exact h1
  unfold spec_cuMost.f
  exact ev_bind _ (spec_cuGroups_f hp hn hL) (H _ [] rfl)
theorem two_set {F : List (List Int)} (hF : ∀ e ∈ F, e.length ≤ 1000) (i : Nat) (a b : Int) : ∀ e ∈ F.set i [a, b], e.length ≤ 1000 := fun e he => by
  rcases List.mem_or_eq_of_mem_set he with h | h
  · exact hF e h
  · rw [h]; simp
theorem place_l0 (hn : L.length ≤ 1000) : ∀ (d i : Nat) (F : List (List Int)) (acc : List Int), i + d = L.length → F.length = L.length → Pairs F → (∀ e ∈ F, e.length ≤ 1000) → (∀ j, i ≤ j → el F j = el L j) → acc.length = i →
    Ev (fun k => spec_cuPlace.l0 k L F acc L (L.length : Int) (i : Int)) (acc ++ greedy d i F, true) := by
  intro d
  induction d with
  | zero =>
    intro i F acc hi hl hp hF hj ha
    refine ev_succ ?_
    simp only [spec_cuPlace.l0, greedy, List.append_nil]
    exact ev_neg (by omega) (Ev.now _)
  | succ d ih =>
    intro i F acc hi hl hp hF hj ha
    obtain ⟨a, b, he⟩ := hp i (by omega)
    have heL : el L i = [a, b] := by rw [← hj i (Nat.le_refl _)]; exact he
    have g0 : (el F i).getD 0 0 = a := by rw [he]; rfl
    have g1 : (el F i).getD 1 0 = b := by rw [he]; rfl
    have r0 : rd [a, b] 0 = a := rfl
    have r1 : rd [a, b] 1 = b := rfl
    rw [greedy]
    simp only [g0, g1]
    generalize hlo : (if a ≤ b then a else b) = lo
    generalize hhi : (if a ≤ b then b else a) = hi2
    have elo : (if a < b then a else b) = lo := by rw [← hlo]; split <;> split <;> omega
    have ehi : (if a > b then a else b) = hi2 := by rw [← hhi]; split <;> split <;> omega
    have hm := spec_cuMost_f (L := F.set i [lo, lo]) (hp.set i lo lo) (by rw [List.length_set]; omega) (two_set hF i lo lo)
    have hml := CK.mostC_lt (ls := F.set i [lo, lo])
    have hset : ∀ v : Int, ∀ j, i + 1 ≤ j → el (F.set i [v, v]) j = el L j := fun v j hji => by rw [CK.el_set_ne (by omega), hj j (by omega)]
    have s1 : ∀ v : Int, Ev (fun k => spec_cuPlace.l0 k L (F.set i [v, v]) (acc ++ [v]) L (L.length : Int) ((i + 1 : Nat) : Int)) (acc ++ [v] ++ greedy d (i + 1) (F.set i [v, v]), true) := fun v =>
      ih (i + 1) (F.set i [v, v]) (acc ++ [v]) (by omega) (by rw [List.length_set]; exact hl) (hp.set i v v) (two_set hF i v v) (hset v) (by simp [ha])
    rw [List.length_set, hl] at hml
    refine ev_succ ?_
    simp only [spec_cuPlace.l0, rdll_nat, heL, r0, r1, least_f, mostN_f, elo, ehi, Int.toNat_natCast]
    rw [winc (i := i) (by omega)]
    refine ev_pos (by omega) (ev_pos (by omega) (ev_pos (by omega) (ev_pos (by simp) (ev_pos (by simp) (ev_bind _ (Ev.now _) (ev_pos (by omega) (ev_bind _ (Ev.now _) (ev_bind _ hm ?_))))))))
    simp only [List.set_set]
    by_cases c : Fits (F.set i [lo, lo])
    · rw [if_pos c]
      refine ev_neg (fun h => (hml.1 (by omega)) c) (ev_pos (by omega) ?_)
      have := s1 lo
      rw [List.append_assoc] at this
      exact this
    · rw [if_neg c]
      refine ev_pos (by have := hml.2 c; omega) (ev_bind _ (Ev.now _) (ev_pos (by omega) ?_))
      have := s1 hi2
      rw [List.append_assoc] at this
      exact this
noncomputable def placeC (L : List (List Int)) : List Int × Bool := if Fits L then (greedy L.length 0 L, true) else ([], false)
theorem spec_cuPlace_f (hp : Pairs L) (hn : L.length ≤ 1000) (hL : ∀ e ∈ L, e.length ≤ 1000) : Ev (fun k => spec_cuPlace.f k L) (placeC L) := by
  have hm := spec_cuMost_f hp hn hL
  have hml := CK.mostC_lt (ls := L)
  unfold spec_cuPlace.f placeC
  refine ev_bind _ hm ?_
  by_cases c : Fits L
  · rw [if_pos c]
    refine ev_neg (fun h => (hml.1 (by omega)) c) (ev_bind _ (Ev.now _) (ev_pos (by simp; omega) ?_))
    have := place_l0 hn L.length 0 L [] (by omega) rfl hp hL (fun _ _ => rfl) rfl
    exact this
  · rw [if_neg c]
    exact ev_pos (by have := hml.2 c; omega) (Ev.now _)
def IsPl (L : List (List Int)) (pl : List Int) : Prop := pl.length = L.length ∧ pl.Nodup ∧ ∀ j, j < L.length → pl.getD j 0 ∈ el L j
theorem distinct_ok {l : List Int} (hl : l.length ≤ 1000000) (hr : ∀ x ∈ l, -1000000 ≤ x ∧ x ≤ 1000000) : impl_distinct.f l = some (nodB l) := by
  unfold impl_distinct.f
  refine if_pos ⟨hl, ?_⟩
  rw [List.all_eq_true]
  intro x hx
  have := hr x hx
  simp [okI]
  omega
theorem impl_isPlacement_f (hn : L.length ≤ 1000) (hL : ∀ e ∈ L, e.length ≤ 1000) {pl : List Int} (hr : ∀ x ∈ pl, -1000000 ≤ x ∧ x ≤ 1000000) : Ev (fun k => impl_isPlacement.f k L pl) (decide (IsPl L pl)) := by
  have jt : Ev (fun k => impl_isPlacement.j0 k L pl true) false := ev_succ (by simp only [impl_isPlacement.j0]; exact ev_pos (by trivial) (Ev.now _))
  have H : pl.length = L.length → ∀ (d i : Nat), i + d = pl.length → Ev (fun k => impl_isPlacement.l0 k L pl (pl.length : Int) (i : Int)) (decide (∀ j, i ≤ j → j < L.length → pl.getD j 0 ∈ el L j)) := by
    intro hlen d
    induction d with
    | zero =>
      intro i hi
      refine ev_succ ?_
      simp only [impl_isPlacement.l0]
      exact ev_neg (by omega) (ev_some (decide_eq_true (fun j h1 h2 => by omega)).symm)
    | succ d ih =>
      intro i hi
      have h1 := ih (i + 1) (by omega)
      have hc := slices_Contains_int_f (el L i) (pl.getD i 0) (by have := el_len hL i; omega)
      refine ev_succ ?_
      simp only [impl_isPlacement.l0, rd_nat, rdll_nat]
      rw [winc (i := i) (by omega)]
      refine ev_pos (by omega) (ev_pos (by omega) (ev_pos (by omega) (ev_pos (by omega) (ev_bind _ hc ?_))))
      by_cases c : (el L i).contains (pl.getD i 0) = true
      · refine ev_pos c ?_
        rw [show (decide (∀ j, i ≤ j → j < L.length → pl.getD j 0 ∈ el L j)) = decide (∀ j, i + 1 ≤ j → j < L.length → pl.getD j 0 ∈ el L j) from by
          rw [decide_eq_decide]
          refine ⟨fun h j h1 h2 => h j (by omega) h2, fun h j h1 h2 => ?_⟩
          by_cases e : j = i
          · subst e; exact List.contains_iff_mem.1 c
          · exact h j (by omega) h2]
        exact h1
      · exact ev_neg c (ev_some (decide_eq_false (fun h => c (List.contains_iff_mem.2 (h i (Nat.le_refl _) (by omega))))).symm)
  unfold impl_isPlacement.f
  by_cases e : pl.length = L.length
  · refine ev_pos (by omega) ?_
    rw [distinct_ok (by omega) hr]
    refine ev_bind _ (Ev.now _) ?_
    by_cases c : pl.Nodup
    · rw [nodB_iff.2 c]
      refine ev_succ ?_
      simp only [impl_isPlacement.j0]
      refine ev_neg (by simp) ?_
      have := H e pl.length 0 (by omega)
      rw [show decide (IsPl L pl) = decide (∀ j, 0 ≤ j → j < L.length → pl.getD j 0 ∈ el L j) from by
        rw [decide_eq_decide]
        exact ⟨fun h j _ h2 => h.2.2 j h2, fun h => ⟨e, c, fun j hj => h j (by omega) hj⟩⟩]
      exact this
    · rw [Bool.eq_false_iff.2 (fun h => c (nodB_iff.1 h)), decide_eq_false (fun h : IsPl L pl => c h.2.1)]
      exact jt
  · rw [decide_eq_false (fun h : IsPl L pl => e h.1)]
    exact ev_neg (by omega) jt
theorem getD_lt {pl : List Int} {j : Nat} (h : j < pl.length) : pl.getD j 0 = pl[j] := by rw [List.getD_eq_getElem?_getD, List.getElem?_eq_getElem h]; rfl
theorem nodup_take {pl : List Int} : pl.Nodup ↔ ∀ j, j < pl.length → pl.getD j 0 ∉ pl.take j := by
  unfold List.Nodup
  rw [List.pairwise_iff_getElem]
  constructor
  · intro h j hj hm
    obtain ⟨i, hi, e⟩ := List.mem_iff_getElem.1 hm
    rw [List.length_take] at hi
    rw [List.getElem_take, getD_lt hj] at e
    exact h i j (by omega) hj (by omega) e
  · intro h i j hi hj hij e
    refine h j hj ?_
    rw [getD_lt hj, ← e]
    exact List.mem_iff_getElem.2 ⟨i, by rw [List.length_take]; omega, by rw [List.getElem_take]⟩
theorem spec_cuPlaced_f (hn : L.length ≤ 1000) (hL : ∀ e ∈ L, e.length ≤ 1000) {pl : List Int} : Ev (fun k => spec_cuPlaced.f k L pl) (decide (IsPl L pl)) := by
  have H : pl.length = L.length → ∀ (d i : Nat), i + d = pl.length → Ev (fun k => spec_cuPlaced.l0 k L pl pl (pl.length : Int) (i : Int)) (decide (∀ j, i ≤ j → j < L.length → pl.getD j 0 ∈ el L j ∧ pl.getD j 0 ∉ pl.take j)) := by
    intro hlen d
    induction d with
    | zero =>
      intro i hi
      refine ev_succ ?_
      simp only [spec_cuPlaced.l0]
      exact ev_neg (by omega) (ev_some (decide_eq_true (fun j h1 h2 => by omega)).symm)
    | succ d ih =>
      intro i hi
      have h1 := ih (i + 1) (by omega)
      have hc := spec_l1Has_f (el L i) (pl.getD i 0) (by have := el_len hL i; omega)
      have hd := spec_l1Has_f (pl.take i) (pl.getD i 0) (by rw [List.length_take]; omega)
      refine ev_succ ?_
      simp only [spec_cuPlaced.l0, rd_nat, rdll_nat, Int.toNat_natCast]
      rw [winc (i := i) (by omega)]
      refine ev_pos (by omega) (ev_pos (by omega) (ev_pos (by omega) (ev_pos (by omega) (ev_bind _ hc ?_))))
      by_cases c : (el L i).contains (pl.getD i 0) = true
      · refine ev_pos c (ev_pos (by omega) (ev_bind _ hd ?_))
        by_cases e : (pl.take i).contains (pl.getD i 0) = true
        · exact ev_pos e (ev_some (decide_eq_false (fun h => (h i (Nat.le_refl _) (by omega)).2 (List.contains_iff_mem.1 e))).symm)
        · refine ev_neg e ?_
          rw [show (decide (∀ j, i ≤ j → j < L.length → pl.getD j 0 ∈ el L j ∧ pl.getD j 0 ∉ pl.take j)) = decide (∀ j, i + 1 ≤ j → j < L.length → pl.getD j 0 ∈ el L j ∧ pl.getD j 0 ∉ pl.take j) from by
            rw [decide_eq_decide]
            refine ⟨fun h j h1 h2 => h j (by omega) h2, fun h j h1 h2 => ?_⟩
            by_cases e2 : j = i
            · subst e2; exact ⟨List.contains_iff_mem.1 c, fun hm => e (List.contains_iff_mem.2 hm)⟩
            · exact h j (by omega) h2]
          exact h1
      · exact ev_neg c (ev_some (decide_eq_false (fun h => c (List.contains_iff_mem.2 (h i (Nat.le_refl _) (by omega)).1))).symm)
  unfold spec_cuPlaced.f
  by_cases e : pl.length = L.length
  · refine ev_pos (by omega) ?_
    have := H e pl.length 0 (by omega)
    rw [show decide (IsPl L pl) = decide (∀ j, 0 ≤ j → j < L.length → pl.getD j 0 ∈ el L j ∧ pl.getD j 0 ∉ pl.take j) from by
      rw [decide_eq_decide]
      exact ⟨fun h j _ h2 => ⟨h.2.2 j h2, nodup_take.1 h.2.1 j (by omega)⟩, fun h => ⟨e, nodup_take.2 (fun j hj => (h j (by omega) (by omega)).2), fun j hj => (h j (by omega) hj).1⟩⟩]
    exact this
  · rw [decide_eq_false (fun h : IsPl L pl => e h.1)]
    exact ev_neg (by omega) (Ev.now _)
theorem IsPl.small (h : Small L) {pl : List Int} (hp : IsPl L pl) : ∀ x ∈ pl, 0 ≤ x ∧ x ≤ 1000 := by
  intro x hx
  obtain ⟨i, hi, e⟩ := List.mem_iff_getElem.1 hx
  have := hp.2.2 i (by rw [← hp.1]; exact hi)
  rw [getD_lt hi, e] at this
  exact h i x this
theorem placeC_pl (hp : Pairs L) (h : Fits L) : IsPl L (placeC L).1 := by
  obtain ⟨h1, h2⟩ := CK.greedy_places hp h
  unfold placeC
  rw [if_pos h]
  exact ⟨CK.greedy_len _ _ _, h1, h2⟩
end
end Go.Proofs.YtephjmmkggcmeaaQ
namespace Go.Proofs.YtephjmmkggcmeaaQ
open Go Go.RowKit Go.Proofs.YtephjmmkggcmeaaW.PrintWords Go.Proofs.YtephjmmkggcmeaaW.PrintMore Go.Proofs.YtephjmmkggcmeaaGp Go.Proofs.Ytephjmmkggcmeaa.PC
open CK (el groupsC Pairs wideN cellsL mostOf mostC Fits greedy crowdC crowdedB)

def risF (lo hi : Int) : Option Int → List Int → Bool
  | _, [] => true
  | p, x :: t => decide (lo ≤ x ∧ x ≤ hi) && (match p with | none => true | some q => decide (q < x)) && risF lo hi (some x) t
theorem last_int {pre : List Int} (h : 0 < pre.length) : ∃ q p, pre = q ++ [p] := by
  rcases List.eq_nil_or_concat pre with e | ⟨q, p, e⟩
  · rw [e] at h; simp at h
  · exact ⟨q, p, by rw [e]; simp⟩
theorem rd_last {pre t : List Int} {p s : Int} : rd ((pre ++ [p]) ++ s :: t) ((pre.length : Nat) : Int) = p := by simp [rd]
theorem spec_rising_l0 (lo hi : Int) (x0 : List Int) (hl : (x0.length : Int) ≤ 9223372036854775806) : ∀ (t pre : List Int), x0 = pre ++ t →
    Ev (fun k => spec_l1Rising.l0 k x0 lo hi x0 (x0.length : Int) (pre.length : Int)) (risF lo hi pre.getLast? t) := by
  intro t
  induction t with
  | nil =>
    intro pre h
    refine ev_succ ?_
    simp only [spec_l1Rising.l0]
    exact ev_neg (by rw [h]; exact not_lt_end) (ev_some (by simp [risF]))
  | cons x t ih =>
    intro pre h
    have hm : ((pre.length : Nat) : Int) < (x0.length : Int) := by rw [h]; exact lt_mid
    have hg : rd x0 (pre.length : Int) = x := by rw [h]; exact rd_mid
    have next := ih (pre ++ [x]) (by rw [h]; simp)
    rw [len_one, List.getLast?_append, List.getLast?_singleton, Option.some_or] at next
    refine ev_succ ?_
    simp only [spec_l1Rising.l0, hg]
    rw [spec_in]
    refine ev_pos hm (ev_pos (by omega) (ev_pos hm (ev_bind _ (Ev.now _) ?_)))
    rw [winc (by omega)]
    unfold risF
    by_cases c : lo ≤ x ∧ x ≤ hi
    · rw [decide_eq_true c, Bool.true_and]
      refine ev_pos rfl ?_
      by_cases p0 : 0 < pre.length
      · obtain ⟨q, p, rfl⟩ := last_int p0
        have hq : rd x0 (q.length : Int) = p := by rw [h]; exact rd_last
        have hlen : (q ++ [p]).length = q.length + 1 := by simp
        rw [hlen] at hm next ⊢
        rw [List.getLast?_append, List.getLast?_singleton, Option.some_or, wdec (by omega)]
        refine ev_pos (by omega) (ev_pos (by omega) (ev_pos (by omega) ?_))
        rw [hq]
        by_cases d : p < x
        · simp only [decide_eq_true d, Bool.true_and]
          exact ev_neg (by omega) next
        · simp only [decide_eq_false d, Bool.false_and]
          exact ev_pos (by omega) (Ev.now _)
      · have : pre = [] := List.length_eq_zero_iff.1 (by omega)
        subst this
        simp only [List.getLast?_nil, Bool.true_and]
        exact ev_neg (by simp) next
    · rw [decide_eq_false c]
      exact ev_neg (by simp) (ev_some (by simp))
theorem spec_rising_f (lo hi : Int) (l : List Int) (hl : (l.length : Int) ≤ 9223372036854775806) : Ev (fun k => spec_l1Rising.f k l lo hi) (risF lo hi none l) := by
  unfold spec_l1Rising.f
  exact spec_rising_l0 lo hi l hl l [] rfl
theorem rising_cast : ∀ (n : Int) (p : Option Int) (l : List Int), risF 0 n p l = true → (∀ x ∈ l, 0 ≤ x ∧ x ≤ n) ∧ l.Pairwise (· < ·) ∧ ∀ q, p = some q → ∀ x ∈ l, q < x
  | n, p, [], _ => by simp
  | n, p, x :: t, h => by
    simp only [risF, Bool.and_eq_true, decide_eq_true_eq] at h
    obtain ⟨⟨h1, h2⟩, h3⟩ := h
    obtain ⟨g1, g2, g3⟩ := rising_cast n (some x) t h3
    refine ⟨fun y hy => ?_, List.pairwise_cons.2 ⟨g3 x rfl, g2⟩, fun q hq y hy => ?_⟩
    · rcases List.mem_cons.1 hy with rfl | hy
      · exact h1
      · exact g1 y hy
    · subst hq
      simp only [decide_eq_true_eq] at h2
      rcases List.mem_cons.1 hy with rfl | hy
      · exact h2
      · have := g3 x rfl y hy; omega
theorem impl_indices_l0 (n : Int) (hn : 0 ≤ n) (hn' : n ≤ 1000000) (x0 : List Int) (hl : (x0.length : Int) ≤ 9223372036854775806) : ∀ (t pre : List Int), x0 = pre ++ t →
    Ev (fun k => impl_indicesOk.l0 k x0 n x0 (x0.length : Int) (pre.length : Int)) (risF 0 (n - 1) pre.getLast? t && decide ((x0.length : Int) > 0)) := by
  intro t
  induction t with
  | nil =>
    intro pre h
    refine ev_succ ?_
    simp only [impl_indicesOk.l0]
    exact ev_neg (by rw [h]; exact not_lt_end) (ev_some (by simp [risF]))
  | cons x t ih =>
    intro pre h
    have hm : ((pre.length : Nat) : Int) < (x0.length : Int) := by rw [h]; exact lt_mid
    have hg : rd x0 (pre.length : Int) = x := by rw [h]; exact rd_mid
    have next := ih (pre ++ [x]) (by rw [h]; simp)
    rw [len_one, List.getLast?_append, List.getLast?_singleton, Option.some_or] at next
    refine ev_succ ?_
    simp only [impl_indicesOk.l0, hg]
    rw [w64 (x := n - 1) (by omega) (by omega), impl_in]
    refine ev_pos hm (ev_pos (by omega) (ev_pos hm (ev_bind _ (Ev.now _) ?_)))
    rw [winc (by omega)]
    unfold risF
    by_cases c : 0 ≤ x ∧ x ≤ n - 1
    · rw [decide_eq_true c, Bool.true_and]
      refine ev_pos rfl ?_
      by_cases p0 : 0 < pre.length
      · obtain ⟨q, p, rfl⟩ := last_int p0
        have hq : rd x0 (q.length : Int) = p := by rw [h]; exact rd_last
        have hlen : (q ++ [p]).length = q.length + 1 := by simp
        rw [hlen] at hm next ⊢
        rw [List.getLast?_append, List.getLast?_singleton, Option.some_or, wdec (by omega)]
        refine ev_pos (by omega) (ev_pos (by omega) (ev_pos (by omega) ?_))
        rw [hq]
        by_cases d : p < x
        · simp only [decide_eq_true d, Bool.true_and]
          exact ev_neg (by omega) next
        · simp only [decide_eq_false d, Bool.false_and]
          exact ev_pos (by omega) (Ev.now _)
      · have : pre = [] := List.length_eq_zero_iff.1 (by omega)
        subst this
        simp only [List.getLast?_nil, Bool.true_and]
        exact ev_neg (by simp) next
    · rw [decide_eq_false c]
      exact ev_neg (by simp) (ev_some (by simp))
theorem impl_indices_f (n : Int) (hn : 0 ≤ n) (hn' : n ≤ 1000000) (l : List Int) (hl : (l.length : Int) ≤ 9223372036854775806) : Ev (fun k => impl_indicesOk.f k l n) (risF 0 (n - 1) none l && decide ((l.length : Int) > 0)) := by
  unfold impl_indicesOk.f
  exact impl_indices_l0 n hn hn' l hl l [] rfl
theorem ris_zs {n : Nat} {l : List Int} (h : risF 0 ((n : Int) - 1) none l = true) : ∃ g, l = zs g ∧ (∀ i ∈ g, i < n) ∧ g.Pairwise (· < ·) := by
  obtain ⟨h1, h2, _⟩ := rising_cast _ _ _ h
  refine ⟨l.map Int.toNat, ?_, ?_, ?_⟩
  · unfold zs
    rw [List.map_map]
    have : ∀ x ∈ l, ((fun (n : Nat) => (n : Int)) ∘ Int.toNat) x = x := fun x hx => by
      have := h1 x hx
      simp only [Function.comp]
      omega
    rw [List.map_congr_left this, List.map_id']
  · intro i hi
    obtain ⟨x, hx, rfl⟩ := List.mem_map.1 hi
    have := h1 x hx
    omega
  · rw [List.pairwise_map]
    refine List.Pairwise.imp_of_mem (fun {a b} ha hb hab => ?_) h2
    have := h1 a ha
    have := h1 b hb
    omega
theorem zs_ris : ∀ (n : Nat) (p : Option Int) (S : List Nat), S.Pairwise (· < ·) → (∀ x ∈ S, x < n) → (∀ q, p = some q → ∀ x ∈ S, q < (x : Int)) → risF 0 ((n : Int) - 1) p (zs S) = true
  | n, p, [], _, _, _ => rfl
  | n, p, x :: t, hp, hl, hq => by
    rw [List.pairwise_cons] at hp
    have ih := zs_ris n (some (x : Int)) t hp.2 (fun y hy => hl y (by simp [hy])) (fun q e y hy => by cases e; have := hp.1 y hy; omega)
    have hx := hl x (by simp)
    have e : zs (x :: t) = (x : Int) :: zs t := rfl
    have hb : decide (0 ≤ (x : Int) ∧ (x : Int) ≤ (n : Int) - 1) = true := decide_eq_true (by omega)
    rw [e]
    cases p with
    | none => simp only [risF, ih, hb, Bool.and_true]
    | some q => simp only [risF, ih, hb, decide_eq_true (hq q rfl x (by simp)), Bool.and_true]
open Classical
section
variable {L : List (List Int)}
theorem idx_crowd (hp : Pairs L) (hs : Small L) {G : List (List Nat)} (hG : ∀ g ∈ G, (∀ i ∈ g, i < L.length) ∧ g.length ≤ 1000) (hGl : G.length ≤ 1000) : ∀ (t pre : List (List Nat)), G = pre ++ t →
    ∃ r : Int, Ev (fun k => slices_IndexFunc_int_int_at_impl_placed_1.l0 k (G.map zs) ((G.map zs).length : Int) (pre.length : Int) L) r ∧ decide (r ≥ 0) = t.any (crowdedB L) := by
  have hz : (G.map zs).length = G.length := zl_len G
  intro t
  induction t with
  | nil =>
    intro pre h
    have hp : G = pre := by rw [h, List.append_nil]
    subst hp
    refine ⟨-1, ev_succ ?_, rfl⟩
    simp only [slices_IndexFunc_int_int_at_impl_placed_1.l0]
    exact ev_neg (by omega) (Ev.now _)
  | cons g t ih =>
    intro pre h
    have hm : pre.length < G.length := by rw [h]; simp
    have he : el (G.map zs) pre.length = zs g := by
      rw [el_map hm]
      simp [h]
    obtain ⟨g1, g2⟩ := hG g (by rw [h]; simp)
    have hc := impl_cellCount_f hp hs g1 (by omega)
    have e1 : Ev (fun k => impl_placed_1.f k (zs g) L) (crowdedB L g) := by
      unfold impl_placed_1.f
      refine ev_bind _ hc (ev_some ?_)
      unfold crowdedB
      rw [zs_len, decide_eq_decide]
      omega
    by_cases c : crowdedB L g = true
    · refine ⟨(pre.length : Int), ev_succ ?_, ?_⟩
      · simp only [slices_IndexFunc_int_int_at_impl_placed_1.l0, rdll_nat, he]
        exact ev_pos (by omega) (ev_pos (by omega) (ev_pos (by omega) (ev_bind _ e1 (ev_pos c (Ev.now _)))))
      · rw [List.any_cons, c, Bool.true_or]
        exact decide_eq_true (by omega)
    · obtain ⟨r, h1, h2⟩ := ih (pre ++ [g]) (by rw [h]; simp)
      rw [len_one] at h1
      refine ⟨r, ev_succ ?_, ?_⟩
      · simp only [slices_IndexFunc_int_int_at_impl_placed_1.l0, rdll_nat, he]
        rw [winc (i := pre.length) (by omega)]
        exact ev_pos (by omega) (ev_pos (by omega) (ev_pos (by omega) (ev_bind _ e1 (ev_neg c h1))))
      · rw [h2, List.any_cons, Bool.eq_false_iff.2 c, Bool.false_or]
theorem impl_placed_f (hp : Pairs L) (hs : Small L) (hn : L.length ≤ 1000) (hL : ∀ e ∈ L, e.length ≤ 1000) : Ev (fun k => impl_placed.f k L) (decide (Fits L)) := by
  have hgr := impl_groups_val hn hL
  have hGl := CK.heads_len (ls := L)
  obtain ⟨r, h1, h2⟩ := idx_crowd hp hs (G := groupsC L) (fun g hg => by have := group_ok hg; exact ⟨this.1, by omega⟩) (by omega) (groupsC L) [] rfl
  unfold impl_placed.f slices_ContainsFunc_int_int_at_impl_placed_1.f slices_IndexFunc_int_int_at_impl_placed_1.f
  refine ev_bind _ hgr (ev_bind (decide (r ≥ 0)) (ev_bind _ h1 (Ev.now _)) (ev_some ?_))
  rw [h2, Bool.eq_iff_iff, decide_eq_true_eq, CK.fits_iff, Bool.not_eq_true', List.any_eq_false]
  refine ⟨fun h g hg => ?_, fun h g hg => ?_⟩
  · have := h g hg
    unfold crowdedB at this
    rw [decide_eq_true_eq] at this
    omega
  · have := h g hg
    unfold crowdedB
    rw [decide_eq_true_eq]
    omega
theorem Small.set (hs : Small L) {i : Nat} (hi : i < L.length) {v : Int} (hv : v ∈ el L i) : Small (L.set i [v, v]) := by
  intro j x hx
  by_cases e : i = j
  · subst e
    rw [CK.el_set_self hi] at hx
    have : x = v := by simpa using hx
    rw [this]
    exact hs i v hv
  · rw [CK.el_set_ne e] at hx
    exact hs j x hx
theorem pk_l0 : ∀ (d i : Nat) (F : List (List Int)) (acc : List Int), i + d = F.length → F.length ≤ 1000 → Pairs F → Small F → (∀ e ∈ F, e.length ≤ 1000) → acc.length = i →
    Ev (fun k => impl_PlaceKeys.l0 k F acc (F.length : Int) (i : Int)) (acc ++ greedy d i F, true) := by
  intro d
  induction d with
  | zero =>
    intro i F acc hi hl hp hs hF ha
    refine ev_succ ?_
    simp only [impl_PlaceKeys.l0, greedy, List.append_nil]
    exact ev_neg (by omega) (Ev.now _)
  | succ d ih =>
    intro i F acc hi hl hp hs hF ha
    obtain ⟨a, b, he⟩ := hp i (by omega)
    have g0 : (el F i).getD 0 0 = a := by rw [he]; rfl
    have g1 : (el F i).getD 1 0 = b := by rw [he]; rfl
    have r0 : rd [a, b] 0 = a := rfl
    have r1 : rd [a, b] 1 = b := rfl
    rw [greedy]
    simp only [g0, g1]
    generalize hlo : (if a ≤ b then a else b) = lo
    generalize hhi : (if a ≤ b then b else a) = hi2
    have elo : mn a b = lo := by rw [← hlo]; unfold mn; split <;> split <;> omega
    have ehi : mx a b = hi2 := by rw [← hhi]; unfold mx; split <;> split <;> omega
    have mlo : lo ∈ el F i := by rw [← hlo, he]; split <;> simp
    have mhi : hi2 ∈ el F i := by rw [← hhi, he]; split <;> simp
    have hil : i < F.length := by omega
    have hpl := impl_placed_f (L := F.set i [lo, lo]) (hp.set i lo lo) (hs.set hil mlo) (by rw [List.length_set]; omega) (two_set hF i lo lo)
    have eself : ∀ v : Int, el (F.set i [v, v]) i = [v, v] := fun v => CK.el_set_self hil _
    have rv : ∀ v : Int, rd [v, v] 0 = v := fun v => rfl
    have s1 : ∀ v ∈ el F i, Ev (fun k => impl_PlaceKeys.l0 k (F.set i [v, v]) (acc ++ [v]) (F.length : Int) ((i + 1 : Nat) : Int)) (acc ++ [v] ++ greedy d (i + 1) (F.set i [v, v]), true) := fun v hv => by
      have := ih (i + 1) (F.set i [v, v]) (acc ++ [v]) (by rw [List.length_set]; omega) (by rw [List.length_set]; exact hl) (hp.set i v v) (hs.set hil hv) (two_set hF i v v) (by simp [ha])
      rw [List.length_set] at this
      exact this
    refine ev_succ ?_
    simp only [impl_PlaceKeys.l0, rdll_nat, he, r0, r1, elo, ehi, Int.toNat_natCast]
    rw [winc (i := i) (by omega)]
    refine ev_pos (by omega) (ev_pos (by omega) (ev_pos (by omega) (ev_pos (by simp) (ev_pos (by simp) (ev_bind _ (Ev.now _) (ev_bind _ hpl ?_))))))
    by_cases c : Fits (F.set i [lo, lo])
    · rw [if_pos c]
      refine ev_pos (decide_eq_true c) ?_
      rw [eself, rv]
      refine ev_pos (by simp) (ev_pos (by omega) ?_)
      have := s1 lo mlo
      rw [List.append_assoc] at this
      exact this
    · rw [if_neg c]
      refine ev_neg (by simpa using c) (ev_bind _ (Ev.now _) ?_)
      rw [List.set_set, eself, rv]
      refine ev_pos (by simp) (ev_pos (by omega) ?_)
      have := s1 hi2 mhi
      rw [List.append_assoc] at this
      exact this
noncomputable def crowdR (L : List (List Int)) : List Int × Bool := match crowdC L with
  | some g => (zs g, true)
  | none => ([], false)
theorem crowdR_cons {pre : List (List Nat)} {g : List Nat} {t : List (List Nat)} (h : groupsC L = pre ++ g :: t) (hpre : ∀ p ∈ pre, crowdedB L p = false) : crowdedB L g = true → crowdR L = (zs g, true) := by
  intro hg
  unfold crowdR crowdC
  rw [h, List.find?_append, List.find?_eq_none.2 (fun p hp => by rw [hpre p hp]; simp), Option.none_or, List.find?_cons_of_pos hg]
theorem crowdR_nil (hpre : ∀ p ∈ groupsC L, crowdedB L p = false) : crowdR L = ([], false) := by
  unfold crowdR crowdC
  rw [List.find?_eq_none.2 (fun p hp => by rw [hpre p hp]; simp)]
theorem ic_l0 (hp : Pairs L) (hs : Small L) (hn : L.length ≤ 1000) : ∀ (t pre : List (List Nat)), groupsC L = pre ++ t → (∀ p ∈ pre, crowdedB L p = false) →
    Ev (fun k => impl_CrowdOf.l0 k L ((groupsC L).map zs) (((groupsC L).map zs).length : Int) (pre.length : Int)) (crowdR L) := by
  have hz : ((groupsC L).map zs).length = (groupsC L).length := zl_len _
  have hGl := CK.heads_len (ls := L)
  intro t
  induction t with
  | nil =>
    intro pre h hpre
    have hp : groupsC L = pre := by rw [h, List.append_nil]
    rw [crowdR_nil (by rw [hp]; exact hpre)]
    refine ev_succ ?_
    simp only [impl_CrowdOf.l0]
    exact ev_neg (by rw [← hp]; omega) (Ev.now _)
  | cons g t ih =>
    intro pre h hpre
    have hm : pre.length < (groupsC L).length := by rw [h]; simp
    have he : el ((groupsC L).map zs) pre.length = zs g := by
      rw [el_map hm]
      simp [h]
    obtain ⟨g1, g2⟩ := group_ok (L := L) (g := g) (by rw [h]; simp)
    have hc := impl_cellCount_f hp hs g1 (by omega)
    have hzg := zs_len g
    refine ev_succ ?_
    simp only [impl_CrowdOf.l0, rdll_nat, he]
    rw [winc (i := pre.length) (by omega)]
    refine ev_pos (by omega) (ev_pos (by omega) (ev_pos (by omega) (ev_bind _ hc ?_)))
    by_cases c : crowdedB L g = true
    · have c' := c
      unfold crowdedB at c'
      rw [decide_eq_true_eq] at c'
      rw [crowdR_cons h hpre c]
      exact ev_pos (by omega) (Ev.now _)
    · have c' := c
      unfold crowdedB at c'
      rw [decide_eq_true_eq] at c'
      have h1 := ih (pre ++ [g]) (by rw [h]; simp) (fun p hp => by
        rcases List.mem_append.1 hp with hp | hp
        · exact hpre p hp
        · rw [List.mem_singleton.1 hp]; exact Bool.eq_false_iff.2 c)
      rw [len_one] at h1
      exact ev_neg (by omega) h1
theorem crowdR_fits : (crowdR L).2 = true ↔ ¬ Fits L := by
  unfold crowdR
  cases h : crowdC L with
  | none => simp [CK.crowdC_none.1 h]
  | some g =>
    simp only [true_iff]
    intro hf
    rw [CK.crowdC_none.2 hf] at h
    cases h
theorem placeC_fits : (placeC L).2 = true ↔ Fits L := by
  unfold placeC
  split <;> simp_all
theorem placeC_len : (placeC L).1.length ≤ L.length := by
  unfold placeC
  split
  · simp only [CK.greedy_len]; exact Nat.le_refl _
  · simp
end
section
variable {a n : Int} {l : List ByteArray}
noncomputable def plV (a : Int) (l : List ByteArray) (n : Int) : List Int × Bool := if keyedC a l n = true then placeC (prs a n l) else ([], false)
noncomputable def crV (a : Int) (l : List ByteArray) (n : Int) : List Int × Bool := if keyedC a l n = true then crowdR (prs a n l) else ([], false)
theorem impl_PlaceKeys_f (hl : l.length ≤ 1000) (hz : ∀ s ∈ l, s.size ≤ 1000) : Ev (fun k => impl_PlaceKeys.f k a l n) (plV a l n) := by
  have hpf := impl_pairs_f a n (l := l) hl hz
  have hpl := prs_len a n l
  have jt : ∀ X, Ev (fun k => impl_PlaceKeys.j0 k X true) ([], false) := fun X => ev_succ (by simp only [impl_PlaceKeys.j0]; exact ev_pos (by trivial) (Ev.now _))
  unfold impl_PlaceKeys.f plV
  by_cases h : keyedC a l n = true
  · rw [if_pos h] at hpf ⊢
    have hpd := impl_placed_f (L := prs a n l) (prs_pairs a n l) (prs_small h) (by omega) prs_two
    refine ev_bind _ hpf (ev_pos rfl (ev_bind _ hpd ?_))
    unfold placeC
    by_cases c : Fits (prs a n l)
    · rw [if_pos c, decide_eq_true c]
      refine ev_succ ?_
      simp only [impl_PlaceKeys.j0]
      have := pk_l0 (prs a n l).length 0 (prs a n l) [] (by omega) (by omega) (prs_pairs a n l) (prs_small h) prs_two rfl
      exact ev_neg (by simp) this
    · rw [if_neg c, decide_eq_false c]
      exact jt _
  · rw [if_neg h] at hpf ⊢
    exact ev_bind _ hpf (ev_neg (by simp) (jt _))
theorem impl_CrowdOf_f (hl : l.length ≤ 1000) (hz : ∀ s ∈ l, s.size ≤ 1000) : Ev (fun k => impl_CrowdOf.f k a l n) (crV a l n) := by
  have hpf := impl_pairs_f a n (l := l) hl hz
  have hpl := prs_len a n l
  unfold impl_CrowdOf.f crV
  by_cases h : keyedC a l n = true
  · rw [if_pos h] at hpf ⊢
    exact ev_bind _ hpf (ev_pos rfl (ev_bind _ (impl_groups_val (L := prs a n l) (by omega) prs_two) (ic_l0 (prs_pairs a n l) (prs_small h) (by omega) _ [] rfl (fun p hp => by cases hp))))
  · rw [if_neg h] at hpf ⊢
    exact ev_bind _ hpf (ev_neg (by simp) (Ev.now _))
theorem impl_IsPlacement_f (hl : l.length ≤ 1000) (hz : ∀ s ∈ l, s.size ≤ 1000) {pl : List Int} (hr : ∀ x ∈ pl, -1000000 ≤ x ∧ x ≤ 1000000) : Ev (fun k => impl_IsPlacement.f k a l n pl) (if keyedC a l n = true then (decide (IsPl (prs a n l) pl), true) else (false, false)) := by
  have hpf := impl_pairs_f a n (l := l) hl hz
  have hpl := prs_len a n l
  unfold impl_IsPlacement.f
  by_cases h : keyedC a l n = true
  · rw [if_pos h] at hpf ⊢
    exact ev_bind _ hpf (ev_pos rfl (ev_bind _ (impl_isPlacement_f (L := prs a n l) (by omega) prs_two hr) (Ev.now _)))
  · rw [if_neg h] at hpf ⊢
    exact ev_bind _ hpf (ev_neg (by simp) (Ev.now _))
def IsCr (L : List (List Int)) (x : List Int) : Prop := ∃ g, x = zs g ∧ (∀ i ∈ g, i < L.length) ∧ g.Pairwise (· < ·) ∧ wideN L g < g.length
theorem impl_IsCrowd_f (hl : l.length ≤ 1000) (hz : ∀ s ∈ l, s.size ≤ 1000) {x : List Int} (hx : x.length ≤ 1000) : Ev (fun k => impl_IsCrowd.f k a l n x) (if keyedC a l n = true then (decide (IsCr (prs a n l) x), true) else (false, false)) := by
  have hpf := impl_pairs_f a n (l := l) hl hz
  have hpl := prs_len a n l
  have hi := impl_indices_f (l.length : Int) (by omega) (by omega) x (by omega)
  unfold impl_IsCrowd.f
  by_cases h : keyedC a l n = true
  · rw [if_pos h] at hpf ⊢
    refine ev_bind _ hpf (ev_pos rfl (ev_bind _ hi ?_))
    by_cases c : risF 0 ((l.length : Int) - 1) none x = true
    · obtain ⟨g, rfl, g1, g2⟩ := ris_zs c
      have hgl := zs_len g
      have hc := impl_cellCount_f (L := prs a n l) (prs_pairs a n l) (prs_small h) (g := g) (fun i hi => by rw [hpl]; exact g1 i hi) (by omega)
      have huniq : IsCr (prs a n l) (zs g) ↔ wideN (prs a n l) g < g.length := by
        constructor
        · rintro ⟨g', e, h1, h2, h3⟩
          have : g' = g := by
            have := congrArg (List.map Int.toNat) e
            unfold zs at this
            rw [List.map_map, List.map_map] at this
            have hid : (Int.toNat ∘ fun (n : Nat) => (n : Int)) = id := by funext m; simp
            rw [hid, List.map_id, List.map_id] at this
            exact this.symm
          rw [this] at h3
          exact h3
        · intro hw
          exact ⟨g, rfl, fun i hi => by rw [hpl]; exact g1 i hi, g2, hw⟩
      by_cases e : g.length > 0
      · rw [c, decide_eq_true (show ((zs g).length : Int) > 0 by omega)]
        refine ev_pos (by trivial) (ev_bind _ hc (ev_some ?_))
        rw [Prod.mk.injEq]
        refine ⟨?_, rfl⟩
        rw [decide_eq_decide, huniq, hgl]
        omega
      · rw [decide_eq_false (show ¬ ((zs g).length : Int) > 0 by omega), Bool.and_false]
        refine ev_neg (by simp) (ev_some ?_)
        rw [Prod.mk.injEq]
        refine ⟨(decide_eq_false (fun hcr => ?_)).symm, rfl⟩
        have := huniq.1 hcr
        omega
    · rw [Bool.eq_false_iff.2 c, Bool.false_and]
      refine ev_neg (by simp) (ev_some ?_)
      rw [Prod.mk.injEq]
      refine ⟨(decide_eq_false (fun hcr => ?_)).symm, rfl⟩
      obtain ⟨g, rfl, g1, g2, g3⟩ := hcr
      exact c (zs_ris l.length none g g2 (fun i hi => by have := g1 i hi; omega) (by simp))
  · rw [if_neg h] at hpf ⊢
    exact ev_bind _ hpf (ev_neg (by simp) (Ev.now _))
theorem crowdR_cr {L : List (List Int)} (h : ¬ Fits L) : IsCr L (crowdR L).1 := by
  unfold crowdR
  cases hc : crowdC L with
  | none => exact absurd (CK.crowdC_none.1 hc) h
  | some g =>
    obtain ⟨h1, h2⟩ := CK.crowdC_some hc
    obtain ⟨h3, h4, _⟩ := CK.mem_groupsC h1
    exact ⟨g, rfl, h4, h3, h2⟩
theorem cr_no_pl {L : List (List Int)} {x pl : List Int} (h : IsCr L x) (hp : IsPl L pl) : False := by
  obtain ⟨g, _, g1, g2, g3⟩ := h
  have hf := CK.fits_of_places hp.1 hp.2.1 hp.2.2
  have := CK.no_own hf (is := g) (g2.imp (fun h => Nat.ne_of_lt h)) g1
  omega
end
end Go.Proofs.YtephjmmkggcmeaaQ
namespace Go.Proofs.YtephjmmkggcmeaaQ.MV

def free (now tgt : List Int) (i : Nat) : Bool := decide (now.getD i 0 ≠ tgt.getD i 0) && !now.contains (tgt.getD i 0)
inductive Mv (tgt : List Int) : List Int → List Int → Prop
  | done : Mv tgt tgt []
  | step {now : List Int} (i : Nat) (rest : List Int) : i < now.length → now.getD i 0 ≠ tgt.getD i 0 → tgt.getD i 0 ∉ now → Mv tgt (now.set i (tgt.getD i 0)) rest → Mv tgt now ((i : Int) :: rest)
theorem getD_set {l : List Int} {i j : Nat} {v : Int} (hi : i < l.length) : (l.set i v).getD j 0 = if i = j then v else l.getD j 0 := by
  rw [List.getD_eq_getElem?_getD, List.getElem?_set]
  split
  · rename_i e; rfl
  · rw [List.getD_eq_getElem?_getD]
end Go.Proofs.YtephjmmkggcmeaaQ.MV
namespace Go.Proofs.YtephjmmkggcmeaaQ
open Go Go.RowKit Go.Proofs.YtephjmmkggcmeaaW.PrintWords Go.Proofs.YtephjmmkggcmeaaW.PrintMore Go.Proofs.YtephjmmkggcmeaaGp Go.Proofs.Ytephjmmkggcmeaa.PC
open CK (el groupsC Pairs wideN cellsL mostOf mostC Fits greedy crowdC crowdedB)
open Classical

theorem placeN_ok {s : List Int} (hs : Bys s) {p : Int} (sd : Int) {m : Int} (hm : m ≤ 1000) (h0 : 0 ≤ p) (h1 : p ≤ 100000000000000000) : ∃ v p' sd', spec_l1Cur_place.f s p sd m = some (v, p', sd') ∧ (-1 ≤ v ∧ v ≤ 1003) ∧ 0 ≤ p' ∧ p' ≤ p + 2 := by
  generalize hq : (if m > 0 then m else 0) = q
  have hq0 : 0 ≤ q ∧ q ≤ 1000 := by rw [← hq]; split <;> omega
  obtain ⟨v, p1, sd1, e1, hv, q0, q1⟩ := pick_ok hs sd (n := q + 4) h0 (by omega)
  unfold spec_l1Cur_place.f
  rw [mostN_f, Option.bind_some, hq, w64 (x := q + 4) (by omega) (by omega), e1]
  refine ⟨_, p1, sd1, rfl, ?_, q0, by omega⟩
  rw [w64 (by omega) (by omega)]
  omega
theorem clip_ok (a : Int) : ∃ v, spec_l1Clip.f a 70 = some v ∧ 0 ≤ v ∧ v ≤ 70 := by
  unfold spec_l1Clip.f
  rw [least_f, Option.bind_some, mostN_f]
  refine ⟨_, rfl, ?_⟩
  split <;> split <;> omega
def ValsC (l : List Int) : Prop := ∀ x ∈ l, -1 ≤ x ∧ x ≤ 1003
theorem ValsC.one {l : List Int} (h : ValsC l) {v : Int} (hv : -1 ≤ v ∧ v ≤ 1003) : ValsC (l ++ [v]) := fun x hx => by
  rcases List.mem_append.1 hx with hx | hx
  · exact h x hx
  · rw [List.mem_singleton.1 hx]; exact hv
theorem ValsC.set {l : List Int} (h : ValsC l) {v : Int} (hv : -1 ≤ v ∧ v ≤ 1003) (i : Nat) : ValsC (l.set i v) := fun x hx => by
  rcases List.mem_or_eq_of_mem_set hx with hx | hx
  · exact h x hx
  · rw [hx]; exact hv
theorem dp_l0 {s : List Int} (hs : Bys s) (a : Int) (l : List ByteArray) (n : Int) : ∀ (m : Nat) (pl : List Int) (p sd : Int), ValsC pl → pl.length + m ≤ 1000 → 0 ≤ p → p + 4 * (m : Int) ≤ 10000000000000000 →
    ∃ pl', Ev (fun k => spec_DrawIsPlacement.l0 k a l n pl (m : Int) s p sd) (a, l, n, pl') ∧ ValsC pl' ∧ pl'.length ≤ 1000 := by
  intro m
  induction m with
  | zero =>
    intro pl p sd hv hl h0 h1
    refine ⟨pl, ev_succ ?_, hv, by omega⟩
    simp only [spec_DrawIsPlacement.l0]
    exact ev_neg (by omega) (Ev.now _)
  | succ m ih =>
    intro pl p sd hv hl h0 h1
    by_cases c : pl.length > 0
    · obtain ⟨i, p1, sd1, e1, hi, q0, q1⟩ := pick_ok hs sd (n := (pl.length : Int)) h0 (by omega)
      obtain ⟨cv, e2, c0, c1⟩ := clip_ok n
      obtain ⟨v, p2, sd2, e3, hv2, r0, r1⟩ := placeN_ok hs sd1 (m := cv) (by omega) q0 (by omega)
      obtain ⟨pl', e, h2, h3⟩ := ih (pl.set i.toNat v) p2 sd2 (hv.set hv2 _) (by rw [List.length_set]; omega) r0 (by omega)
      refine ⟨pl', ev_succ ?_, h2, h3⟩
      simp only [spec_DrawIsPlacement.l0, e1, e2, e3, Option.bind_some]
      rw [wdec (i := m) (by omega)]
      exact ev_pos (by omega) (ev_pos (by omega) (ev_pos (by omega) (ev_pos (by omega) e)))
    · obtain ⟨v, p2, sd2, e3, hv2, r0, r1⟩ := placeN_ok hs sd (m := 9) (by omega) h0 (by omega)
      obtain ⟨pl', e, h2, h3⟩ := ih (pl ++ [v]) p2 sd2 (hv.one hv2) (by rw [List.length_append, List.length_singleton]; omega) r0 (by omega)
      refine ⟨pl', ev_succ ?_, h2, h3⟩
      simp only [spec_DrawIsPlacement.l0, e3, Option.bind_some]
      rw [wdec (i := m) (by omega)]
      exact ev_pos (by omega) (ev_neg (by omega) (ev_pos (by omega) e))
theorem DrawIsPlacement_ok {s : List Int} (hs : Bys s) : ∃ a l n pl, Ev (fun k => spec_DrawIsPlacement.f k s) (a, l, n, pl) ∧ Kys 42 l ∧ ValsC pl ∧ pl.length ≤ 1000 := by
  obtain ⟨a, l, n, p1, sd1, e1, _, hk, _, q0, q1⟩ := keyed_ok hs 0 (p := 0) (by omega) (by omega)
  have hl : l.length ≤ 1000 := by have := hk.1; omega
  have hz : ∀ s ∈ l, s.size ≤ 1000 := fun s hs => by have := hk.2 s hs; omega
  have hkk := spec_cuKeyed_f a n hl hz
  obtain ⟨b, p2, sd2, e2, r0, r1⟩ := one_ok hs sd1 2 q0 (by omega)
  have J1 : ∀ (pl : List Int), ValsC pl → pl.length ≤ 900 → ∃ pl', Ev (fun k => spec_DrawIsPlacement.j1 k a l n pl s p2 sd2) (a, l, n, pl') ∧ ValsC pl' ∧ pl'.length ≤ 1000 := by
    intro pl hv hpl
    obtain ⟨v, p3, sd3, e3, hv3, s0, s1⟩ := pick_ok hs sd2 (n := 3) r0 (by omega)
    obtain ⟨m, rfl⟩ : ∃ m : Nat, v = (m : Int) := ⟨v.toNat, by omega⟩
    obtain ⟨pl', e, h2, h3⟩ := dp_l0 hs a l n m pl p3 sd3 hv (by omega) s0 (by omega)
    refine ⟨pl', ev_succ ?_, h2, h3⟩
    simp only [spec_DrawIsPlacement.j1, e3, Option.bind_some]
    exact e
  have J0f : ∃ pl', Ev (fun k => spec_DrawIsPlacement.j0 k a l n [] false s p2 sd2) (a, l, n, pl') ∧ ValsC pl' ∧ pl'.length ≤ 1000 := by
    obtain ⟨pl', e, h2, h3⟩ := J1 [] (fun x hx => by cases hx) (by simp)
    refine ⟨pl', ev_succ ?_, h2, h3⟩
    simp only [spec_DrawIsPlacement.j0]
    exact ev_neg (by simp) e
  by_cases c : b = true
  · by_cases h : keyedC a l n = true
    · rw [h] at hkk
      have h1 := (keyedC_ok h).1
      have hpl := prs_len a n l
      have hpc := spec_cuPlace_f (prs_pairs a n l) (by omega) prs_two
      have hV : ValsC (placeC (prs a n l)).1 := by
        by_cases d : Fits (prs a n l)
        · have hP := placeC_pl (prs_pairs a n l) d
          exact fun x hx => by have := IsPl.small (prs_small h) hP x hx; omega
        · unfold placeC; rw [if_neg d]; exact fun x hx => by cases hx
      obtain ⟨pl', e, h2, h3⟩ := J1 (placeC (prs a n l)).1 hV (by have := placeC_len (L := prs a n l); have := hk.1; omega)
      refine ⟨a, l, n, pl', ?_, hk, h2, h3⟩
      unfold spec_DrawIsPlacement.f
      refine ev_bind _ e1 ?_
      simp only [e2, Option.bind_some]
      refine ev_pos c (ev_bind _ hkk (ev_succ ?_))
      simp only [spec_DrawIsPlacement.j0]
      exact ev_pos (by trivial) (ev_bind _ (spec_cuPairs_f h1.1 h1.2 hl hz) (ev_bind _ hpc e))
    · rw [Bool.eq_false_iff.2 h] at hkk
      obtain ⟨pl', e, h2, h3⟩ := J0f
      refine ⟨a, l, n, pl', ?_, hk, h2, h3⟩
      unfold spec_DrawIsPlacement.f
      refine ev_bind _ e1 ?_
      simp only [e2, Option.bind_some]
      exact ev_pos c (ev_bind _ hkk e)
  · obtain ⟨pl', e, h2, h3⟩ := J0f
    refine ⟨a, l, n, pl', ?_, hk, h2, h3⟩
    unfold spec_DrawIsPlacement.f
    refine ev_bind _ e1 ?_
    simp only [e2, Option.bind_some]
    exact ev_neg c e
theorem dc_l0 {s : List Int} (hs : Bys s) (a : Int) {l : List ByteArray} (hl : l.length ≤ 900) (n : Int) : ∀ (d i : Nat) (x : List Int) (p sd : Int), i + d = l.length → x.length ≤ i → 0 ≤ p → p + 2 * (d : Int) ≤ 10000000000000000 →
    ∃ x', Ev (fun k => spec_DrawIsCrowd.l0 k a l n x (l.length : Int) (i : Int) s p sd) (a, l, n, x') ∧ x'.length ≤ 1000 := by
  intro d
  induction d with
  | zero =>
    intro i x p sd hi hx h0 h1
    obtain ⟨b, p1, sd1, e1, q0, q1⟩ := one_ok hs sd 8 h0 (by omega)
    by_cases c : b = true
    · obtain ⟨v, p2, sd2, e2, hv, r0, r1⟩ := placeN_ok hs sd1 (m := (l.length : Int)) (by omega) q0 (by omega)
      refine ⟨x ++ [v], ev_succ ?_, by rw [List.length_append, List.length_singleton]; omega⟩
      simp only [spec_DrawIsCrowd.l0, e1, e2, Option.bind_some]
      exact ev_neg (by omega) (ev_pos c (ev_pos (by omega) (Ev.now _)))
    · refine ⟨x, ev_succ ?_, by omega⟩
      simp only [spec_DrawIsCrowd.l0, e1, Option.bind_some]
      exact ev_neg (by omega) (ev_neg c (Ev.now _))
  | succ d ih =>
    intro i x p sd hi hx h0 h1
    obtain ⟨b, p1, sd1, e1, q0, q1⟩ := one_ok hs sd 4 h0 (by omega)
    by_cases c : b = true
    · obtain ⟨x', e, h2⟩ := ih (i + 1) x p1 sd1 (by omega) (by omega) q0 (by omega)
      refine ⟨x', ev_succ ?_, h2⟩
      simp only [spec_DrawIsCrowd.l0, e1, Option.bind_some]
      rw [winc (i := i) (by omega)]
      exact ev_pos (by omega) (ev_pos c e)
    · obtain ⟨x', e, h2⟩ := ih (i + 1) (x ++ [(i : Int)]) p1 sd1 (by omega) (by rw [List.length_append, List.length_singleton]; omega) q0 (by omega)
      refine ⟨x', ev_succ ?_, h2⟩
      simp only [spec_DrawIsCrowd.l0, e1, Option.bind_some]
      rw [winc (i := i) (by omega)]
      exact ev_pos (by omega) (ev_neg c (ev_pos (by omega) e))
theorem DrawIsCrowd_ok {s : List Int} (hs : Bys s) : ∃ a l n x, Ev (fun k => spec_DrawIsCrowd.f k s) (a, l, n, x) ∧ Kys 42 l ∧ x.length ≤ 1000 := by
  obtain ⟨a, l, n, p1, sd1, e1, _, hk, _, q0, q1⟩ := keyed_ok hs 0 (p := 0) (by omega) (by omega)
  have hl : l.length ≤ 900 := by have := hk.1; omega
  obtain ⟨x, e, hx⟩ := dc_l0 hs a hl n l.length 0 [] p1 sd1 (by omega) (by simp) q0 (by omega)
  refine ⟨a, l, n, x, ?_, hk, hx⟩
  unfold spec_DrawIsCrowd.f
  exact ev_bind _ e1 e
section
variable {a n : Int} {l : List ByteArray}
theorem spec_IsPlacement_f (hl : l.length ≤ 1000) (hz : ∀ s ∈ l, s.size ≤ 1000) {pl : List Int} : Ev (fun k => spec_IsPlacement.f k a l n pl) (if keyedC a l n = true then (decide (IsPl (prs a n l) pl), true) else (false, false)) := by
  have hk := spec_cuKeyed_f a n hl hz
  have hpl := prs_len a n l
  unfold spec_IsPlacement.f
  by_cases h : keyedC a l n = true
  · rw [if_pos h]
    rw [h] at hk
    have h1 := (keyedC_ok h).1
    exact ev_bind _ hk (ev_pos rfl (ev_bind _ (spec_cuPairs_f h1.1 h1.2 hl hz) (ev_bind _ (spec_cuPlaced_f (L := prs a n l) (by omega) prs_two) (Ev.now _))))
  · rw [if_neg h]
    rw [Bool.eq_false_iff.2 h] at hk
    exact ev_bind _ hk (ev_neg (by simp) (Ev.now _))
theorem zs_inj {g g' : List Nat} (e : zs g = zs g') : g = g' := by
  have := congrArg (List.map Int.toNat) e
  unfold zs at this
  rw [List.map_map, List.map_map] at this
  have hid : (Int.toNat ∘ fun (n : Nat) => (n : Int)) = id := by funext m; simp
  rw [hid, List.map_id, List.map_id] at this
  exact this
theorem spec_IsCrowd_f (hl : l.length ≤ 1000) (hz : ∀ s ∈ l, s.size ≤ 1000) {x : List Int} (hx : x.length ≤ 1000) : Ev (fun k => spec_IsCrowd.f k a l n x) (if keyedC a l n = true then (decide (IsCr (prs a n l) x), true) else (false, false)) := by
  have hk := spec_cuKeyed_f a n hl hz
  have hpl := prs_len a n l
  unfold spec_IsCrowd.f
  by_cases h : keyedC a l n = true
  · rw [if_pos h]
    rw [h] at hk
    have h1 := (keyedC_ok h).1
    have hr := spec_rising_f 0 ((l.length : Int) - 1) x (by omega)
    refine ev_bind _ hk (ev_pos rfl ?_)
    rw [w64 (x := (l.length : Int) - 1) (by omega) (by omega)]
    refine ev_bind _ hr ?_
    by_cases c : risF 0 ((l.length : Int) - 1) none x = true
    · obtain ⟨g, rfl, g1, g2⟩ := ris_zs c
      have hgl := zs_len g
      have hc := spec_cuWide_f (L := prs a n l) (prs_pairs a n l) (g := g) (fun i hi => by rw [hpl]; exact g1 i hi) (by omega)
      refine ev_pos c (ev_bind _ (spec_cuPairs_f h1.1 h1.2 hl hz) (ev_bind _ hc (ev_some ?_)))
      rw [Prod.mk.injEq]
      refine ⟨?_, rfl⟩
      rw [decide_eq_decide]
      constructor
      · intro hw
        exact ⟨g, rfl, fun i hi => by rw [hpl]; exact g1 i hi, g2, by omega⟩
      · rintro ⟨g', e, _, _, h4⟩
        rw [← zs_inj e] at h4
        omega
    · refine ev_neg c (ev_some ?_)
      rw [Prod.mk.injEq]
      refine ⟨(decide_eq_false (fun hcr => ?_)).symm, rfl⟩
      obtain ⟨g, rfl, g1, g2, g3⟩ := hcr
      exact c (zs_ris l.length none g g2 (fun i hi => by have := g1 i hi; omega) (by simp))
  · rw [if_neg h]
    rw [Bool.eq_false_iff.2 h] at hk
    exact ev_bind _ hk (ev_neg (by simp) (Ev.now _))
end
end Go.Proofs.YtephjmmkggcmeaaQ
namespace Go.Proofs.YtephjmmkggcmeaaQ
open Go Go.RowKit Go.Proofs.YtephjmmkggcmeaaW.PrintWords Go.Proofs.YtephjmmkggcmeaaGp Go.Proofs.Ytephjmmkggcmeaa.PC

end Go.Proofs.YtephjmmkggcmeaaQ
namespace Go.Proofs.YtephjmmkggcmeaaQ
open Go Go.RowKit Go.Proofs.YtephjmmkggcmeaaW.PrintWords Go.Proofs.YtephjmmkggcmeaaGp Go.Proofs.Ytephjmmkggcmeaa.PC

namespace LW
theorem has_l0 (x0 : List Int) (a : Int) (hl : (x0.length : Int) ≤ 9223372036854775806) : ∀ (t pre : List Int), x0 = pre ++ t →
    Ev (fun k => laws_pHas.l0 k a x0 (x0.length : Int) (pre.length : Int)) (t.contains a) := by
  intro t
  induction t with
  | nil =>
    intro pre h
    refine ev_succ ?_
    simp only [laws_pHas.l0]
    exact ev_neg (by rw [h]; exact not_lt_end) (ev_some (by simp))
  | cons x t ih =>
    intro pre h
    have hm : ((pre.length : Nat) : Int) < (x0.length : Int) := by rw [h]; exact lt_mid
    have hg : rd x0 (pre.length : Int) = x := by rw [h]; exact rd_mid
    refine ev_succ ?_
    simp only [laws_pHas.l0, hg]
    refine ev_pos hm (ev_pos (by omega) (ev_pos hm ?_))
    by_cases c : x = a
    · exact ev_pos c (ev_some (by simp [c]))
    · refine ev_neg c ?_
      rw [winc (by omega)]
      have := ih (pre ++ [x]) (by rw [h]; simp)
      rw [len_one] at this
      have e : (x :: t).contains a = t.contains a := by simp [Ne.symm c]
      rw [e]
      exact this
theorem has_f (l : List Int) (a : Int) (hl : (l.length : Int) ≤ 9223372036854775806) : Ev (fun k => laws_pHas.f k l a) (l.contains a) := by
  unfold laws_pHas.f
  exact has_l0 l a hl l [] rfl
end LW
end Go.Proofs.YtephjmmkggcmeaaQ
namespace Go.Proofs.Ytephjmmkggcmeaa.Pure
open Go Go.RowKit Go.Proofs.YtephjmmkggcmeaaW.PrintWords Go.Proofs.YtephjmmkggcmeaaW.PrintMore Go.Proofs.YtephjmmkggcmeaaGp Go.Proofs.Ytephjmmkggcmeaa.PC Go.Proofs.YtephjmmkggcmeaaQ
open CK (el Pairs Fits mostC)
open Classical

theorem no_crowd {a n : Int} {l : List ByteArray} {pl : List Int} (hp : IsPl (prs a n l) pl) : (crowdR (prs a n l)).2 = false := by
  rw [Bool.eq_false_iff]
  intro hc
  exact cr_no_pl (crowdR_cr (crowdR_fits.1 hc)) hp
theorem ch_j2 {s : List Int} (hs : Bys s) : Ev (fun k => laws_FnCheckersOfCells.j2 k s) true := by
  obtain ⟨a, l, n, x, ed, hk, hx⟩ := DrawIsCrowd_ok hs
  have hl : l.length ≤ 1000 := by have := hk.1; omega
  have hz : ∀ s ∈ l, s.size ≤ 1000 := fun s hs => by have := hk.2 s hs; omega
  have i1 := impl_IsCrowd_f (a := a) (n := n) hl hz hx
  have s1 := spec_IsCrowd_f (a := a) (n := n) hl hz hx
  have i2 := impl_PlaceKeys_f (a := a) (n := n) hl hz
  refine ev_succ ?_
  simp only [laws_FnCheckersOfCells.j2]
  by_cases h : keyedC a l n = true
  · unfold plV at i2
    rw [if_pos h] at i1 s1 i2
    refine ev_bind _ ed (ev_bind _ i1 (ev_bind _ s1 (ev_neg (by simp) ?_)))
    rw [show (decide (IsCr (prs a n l) x) != decide (IsCr (prs a n l) x)) = false from by simp]
    refine ev_succ ?_
    simp only [laws_FnCheckersOfCells.j3]
    refine ev_neg (by simp) ?_
    by_cases c : IsCr (prs a n l) x
    · refine ev_pos (decide_eq_true c) (ev_bind _ i2 (ev_some ?_))
      rw [Bool.not_eq_true', Bool.eq_false_iff]
      intro hp
      exact cr_no_pl c (placeC_pl (prs_pairs a n l) (placeC_fits.1 hp))
    · exact ev_neg (by simpa using c) (Ev.now _)
  · rw [if_neg h] at i1 s1
    refine ev_bind _ ed (ev_bind _ i1 (ev_bind _ s1 (ev_neg (by simp) (ev_succ ?_))))
    simp only [laws_FnCheckersOfCells.j3]
    exact ev_neg (by simp) (ev_neg (by simp) (Ev.now _))
theorem ch_l0 {s : List Int} (hs : Bys s) {a n : Int} {l : List ByteArray} (h : keyedC a l n = true) {pl : List Int} (hp : IsPl (prs a n l) pl) : ∀ (d i : Nat), i + d = l.length →
    Ev (fun k => laws_FnCheckersOfCells.l0 k s a l n pl l (l.length : Int) (i : Int)) true := by
  have hpl := prs_len a n l
  obtain ⟨hl, hz⟩ := keys_small (keyedC_ok h).2.1
  have hlen : pl.length = l.length := by rw [hp.1, hpl]
  intro d
  induction d with
  | zero =>
    intro i hi
    have i2 := impl_CrowdOf_f (a := a) (n := n) (l := l) (by omega) hz
    unfold crV at i2
    rw [if_pos h] at i2
    refine ev_succ ?_
    simp only [laws_FnCheckersOfCells.l0]
    exact ev_neg (by omega) (ev_bind _ i2 (ev_neg (by rw [no_crowd hp]; simp) (ch_j2 hs)))
  | succ d ih =>
    intro i hi
    have hil : i < l.length := by omega
    have hC := impl_CellsOf_f h (s := l[i]) (List.getElem_mem hil)
    have hr : rdOf ByteArray.empty l (i : Int) = l[i] := rdOf_get hil
    have hm := hp.2.2 i (by omega)
    rw [prs_el hil] at hm
    have ht := nodup_take.1 hp.2.1 i (by omega)
    have e2 := LW.has_f (pl.take i) (pl.getD i 0) (by rw [List.length_take]; omega)
    rw [show (pl.take i).contains (pl.getD i 0) = false from by rw [Bool.eq_false_iff]; intro g; exact ht (List.contains_iff_mem.1 g)] at e2
    have next := ih (i + 1) (by omega)
    refine ev_succ ?_
    simp only [laws_FnCheckersOfCells.l0, hr, rd_nat, Int.toNat_natCast]
    rw [winc (i := i) (by omega)]
    refine ev_pos (by omega) (ev_pos (by omega) (ev_pos (by omega) (ev_bind _ hC (ev_pos rfl (ev_pos (by omega) ?_)))))
    by_cases c : pl.getD i 0 = placeV a 0 l[i] n
    · exact ev_pos c (ev_pos (by omega) (ev_bind _ e2 (ev_neg (by simp) next)))
    · have c2 : pl.getD i 0 = placeV a 1 l[i] n := by
        rcases List.mem_cons.1 hm with e | e
        · exact absurd e c
        · exact List.mem_singleton.1 e
      exact ev_neg c (ev_pos c2 (ev_pos (by omega) (ev_bind _ e2 (ev_neg (by simp) next))))
theorem FnCheckersOfCells : laws_FnCheckersOfCells.Pure := by
  intro l0 l1 h0 _ hw0 h1 _ hw1
  refine Ev.rounds (r := true) ?_
  unfold laws_FnCheckersOfCells.f
  obtain ⟨b, eb, hb⟩ := big_f h0 h1
  rw [eb]
  refine ev_bind _ (Ev.now _) ?_
  by_cases c : b = true
  · exact ev_pos c (Ev.now _)
  obtain ⟨g0, g1⟩ := hb (by simpa using c)
  have hs := bys g0 hw0
  have hs1 := bys g1 hw1
  obtain ⟨a, l, n, pl, ed, hk, hv, hpn⟩ := DrawIsPlacement_ok hs
  have hl : l.length ≤ 1000 := by have := hk.1; omega
  have hz : ∀ s ∈ l, s.size ≤ 1000 := fun s hs => by have := hk.2 s hs; omega
  have i1 := impl_IsPlacement_f (a := a) (n := n) hl hz (pl := pl) (fun x hx => by have := hv x hx; omega)
  have s1 := spec_IsPlacement_f (a := a) (n := n) hl hz (pl := pl)
  by_cases h : keyedC a l n = true
  · rw [if_pos h] at i1 s1
    refine ev_neg c (ev_bind _ ed (ev_bind _ i1 (ev_bind _ s1 (ev_neg (by simp) ?_))))
    rw [show (decide (IsPl (prs a n l) pl) != decide (IsPl (prs a n l) pl)) = false from by simp]
    refine ev_succ ?_
    simp only [laws_FnCheckersOfCells.j0]
    refine ev_neg (by simp) ?_
    by_cases d : IsPl (prs a n l) pl
    · exact ev_pos (decide_eq_true d) (ch_l0 hs1 h d l.length 0 (by omega))
    · exact ev_neg (by simpa using d) (ch_j2 hs1)
  · rw [if_neg h] at i1 s1
    refine ev_neg c (ev_bind _ ed (ev_bind _ i1 (ev_bind _ s1 (ev_neg (by simp) (ev_succ ?_)))))
    simp only [laws_FnCheckersOfCells.j0]
    exact ev_neg (by simp) (ev_neg (by simp) (ch_j2 hs1))
end Go.Proofs.Ytephjmmkggcmeaa.Pure
