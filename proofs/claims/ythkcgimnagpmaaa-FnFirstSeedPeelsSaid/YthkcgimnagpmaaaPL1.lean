/- Plain lemmas on peeling: edges of places, degrees, steps, and what is left; no program. -/
import Derived.Test.YthkcgimnagpmaaaQ0
namespace Go.Proofs.YthkcgimnagpmaaaQ
open Go Go.RowKit

abbrev Edges := List (List Int)
def edg (E : Edges) (i : Nat) : List Int := E.getD i []
/-- How many edges of a list have a place. -/
def degOf (E : Edges) (L : List Nat) (p : Int) : Nat := (L.map fun i => (edg E i).count p).sum
def placesL (P : Nat) : List Int := (List.range P).map Int.ofNat
def freeL (P : Nat) (E : Edges) (L : List Nat) : List Int := (placesL P).filter fun p => degOf E L p == 1
def withE (E : Edges) (L : List Nat) (p : Int) : Option Nat := L.find? fun i => (edg E i).contains p
def dropE (L : List Nat) (i : Nat) : List Nat := L.filter fun j => j != i
def goodE (P : Nat) (E : Edges) : Prop := ∀ e ∈ E, ∀ p ∈ e, 0 ≤ p ∧ p < (P : Int)
def Stable (E : Edges) (S : List Nat) : Prop := ∀ p, degOf E S p ≠ 1

theorem degOf_nil (E : Edges) (p : Int) : degOf E [] p = 0 := rfl
theorem degOf_cons (E : Edges) (i : Nat) (L : List Nat) (p : Int) : degOf E (i :: L) p = (edg E i).count p + degOf E L p := by simp [degOf]
theorem degOf_app (E : Edges) (L M : List Nat) (p : Int) : degOf E (L ++ M) p = degOf E L p + degOf E M p := by
  induction L with
  | nil => simp [degOf_nil]
  | cons i L ih => rw [List.cons_append, degOf_cons, degOf_cons, ih]; omega
theorem degOf_sub {E : Edges} {S L : List Nat} (h : S.Sublist L) (p : Int) : degOf E S p ≤ degOf E L p := by
  induction h with
  | slnil => exact Nat.le_refl _
  | cons i _ ih => rw [degOf_cons]; omega
  | cons_cons i _ ih => rw [degOf_cons, degOf_cons]; omega
theorem degOf_mem {E : Edges} {L : List Nat} {i : Nat} {p : Int} (h : i ∈ L) (hp : p ∈ edg E i) : 1 ≤ degOf E L p := by
  have : 0 < (edg E i).count p := List.count_pos_iff.2 hp
  have h2 := degOf_sub (E := E) (List.singleton_sublist.2 h) p
  rw [degOf_cons, degOf_nil] at h2
  omega
theorem degOf_two {E : Edges} : ∀ {L : List Nat} {i j : Nat} {p : Int}, i ∈ L → j ∈ L → i ≠ j → p ∈ edg E i → p ∈ edg E j → 2 ≤ degOf E L p
  | [], _, _, _, h, _, _, _, _ => by cases h
  | x :: L, i, j, p, hi, hj, hne, pi, pj => by
    rw [degOf_cons]
    rcases List.mem_cons.1 hi with e1 | h1
    · have a : 0 < (edg E x).count p := List.count_pos_iff.2 (e1 ▸ pi)
      rcases List.mem_cons.1 hj with e2 | h2
      · exact absurd (e1.trans e2.symm) hne
      · have := degOf_mem h2 pj
        omega
    · rcases List.mem_cons.1 hj with e2 | h2
      · have a : 0 < (edg E x).count p := List.count_pos_iff.2 (e2 ▸ pj)
        have := degOf_mem h1 pi
        omega
      · have := degOf_two h1 h2 hne pi pj
        omega
theorem degOf_pos {E : Edges} {L : List Nat} {p : Int} (h : 1 ≤ degOf E L p) : ∃ i ∈ L, p ∈ edg E i := by
  induction L with
  | nil => rw [degOf_nil] at h; omega
  | cons i L ih =>
    rw [degOf_cons] at h
    by_cases c : p ∈ edg E i
    · exact ⟨i, by simp, c⟩
    · rw [List.count_eq_zero_of_not_mem c] at h
      obtain ⟨j, hj, hp⟩ := ih (by omega)
      exact ⟨j, by simp [hj], hp⟩
theorem withE_some {E : Edges} {L : List Nat} {p : Int} {i : Nat} (h : withE E L p = some i) : i ∈ L ∧ p ∈ edg E i := by
  have h1 := List.mem_of_find?_eq_some h
  have h2 := List.find?_some h
  exact ⟨h1, by simpa using h2⟩
theorem withE_ex {E : Edges} {L : List Nat} {p : Int} (h : 1 ≤ degOf E L p) : ∃ i, withE E L p = some i := by
  obtain ⟨i, hi, hp⟩ := degOf_pos h
  cases hw : withE E L p with
  | some j => exact ⟨j, rfl⟩
  | none => exact absurd (by simpa using hp) (by simpa using List.find?_eq_none.1 hw i hi)
/-- Where just one edge has a place, this one is found. -/
theorem withE_one {E : Edges} {L : List Nat} {p : Int} {i : Nat} (h : degOf E L p = 1) (hi : i ∈ L) (hp : p ∈ edg E i) : withE E L p = some i := by
  obtain ⟨j, hj⟩ := withE_ex (E := E) (L := L) (p := p) (by omega)
  obtain ⟨h1, h2⟩ := withE_some hj
  by_cases e : i = j
  · rw [e]; exact hj
  · have := degOf_two hi h1 e hp h2
    omega
theorem mem_freeL {P : Nat} {E : Edges} {L : List Nat} {p : Int} : p ∈ freeL P E L ↔ (0 ≤ p ∧ p < (P : Int)) ∧ degOf E L p = 1 := by
  simp only [freeL, placesL, List.mem_filter, List.mem_map, List.mem_range, beq_iff_eq]
  constructor
  · rintro ⟨⟨i, hi, rfl⟩, h⟩
    exact ⟨⟨Int.natCast_nonneg i, Int.ofNat_lt.2 hi⟩, h⟩
  · rintro ⟨h, e⟩
    exact ⟨⟨p.toNat, by omega, Int.toNat_of_nonneg h.1⟩, e⟩
theorem edg_mem {E : Edges} {i : Nat} {p : Int} (h : p ∈ edg E i) : edg E i ∈ E := by
  unfold edg at h ⊢
  by_cases c : i < E.length
  · simp [List.getD, c]
  · simp [List.getD, c] at h
theorem deg_free {P : Nat} {E : Edges} (hg : goodE P E) {L : List Nat} {p : Int} (h : degOf E L p = 1) : p ∈ freeL P E L := by
  obtain ⟨i, _, hp⟩ := degOf_pos (E := E) (L := L) (p := p) (by omega)
  exact mem_freeL.2 ⟨hg _ (edg_mem hp) _ hp, h⟩
theorem stable_iff {P : Nat} {E : Edges} (hg : goodE P E) {L : List Nat} : Stable E L ↔ freeL P E L = [] := by
  constructor
  · intro h
    rw [List.eq_nil_iff_forall_not_mem]
    intro p hp
    exact h p (mem_freeL.1 hp).2
  · intro h p hp
    have := deg_free hg hp
    rw [h] at this
    cases this
theorem mem_dropE {L : List Nat} {i j : Nat} : j ∈ dropE L i ↔ j ∈ L ∧ j ≠ i := by simp [dropE]
theorem dropE_sub (L : List Nat) (i : Nat) : (dropE L i).Sublist L := List.filter_sublist
theorem dropE_len {L : List Nat} (hn : L.Nodup) {i : Nat} (h : i ∈ L) : (dropE L i).length + 1 = L.length := by
  have : dropE L i = L.erase i := (hn.erase_eq_filter i).symm
  rw [this, List.length_erase_of_mem h]
  have := List.length_pos_of_mem h
  omega
/-- A set of edges none of whose places is its own outlives each step. -/
theorem stable_step {E : Edges} {S L : List Nat} {p : Int} {i : Nat} (hS : Stable E S) (hs : S.Sublist L) (hd : degOf E L p = 1) (hw : withE E L p = some i) : S.Sublist (dropE L i) := by
  obtain ⟨h1, h2⟩ := withE_some hw
  have hi : i ∉ S := fun c => by
    have a := degOf_mem c h2
    have b := degOf_sub (E := E) hs p
    exact hS p (by omega)
  have e : S.filter (fun j => j != i) = S := List.filter_eq_self.2 fun j hj => by
    simp only [bne_iff_ne, ne_eq]
    rintro rfl
    exact hi hj
  rw [← e]
  exact hs.filter _

/-! ### peeling by choices -/
def stepE (P : Nat) (E : Edges) (L : List Nat) (c : Nat) : Option (Nat × Int) :=
  if (freeL P E L).length = 0 then none else let p := (freeL P E L).getD (c % (freeL P E L).length) 0; some ((withE E L p).getD 0, p)
def peelC (P : Nat) (E : Edges) : List Nat → List Nat → List (Nat × Int) × List Nat
  | [], L => ([], L)
  | c :: cs, L => match stepE P E L c with
    | none => ([], L)
    | some (i, p) => ((i, p) :: (peelC P E cs (dropE L i)).1, (peelC P E cs (dropE L i)).2)
theorem stepE_none {P : Nat} {E : Edges} {L : List Nat} {c : Nat} : stepE P E L c = none ↔ freeL P E L = [] := by
  unfold stepE
  split
  · rename_i h; simp [List.length_eq_zero_iff.1 h]
  · rename_i h; simp; intro e; rw [e] at h; exact h rfl
theorem stepE_some {P : Nat} {E : Edges} {L : List Nat} {c i : Nat} {p : Int} (h : stepE P E L c = some (i, p)) : p ∈ freeL P E L ∧ degOf E L p = 1 ∧ withE E L p = some i := by
  unfold stepE at h
  split at h
  · cases h
  · rename_i hl
    simp only [Option.some.injEq, Prod.mk.injEq] at h
    obtain ⟨h1, h2⟩ := h
    have hm : c % (freeL P E L).length < (freeL P E L).length := Nat.mod_lt _ (by omega)
    have hp : p ∈ freeL P E L := by rw [← h2, List.getD_eq_getElem?_getD, List.getElem?_eq_getElem hm]; exact List.getElem_mem hm
    have hd := (mem_freeL.1 hp).2
    obtain ⟨j, hj⟩ := withE_ex (E := E) (L := L) (p := p) (by omega)
    rw [h2, hj] at h1
    exact ⟨hp, hd, by rw [hj]; simpa using h1⟩
theorem peelC_cons_none {P : Nat} {E : Edges} {L : List Nat} (c : Nat) (cs : List Nat) (h : freeL P E L = []) : peelC P E (c :: cs) L = ([], L) := by
  rw [peelC, stepE_none.2 h]
theorem peelC_cons_some {P : Nat} {E : Edges} {L : List Nat} {c i : Nat} {p : Int} (cs : List Nat) (h : stepE P E L c = some (i, p)) : peelC P E (c :: cs) L = ((i, p) :: (peelC P E cs (dropE L i)).1, (peelC P E cs (dropE L i)).2) := by
  rw [peelC, h]
theorem nodup_drop {L : List Nat} (h : L.Nodup) (i : Nat) : (dropE L i).Nodup := (dropE_sub L i).nodup h
theorem peelC_len {P : Nat} {E : Edges} : ∀ (cs L : List Nat), L.Nodup → (peelC P E cs L).1.length + (peelC P E cs L).2.length = L.length
  | [], L, _ => by simp [peelC]
  | c :: cs, L, hn => by
    cases h : stepE P E L c with
    | none => rw [peelC_cons_none c cs (stepE_none.1 h)]; simp
    | some q =>
      obtain ⟨i, p⟩ := q
      rw [peelC_cons_some cs h]
      have h1 := (withE_some (stepE_some h).2.2).1
      have := peelC_len (P := P) (E := E) cs (dropE L i) (nodup_drop hn i)
      have := dropE_len hn h1
      simp only [List.length_cons]
      omega
theorem peelC_sub {P : Nat} {E : Edges} : ∀ (cs L : List Nat), (peelC P E cs L).2.Sublist L
  | [], L => by simp [peelC]
  | c :: cs, L => by
    cases h : stepE P E L c with
    | none => rw [peelC_cons_none c cs (stepE_none.1 h)]; exact List.Sublist.refl _
    | some q =>
      obtain ⟨i, p⟩ := q
      rw [peelC_cons_some cs h]
      exact (peelC_sub cs (dropE L i)).trans (dropE_sub L i)
theorem peelC_stable {P : Nat} {E : Edges} {S : List Nat} (hS : Stable E S) : ∀ (cs L : List Nat), S.Sublist L → S.Sublist (peelC P E cs L).2
  | [], L, h => by simpa [peelC] using h
  | c :: cs, L, hs => by
    cases h : stepE P E L c with
    | none => rw [peelC_cons_none c cs (stepE_none.1 h)]; exact hs
    | some q =>
      obtain ⟨i, p⟩ := q
      rw [peelC_cons_some cs h]
      obtain ⟨_, hd, hw⟩ := stepE_some h
      exact peelC_stable hS cs (dropE L i) (stable_step hS hs hd hw)
/-- An edge of a step is not left. -/
theorem peelC_steps {P : Nat} {E : Edges} : ∀ (cs L : List Nat), ∀ s ∈ (peelC P E cs L).1, s.1 ∈ L ∧ s.1 ∉ (peelC P E cs L).2
  | [], L => by simp [peelC]
  | c :: cs, L => by
    cases h : stepE P E L c with
    | none => rw [peelC_cons_none c cs (stepE_none.1 h)]; simp
    | some q =>
      obtain ⟨i, p⟩ := q
      rw [peelC_cons_some cs h]
      obtain ⟨_, hd, hw⟩ := stepE_some h
      intro s hs
      simp only [List.mem_cons] at hs
      rcases hs with rfl | hs
      · refine ⟨(withE_some hw).1, fun c => ?_⟩
        have := (peelC_sub cs (dropE L i)).subset c
        exact (mem_dropE.1 this).2 rfl
      · obtain ⟨a, b⟩ := peelC_steps cs (dropE L i) s hs
        exact ⟨(mem_dropE.1 a).1, b⟩
/-- With choices for all edges nothing can be peeled any more; before that each choice is a step. -/
theorem peelC_done {P : Nat} {E : Edges} : ∀ (cs L : List Nat), L.Nodup → (peelC P E cs L).1.length = cs.length ∨ freeL P E (peelC P E cs L).2 = []
  | [], L, _ => by simp [peelC]
  | c :: cs, L, hn => by
    cases h : stepE P E L c with
    | none => rw [peelC_cons_none c cs (stepE_none.1 h)]; exact .inr (stepE_none.1 h)
    | some q =>
      obtain ⟨i, p⟩ := q
      rw [peelC_cons_some cs h]
      rcases peelC_done (P := P) (E := E) cs (dropE L i) (nodup_drop hn i) with e | e
      · left; simp only [List.length_cons]; omega
      · right; exact e
theorem freeL_nil {P : Nat} {E : Edges} : freeL P E [] = [] := by
  rw [List.eq_nil_iff_forall_not_mem]
  intro p hp
  have := (mem_freeL.1 hp).2
  rw [degOf_nil] at this
  cases this
theorem peelC_end {P : Nat} {E : Edges} {cs L : List Nat} (hn : L.Nodup) (h : L.length ≤ cs.length) : freeL P E (peelC P E cs L).2 = [] := by
  rcases peelC_done (P := P) (E := E) cs L hn with e | e
  · have := peelC_len (P := P) (E := E) cs L hn
    have : (peelC P E cs L).2 = [] := List.length_eq_zero_iff.1 (by omega)
    rw [this]; exact freeL_nil
  · exact e
def allE (E : Edges) : List Nat := List.range E.length
def peelAll (P : Nat) (E : Edges) : List (Nat × Int) × List Nat := peelC P E (List.replicate E.length 0) (allE E)
def coreE (P : Nat) (E : Edges) : List Nat := (peelAll P E).2
theorem allE_nodup (E : Edges) : (allE E).Nodup := List.nodup_range
theorem core_stable {P : Nat} {E : Edges} (hg : goodE P E) : Stable E (coreE P E) := (stable_iff hg).2 (peelC_end (allE_nodup E) (by simp [allE]))
theorem core_sub {P : Nat} {E : Edges} : (coreE P E).Sublist (allE E) := peelC_sub _ _
theorem stable_core {P : Nat} {E : Edges} {S : List Nat} (hS : Stable E S) (h : S.Sublist (allE E)) : S.Sublist (coreE P E) := peelC_stable hS _ _ h
/-- What is left of any peeling is the core, as soon as nothing more can be peeled. -/
theorem left_core {P : Nat} {E : Edges} (hg : goodE P E) {cs : List Nat} (h : freeL P E (peelC P E cs (allE E)).2 = []) : (peelC P E cs (allE E)).2 = coreE P E :=
  (stable_core ((stable_iff hg).2 h) (peelC_sub _ _)).eq_of_length_le (peelC_stable (core_stable hg) _ _ core_sub).length_le
end Go.Proofs.YthkcgimnagpmaaaQ
