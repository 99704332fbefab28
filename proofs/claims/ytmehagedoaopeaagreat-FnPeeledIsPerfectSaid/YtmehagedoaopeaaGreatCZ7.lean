import Derived.Test.YtmehagedoaopeaaGreatCZ6
import Derived.Test.YtmehagedoaopeaaGreatCZ3
import Derived.Test.YtmehagedoaopeaaGreatCZ4
import Derived.Test.YtmehagedoaopeaaGreatCZ2
import Derived.Test.YtmehagedoaopeaaGreatCZ5
import Derived.Test.YtmehagedoaopeaaGreatCZ1
import Derived.Test.YtmehagedoaopeaaGreatCZ0
import Derived.Laws.BitsLemmas
namespace Go.Proofs.YtmehagedoaopeaaGreatQ
open Go Go.RowKit

abbrev Edges := List (List Int)
def edg (E : Edges) (i : Nat) : List Int := E.getD i []
def degOf (E : Edges) (L : List Nat) (p : Int) : Nat := (L.map fun i => (edg E i).count p).sum
def placesL (P : Nat) : List Int := (List.range P).map Int.ofNat
def freeL (P : Nat) (E : Edges) (L : List Nat) : List Int := (placesL P).filter fun p => degOf E L p == 1
def withE (E : Edges) (L : List Nat) (p : Int) : Option Nat := L.find? fun i => (edg E i).contains p
def dropE (L : List Nat) (i : Nat) : List Nat := L.filter fun j => j != i
def goodE (P : Nat) (E : Edges) : Prop := ∀ e ∈ E, ∀ p ∈ e, 0 ≤ p ∧ p < (P : Int)
theorem degOf_nil (E : Edges) (p : Int) : degOf E [] p = 0 := rfl
theorem degOf_cons (E : Edges) (i : Nat) (L : List Nat) (p : Int) : degOf E (i :: L) p = (edg E i).count p + degOf E L p := by simp [degOf]
theorem degOf_sub {E : Edges} {S L : List Nat} (h : S.Sublist L) (p : Int) : degOf E S p ≤ degOf E L p := by
  induction h with
  | slnil => exact Nat.le_refl _
  | cons i _ ih => rw [degOf_cons]; omega
  | cons_cons i _ ih => rw [degOf_cons, degOf_cons]; omega
theorem degOf_mem {E : Edges} {L : List Nat} {i : Nat} {p : Int} (h : i ∈ L) (hp : p ∈ edg E i) : 1 ≤ degOf E L p := by
  have : 0 < (edg E i).count p := List.count_pos_iff.2 hp
  have h2 := degOf_sub (E := E) (List.singleton_sublist.2 h) p
  rw [degOf_cons, degOf_nil] at h2
  omega
theorem degOf_two {E : Edges} : ∀ {L : List Nat} {i j : Nat} {p : Int}, i ∈ L → j ∈ L → i ≠ j → p ∈ edg E i → p ∈ edg E j → 2 ≤ degOf E L p
  | [], _, _, _, h, _, _, _, _ => by cases h
  | x :: L, i, j, p, hi, hj, hne, pi, pj => by
    rw [degOf_cons]
    rcases List.mem_cons.1 hi with e1 | h1
    · have a : 0 < (edg E x).count p := List.count_pos_iff.2 (e1 ▸ pi)
      rcases List.mem_cons.1 hj with e2 | h2
      · exact absurd (e1.trans e2.symm) hne
      · have := degOf_mem h2 pj
        omega
    · rcases List.mem_cons.1 hj with e2 | h2
      · have a : 0 < (edg E x).count p := List.count_pos_iff.2 (e2 ▸ pj)
        have := degOf_mem h1 pi
        omega
      · have := degOf_two h1 h2 hne pi pj
        omega
theorem degOf_pos {E : Edges} {L : List Nat} {p : Int} (h : 1 ≤ degOf E L p) : ∃ i ∈ L, p ∈ edg E i := by
  induction L with
  | nil => rw [degOf_nil] at h; omega
  | cons i L ih =>
    rw [degOf_cons] at h
    by_cases c : p ∈ edg E i
    · exact ⟨i, by simp, c⟩
    · rw [List.count_eq_zero_of_not_mem c] at h
      obtain ⟨j, hj, hp⟩ := ih (by omega)
      exact ⟨j, by simp [hj], hp⟩
theorem withE_some {E : Edges} {L : List Nat} {p : Int} {i : Nat} (h : withE E L p = some i) : i ∈ L ∧ p ∈ edg E i := by
  have h1 := List.mem_of_find?_eq_some h
  have h2 := List.find?_some h
  exact ⟨h1, by simpa using h2⟩
theorem withE_ex {E : Edges} {L : List Nat} {p : Int} (h : 1 ≤ degOf E L p) : ∃ i, withE E L p = some i := by
  obtain ⟨i, hi, hp⟩ := degOf_pos h
  cases hw : withE E L p with
  | some j => exact ⟨j, rfl⟩
  | none => exact absurd (by simpa using hp) (by simpa using List.find?_eq_none.1 hw i hi)
theorem mem_freeL {P : Nat} {E : Edges} {L : List Nat} {p : Int} : p ∈ freeL P E L ↔ (0 ≤ p ∧ p < (P : Int)) ∧ degOf E L p = 1 := by
  simp only [freeL, placesL, List.mem_filter, List.mem_map, List.mem_range, beq_iff_eq]
  constructor
  · rintro ⟨⟨i, hi, rfl⟩, h⟩
    exact ⟨⟨Int.natCast_nonneg i, Int.ofNat_lt.2 hi⟩, h⟩
  · rintro ⟨h, e⟩
    exact ⟨⟨p.toNat, by omega, Int.toNat_of_nonneg h.1⟩, e⟩
theorem mem_dropE {L : List Nat} {i j : Nat} : j ∈ dropE L i ↔ j ∈ L ∧ j ≠ i := by simp [dropE]
theorem dropE_sub (L : List Nat) (i : Nat) : (dropE L i).Sublist L := List.filter_sublist
theorem dropE_len {L : List Nat} (hn : L.Nodup) {i : Nat} (h : i ∈ L) : (dropE L i).length + 1 = L.length := by
  have : dropE L i = L.erase i := (hn.erase_eq_filter i).symm
  rw [this, List.length_erase_of_mem h]
  have := List.length_pos_of_mem h
  omega
def stepE (P : Nat) (E : Edges) (L : List Nat) (c : Nat) : Option (Nat × Int) :=
  if (freeL P E L).length = 0 then none else let p := (freeL P E L).getD (c % (freeL P E L).length) 0; some ((withE E L p).getD 0, p)
def peelC (P : Nat) (E : Edges) : List Nat → List Nat → List (Nat × Int) × List Nat
  | [], L => ([], L)
  | c :: cs, L => match stepE P E L c with
    | none => ([], L)
    | some (i, p) => ((i, p) :: (peelC P E cs (dropE L i)).1, (peelC P E cs (dropE L i)).2)
theorem stepE_none {P : Nat} {E : Edges} {L : List Nat} {c : Nat} : stepE P E L c = none ↔ freeL P E L = [] := by
  unfold stepE
  split
  · rename_i h; simp [List.length_eq_zero_iff.1 h]
  · rename_i h; simp; intro e; rw [e] at h; exact h rfl
theorem stepE_some {P : Nat} {E : Edges} {L : List Nat} {c i : Nat} {p : Int} (h : stepE P E L c = some (i, p)) : p ∈ freeL P E L ∧ degOf E L p = 1 ∧ withE E L p = some i := by
  unfold stepE at h
  split at h
  · cases h
  · rename_i hl
    simp only [Option.some.injEq, Prod.mk.injEq] at h
    obtain ⟨h1, h2⟩ := h
    have hm : c % (freeL P E L).length < (freeL P E L).length := Nat.mod_lt _ (by omega)
    have hp : p ∈ freeL P E L := by rw [← h2, List.getD_eq_getElem?_getD, List.getElem?_eq_getElem hm]; exact List.getElem_mem hm
    have hd := (mem_freeL.1 hp).2
    obtain ⟨j, hj⟩ := withE_ex (E := E) (L := L) (p := p) (by omega)
    rw [h2, hj] at h1
    exact ⟨hp, hd, by rw [hj]; simpa using h1⟩
theorem peelC_cons_none {P : Nat} {E : Edges} {L : List Nat} (c : Nat) (cs : List Nat) (h : freeL P E L = []) : peelC P E (c :: cs) L = ([], L) := by
  rw [peelC, stepE_none.2 h]
theorem peelC_cons_some {P : Nat} {E : Edges} {L : List Nat} {c i : Nat} {p : Int} (cs : List Nat) (h : stepE P E L c = some (i, p)) : peelC P E (c :: cs) L = ((i, p) :: (peelC P E cs (dropE L i)).1, (peelC P E cs (dropE L i)).2) := by
  rw [peelC, h]
theorem nodup_drop {L : List Nat} (h : L.Nodup) (i : Nat) : (dropE L i).Nodup := (dropE_sub L i).nodup h
theorem peelC_len {P : Nat} {E : Edges} : ∀ (cs L : List Nat), L.Nodup → (peelC P E cs L).1.length + (peelC P E cs L).2.length = L.length
  | [], L, _ => by simp [peelC]
  | c :: cs, L, hn => by
    cases h : stepE P E L c with
    | none => rw [peelC_cons_none c cs (stepE_none.1 h)]; simp
    | some q =>
      obtain ⟨i, p⟩ := q
      rw [peelC_cons_some cs h]
      have h1 := (withE_some (stepE_some h).2.2).1
      have := peelC_len (P := P) (E := E) cs (dropE L i) (nodup_drop hn i)
      have := dropE_len hn h1
      simp only [List.length_cons]
      omega
theorem freeL_nil {P : Nat} {E : Edges} : freeL P E [] = [] := by
  rw [List.eq_nil_iff_forall_not_mem]
  intro p hp
  have := (mem_freeL.1 hp).2
  rw [degOf_nil] at this
  cases this
def allE (E : Edges) : List Nat := List.range E.length
def peelAll (P : Nat) (E : Edges) : List (Nat × Int) × List Nat := peelC P E (List.replicate E.length 0) (allE E)
def coreE (P : Nat) (E : Edges) : List Nat := (peelAll P E).2
theorem allE_nodup (E : Edges) : (allE E).Nodup := List.nodup_range
end Go.Proofs.YtmehagedoaopeaaGreatQ
namespace Go.Proofs.YtmehagedoaopeaaGreatQ
open Go Go.RowKit Go.Proofs.YtmehagedoaopeaaGreatW.PrintWords

def castL (L : List Nat) : List Int := L.map Int.ofNat
theorem castL_len (L : List Nat) : (castL L).length = L.length := by simp [castL]
theorem castL_app (L M : List Nat) : castL (L ++ M) = castL L ++ castL M := by simp [castL]
theorem rd_castmid {pre t : List Nat} {j : Nat} : rd (castL (pre ++ j :: t)) (pre.length : Int) = (j : Int) := by
  simp [rd, castL]
def cntL (ps : List Int) (m : Nat) : List Int := (List.range m).map fun i => ((ps.count (Int.ofNat i) : Nat) : Int)
theorem cntL_len (ps : List Int) (m : Nat) : (cntL ps m).length = m := by simp [cntL]
theorem cntL_get (ps : List Int) {m i : Nat} (h : i < m) : (cntL ps m)[i]'(by rw [cntL_len]; exact h) = ((ps.count (Int.ofNat i) : Nat) : Int) := by simp [cntL]
theorem cntL_rd (ps : List Int) {m : Nat} {p : Int} (h0 : 0 ≤ p) (h1 : p < (m : Int)) : rd (cntL ps m) p = ((ps.count p : Nat) : Int) := by
  have hlt : p.toNat < (cntL ps m).length := by rw [cntL_len]; omega
  unfold rd
  rw [List.getD_eq_getElem?_getD, List.getElem?_eq_getElem hlt, Option.getD_some, cntL_get _ (by omega), show Int.ofNat p.toNat = p from by simp; omega]
theorem cntL_nil (m : Nat) : cntL [] m = List.replicate m 0 := by
  apply List.ext_getElem
  · simp [cntL]
  · intro i h1 h2
    simp [cntL]
theorem cntL_set (ps : List Int) {m : Nat} {p : Int} (h0 : 0 ≤ p) : (cntL ps m).set p.toNat (((ps.count p : Nat) : Int) + 1) = cntL (ps ++ [p]) m := by
  apply List.ext_getElem
  · simp [cntL]
  · intro i g1 g2
    rw [List.getElem_set]
    simp only [cntL, List.getElem_map, List.getElem_range, List.count_append]
    by_cases c : p.toNat = i
    · rw [if_pos c]
      have : Int.ofNat i = p := by simp; omega
      rw [this]; simp
    · rw [if_neg c]
      have : ¬ p = (i : Int) := by omega
      simp [this]
def plsL (E : Edges) (L : List Nat) : List Int := L.flatMap (edg E)
theorem degOf_pls (E : Edges) (L : List Nat) (p : Int) : (plsL E L).count p = degOf E L p := by
  induction L with
  | nil => rfl
  | cons i L ih => rw [degOf_cons, plsL, List.flatMap_cons, List.count_append, ← ih, plsL]
structure GoodH (P : Nat) (E : Edges) : Prop where
  rng : goodE P E
  len : E.length ≤ 1000
  row : ∀ e ∈ E, e.length ≤ 3
  plc : P ≤ 1000
theorem GoodH.edge {P : Nat} {E : Edges} (h : GoodH P E) (i : Nat) : (edg E i).length ≤ 3 ∧ ∀ p ∈ edg E i, 0 ≤ p ∧ p < (P : Int) := by
  unfold edg
  by_cases c : i < E.length
  · rw [List.getD_eq_getElem?_getD, List.getElem?_eq_getElem c, Option.getD_some]
    exact ⟨h.row _ (List.getElem_mem c), h.rng _ (List.getElem_mem c)⟩
  · rw [List.getD_eq_getElem?_getD, List.getElem?_eq_none (by omega)]
    simp
theorem plsL_len {P : Nat} {E : Edges} (h : GoodH P E) (L : List Nat) : (plsL E L).length ≤ 3 * L.length := by
  induction L with
  | nil => simp [plsL]
  | cons i L ih =>
    have := (h.edge i).1
    simp only [plsL, List.flatMap_cons, List.length_append, List.length_cons] at ih ⊢
    omega
theorem count_le_len (l : List Int) (p : Int) : l.count p ≤ l.length := List.count_le_length

def freeUp (ps : List Int) (i : Nat) : List Int := ((List.range i).map Int.ofNat).filter fun p => ps.count p == 1
theorem freeUp_succ (ps : List Int) (i : Nat) : freeUp ps (i + 1) = if ps.count (i : Int) = 1 then freeUp ps i ++ [(i : Int)] else freeUp ps i := by
  unfold freeUp
  rw [List.range_succ, List.map_append, List.filter_append]
  by_cases c : ps.count (i : Int) = 1
  · rw [if_pos c]; simp [c]
  · rw [if_neg c]; simp [c]
theorem freeUp_len (ps : List Int) (i : Nat) : (freeUp ps i).length ≤ i := by
  unfold freeUp
  refine Nat.le_trans (List.length_filter_le _ _) (by simp)
theorem freeL_up (P : Nat) (E : Edges) (L : List Nat) : freeUp (plsL E L) P = freeL P E L := by
  unfold freeUp freeL placesL
  refine List.filter_congr fun p _ => ?_
  rw [degOf_pls]
def Rg (n : Nat) (L : List Nat) : Prop := L.Sublist (List.range n)
theorem Rg.lt {n : Nat} {L : List Nat} (h : Rg n L) {i : Nat} (hi : i ∈ L) : i < n := List.mem_range.1 (h.subset hi)
theorem Rg.nodup {n : Nat} {L : List Nat} (h : Rg n L) : L.Nodup := List.Sublist.nodup h List.nodup_range
theorem Rg.len {n : Nat} {L : List Nat} (h : Rg n L) : L.length ≤ n := by
  have := List.Sublist.length_le h
  simpa using this
theorem Rg.drop {n : Nat} {L : List Nat} (h : Rg n L) (i : Nat) : Rg n (dropE L i) := (dropE_sub L i).trans h
theorem Rg.all (n : Nat) : Rg n (List.range n) := List.Sublist.refl _
theorem sub_filter : ∀ {L M : List Nat}, L.Sublist M → M.Nodup → M.filter (fun i => L.contains i) = L := by
  intro L M h
  induction h with
  | slnil => intro _; rfl
  | @cons L M a hs ih =>
    intro hn
    rw [List.nodup_cons] at hn
    have : ¬ a ∈ L := fun c => hn.1 (hs.subset c)
    rw [List.filter_cons_of_neg (by simpa using this)]
    exact ih hn.2
  | @cons_cons L M a hs ih =>
    intro hn
    rw [List.nodup_cons] at hn
    rw [List.filter_cons_of_pos (by simp)]
    congr 1
    rw [← ih hn.2]
    refine List.filter_congr fun x hx => ?_
    have : ¬ x = a := fun e => hn.1 (e ▸ hx)
    rw [ih hn.2, Bool.eq_iff_iff]
    simp [this]
theorem Rg.filter {n : Nat} {L : List Nat} (h : Rg n L) : (List.range n).filter (fun i => L.contains i) = L := sub_filter h List.nodup_range
def upTo (L : List Nat) (i : Nat) : List Nat := (List.range i).filter fun j => L.contains j
theorem upTo_succ (L : List Nat) (i : Nat) : upTo L (i + 1) = if i ∈ L then upTo L i ++ [i] else upTo L i := by
  unfold upTo
  rw [List.range_succ, List.filter_append]
  by_cases c : i ∈ L
  · rw [if_pos c]; simp [c]
  · rw [if_neg c]; simp [c]
theorem upTo_all {n : Nat} {L : List Nat} (h : Rg n L) : upTo L n = L := h.filter
theorem upTo_len (L : List Nat) (i : Nat) : (upTo L i).length ≤ i := Nat.le_trans (List.length_filter_le _ _) (by simp)
def goneOf (n : Nat) (L : List Nat) : List Bool := (List.range n).map fun i => !(L.contains i)
theorem goneOf_len (n : Nat) (L : List Nat) : (goneOf n L).length = n := by simp [goneOf]
theorem goneOf_rd {n : Nat} {L : List Nat} {i : Nat} (h : i < n) : rdOf false (goneOf n L) (i : Int) = !(L.contains i) := by
  simp [rdOf, goneOf, h]
theorem goneOf_all (n : Nat) : goneOf n (List.range n) = List.replicate n false := by
  apply List.ext_getElem
  · simp [goneOf]
  · intro i h1 h2
    simp [goneOf] at h1 ⊢
    exact h1
theorem goneOf_set {n : Nat} {L : List Nat} {i : Nat} : (goneOf n L).set i true = goneOf n (dropE L i) := by
  apply List.ext_getElem
  · simp [goneOf]
  · intro j h1 h2
    rw [List.getElem_set]
    simp only [goneOf, List.getElem_map, List.getElem_range]
    by_cases c : i = j
    · rw [if_pos c]; subst c; simp [dropE]
    · rw [if_neg c, Bool.eq_iff_iff]
      simp [dropE, Ne.symm c]
theorem withE_least {E : Edges} {p : Int} : ∀ {L : List Nat} {j : Nat}, L.Pairwise (· < ·) → withE E L p = some j → ∀ k ∈ L, k < j → ¬ p ∈ edg E k
  | [], j, _, h, _, hk, _ => by cases hk
  | x :: L, j, hp, h, k, hk, hkj => by
    rw [List.pairwise_cons] at hp
    unfold withE at h
    rw [List.find?_cons] at h
    by_cases c : (edg E x).contains p = true
    · rw [c] at h
      obtain rfl := Option.some.inj h
      rcases List.mem_cons.1 hk with rfl | hk
      · omega
      · have := hp.1 k hk; omega
    · rw [Bool.eq_false_iff.2 c] at h
      rcases List.mem_cons.1 hk with rfl | hk
      · simpa using c
      · exact withE_least hp.2 h k hk hkj
theorem Rg.sorted {n : Nat} {L : List Nat} (h : Rg n L) : L.Pairwise (· < ·) := List.Pairwise.sublist h List.pairwise_lt_range
end Go.Proofs.YtmehagedoaopeaaGreatQ
namespace Go.Proofs.YtmehagedoaopeaaGreatQ
open Go Go.RowKit Go.Proofs.YtmehagedoaopeaaGreatW.PrintWords Go.Proofs.YtmehagedoaopeaaGreatGp Go.Proofs.YtmehagedoaopeaaGreat.PZ

theorem rd_edg (E : Edges) (i : Nat) : rd_L3 E (i : Int) = edg E i := rfl
theorem wcount {c : Nat} (h : c ≤ 1000000) : wrap64 ((c : Int) + 1) = (c : Int) + 1 := w64 (by omega) (by omega)
theorem impl_degrees_l1 {P : Nat} {E : Edges} {G : List Bool} {n : Int} {r : List Int} {i : Nat} (e : List Int) (hi : (i : Int) < 9223372036854775806) (he : (e.length : Int) ≤ 9223372036854775806) (hr : ∀ p ∈ e, 0 ≤ p ∧ p < (P : Int)) (ps : List Int) (hps : ps.length + e.length ≤ 1000000)
    (H : Ev (fun k => impl_Hyper_degrees.l0 k G (cntL (ps ++ e) P) E n ((i + 1 : Nat) : Int)) r) : ∀ (t pre : List Int), e = pre ++ t →
    Ev (fun k => impl_Hyper_degrees.l1 k G (cntL (ps ++ pre) P) E n (i : Int) e (e.length : Int) (pre.length : Int)) r := by
  intro t
  induction t with
  | nil =>
    intro pre h
    have hp : e = pre := by rw [h, List.append_nil]
    subst hp
    refine ev_succ ?_
    simp only [impl_Hyper_degrees.l1]
    refine ev_neg (by omega) ?_
    rw [winc (by omega)]
    exact H
  | cons x t ih =>
    intro pre h
    have hm : ((pre.length : Nat) : Int) < (e.length : Int) := by rw [h]; exact lt_mid
    have hg : rd e (pre.length : Int) = x := by rw [h]; exact rd_mid
    obtain ⟨x0, x1⟩ := hr x (by rw [h]; simp)
    have hc := count_le_len (ps ++ pre) x
    have hl : e.length = pre.length + (t.length + 1) := by rw [h]; simp
    rw [List.length_append] at hc
    refine ev_succ ?_
    simp only [impl_Hyper_degrees.l1, hg]
    refine ev_pos hm (ev_pos (by omega) (ev_pos hm (ev_pos x0 (ev_pos (by rw [cntL_len]; exact x1) ?_))))
    rw [winc (by omega), cntL_rd _ x0 x1, wcount (by omega), cntL_set _ x0, List.append_assoc]
    have := ih (pre ++ [x]) (by rw [h]; simp)
    rw [len_one] at this
    exact this
theorem impl_degrees_l0 {P : Nat} {E : Edges} (hG : GoodH P E) {L : List Nat} (hL : Rg E.length L) : ∀ (d i : Nat), i + d = E.length →
    Ev (fun k => impl_Hyper_degrees.l0 k (goneOf E.length L) (cntL (plsL E (upTo L i)) P) E (E.length : Int) (i : Int)) (cntL (plsL E L) P) := by
  intro d
  have hn := hG.len
  induction d with
  | zero =>
    intro i h
    have hi : i = E.length := by omega
    refine ev_succ ?_
    simp only [impl_Hyper_degrees.l0]
    refine ev_neg (by omega) (ev_some ?_)
    rw [hi, upTo_all hL]
  | succ d ih =>
    intro i h
    have next := ih (i + 1) (by omega)
    rw [upTo_succ] at next
    refine ev_succ ?_
    simp only [impl_Hyper_degrees.l0]
    refine ev_pos (by omega) (ev_pos (by omega) (ev_pos (by omega) (ev_pos (by rw [goneOf_len]; omega) ?_)))
    rw [goneOf_rd (by omega)]
    by_cases c : i ∈ L
    · rw [if_pos c] at next
      refine ev_neg (by simp [c]) ?_
      rw [rd_edg]
      have hb := plsL_len hG (upTo L i)
      have hu := upTo_len L i
      obtain ⟨he, hr⟩ := hG.edge i
      have hpe : plsL E (upTo L i ++ [i]) = plsL E (upTo L i) ++ edg E i := by simp [plsL]
      rw [hpe] at next
      have := impl_degrees_l1 (P := P) (E := E) (G := goneOf E.length L) (n := (E.length : Int)) (edg E i) (by omega) (by omega) hr (plsL E (upTo L i)) (by omega) next (edg E i) [] rfl
      rw [List.append_nil] at this
      exact this
    · rw [if_neg c] at next
      refine ev_pos (by simp [c]) ?_
      rw [winc (by omega)]
      exact next
theorem impl_degrees_f {P : Nat} {E : Edges} (hG : GoodH P E) {L : List Nat} (hL : Rg E.length L) : Ev (fun k => impl_Hyper_degrees.f k (P : Int) E (goneOf E.length L)) (cntL (plsL E L) P) := by
  have hp := hG.plc
  unfold impl_Hyper_degrees.f
  refine ev_pos (by omega) (ev_pos (by omega) ?_)
  have := impl_degrees_l0 hG hL E.length 0 (by omega)
  rw [show plsL E (upTo L 0) = [] from rfl, cntL_nil] at this
  exact this
theorem impl_singles_l0 {P : Nat} (ps : List Int) (hP : P ≤ 1000) : ∀ (d i : Nat), i + d = P →
    Ev (fun k => impl_Hyper_singles.l0 k (freeUp ps i) (cntL ps P) (P : Int) (i : Int)) (freeUp ps P) := by
  intro d
  induction d with
  | zero =>
    intro i h
    have hi : i = P := by omega
    refine ev_succ ?_
    simp only [impl_Hyper_singles.l0]
    refine ev_neg (by omega) (ev_some (by rw [hi]))
  | succ d ih =>
    intro i h
    have next := ih (i + 1) (by omega)
    have hl := freeUp_len ps i
    rw [freeUp_succ] at next
    refine ev_succ ?_
    simp only [impl_Hyper_singles.l0]
    rw [cntL_rd ps (by omega) (by omega)]
    refine ev_pos (by omega) (ev_pos (by omega) (ev_pos (by rw [cntL_len]; omega) ?_))
    rw [winc (by omega)]
    by_cases c : ps.count (i : Int) = 1
    · rw [if_pos c] at next
      exact ev_pos (by omega) (ev_pos (by omega) next)
    · rw [if_neg c] at next
      exact ev_neg (by omega) next
theorem impl_singles_f {P : Nat} {E : Edges} (hG : GoodH P E) {L : List Nat} (hL : Rg E.length L) : Ev (fun k => impl_Hyper_singles.f k (P : Int) E (goneOf E.length L)) (freeL P E L) := by
  unfold impl_Hyper_singles.f
  refine ev_bind _ (impl_degrees_f hG hL) ?_
  have := impl_singles_l0 (plsL E L) hG.plc P 0 (by omega)
  rw [cntL_len, ← freeL_up]
  exact this
theorem slices_Index_int_l0 (x0 : List Int) (a : Int) (hl : (x0.length : Int) ≤ 9223372036854775806) : ∀ (t pre : List Int), x0 = pre ++ t →
    ∃ r, Ev (fun k => slices_Index_int_int.l0 k x0 a (x0.length : Int) (pre.length : Int)) r ∧ decide (r ≥ 0) = t.contains a := by
  intro t
  induction t with
  | nil =>
    intro pre h
    refine ⟨-1, ev_succ ?_, by simp⟩
    simp only [slices_Index_int_int.l0]
    exact ev_neg (by rw [h]; exact not_lt_end) (Ev.now _)
  | cons x t ih =>
    intro pre h
    have hm : ((pre.length : Nat) : Int) < (x0.length : Int) := by rw [h]; exact lt_mid
    have hg : rd x0 (pre.length : Int) = x := by rw [h]; exact rd_mid
    by_cases c : a = x
    · refine ⟨(pre.length : Int), ev_succ ?_, by simp [c]⟩
      simp only [slices_Index_int_int.l0, hg]
      exact ev_pos hm (ev_pos (by omega) (ev_pos hm (ev_pos c (Ev.now _))))
    · obtain ⟨r, h1, h2⟩ := ih (pre ++ [x]) (by rw [h]; simp)
      rw [len_one] at h1
      refine ⟨r, ev_succ ?_, by rw [h2]; simp [c]⟩
      simp only [slices_Index_int_int.l0, hg]
      refine ev_pos hm (ev_pos (by omega) (ev_pos hm (ev_neg c ?_)))
      rw [winc (by omega)]
      exact h1
theorem slices_Contains_int_f (l : List Int) (a : Int) (hl : (l.length : Int) ≤ 9223372036854775806) : Ev (fun k => slices_Contains_int_int.f k l a) (l.contains a) := by
  obtain ⟨r, h1, h2⟩ := slices_Index_int_l0 l a hl l [] rfl
  unfold slices_Contains_int_int.f slices_Index_int_int.f
  refine ev_bind _ h1 (ev_some h2)
theorem impl_edgeAt_l0 {P : Nat} {E : Edges} (hG : GoodH P E) {L : List Nat} {p : Int} {j : Nat} (hj : j ∈ L) (hjn : j < E.length) (hpj : p ∈ edg E j) (hlt : ∀ k ∈ L, k < j → ¬ p ∈ edg E k) : ∀ (d i : Nat), i + d = j →
    Ev (fun k => impl_Hyper_edgeAt.l0 k (goneOf E.length L) p (i : Int) (P : Int) E) (j : Int) := by
  intro d
  have hn := hG.len
  have he := fun i => (hG.edge i).1
  induction d with
  | zero =>
    intro i h
    obtain rfl : i = j := by omega
    have := he i
    refine ev_succ ?_
    simp only [impl_Hyper_edgeAt.l0]
    rw [goneOf_rd hjn, rd_edg]
    refine ev_pos (by omega) (ev_pos (by rw [goneOf_len]; omega) (ev_neg (by simp [hj]) (ev_pos (by omega) (ev_bind _ (slices_Contains_int_f _ p (by omega)) (ev_pos (by simpa using hpj) (Ev.now _))))))
  | succ d ih =>
    intro i h
    have := he i
    have next := ih (i + 1) (by omega)
    refine ev_succ ?_
    simp only [impl_Hyper_edgeAt.l0]
    rw [goneOf_rd (by omega), rd_edg, winc (by omega)]
    refine ev_pos (by omega) (ev_pos (by rw [goneOf_len]; omega) ?_)
    by_cases c : i ∈ L
    · exact ev_neg (by simp [c]) (ev_pos (by omega) (ev_bind _ (slices_Contains_int_f _ p (by omega)) (ev_neg (by simpa using hlt i c (by omega)) next)))
    · exact ev_pos (by simp [c]) next
theorem impl_edgeAt_f {P : Nat} {E : Edges} (hG : GoodH P E) {L : List Nat} (hL : Rg E.length L) {p : Int} {j : Nat} (h : withE E L p = some j) : Ev (fun k => impl_Hyper_edgeAt.f k (P : Int) E (goneOf E.length L) p) (j : Int) := by
  obtain ⟨h1, h2⟩ := withE_some h
  unfold impl_Hyper_edgeAt.f
  exact impl_edgeAt_l0 hG h1 (hL.lt h1) h2 (withE_least hL.sorted h) j 0 (by omega)
theorem impl_left_l0 {n : Nat} {L : List Nat} (hn : n ≤ 1000) (hL : Rg n L) : ∀ (d i : Nat), i + d = n →
    Ev (fun k => impl_left.l0 k (castL (upTo L i)) (goneOf n L) (n : Int) (i : Int)) (castL L) := by
  intro d
  induction d with
  | zero =>
    intro i h
    have hi : i = n := by omega
    refine ev_succ ?_
    simp only [impl_left.l0]
    exact ev_neg (by omega) (ev_some (by rw [hi, upTo_all hL]))
  | succ d ih =>
    intro i h
    have next := ih (i + 1) (by omega)
    have hl := upTo_len L i
    rw [upTo_succ] at next
    refine ev_succ ?_
    simp only [impl_left.l0]
    rw [goneOf_rd (by omega), winc (by omega)]
    refine ev_pos (by omega) (ev_pos (by omega) (ev_pos (by rw [goneOf_len]; omega) ?_))
    by_cases c : i ∈ L
    · rw [if_pos c, castL_app] at next
      exact ev_neg (by simp [c]) (ev_pos (by rw [castL_len]; omega) next)
    · rw [if_neg c] at next
      exact ev_pos (by simp [c]) next
theorem impl_left_f {n : Nat} {L : List Nat} (hn : n ≤ 1000) (hL : Rg n L) : Ev (fun k => impl_left.f k (goneOf n L)) (castL L) := by
  unfold impl_left.f
  rw [goneOf_len]
  exact impl_left_l0 hn hL n 0 (by omega)
def mkS71 (s : Nat × Int) : S71 := ⟨(s.1 : Int), s.2⟩
def stepsL (l : List (Nat × Int)) : List S71 := l.map mkS71
theorem step_zero {P : Nat} {E : Edges} {L : List Nat} (h : freeL P E L ≠ []) : ∃ i, stepE P E L 0 = some (i, rd (freeL P E L) 0) := by
  unfold stepE
  have : ¬ (freeL P E L).length = 0 := fun e => h (List.length_eq_zero_iff.1 e)
  rw [if_neg this, Nat.zero_mod]
  exact ⟨_, rfl⟩
theorem impl_peel_l0 {P : Nat} {E : Edges} (hG : GoodH P E) : ∀ (d : Nat) (L : List Nat) (acc : List S71), Rg E.length L → L.length ≤ d → acc.length + d ≤ 1000000 →
    Ev (fun k => impl_Hyper_peel.l0 k acc (goneOf E.length L) (P : Int) E) (acc ++ stepsL (peelC P E (List.replicate d 0) L).1, castL (peelC P E (List.replicate d 0) L).2) := by
  have hn := hG.len
  have stop : ∀ (d : Nat) (L : List Nat) (acc : List S71), Rg E.length L → freeL P E L = [] → Ev (fun k => impl_Hyper_peel.l0 k acc (goneOf E.length L) (P : Int) E) (acc ++ stepsL (peelC P E (List.replicate d 0) L).1, castL (peelC P E (List.replicate d 0) L).2) := by
    intro d L acc hL hf
    have e : peelC P E (List.replicate d 0) L = ([], L) := by
      cases d with
      | zero => rfl
      | succ d => rw [List.replicate_succ, peelC_cons_none _ _ hf]
    rw [e]
    refine ev_succ ?_
    simp only [impl_Hyper_peel.l0]
    refine ev_bind _ (impl_singles_f hG hL) (ev_pos (by rw [hf]; rfl) (ev_bind _ (impl_left_f hn hL) (ev_some (by simp [stepsL]))))
  intro d
  induction d with
  | zero =>
    intro L acc hL hd _
    have : L = [] := List.length_eq_zero_iff.1 (by omega)
    exact stop 0 L acc hL (by rw [this]; exact freeL_nil)
  | succ d ih =>
    intro L acc hL hd ha
    by_cases hf : freeL P E L = []
    · exact stop (d + 1) L acc hL hf
    · obtain ⟨i, hs⟩ := step_zero hf
      obtain ⟨_, _, hw⟩ := stepE_some hs
      have hi := (withE_some hw).1
      have hin := hL.lt hi
      have hl : ¬ (freeL P E L).length = 0 := fun e => hf (List.length_eq_zero_iff.1 e)
      have hdl := dropE_len hL.nodup hi
      rw [List.replicate_succ, peelC_cons_some _ hs]
      refine ev_succ ?_
      simp only [impl_Hyper_peel.l0]
      refine ev_bind _ (impl_singles_f hG hL) (ev_neg (by omega) (ev_pos (by omega) (ev_bind _ (impl_edgeAt_f hG hL hw) (ev_pos (by omega) (ev_pos (by rw [goneOf_len]; omega) (ev_pos (by omega) ?_))))))
      rw [Int.toNat_natCast, goneOf_set]
      have := ih (dropE L i) (acc ++ [mkS71 (i, rd (freeL P E L) 0)]) (hL.drop i) (by omega) (by simp; omega)
      rw [List.append_assoc] at this
      exact this
theorem impl_peel_f {P : Nat} {E : Edges} (hG : GoodH P E) : Ev (fun k => impl_Hyper_peel.f k (P : Int) E) (stepsL (peelAll P E).1, castL (coreE P E)) := by
  have hn := hG.len
  unfold impl_Hyper_peel.f impl_Hyper_none.f
  refine ev_bind _ (ev_pos (by omega) (ev_pos (by omega) (Ev.now _))) ?_
  rw [Int.toNat_natCast, ← goneOf_all]
  have := impl_peel_l0 hG E.length (List.range E.length) [] (Rg.all _) (by simp) (by simp; omega)
  rw [List.nil_append] at this
  exact this
end Go.Proofs.YtmehagedoaopeaaGreatQ
namespace Go.Proofs.YtmehagedoaopeaaGreatQ
open Go Go.RowKit Go.Proofs.YtmehagedoaopeaaGreatW.PrintWords Go.Proofs.YtmehagedoaopeaaGreatGp Go.Proofs.YtmehagedoaopeaaGreat.PZ

theorem spec_l1Has_l0 (x0 : List Int) (a : Int) (hl : (x0.length : Int) ≤ 9223372036854775806) : ∀ (t pre : List Int), x0 = pre ++ t →
    Ev (fun k => spec_l1Has.l0 k a x0 (x0.length : Int) (pre.length : Int)) (t.contains a) := by
  intro t
  induction t with
  | nil =>
    intro pre h
    refine ev_succ ?_
    simp only [spec_l1Has.l0]
    exact ev_neg (by rw [h]; exact not_lt_end) (ev_some (by simp))
  | cons x t ih =>
    intro pre h
    have hm : ((pre.length : Nat) : Int) < (x0.length : Int) := by rw [h]; exact lt_mid
    have hg : rd x0 (pre.length : Int) = x := by rw [h]; exact rd_mid
    refine ev_succ ?_
    simp only [spec_l1Has.l0, hg]
    refine ev_pos hm (ev_pos (by omega) (ev_pos hm ?_))
    by_cases c : x = a
    · exact ev_pos c (ev_some (by simp [c]))
    · refine ev_neg c ?_
      rw [winc (by omega)]
      have := ih (pre ++ [x]) (by rw [h]; simp)
      rw [len_one] at this
      have e : (x :: t).contains a = t.contains a := by simp [Ne.symm c]
      rw [e]
      exact this
theorem spec_l1Has_f (l : List Int) (a : Int) (hl : (l.length : Int) ≤ 9223372036854775806) : Ev (fun k => spec_l1Has.f k l a) (l.contains a) := by
  unfold spec_l1Has.f
  exact spec_l1Has_l0 l a hl l [] rfl
end Go.Proofs.YtmehagedoaopeaaGreatQ
namespace Go.Proofs.YtmehagedoaopeaaGreatQ
open Go Go.RowKit Go.Proofs.YtmehagedoaopeaaGreatW.PrintWords Go.Proofs.YtmehagedoaopeaaGreatGp Go.Proofs.YtmehagedoaopeaaGreat.PZ

theorem spec_peAll_l0 {n : Nat} (hn : n ≤ 1000) : ∀ (d i : Nat), i + d = n →
    Ev (fun k => spec_peAll.l0 k (castL (List.range i)) (n : Int) (i : Int)) (castL (List.range n)) := by
  intro d
  induction d with
  | zero =>
    intro i h
    obtain rfl : i = n := by omega
    refine ev_succ ?_
    simp only [spec_peAll.l0]
    exact ev_neg (by omega) (Ev.now _)
  | succ d ih =>
    intro i h
    have next := ih (i + 1) (by omega)
    rw [List.range_succ, castL_app] at next
    refine ev_succ ?_
    simp only [spec_peAll.l0]
    rw [winc (by omega)]
    exact ev_pos (by omega) (ev_pos (by rw [castL_len]; simp; omega) next)
theorem spec_peAll_f {E : Edges} (hn : E.length ≤ 1000) (P : Int) : Ev (fun k => spec_peAll.f k P E) (castL (allE E)) := by
  unfold spec_peAll.f
  exact spec_peAll_l0 hn E.length 0 (by omega)
theorem spec_degrees_l1 {P : Nat} {E : Edges} {x13 : List Int} {n : Int} {r : List Int} {q i : Nat} (e : List Int) (hi : (i : Int) < 9223372036854775806) (he : (e.length : Int) ≤ 9223372036854775806) (hr : ∀ p ∈ e, 0 ≤ p ∧ p < (P : Int)) (ps : List Int) (hps : ps.length + e.length ≤ 1000000)
    (H : Ev (fun k => spec_peDegrees.l0 k (cntL (ps ++ e) P) x13 n ((i + 1 : Nat) : Int) (q : Int) E) r) : ∀ (t pre : List Int), e = pre ++ t →
    Ev (fun k => spec_peDegrees.l1 k (cntL (ps ++ pre) P) x13 n (i : Int) e (e.length : Int) (pre.length : Int) (q : Int) E) r := by
  intro t
  induction t with
  | nil =>
    intro pre h
    have hp : e = pre := by rw [h, List.append_nil]
    subst hp
    refine ev_succ ?_
    simp only [spec_peDegrees.l1]
    refine ev_neg (by omega) ?_
    rw [winc (by omega)]
    exact H
  | cons x t ih =>
    intro pre h
    have hm : ((pre.length : Nat) : Int) < (e.length : Int) := by rw [h]; exact lt_mid
    have hg : rd e (pre.length : Int) = x := by rw [h]; exact rd_mid
    obtain ⟨x0, x1⟩ := hr x (by rw [h]; simp)
    have hc := count_le_len (ps ++ pre) x
    have hl : e.length = pre.length + (t.length + 1) := by rw [h]; simp
    rw [List.length_append] at hc
    refine ev_succ ?_
    simp only [spec_peDegrees.l1, hg]
    refine ev_pos hm (ev_pos (by omega) (ev_pos hm (ev_pos x0 (ev_pos (by rw [cntL_len]; exact x1) ?_))))
    rw [winc (by omega), cntL_rd _ x0 x1, wcount (by omega), cntL_set _ x0, List.append_assoc]
    have := ih (pre ++ [x]) (by rw [h]; simp)
    rw [len_one] at this
    exact this
theorem spec_degrees_l0 {P : Nat} {E : Edges} (hG : GoodH P E) {L : List Nat} (hL : ∀ i ∈ L, i < E.length) (hl : L.length ≤ 1000) (q : Nat) : ∀ (t pre : List Nat), L = pre ++ t →
    Ev (fun k => spec_peDegrees.l0 k (cntL (plsL E pre) P) (castL L) (L.length : Int) (pre.length : Int) (q : Int) E) (cntL (plsL E L) P) := by
  intro t
  have hn := hG.len
  induction t with
  | nil =>
    intro pre h
    have hp : L = pre := by rw [h, List.append_nil]
    subst hp
    refine ev_succ ?_
    simp only [spec_peDegrees.l0]
    exact ev_neg (by omega) (Ev.now _)
  | cons j t ih =>
    intro pre h
    have hm : ((pre.length : Nat) : Int) < (L.length : Int) := by rw [h]; exact lt_mid
    have hg : rd (castL L) (pre.length : Int) = (j : Int) := by rw [h]; exact rd_castmid
    have hj := hL j (by rw [h]; simp)
    have next := ih (pre ++ [j]) (by rw [h]; simp)
    rw [len_one] at next
    have hb := plsL_len hG pre
    obtain ⟨he, hr⟩ := hG.edge j
    have hpe : plsL E (pre ++ [j]) = plsL E pre ++ edg E j := by simp [plsL]
    rw [hpe] at next
    have hlen : L.length = pre.length + (t.length + 1) := by rw [h]; simp
    refine ev_succ ?_
    simp only [spec_peDegrees.l0, hg, rd_edg]
    refine ev_pos hm (ev_pos (by omega) (ev_pos (by rw [castL_len]; exact hm) (ev_pos (by omega) (ev_pos (by omega) ?_))))
    have := spec_degrees_l1 (P := P) (E := E) (x13 := castL L) (n := (L.length : Int)) (q := q) (edg E j) (by omega) (by omega) hr (plsL E pre) (by omega) next (edg E j) [] rfl
    rw [List.append_nil] at this
    exact this
theorem spec_degrees_f {P : Nat} {E : Edges} (hG : GoodH P E) {L : List Nat} (hL : ∀ i ∈ L, i < E.length) (hl : L.length ≤ 1000) : Ev (fun k => spec_peDegrees.f k (P : Int) E (castL L)) (cntL (plsL E L) P) := by
  have hp := hG.plc
  unfold spec_peDegrees.f
  refine ev_pos (by omega) (ev_pos (by omega) ?_)
  have := spec_degrees_l0 hG hL hl P L [] rfl
  rw [show plsL E [] = [] from rfl, cntL_nil] at this
  rw [castL_len]
  exact this
theorem spec_free_l0 {P : Nat} (ps : List Int) (hP : P ≤ 1000) : ∀ (d i : Nat), i + d = P →
    Ev (fun k => spec_peFree.l0 k (freeUp ps i) (cntL ps P) (P : Int) (i : Int)) (freeUp ps P) := by
  intro d
  induction d with
  | zero =>
    intro i h
    have hi : i = P := by omega
    refine ev_succ ?_
    simp only [spec_peFree.l0]
    refine ev_neg (by omega) (ev_some (by rw [hi]))
  | succ d ih =>
    intro i h
    have next := ih (i + 1) (by omega)
    have hl := freeUp_len ps i
    rw [freeUp_succ] at next
    refine ev_succ ?_
    simp only [spec_peFree.l0]
    rw [cntL_rd ps (by omega) (by omega)]
    refine ev_pos (by omega) (ev_pos (by omega) (ev_pos (by rw [cntL_len]; omega) ?_))
    rw [winc (by omega)]
    by_cases c : ps.count (i : Int) = 1
    · rw [if_pos c] at next
      exact ev_pos (by omega) (ev_pos (by omega) next)
    · rw [if_neg c] at next
      exact ev_neg (by omega) next
theorem spec_free_f {P : Nat} {E : Edges} (hG : GoodH P E) {L : List Nat} (hL : ∀ i ∈ L, i < E.length) (hl : L.length ≤ 1000) : Ev (fun k => spec_peFree.f k (P : Int) E (castL L)) (freeL P E L) := by
  unfold spec_peFree.f
  refine ev_bind _ (spec_degrees_f hG hL hl) ?_
  have := spec_free_l0 (plsL E L) hG.plc P 0 (by omega)
  rw [cntL_len, ← freeL_up]
  exact this
def withV (o : Option Nat) : Int := match o with | some j => (j : Int) | none => -1
theorem spec_with_l0 {P : Nat} {E : Edges} (hG : GoodH P E) {L : List Nat} (hL : ∀ i ∈ L, i < E.length) (hl : L.length ≤ 1000) (p : Int) (q : Nat) : ∀ (t pre : List Nat), L = pre ++ t →
    Ev (fun k => spec_peWith.l0 k p (castL L) (L.length : Int) (pre.length : Int) (q : Int) E) (withV (withE E t p)) := by
  intro t
  have hn := hG.len
  induction t with
  | nil =>
    intro pre h
    have hp : L = pre := by rw [h, List.append_nil]
    subst hp
    refine ev_succ ?_
    simp only [spec_peWith.l0]
    exact ev_neg (by omega) (Ev.now _)
  | cons j t ih =>
    intro pre h
    have hm : ((pre.length : Nat) : Int) < (L.length : Int) := by rw [h]; exact lt_mid
    have hg : rd (castL L) (pre.length : Int) = (j : Int) := by rw [h]; exact rd_castmid
    have hj := hL j (by rw [h]; simp)
    have next := ih (pre ++ [j]) (by rw [h]; simp)
    rw [len_one] at next
    have he := (hG.edge j).1
    refine ev_succ ?_
    simp only [spec_peWith.l0, hg, rd_edg]
    refine ev_pos hm (ev_pos (by omega) (ev_pos (by rw [castL_len]; exact hm) (ev_pos (by omega) (ev_pos (by omega) (ev_bind _ (spec_l1Has_f (edg E j) p (by omega)) ?_)))))
    unfold withE
    rw [List.find?_cons, winc (by omega)]
    by_cases c : (edg E j).contains p = true
    · rw [c]; exact ev_pos rfl (Ev.now _)
    · rw [Bool.eq_false_iff.2 c]
      exact ev_neg (by simp) next
theorem spec_with_f {P : Nat} {E : Edges} (hG : GoodH P E) {L : List Nat} (hL : ∀ i ∈ L, i < E.length) (hl : L.length ≤ 1000) (p : Int) : Ev (fun k => spec_peWith.f k (P : Int) E (castL L) p) (withV (withE E L p)) := by
  unfold spec_peWith.f
  rw [castL_len]
  exact spec_with_l0 hG hL hl p P L [] rfl
theorem spec_drop_l0 {L : List Nat} (hl : L.length ≤ 1000) (i : Nat) : ∀ (t pre : List Nat), L = pre ++ t →
    Ev (fun k => spec_l1Drop.l0 k (i : Int) (castL (dropE pre i)) (castL L) (L.length : Int) (pre.length : Int)) (castL (dropE L i)) := by
  intro t
  induction t with
  | nil =>
    intro pre h
    have hp : L = pre := by rw [h, List.append_nil]
    subst hp
    refine ev_succ ?_
    simp only [spec_l1Drop.l0]
    exact ev_neg (by omega) (Ev.now _)
  | cons j t ih =>
    intro pre h
    have hm : ((pre.length : Nat) : Int) < (L.length : Int) := by rw [h]; exact lt_mid
    have hg : rd (castL L) (pre.length : Int) = (j : Int) := by rw [h]; exact rd_castmid
    have next := ih (pre ++ [j]) (by rw [h]; simp)
    rw [len_one] at next
    have hd : dropE (pre ++ [j]) i = if j = i then dropE pre i else dropE pre i ++ [j] := by
      unfold dropE
      rw [List.filter_append]
      by_cases c : j = i <;> simp [c]
    rw [hd] at next
    have hdl := List.Sublist.length_le (dropE_sub pre i)
    have hlen : L.length = pre.length + (t.length + 1) := by rw [h]; simp
    refine ev_succ ?_
    simp only [spec_l1Drop.l0, hg]
    rw [winc (by omega)]
    refine ev_pos hm (ev_pos (by omega) (ev_pos (by rw [castL_len]; exact hm) ?_))
    by_cases c : j = i
    · rw [if_pos c] at next
      exact ev_pos (by omega) next
    · rw [if_neg c, castL_app] at next
      exact ev_neg (by omega) (ev_pos (by rw [castL_len]; omega) next)
theorem spec_drop_f {L : List Nat} (hl : L.length ≤ 1000) (i : Nat) : Ev (fun k => spec_l1Drop.f k (castL L) (i : Int)) (castL (dropE L i)) := by
  unfold spec_l1Drop.f
  rw [castL_len]
  exact spec_drop_l0 hl i L [] rfl
def chc (cs : List Int) : List Nat := cs.map Int.toNat
theorem stepE_rd {P : Nat} {E : Edges} {L : List Nat} {c : Int} (hc : 0 ≤ c) (h : freeL P E L ≠ []) : ∃ i, stepE P E L c.toNat = some (i, rd (freeL P E L) (Int.tmod c ((freeL P E L).length : Int))) ∧ 0 ≤ Int.tmod c ((freeL P E L).length : Int) ∧ Int.tmod c ((freeL P E L).length : Int) < ((freeL P E L).length : Int) := by
  have hl : ¬ (freeL P E L).length = 0 := fun e => h (List.length_eq_zero_iff.1 e)
  have e : Int.tmod c ((freeL P E L).length : Int) = ((c.toNat % (freeL P E L).length : Nat) : Int) := by
    rw [Int.tmod_eq_emod_of_nonneg hc, Int.natCast_emod, Int.toNat_of_nonneg hc]
  have hm : c.toNat % (freeL P E L).length < (freeL P E L).length := Nat.mod_lt _ (by omega)
  unfold stepE
  rw [if_neg hl, e]
  exact ⟨_, rfl, by omega, by omega⟩
section
variable {P : Nat} {E : Edges} (hG : GoodH P E) {cs : List Int} {on : Bool} {acc : List S71} {L : List Nat} (hL : Rg E.length L)
include hG hL
theorem j1_end (hf : freeL P E L = []) (kk : Int) : Ev (fun k => spec_pePeel.j1 k cs on acc (castL L) kk true (P : Int) E) (acc, castL L) := by
  have hn := hG.len
  have hl := hL.len
  refine ev_succ ?_
  simp only [spec_pePeel.j1]
  refine ev_pos trivial (ev_bind _ (spec_free_f hG (fun i hi => hL.lt hi) (by omega)) (ev_pos (by rw [hf]; rfl) (Ev.now _)))
theorem j1_go {kk : Nat} (hk : kk < cs.length) (hkl : kk ≤ 100000) (ha : acc.length ≤ 1000000) {i : Nat} (hs : stepE P E L (rd cs (kk : Int)).toNat = some (i, rd (freeL P E L) (Int.tmod (rd cs (kk : Int)) ((freeL P E L).length : Int))))
    (h0 : 0 ≤ Int.tmod (rd cs (kk : Int)) ((freeL P E L).length : Int)) (h1 : Int.tmod (rd cs (kk : Int)) ((freeL P E L).length : Int) < ((freeL P E L).length : Int)) {r : List S71 × List Int}
    (H : Ev (fun k => spec_pePeel.l0 k cs on (acc ++ [mkS71 (i, rd (freeL P E L) (Int.tmod (rd cs (kk : Int)) ((freeL P E L).length : Int)))]) (castL (dropE L i)) ((kk + 1 : Nat) : Int) (P : Int) E) r) :
    Ev (fun k => spec_pePeel.j1 k cs on acc (castL L) (kk : Int) true (P : Int) E) r := by
  have hn := hG.len
  have hl := hL.len
  obtain ⟨_, _, hw⟩ := stepE_some hs
  have hwv := spec_with_f hG (fun i hi => hL.lt hi) (by omega) (rd (freeL P E L) (Int.tmod (rd cs (kk : Int)) ((freeL P E L).length : Int))) (L := L)
  rw [hw] at hwv
  refine ev_succ ?_
  simp only [spec_pePeel.j1]
  refine ev_pos trivial (ev_bind _ (spec_free_f hG (fun i hi => hL.lt hi) (by omega)) (ev_neg (by omega) (ev_pos (by omega) (ev_pos (by omega) (ev_pos h0 (ev_pos h1 (ev_bind _ hwv (ev_pos (by omega) (ev_bind _ (spec_drop_f (by omega) i) ?_)))))))))
  rw [winc (by omega)]
  exact H
theorem j1_zero {kk : Nat} (hk : cs.length ≤ kk) (hkl : kk ≤ 100000) (ha : acc.length ≤ 1000000) {i : Nat} (hf : freeL P E L ≠ []) (hs : stepE P E L 0 = some (i, rd (freeL P E L) 0)) {r : List S71 × List Int}
    (H : Ev (fun k => spec_pePeel.l0 k cs on (acc ++ [mkS71 (i, rd (freeL P E L) 0)]) (castL (dropE L i)) ((kk + 1 : Nat) : Int) (P : Int) E) r) :
    Ev (fun k => spec_pePeel.j1 k cs on acc (castL L) (kk : Int) true (P : Int) E) r := by
  have hn := hG.len
  have hl := hL.len
  have hz : ¬ (freeL P E L).length = 0 := fun e => hf (List.length_eq_zero_iff.1 e)
  obtain ⟨_, _, hw⟩ := stepE_some hs
  have hwv := spec_with_f hG (fun i hi => hL.lt hi) (by omega) (rd (freeL P E L) 0) (L := L)
  rw [hw] at hwv
  refine ev_succ ?_
  simp only [spec_pePeel.j1]
  refine ev_pos trivial (ev_bind _ (spec_free_f hG (fun i hi => hL.lt hi) (by omega)) (ev_neg (by omega) (ev_neg (by omega) (ev_pos (by omega) (ev_bind _ hwv (ev_pos (by omega) (ev_bind _ (spec_drop_f (by omega) i) ?_)))))))
  rw [winc (by omega)]
  exact H
end
theorem mkApp (acc : List S71) (s : Nat × Int) (l : List (Nat × Int)) : (acc ++ [mkS71 s]) ++ stepsL l = acc ++ stepsL (s :: l) := by simp [stepsL]
theorem spec_peel_on {P : Nat} {E : Edges} (hG : GoodH P E) {cs : List Int} : ∀ (d : Nat) (L : List Nat) (acc : List S71) (kk : Nat), Rg E.length L → L.length ≤ d → cs.length ≤ kk → kk + d ≤ 100000 → acc.length + d ≤ 1000000 →
    Ev (fun k => spec_pePeel.l0 k cs true acc (castL L) (kk : Int) (P : Int) E) (acc ++ stepsL (peelC P E (List.replicate d 0) L).1, castL (peelC P E (List.replicate d 0) L).2) := by
  have stop : ∀ (d : Nat) (L : List Nat) (acc : List S71) (kk : Nat), Rg E.length L → freeL P E L = [] → Ev (fun k => spec_pePeel.l0 k cs true acc (castL L) (kk : Int) (P : Int) E) (acc ++ stepsL (peelC P E (List.replicate d 0) L).1, castL (peelC P E (List.replicate d 0) L).2) := by
    intro d L acc kk hL hf
    have e : peelC P E (List.replicate d 0) L = ([], L) := by
      cases d with
      | zero => rfl
      | succ d => rw [List.replicate_succ, peelC_cons_none _ _ hf]
    rw [e]
    refine ev_succ ?_
    simp only [spec_pePeel.l0]
    refine ev_pos trivial ?_
    have := j1_end hG hL (cs := cs) (on := true) (acc := acc) hf (kk : Int)
    simpa [stepsL] using this
  intro d
  induction d with
  | zero =>
    intro L acc kk hL hd _ _ _
    have : L = [] := List.length_eq_zero_iff.1 (by omega)
    exact stop 0 L acc kk hL (by rw [this]; exact freeL_nil)
  | succ d ih =>
    intro L acc kk hL hd hk hkd ha
    by_cases hf : freeL P E L = []
    · exact stop (d + 1) L acc kk hL hf
    · obtain ⟨i, hs⟩ := step_zero hf
      obtain ⟨_, _, hw⟩ := stepE_some hs
      have hi := (withE_some hw).1
      have hdl := dropE_len hL.nodup hi
      rw [List.replicate_succ, peelC_cons_some _ hs]
      refine ev_succ ?_
      simp only [spec_pePeel.l0]
      refine ev_pos trivial (j1_zero hG hL hk (by omega) (by omega) hf hs ?_)
      have := ih (dropE L i) (acc ++ [mkS71 (i, rd (freeL P E L) 0)]) (kk + 1) (hL.drop i) (by omega) (by omega) (by omega) (by simp; omega)
      rw [mkApp] at this
      exact this
theorem spec_peel_cs {P : Nat} {E : Edges} (hG : GoodH P E) {cs : List Int} (hcs : ∀ c ∈ cs, 0 ≤ c) (hcl : cs.length ≤ 1000) (on : Bool) {d : Nat} (hd : d ≤ 2000) : ∀ (t pre : List Int) (L : List Nat) (acc : List S71), cs = pre ++ t → Rg E.length L → L.length ≤ d → acc.length + t.length ≤ 900000 →
    Ev (fun k => spec_pePeel.l0 k cs on acc (castL L) (pre.length : Int) (P : Int) E) (acc ++ stepsL (peelC P E (chc t ++ if on = true then List.replicate d 0 else []) L).1, castL (peelC P E (chc t ++ if on = true then List.replicate d 0 else []) L).2) := by
  intro t
  induction t with
  | nil =>
    intro pre L acc h hL hld ha
    have hp : cs = pre := by rw [h, List.append_nil]
    subst hp
    cases on with
    | true =>
      rw [if_pos rfl]
      exact spec_peel_on hG d L acc cs.length hL hld (Nat.le_refl _) (by omega) (by omega)
    | false =>
      rw [if_neg (by simp)]
      refine ev_succ ?_
      simp only [spec_pePeel.l0]
      refine ev_neg (by simp) ?_
      rw [decide_eq_false (by omega)]
      refine ev_succ ?_
      simp only [spec_pePeel.j1]
      exact ev_neg (by simp) (ev_some (by simp [chc, peelC, stepsL]))
  | cons c t ih =>
    intro pre L acc h hL hld ha
    have hm : pre.length < cs.length := by rw [h]; simp
    have hg : rd cs (pre.length : Int) = c := by rw [h]; exact rd_mid
    have hc : 0 ≤ c := hcs c (by rw [h]; simp)
    have hl1 : Ev (fun k => spec_pePeel.j1 k cs on acc (castL L) (pre.length : Int) true (P : Int) E) (acc ++ stepsL (peelC P E (chc (c :: t) ++ if on = true then List.replicate d 0 else []) L).1, castL (peelC P E (chc (c :: t) ++ if on = true then List.replicate d 0 else []) L).2) := by
      simp only [chc, List.map_cons, List.cons_append]
      by_cases hf : freeL P E L = []
      · rw [peelC_cons_none _ _ hf]
        have := j1_end hG hL (cs := cs) (on := on) (acc := acc) hf (pre.length : Int)
        simpa [stepsL] using this
      · obtain ⟨i, hs, h0, h1⟩ := stepE_rd hc hf
        obtain ⟨_, _, hw⟩ := stepE_some hs
        have hdl := dropE_len hL.nodup (withE_some hw).1
        rw [peelC_cons_some _ hs]
        have next := ih (pre ++ [c]) (dropE L i) (acc ++ [mkS71 (i, rd (freeL P E L) (Int.tmod c ((freeL P E L).length : Int)))]) (by rw [h]; simp) (hL.drop i) (by omega) (by simp at ha ⊢; omega)
        rw [len_one, mkApp] at next
        simp only [List.length_cons] at ha
        exact j1_go hG hL (kk := pre.length) hm (by omega) (by omega) (by rw [hg]; exact hs) (by rw [hg]; exact h0) (by rw [hg]; exact h1) (by rw [hg]; exact next)
    refine ev_succ ?_
    simp only [spec_pePeel.l0]
    by_cases ho : on = true
    · exact ev_pos ho hl1
    · refine ev_neg ho ?_
      rw [decide_eq_true (by omega)]
      exact hl1
theorem spec_pePeel_f {P : Nat} {E : Edges} (hG : GoodH P E) {cs : List Int} (hcs : ∀ c ∈ cs, 0 ≤ c) (hcl : cs.length ≤ 1000) (on : Bool) :
    Ev (fun k => spec_pePeel.f k (P : Int) E cs on) (stepsL (peelC P E (chc cs ++ if on = true then List.replicate E.length 0 else []) (allE E)).1, castL (peelC P E (chc cs ++ if on = true then List.replicate E.length 0 else []) (allE E)).2) := by
  have hn := hG.len
  unfold spec_pePeel.f
  have := spec_peel_cs hG hcs hcl on (d := E.length) (by omega) cs [] (allE E) [] rfl (Rg.all _) (by simp [allE]) (by simp; omega)
  rw [List.nil_append] at this
  exact ev_bind _ (spec_peAll_f hn _) this
theorem spec_peCore_f {P : Nat} {E : Edges} (hG : GoodH P E) : Ev (fun k => spec_peCore.f k (P : Int) E) (castL (coreE P E)) := by
  unfold spec_peCore.f
  have := spec_pePeel_f hG (cs := []) (by simp) (by simp) true
  exact ev_bind _ this (Ev.now _)
end Go.Proofs.YtmehagedoaopeaaGreatQ
namespace Go.Proofs.YtmehagedoaopeaaGreatQ
open Go Go.RowKit Go.Proofs.YtmehagedoaopeaaGreatW.PrintWords Go.Proofs.YtmehagedoaopeaaGreatGp Go.Proofs.YtmehagedoaopeaaGreat.PZ

def mm (x y : Int) : Int := Int.tmod (wrap64 (x * y)) 65521
theorem mul_range {x y : Int} (hx : 0 ≤ x) (hx1 : x ≤ 65520) (hy : 0 ≤ y) (hy1 : y ≤ 65520) : 0 ≤ x * y ∧ x * y ≤ 4292870400 :=
  ⟨Int.mul_nonneg hx hy, by have := Int.mul_le_mul hx1 hy1 hy (by omega); omega⟩
theorem emod_range (x : Int) : 0 ≤ x % 65521 ∧ x % 65521 ≤ 65520 := by omega
theorem mm_eq {x y : Int} (hx : 0 ≤ x) (hx1 : x ≤ 65520) (hy : 0 ≤ y) (hy1 : y ≤ 65520) : mm x y = x * y % 65521 := by
  obtain ⟨h0, h1⟩ := mul_range hx hx1 hy hy1
  unfold mm
  rw [w64 (by omega) (by omega)]
  exact Int.tmod_eq_emod_of_nonneg h0
theorem mm_mod (a b : Int) : mm (a % 65521) (b % 65521) = a * b % 65521 := by
  rw [mm_eq (emod_range a).1 (emod_range a).2 (emod_range b).1 (emod_range b).2]
  exact (Int.mul_emod a b 65521).symm
def pw (h : Int) : Nat → Int
  | 0 => 1
  | n + 1 => pw h n * h
theorem self_mod {h : Int} (h0 : 0 ≤ h) (h1 : h ≤ 65520) : h = h % 65521 := by omega
theorem mm11 {h : Int} (h0 : 0 ≤ h) (h1 : h ≤ 65520) : mm (mm (mm (mm (mm h h) (mm h h)) h) (mm (mm (mm h h) (mm h h)) h)) h = pw h 11 % 65521 := by
  have e := self_mod h0 h1
  have a2 : mm h h = h * h % 65521 := mm_eq h0 h1 h0 h1
  have a4 : mm (mm h h) (mm h h) = (h * h) * (h * h) % 65521 := by rw [a2, mm_mod]
  have a5 : mm (mm (mm h h) (mm h h)) h = (h * h) * (h * h) * h % 65521 := by
    rw [a4]; conv => lhs; arg 2; rw [e]
    rw [mm_mod]
  rw [a5, mm_mod]
  conv => lhs; arg 2; rw [e]
  rw [mm_mod]
  congr 1
  simp only [pw, Int.one_mul, Int.mul_assoc]
theorem mm_pw {h : Int} (h0 : 0 ≤ h) (h1 : h ≤ 65520) (n : Nat) : mm (pw h n % 65521) h = pw h (n + 1) % 65521 := by
  conv => lhs; arg 2; rw [self_mod h0 h1]
  rw [mm_mod]
  rfl

def hstep (h : Int) (c : UInt8) : Int := Int.tmod (wrap64 ((wrap64 (263 * h)) + (wrap64 (c.toNat : Int)))) 65521
def hfold (h : Int) (l : List UInt8) : Int := l.foldl hstep h
theorem hstep_range {h : Int} {c : UInt8} (h0 : 0 ≤ h) (h1 : h ≤ 65520) : 0 ≤ hstep h c ∧ hstep h c ≤ 65520 := by
  have hc : c.toNat < 256 := c.toNat_lt
  unfold hstep
  rw [w64 (x := 263 * h) (by omega) (by omega), w64 (x := (c.toNat : Int)) (by omega) (by omega), w64 (by omega) (by omega), Int.tmod_eq_emod_of_nonneg (by omega)]
  omega
def hstart (a0 a1 : Int) : Int := Int.tmod (wrap64 ((wrap64 ((wrap64 (31 * a0)) + (wrap64 (977 * a1)))) + 7)) 65521
theorem hstart_range {a0 a1 : Int} (h0 : 0 ≤ a0) (h0' : a0 ≤ 1000000) (h1 : 0 ≤ a1) (h1' : a1 ≤ 1000000) : 0 ≤ hstart a0 a1 ∧ hstart a0 a1 ≤ 65520 := by
  unfold hstart
  rw [w64 (x := 31 * a0) (by omega) (by omega), w64 (x := 977 * a1) (by omega) (by omega), w64 (x := 31 * a0 + 977 * a1) (by omega) (by omega), w64 (by omega) (by omega), Int.tmod_eq_emod_of_nonneg (by omega)]
  omega
def hashV (a0 a1 : Int) (s : ByteArray) : Int := pw (hfold (hstart a0 a1) s.data.toList) 11 % 65521
theorem hashV_range (a0 a1 : Int) (s : ByteArray) : 0 ≤ hashV a0 a1 s ∧ hashV a0 a1 s ≤ 65520 := emod_range _
theorem spec_biHash_l0 (x2 : ByteArray) (hz : (x2.size : Int) ≤ 9223372036854775806) : ∀ (t pre : List UInt8) (h : Int), x2.data.toList = pre ++ t → 0 ≤ h → h ≤ 65520 →
    Ev (fun k => spec_biHash.l0 k x2 h (pre.length : Int)) (pw (hfold h t) 11 % 65521) := by
  intro t
  induction t with
  | nil =>
    intro pre h e h0 h1
    refine ev_succ ?_
    simp only [spec_biHash.l0]
    refine ev_neg (not_lt_size e) (ev_some ?_)
    exact mm11 h0 h1
  | cons c t ih =>
    intro pre h e h0 h1
    have hm := lt_size e
    refine ev_succ ?_
    simp only [spec_biHash.l0, bt_mid e]
    refine ev_pos hm (ev_pos (by omega) ?_)
    rw [winc (by omega)]
    have := ih (pre ++ [c]) (hstep h c) (by rw [e]; simp) (hstep_range h0 h1).1 (hstep_range h0 h1).2
    rw [len_one] at this
    exact this
theorem spec_biHash_f (a0 a1 : Int) (s : ByteArray) (hz : (s.size : Int) ≤ 9223372036854775806) (h0 : 0 ≤ a0) (h0' : a0 ≤ 1000000) (h1 : 0 ≤ a1) (h1' : a1 ≤ 1000000) :
    Ev (fun k => spec_biHash.f k a0 a1 s) (hashV a0 a1 s) := by
  unfold spec_biHash.f
  exact spec_biHash_l0 s hz s.data.toList [] _ rfl (hstart_range h0 h0' h1 h1').1 (hstart_range h0 h0' h1 h1').2
theorem impl_hash_l1 {h : Int} (h0 : 0 ≤ h) (h1 : h ≤ 65520) : ∀ (m i : Nat), i + m = 11 → Ev (fun k => impl_hash.l1 k h (pw h i % 65521) (i : Int)) (pw h 11 % 65521) := by
  intro m
  induction m with
  | zero =>
    intro i e
    obtain rfl : i = 11 := by omega
    refine ev_succ ?_
    simp only [impl_hash.l1]
    exact ev_neg (by omega) (ev_some rfl)
  | succ m ih =>
    intro i e
    refine ev_succ ?_
    simp only [impl_hash.l1]
    refine ev_pos (by omega) ?_
    rw [winc (by omega)]
    have := ih (i + 1) (by omega)
    rw [← mm_pw h0 h1 i] at this
    exact this
theorem impl_hash_l0 (x2 : ByteArray) (hz : (x2.size : Int) ≤ 9223372036854775806) : ∀ (t pre : List UInt8) (h : Int), x2.data.toList = pre ++ t → 0 ≤ h → h ≤ 65520 →
    Ev (fun k => impl_hash.l0 k x2 h (x2.size : Int) (pre.length : Int)) (pw (hfold h t) 11 % 65521) := by
  intro t
  induction t with
  | nil =>
    intro pre h e h0 h1
    refine ev_succ ?_
    simp only [impl_hash.l0]
    exact ev_neg (not_lt_size e) (impl_hash_l1 h0 h1 11 0 rfl)
  | cons c t ih =>
    intro pre h e h0 h1
    have hm := lt_size e
    refine ev_succ ?_
    simp only [impl_hash.l0, bt_mid e]
    refine ev_pos hm (ev_pos (by omega) (ev_pos hm ?_))
    rw [winc (by omega)]
    have := ih (pre ++ [c]) (hstep h c) (by rw [e]; simp) (hstep_range h0 h1).1 (hstep_range h0 h1).2
    rw [len_one] at this
    exact this
theorem impl_hash_f (a0 a1 : Int) (s : ByteArray) (hz : (s.size : Int) ≤ 9223372036854775806) (h0 : 0 ≤ a0) (h0' : a0 ≤ 1000000) (h1 : 0 ≤ a1) (h1' : a1 ≤ 1000000) :
    Ev (fun k => impl_hash.f k a0 a1 s) (hashV a0 a1 s) := by
  unfold impl_hash.f
  exact impl_hash_l0 s hz s.data.toList [] _ rfl (hstart_range h0 h0' h1 h1').1 (hstart_range h0 h0' h1 h1').2

def placeV (a0 a1 : Int) (s : ByteArray) (n : Int) : Int := wrap64 (Int.tdiv (wrap64 (hashV a0 a1 s * n)) 65521)
theorem placeV_range (a0 a1 : Int) (s : ByteArray) {n : Int} (h0 : 1 ≤ n) (h1 : n ≤ 1000000) : 0 ≤ placeV a0 a1 s n ∧ placeV a0 a1 s n < n := by
  obtain ⟨a, b⟩ := hashV_range a0 a1 s
  have c := Int.mul_nonneg a (show (0 : Int) ≤ n by omega)
  have d := Int.mul_le_mul_of_nonneg_right b (show (0 : Int) ≤ n by omega)
  unfold placeV
  generalize hashV a0 a1 s * n = y at *
  rw [w64 (x := y) (by omega) (by omega), Int.tdiv_eq_ediv_of_nonneg (by omega), w64 (by omega) (by omega)]
  omega
theorem spec_biPlace_f (a0 a1 : Int) (s : ByteArray) (n : Int) (hz : (s.size : Int) ≤ 9223372036854775806) (h0 : 0 ≤ a0) (h0' : a0 ≤ 1000000) (h1 : 0 ≤ a1) (h1' : a1 ≤ 1000000) :
    Ev (fun k => spec_biPlace.f k a0 a1 s n) (placeV a0 a1 s n) := by
  unfold spec_biPlace.f
  exact ev_bind _ (spec_biHash_f a0 a1 s hz h0 h0' h1 h1') (Ev.now _)
theorem impl_place_f (a0 a1 : Int) (s : ByteArray) (n : Int) (hz : (s.size : Int) ≤ 9223372036854775806) (h0 : 0 ≤ a0) (h0' : a0 ≤ 1000000) (h1 : 0 ≤ a1) (h1' : a1 ≤ 1000000) :
    Ev (fun k => impl_place.f k a0 a1 s n) (placeV a0 a1 s n) := by
  unfold impl_place.f
  exact ev_bind _ (impl_hash_f a0 a1 s hz h0 h0' h1 h1') (Ev.now _)
end Go.Proofs.YtmehagedoaopeaaGreatQ
namespace Go.Proofs.YtmehagedoaopeaaGreatQ
open Go Go.RowKit Go.Proofs.YtmehagedoaopeaaGreatW.PrintWords Go.Proofs.YtmehagedoaopeaaGreatGp Go.Proofs.YtmehagedoaopeaaGreat.PZ

def tripL (a0 : Int) (s : ByteArray) (n : Int) : Nat → Nat → List Int
  | 0, _ => []
  | m + 1, i => wrap64 (placeV a0 (i : Int) s n + wrap64 ((i : Int) * n)) :: tripL a0 s n m (i + 1)
theorem tripL_range (a0 : Int) (s : ByteArray) {n : Int} (h0 : 1 ≤ n) (h1 : n ≤ 24) : ∀ p ∈ tripL a0 s n 3 0, 0 ≤ p ∧ p < 3 * n := by
  intro p h
  have r0 := placeV_range a0 ((0 : Nat) : Int) s h0 (by omega)
  have r1 := placeV_range a0 ((0 + 1 : Nat) : Int) s h0 (by omega)
  have r2 := placeV_range a0 ((0 + 1 + 1 : Nat) : Int) s h0 (by omega)
  simp only [tripL, List.mem_cons, List.not_mem_nil, or_false] at h
  rcases h with rfl | rfl | rfl
  · rw [w64 (x := ((0 : Nat) : Int) * n) (by omega) (by omega), w64 (by omega) (by omega)]; omega
  · rw [w64 (x := ((0 + 1 : Nat) : Int) * n) (by omega) (by omega), w64 (by omega) (by omega)]; omega
  · rw [w64 (x := ((0 + 1 + 1 : Nat) : Int) * n) (by omega) (by omega), w64 (by omega) (by omega)]; omega
theorem spec_peTriple_l0 (a0 : Int) (n : Int) (s : ByteArray) (hz : (s.size : Int) ≤ 9223372036854775806) (h0 : 0 ≤ a0) (h0' : a0 ≤ 1000000) : ∀ (m i : Nat) (acc : List Int), i + m = 3 → acc.length = i →
    Ev (fun k => spec_peTriple.l0 k a0 s n acc (i : Int)) (acc ++ tripL a0 s n m i) := by
  intro m
  induction m with
  | zero =>
    intro i acc e ha
    refine ev_succ ?_
    simp only [spec_peTriple.l0, tripL]
    exact ev_neg (by omega) (ev_some (by simp))
  | succ m ih =>
    intro i acc e ha
    refine ev_succ ?_
    simp only [spec_peTriple.l0, tripL]
    refine ev_pos (by omega) (ev_bind _ (spec_biPlace_f a0 (i : Int) s n hz h0 h0' (by omega) (by omega)) (ev_pos (by omega) ?_))
    rw [winc (by omega)]
    have := ih (i + 1) (acc ++ [wrap64 (placeV a0 (i : Int) s n + wrap64 ((i : Int) * n))]) (by omega) (by simp [ha])
    rw [List.append_assoc] at this
    exact this
theorem spec_peTriple_f (a0 n : Int) (s : ByteArray) (hz : (s.size : Int) ≤ 9223372036854775806) (h0 : 0 ≤ a0) (h0' : a0 ≤ 1000000) : Ev (fun k => spec_peTriple.f k a0 s n) (tripL a0 s n 3 0) := by
  unfold spec_peTriple.f
  have := spec_peTriple_l0 a0 n s hz h0 h0' 3 0 [] rfl rfl
  exact this
theorem impl_threePlaces_l0 (a0 : Int) (n : Int) (s : ByteArray) (hz : (s.size : Int) ≤ 9223372036854775806) (h0 : 0 ≤ a0) (h0' : a0 ≤ 1000000) : ∀ (m i : Nat) (acc : List Int), i + m = 3 → acc.length = i →
    Ev (fun k => impl_threePlaces.l0 k a0 s n acc (i : Int)) (acc ++ tripL a0 s n m i) := by
  intro m
  induction m with
  | zero =>
    intro i acc e ha
    refine ev_succ ?_
    simp only [impl_threePlaces.l0, tripL]
    exact ev_neg (by omega) (ev_some (by simp))
  | succ m ih =>
    intro i acc e ha
    refine ev_succ ?_
    simp only [impl_threePlaces.l0, tripL]
    refine ev_pos (by omega) (ev_bind _ (impl_place_f a0 (i : Int) s n hz h0 h0' (by omega) (by omega)) (ev_pos (by omega) ?_))
    rw [winc (by omega)]
    have := ih (i + 1) (acc ++ [wrap64 (placeV a0 (i : Int) s n + wrap64 ((i : Int) * n))]) (by omega) (by simp [ha])
    rw [List.append_assoc] at this
    exact this
theorem impl_threePlaces_f (a0 n : Int) (s : ByteArray) (hz : (s.size : Int) ≤ 9223372036854775806) (h0 : 0 ≤ a0) (h0' : a0 ≤ 1000000) : Ev (fun k => impl_threePlaces.f k a0 s n) (tripL a0 s n 3 0) := by
  unfold impl_threePlaces.f
  have := impl_threePlaces_l0 a0 n s hz h0 h0' 3 0 [] rfl rfl
  exact this
end Go.Proofs.YtmehagedoaopeaaGreatQ
namespace Go.Proofs.YtmehagedoaopeaaGreatQ
open Go Go.RowKit Go.Proofs.YtmehagedoaopeaaGreatW.PrintWords Go.Proofs.YtmehagedoaopeaaGreatGp Go.Proofs.YtmehagedoaopeaaGreat.PZ

theorem spec_in (n a b : Int) : spec_l1In.f n a b = some (decide (a ≤ n ∧ n ≤ b)) := by
  unfold spec_l1In.f
  by_cases h : a ≤ n <;> by_cases h' : n ≤ b <;> simp [h, h']
theorem impl_in (n a b : Int) : impl_in.f n a b = some (decide (a ≤ n ∧ n ≤ b)) := by
  unfold impl_in.f
  by_cases h : a ≤ n <;> by_cases h' : n ≤ b <;> simp [h, h']

def byteOk (c : UInt8) : Bool := decide (33 ≤ (c.toNat : Int) ∧ (c.toNat : Int) ≤ 125)
def isKeyB (s : ByteArray) : Bool := s.data.toList.all byteOk && decide (1 ≤ (s.size : Int) ∧ (s.size : Int) ≤ 12)
theorem spec_IsKey_l0 (x0 : ByteArray) (hz : (x0.size : Int) ≤ 9223372036854775806) : ∀ (t pre : List UInt8), x0.data.toList = pre ++ t →
    Ev (fun k => spec_IsKey.l0 k x0 (pre.length : Int)) (t.all byteOk && decide (1 ≤ (x0.size : Int) ∧ (x0.size : Int) ≤ 12)) := by
  intro t
  induction t with
  | nil =>
    intro pre h
    refine ev_succ ?_
    simp only [spec_IsKey.l0, spec_in, Option.bind_some]
    exact ev_neg (not_lt_size h) (ev_some (by simp))
  | cons c t ih =>
    intro pre h
    have hm := lt_size h
    refine ev_succ ?_
    simp only [spec_IsKey.l0, bt_mid h]
    refine ev_pos hm (ev_pos (by omega) ?_)
    by_cases c1 : (c.toNat : Int) < 33
    · exact ev_pos c1 (ev_some (by simp [byteOk]; omega))
    · refine ev_neg c1 ?_
      by_cases c2 : (c.toNat : Int) > 125
      · exact ev_pos c2 (ev_some (by simp [byteOk]; omega))
      · refine ev_neg c2 ?_
        rw [winc (by omega)]
        have := ih (pre ++ [c]) (by rw [h]; simp)
        rw [len_one] at this
        have hb : byteOk c = true := by simp [byteOk]; omega
        simpa [hb] using this
theorem spec_IsKey_f (s : ByteArray) (hz : (s.size : Int) ≤ 9223372036854775806) : Ev (fun k => spec_IsKey.f k s) (isKeyB s) := by
  unfold spec_IsKey.f
  exact spec_IsKey_l0 s hz s.data.toList [] rfl
theorem impl_IsKey_l0 (x0 : ByteArray) (hz : (x0.size : Int) ≤ 9223372036854775806) : ∀ (t pre : List UInt8), x0.data.toList = pre ++ t →
    Ev (fun k => impl_IsKey.l0 k x0 (x0.size : Int) (pre.length : Int)) (t.all byteOk && decide (1 ≤ (x0.size : Int) ∧ (x0.size : Int) ≤ 12)) := by
  intro t
  induction t with
  | nil =>
    intro pre h
    refine ev_succ ?_
    simp only [impl_IsKey.l0, impl_in, Option.bind_some]
    exact ev_neg (not_lt_size h) (ev_some (by simp))
  | cons c t ih =>
    intro pre h
    have hm := lt_size h
    refine ev_succ ?_
    simp only [impl_IsKey.l0, bt_mid h]
    refine ev_pos hm (ev_pos (by omega) (ev_pos hm ?_))
    by_cases c1 : (c.toNat : Int) < 33
    · exact ev_pos c1 (ev_some (by simp [byteOk]; omega))
    · refine ev_neg c1 ?_
      by_cases c2 : (c.toNat : Int) > 125
      · exact ev_pos c2 (ev_some (by simp [byteOk]; omega))
      · refine ev_neg c2 ?_
        rw [winc (by omega)]
        have := ih (pre ++ [c]) (by rw [h]; simp)
        rw [len_one] at this
        have hb : byteOk c = true := by simp [byteOk]; omega
        simpa [hb] using this
theorem impl_IsKey_f (s : ByteArray) (hz : (s.size : Int) ≤ 9223372036854775806) : Ev (fun k => impl_IsKey.f k s) (isKeyB s) := by
  unfold impl_IsKey.f
  exact impl_IsKey_l0 s hz s.data.toList [] rfl
theorem isKeyB_size {s : ByteArray} (h : isKeyB s = true) : 1 ≤ s.size ∧ s.size ≤ 12 := by
  simp [isKeyB] at h
  omega

def keysFrom : Option ByteArray → List ByteArray → Bool
  | _, [] => true
  | p, s :: t => isKeyB s && (match p with | none => true | some q => lessS q s) && keysFrom (some s) t
def areKeysB (l : List ByteArray) : Bool := keysFrom none l && decide ((l.length : Int) ≤ 40)
def lastOf (pre : List ByteArray) : Option ByteArray := pre.getLast?
theorem lastOf_one (pre : List ByteArray) (s : ByteArray) : lastOf (pre ++ [s]) = some s := by simp [lastOf]
theorem lastOf_nil : lastOf [] = none := rfl
theorem last_split {pre : List ByteArray} (h : 0 < pre.length) : ∃ q p, pre = q ++ [p] := by
  obtain ⟨x, hx⟩ : ∃ x, pre.getLast? = some x := by
    cases hp : pre.getLast? with
    | none => rw [List.getLast?_eq_none_iff] at hp; subst hp; simp at h
    | some x => exact ⟨x, rfl⟩
  obtain ⟨q, hq⟩ := List.getLast?_eq_some_iff.1 hx
  exact ⟨q, x, hq⟩

theorem spec_biKeys_l0 (x0 : List ByteArray) (hl : (x0.length : Int) ≤ 9223372036854775806) : ∀ (t pre : List ByteArray), x0 = pre ++ t → (∀ s ∈ t, (s.size : Int) ≤ 9223372036854775806) →
    Ev (fun k => spec_biKeys.l0 k x0 x0 (x0.length : Int) (pre.length : Int)) (keysFrom (lastOf pre) t && decide ((x0.length : Int) ≤ 40)) := by
  intro t
  induction t with
  | nil =>
    intro pre h hs
    refine ev_succ ?_
    simp only [spec_biKeys.l0]
    exact ev_neg (by rw [h]; exact not_lt_end) (ev_some (by simp [keysFrom]))
  | cons s t ih =>
    intro pre h hs
    have hm : ((pre.length : Nat) : Int) < (x0.length : Int) := by rw [h]; exact lt_mid
    have hg : rdOf ByteArray.empty x0 (pre.length : Int) = s := by rw [h]; exact rdOf_mid
    have next := ih (pre ++ [s]) (by rw [h]; simp) (fun x hx => hs x (by simp [hx]))
    rw [len_one, lastOf_one] at next
    refine ev_succ ?_
    simp only [spec_biKeys.l0, hg]
    refine ev_pos hm (ev_pos (by omega) (ev_pos hm (ev_bind _ (spec_IsKey_f s (hs s (by simp))) ?_)))
    cases hk : isKeyB s with
    | false => exact ev_neg (by simp) (ev_some (by simp [keysFrom, hk]))
    | true =>
      refine ev_pos rfl ?_
      by_cases c : 0 < pre.length
      · obtain ⟨q, p, rfl⟩ := last_split c
        have hp : rdOf ByteArray.empty x0 ((q.length : Nat) : Int) = p := by rw [h]; exact rdOf_last
        have hw : wrap64 (((q ++ [p]).length : Int) - 1) = (q.length : Int) := by rw [len_one]; exact wdec (by simp at hm; omega)
        simp only [hw, hp, lastOf_one, keysFrom, hk, Bool.true_and]
        refine ev_pos (by omega) (ev_pos (by omega) (ev_pos (by simp at hm; omega) ?_))
        by_cases c2 : lessS p s = true
        · refine ev_pos c2 ?_
          rw [winc (by omega), c2, Bool.true_and]
          exact next
        · refine ev_neg c2 (ev_some ?_)
          simp only [Bool.not_eq_true] at c2
          simp [c2]
      · obtain rfl := List.length_eq_zero_iff.1 (show pre.length = 0 by omega)
        refine ev_neg (by simp) ?_
        rw [winc (by omega)]
        simp only [lastOf_nil, keysFrom, hk, Bool.true_and]
        exact next
theorem spec_biKeys_f (l : List ByteArray) (hl : (l.length : Int) ≤ 9223372036854775806) (hs : ∀ s ∈ l, (s.size : Int) ≤ 9223372036854775806) : Ev (fun k => spec_biKeys.f k l) (areKeysB l) := by
  unfold spec_biKeys.f
  exact spec_biKeys_l0 l hl l [] rfl hs
theorem impl_AreKeys_l0 (x0 : List ByteArray) (hl : (x0.length : Int) ≤ 9223372036854775806) : ∀ (t pre : List ByteArray), x0 = pre ++ t → (∀ s ∈ t, (s.size : Int) ≤ 9223372036854775806) →
    Ev (fun k => impl_AreKeys.l0 k x0 x0 (x0.length : Int) (pre.length : Int)) (keysFrom (lastOf pre) t && decide ((x0.length : Int) ≤ 40)) := by
  intro t
  induction t with
  | nil =>
    intro pre h hs
    refine ev_succ ?_
    simp only [impl_AreKeys.l0]
    exact ev_neg (by rw [h]; exact not_lt_end) (ev_some (by simp [keysFrom]))
  | cons s t ih =>
    intro pre h hs
    have hm : ((pre.length : Nat) : Int) < (x0.length : Int) := by rw [h]; exact lt_mid
    have hg : rdOf ByteArray.empty x0 (pre.length : Int) = s := by rw [h]; exact rdOf_mid
    have next := ih (pre ++ [s]) (by rw [h]; simp) (fun x hx => hs x (by simp [hx]))
    rw [len_one, lastOf_one] at next
    refine ev_succ ?_
    simp only [impl_AreKeys.l0, hg]
    refine ev_pos hm (ev_pos (by omega) (ev_pos hm (ev_bind _ (impl_IsKey_f s (hs s (by simp))) ?_)))
    cases hk : isKeyB s with
    | false => exact ev_neg (by simp) (ev_some (by simp [keysFrom, hk]))
    | true =>
      refine ev_pos rfl ?_
      by_cases c : 0 < pre.length
      · obtain ⟨q, p, rfl⟩ := last_split c
        have hp : rdOf ByteArray.empty x0 ((q.length : Nat) : Int) = p := by rw [h]; exact rdOf_last
        have hw : wrap64 (((q ++ [p]).length : Int) - 1) = (q.length : Int) := by rw [len_one]; exact wdec (by simp at hm; omega)
        simp only [hw, hp, lastOf_one, keysFrom, hk, Bool.true_and]
        refine ev_pos (by omega) (ev_pos (by omega) (ev_pos (by simp at hm; omega) ?_))
        by_cases c2 : lessS p s = true
        · refine ev_pos c2 ?_
          rw [winc (by omega), c2, Bool.true_and]
          exact next
        · refine ev_neg c2 (ev_some ?_)
          simp only [Bool.not_eq_true] at c2
          simp [c2]
      · obtain rfl := List.length_eq_zero_iff.1 (show pre.length = 0 by omega)
        refine ev_neg (by simp) ?_
        rw [winc (by omega)]
        simp only [lastOf_nil, keysFrom, hk, Bool.true_and]
        exact next
theorem impl_AreKeys_f (l : List ByteArray) (hl : (l.length : Int) ≤ 9223372036854775806) (hs : ∀ s ∈ l, (s.size : Int) ≤ 9223372036854775806) : Ev (fun k => impl_AreKeys.f k l) (areKeysB l) := by
  unfold impl_AreKeys.f
  exact impl_AreKeys_l0 l hl l [] rfl hs
theorem areKeysB_len {l : List ByteArray} (h : areKeysB l = true) : l.length ≤ 40 := by
  simp [areKeysB] at h
  omega
theorem keysFrom_all : ∀ (p : Option ByteArray) (l : List ByteArray), keysFrom p l = true → ∀ s ∈ l, isKeyB s = true
  | _, [], _, s, h => by simp at h
  | p, x :: t, hk, s, h => by
    simp only [keysFrom, Bool.and_eq_true] at hk
    rcases List.mem_cons.1 h with rfl | h
    · exact hk.1.1
    · exact keysFrom_all _ t hk.2 s h
theorem areKeysB_all {l : List ByteArray} (h : areKeysB l = true) : ∀ s ∈ l, isKeyB s = true := by
  simp only [areKeysB, Bool.and_eq_true] at h
  exact keysFrom_all _ _ h.1
end Go.Proofs.YtmehagedoaopeaaGreatQ
namespace Go.Proofs.YtmehagedoaopeaaGreatQ
open Go Go.RowKit Go.Proofs.YtmehagedoaopeaaGreatW.PrintWords Go.Proofs.YtmehagedoaopeaaGreatGp Go.Proofs.YtmehagedoaopeaaGreat.PZ

structure Bys (s : List Int) : Prop where
  len : (s.length : Int) ≤ 1048576
  all : ∀ x ∈ s, 0 ≤ x ∧ x ≤ 255
theorem and255 (x : Int) : 0 ≤ Go.bits .and .u64 x 255 ∧ Go.bits .and .u64 x 255 ≤ 255 := by
  have e : Go.bits .and .u64 x 255 = IntKind.u64.wrap (((BitVec.ofInt 64 x &&& BitVec.ofInt 64 255 : BitVec 64)).toNat : Int) := by unfold Go.bits; rfl
  have h : ((BitVec.ofInt 64 x &&& BitVec.ofInt 64 255 : BitVec 64)).toNat ≤ 255 := by
    rw [BitVec.toNat_and]
    exact Nat.and_le_right
  rw [e]
  unfold IntKind.wrap
  simp only [IntKind.bits, IntKind.signed]
  generalize (BitVec.ofInt 64 x &&& BitVec.ofInt 64 255 : BitVec 64).toNat = m at h
  simp
  omega
theorem rd_by {s : List Int} (hs : Bys s) (i : Int) : 0 ≤ rd s i ∧ rd s i ≤ 255 := by
  unfold rd
  by_cases c : i.toNat < s.length
  · rw [List.getD_eq_getElem?_getD, List.getElem?_eq_getElem c]
    exact hs.all _ (List.getElem_mem c)
  · rw [List.getD_eq_getElem?_getD, List.getElem?_eq_none (by omega)]
    simp
theorem next_ok {s : List Int} (hs : Bys s) {p : Int} (sd : Int) (h0 : 0 ≤ p) (h1 : p ≤ 4000000000000000000) :
    ∃ v p' sd', spec_l1Cur_next.f s p sd = some (v, p', sd') ∧ (0 ≤ v ∧ v ≤ 255) ∧ 0 ≤ p' ∧ p' ≤ p + 1 := by
  have hb := rd_by hs p
  have w1 : wrap64 (p + 1) = p + 1 := w64 (by omega) (by omega)
  have w2 : wrap64 (rd s p) = rd s p := w64 (by omega) (by omega)
  unfold spec_l1Cur_next.f
  rw [w1, w2]
  by_cases c : p < (s.length : Int)
  · rw [if_pos c, if_pos h0]
    split
    · exact ⟨_, _, _, rfl, hb, by omega, by omega⟩
    · omega
  · rw [if_neg c, if_neg (by omega)]
    refine ⟨_, _, _, rfl, ?_, by omega, by omega⟩
    have := and255 ((IntKind.u64.wrap ((IntKind.u64.wrap (IntKind.u64.wrap (sd * 6364136223846793005))) + 1442695040888963407)) / 1099511627776)
    rw [w64 (by omega) (by omega)]
    exact this
theorem pick_ok {s : List Int} (hs : Bys s) {p : Int} (sd : Int) {n : Int} (h0 : 0 ≤ p) (h1 : p ≤ 3000000000000000000) :
    ∃ v p' sd', spec_l1Cur_pick.f s p sd n = some (v, p', sd') ∧ (0 ≤ v ∧ (v < n ∨ v = 0)) ∧ 0 ≤ p' ∧ p' ≤ p + 2 := by
  unfold spec_l1Cur_pick.f
  by_cases c : n ≤ 1
  · rw [if_pos c]; exact ⟨_, _, _, rfl, ⟨by omega, .inr rfl⟩, h0, by omega⟩
  obtain ⟨v, p', sd', e, hv, q0, q1⟩ := next_ok hs sd h0 (by omega)
  have hn : ¬ n = 0 := by omega
  rw [if_neg c, e]
  simp only [Option.bind_some, if_neg hn]
  by_cases d : n > 200
  · obtain ⟨u, p2, sd2, e2, hu, r0, r1⟩ := next_ok hs sd' q0 (by omega)
    rw [if_pos d, e2]
    simp only [Option.bind_some]
    refine ⟨_, _, _, rfl, ?_, r0, by omega⟩
    rw [w64 (x := v * 256) (by omega) (by omega), w64 (x := v * 256 + u) (by omega) (by omega), Int.tmod_eq_emod_of_nonneg (by omega)]
    exact ⟨Int.emod_nonneg _ hn, .inl (Int.emod_lt_of_pos _ (by omega))⟩
  · rw [if_neg d]
    refine ⟨_, _, _, rfl, ?_, q0, by omega⟩
    rw [Int.tmod_eq_emod_of_nonneg hv.1]
    exact ⟨Int.emod_nonneg _ hn, .inl (Int.emod_lt_of_pos _ (by omega))⟩
theorem one_ok {s : List Int} (hs : Bys s) {p : Int} (sd : Int) (n : Int) (h0 : 0 ≤ p) (h1 : p ≤ 3000000000000000000) :
    ∃ v p' sd', spec_l1Cur_one.f s p sd n = some (v, p', sd') ∧ 0 ≤ p' ∧ p' ≤ p + 2 := by
  obtain ⟨v, p', sd', e, _, q0, q1⟩ := pick_ok hs sd (n := n) h0 h1
  unfold spec_l1Cur_one.f
  rw [e]
  exact ⟨_, _, _, rfl, q0, q1⟩
theorem among_ok {s : List Int} (hs : Bys s) {p : Int} (sd : Int) {l : List Int} (hl : 0 < l.length) (h0 : 0 ≤ p) (h1 : p ≤ 3000000000000000000) :
    ∃ v p' sd', spec_l1Cur_among.f s p sd l = some (v, p', sd') ∧ v ∈ l ∧ 0 ≤ p' ∧ p' ≤ p + 2 := by
  obtain ⟨v, p', sd', e, hv, q0, q1⟩ := pick_ok hs sd (n := (l.length : Int)) h0 h1
  have hm : rd l v ∈ l := by
    unfold rd
    have : v.toNat < l.length := by omega
    rw [List.getD_eq_getElem?_getD, List.getElem?_eq_getElem this]
    exact List.getElem_mem this
  unfold spec_l1Cur_among.f
  rw [e]
  simp only [Option.bind_some]
  rw [if_pos (by omega), if_pos (by omega)]
  exact ⟨_, _, _, rfl, hm, q0, q1⟩
theorem strOf_size (l : List Int) : (strOfNums l).size = l.length := by simp [strOfNums, ByteArray.size]

def Dr {α : Type} (g : Nat → Option (α × Int × Int)) (p c : Int) (P : α → Prop) : Prop := ∃ v p' sd', Ev g (v, p', sd') ∧ P v ∧ 0 ≤ p' ∧ p' ≤ p + c
theorem key_l1 (s : List Int) (p sd : Int) : ∀ (d : Nat) (x : List Int), 12 - x.length ≤ d → x.length ≤ 12 →
    ∃ v, Ev (fun k => spec_l1Cur_key.l1 k x s p sd) (v, p, sd) ∧ v.size ≤ 12 := by
  intro d
  induction d with
  | zero =>
    intro x h1 h2
    refine ⟨strOfNums x, ev_succ ?_, by rw [strOf_size]; omega⟩
    simp only [spec_l1Cur_key.l1]
    exact ev_neg (by omega) (Ev.now _)
  | succ d ih =>
    intro x h1 h2
    by_cases c : (x.length : Int) < 12
    · obtain ⟨v, e, hv⟩ := ih (x ++ [97]) (by simp; omega) (by simp; omega)
      refine ⟨v, ev_succ ?_, hv⟩
      simp only [spec_l1Cur_key.l1]
      exact ev_pos c (ev_pos (by omega) e)
    · refine ⟨strOfNums x, ev_succ ?_, by rw [strOf_size]; omega⟩
      simp only [spec_l1Cur_key.l1]
      exact ev_neg c (Ev.now _)
theorem key_l0 {s : List Int} (hs : Bys s) : ∀ (n : Nat) (x : List Int) (p sd : Int), x.length + n ≤ 12 → 0 ≤ p → p + 2 * (n : Int) ≤ 2000000000000000000 →
    Dr (fun k => spec_l1Cur_key.l0 k x (n : Int) s p sd) p (2 * (n : Int) + 2) (fun v => v.size ≤ 12) := by
  intro n
  induction n with
  | zero =>
    intro x p sd hx h0 h1
    obtain ⟨v, p', sd', e, q0, q1⟩ := one_ok hs sd 12 h0 (by omega)
    by_cases c : v = true
    · obtain ⟨u, eu, hu⟩ := key_l1 s p' sd' 12 x (by omega) (by omega)
      refine ⟨u, p', sd', ev_succ ?_, hu, q0, by omega⟩
      simp only [spec_l1Cur_key.l0, e]
      exact ev_neg (by omega) (ev_bind _ (Ev.now _) (ev_pos c eu))
    · refine ⟨strOfNums x, p', sd', ev_succ ?_, (by rw [strOf_size]; omega : (strOfNums x).size ≤ 12), q0, by omega⟩
      simp only [spec_l1Cur_key.l0, e]
      exact ev_neg (by omega) (ev_bind _ (Ev.now _) (ev_neg c (Ev.now _)))
  | succ n ih =>
    intro x p sd hx h0 h1
    obtain ⟨v, p', sd', e, hv, q0, q1⟩ := pick_ok hs sd (n := 11) h0 (by omega)
    obtain ⟨u, p2, sd2, eu, hu, r0, r1⟩ := ih (x ++ [bt (⟨#[97, 97, 98, 98, 99, 120, 121, 122, 33, 125, 48]⟩ : ByteArray) v]) p' sd' (by simp; omega) q0 (by omega)
    refine ⟨u, p2, sd2, ev_succ ?_, hu, r0, by omega⟩
    simp only [spec_l1Cur_key.l0, e]
    refine ev_pos (by omega) (ev_bind _ (Ev.now _) (ev_pos hv.1 (ev_pos (by omega) (ev_pos (by omega) ?_))))
    rw [wdec (by omega)]
    exact eu
theorem key_ok {s : List Int} (hs : Bys s) {p : Int} (sd : Int) (h0 : 0 ≤ p) (h1 : p ≤ 1000000000000000000) : Dr (fun k => spec_l1Cur_key.f k s p sd) p 12 (fun v => v.size ≤ 12) := by
  obtain ⟨v, p', sd', e, hv, q0, q1⟩ := pick_ok hs sd (n := 4) h0 (by omega)
  obtain ⟨u, p2, sd2, eu, hu, r0, r1⟩ := key_l0 hs (v.toNat + 1) [] p' sd' (by simp; omega) q0 (by omega)
  refine ⟨u, p2, sd2, ?_, hu, r0, by omega⟩
  unfold spec_l1Cur_key.f
  rw [e]
  refine ev_bind _ (Ev.now _) ?_
  rw [w64 (by omega) (by omega), show 1 + v = ((v.toNat + 1 : Nat) : Int) from by omega]
  exact eu
def insK (s : ByteArray) : List ByteArray → List ByteArray
  | [] => [s]
  | q :: t => if lessS q s = true then q :: insK s t else if q = s then q :: t else s :: q :: t
theorem insK_len (s : ByteArray) : ∀ l, (insK s l).length ≤ l.length + 1
  | [] => by simp [insK]
  | q :: t => by
    have := insK_len s t
    unfold insK
    split
    · simp; omega
    · split <;> simp
theorem insK_mem (s : ByteArray) : ∀ l, ∀ x ∈ insK s l, x = s ∨ x ∈ l
  | [], x, h => by simp [insK] at h; exact .inl h
  | q :: t, x, h => by
    unfold insK at h
    split at h
    · rcases List.mem_cons.1 h with e | e
      · exact .inr (by simp [e])
      · rcases insK_mem s t x e with e | e
        · exact .inl e
        · exact .inr (by simp [e])
    · split at h
      · exact .inr h
      · rcases List.mem_cons.1 h with e | e
        · exact .inl e
        · exact .inr e
theorem putS_l0 (x0 : List ByteArray) (s : ByteArray) (hx : x0.length ≤ 1000000) : ∀ (t pre : List ByteArray), x0 = pre ++ t →
    Ev (fun k => spec_l1PutS.l0 k x0 s (pre.length : Int)) (pre ++ insK s t) := by
  intro t
  induction t with
  | nil =>
    intro pre h
    have hp : x0 = pre := by rw [h, List.append_nil]
    subst hp
    refine ev_succ ?_
    simp only [spec_l1PutS.l0]
    refine ev_neg (by omega) (ev_bind _ (Ev.now _) (ev_pos (by omega) (ev_pos (by omega) (ev_bind _ (Ev.now _) ?_))))
    rw [Int.toNat_natCast, List.take_length, List.nil_append]
    refine ev_pos (by simp; omega) (ev_bind _ (Ev.now _) (ev_pos (by omega) (ev_bind _ (Ev.now _) (ev_bind _ (Ev.now _) (ev_pos (by simp; omega) (ev_some ?_))))))
    simp [insK]
  | cons q t ih =>
    intro pre h
    have hm : ((pre.length : Nat) : Int) < (x0.length : Int) := by rw [h]; exact lt_mid
    have hg : rdOf ByteArray.empty x0 (pre.length : Int) = q := by rw [h]; exact rdOf_mid
    refine ev_succ ?_
    simp only [spec_l1PutS.l0, hg]
    refine ev_pos hm (ev_pos (by omega) ?_)
    unfold insK
    by_cases c : lessS q s = true
    · refine ev_pos c ?_
      rw [winc (by omega), if_pos c]
      have := ih (pre ++ [q]) (by rw [h]; simp)
      rw [len_one] at this
      simpa using this
    · refine ev_neg c ?_
      rw [if_neg c]
      by_cases d : q = s
      · refine ev_pos (tl_inj.2 d) (ev_some ?_)
        rw [if_pos d, h]
      · refine ev_neg (fun e => d (tl_inj.1 e)) (ev_bind _ (Ev.now _) (ev_pos (by omega) (ev_bind _ (Ev.now _) ?_)))
        have et : x0.take pre.length = pre := by rw [h]; simp
        have ed : x0.drop pre.length = q :: t := by rw [h]; simp
        have hl : x0.length = pre.length + (t.length + 1) := by rw [h]; simp
        rw [Int.toNat_natCast, et, ed, List.nil_append, if_neg d]
        refine ev_pos (by simp; omega) (ev_bind _ (Ev.now _) (ev_pos (by omega) (ev_bind _ (Ev.now _) (ev_bind _ (Ev.now _) (ev_pos (by simp; omega) (ev_some ?_))))))
        simp
theorem putS_f (l : List ByteArray) (s : ByteArray) (h : l.length ≤ 1000000) : Ev (fun k => spec_l1PutS.f k l s) (insK s l) := putS_l0 l s h l [] rfl
def Kys (m : Nat) (l : List ByteArray) : Prop := l.length ≤ m ∧ ∀ s ∈ l, s.size ≤ 13
theorem Kys.ins {m : Nat} {l : List ByteArray} (h : Kys m l) {s : ByteArray} (hs : s.size ≤ 13) : Kys (m + 1) (insK s l) :=
  ⟨by have := insK_len s l; have := h.1; omega, fun x hx => by exact (insK_mem s l x hx).elim (fun e => e ▸ hs) (h.2 x)⟩
theorem Kys.one {m : Nat} {l : List ByteArray} (h : Kys m l) {s : ByteArray} (hs : s.size ≤ 13) : Kys (m + 1) (l ++ [s]) :=
  ⟨by have := h.1; simp; omega, fun x hx => by exact (List.mem_append.1 hx).elim (h.2 x) (fun e => List.mem_singleton.1 e ▸ hs)⟩
theorem Kys.mono {m m' : Nat} {l : List ByteArray} (h : Kys m l) (hm : m ≤ m') : Kys m' l := ⟨Nat.le_trans h.1 hm, h.2⟩
theorem keys_l0 {s : List Int} (hs : Bys s) : ∀ (n m : Nat) (x : List ByteArray) (p sd : Int), Kys m x → m + n ≤ 1000 → 0 ≤ p → p + 12 * (n : Int) ≤ 500000000000000000 →
    Dr (fun k => spec_l1Cur_keys.l0 k x (n : Int) s p sd) p (12 * (n : Int)) (Kys (m + n)) := by
  intro n
  induction n with
  | zero =>
    intro m x p sd hx hm h0 h1
    refine ⟨x, p, sd, ev_succ ?_, hx, h0, by omega⟩
    simp only [spec_l1Cur_keys.l0]
    exact ev_neg (by omega) (Ev.now _)
  | succ n ih =>
    intro m x p sd hx hm h0 h1
    obtain ⟨v, p', sd', e, hv, q0, q1⟩ := key_ok hs sd h0 (by omega)
    have hl := hx.1
    obtain ⟨u, p2, sd2, eu, hu, r0, r1⟩ := ih (m + 1) (insK v x) p' sd' (hx.ins (by omega)) (by omega) q0 (by omega)
    refine ⟨u, p2, sd2, ev_succ ?_, hu.mono (by omega), r0, by omega⟩
    simp only [spec_l1Cur_keys.l0]
    refine ev_pos (by omega) (ev_bind _ e (ev_bind _ (putS_f x v (by omega)) ?_))
    rw [wdec (by omega)]
    exact eu
theorem keys_ok {s : List Int} (hs : Bys s) {p : Int} (sd : Int) {n : Nat} (hn : n ≤ 100) (h0 : 0 ≤ p) (h1 : p ≤ 400000000000000000) : Dr (fun k => spec_l1Cur_keys.f k s p sd (n : Int)) p (12 * (n : Int) + 2) (Kys n) := by
  obtain ⟨v, p', sd', e, hv, q0, q1⟩ := pick_ok hs sd (n := (n : Int) + 1) h0 (by omega)
  obtain ⟨u, p2, sd2, eu, hu, r0, r1⟩ := keys_l0 hs v.toNat 0 [] p' sd' ⟨by simp, by simp⟩ (by omega) q0 (by omega)
  refine ⟨u, p2, sd2, ?_, hu.mono (by omega), r0, by omega⟩
  unfold spec_l1Cur_keys.f
  rw [w64 (x := (n : Int) + 1) (by omega) (by omega), e]
  refine ev_bind _ (Ev.now _) ?_
  rw [show ((v.toNat : Nat) : Int) = v from by omega] at eu
  exact eu
end Go.Proofs.YtmehagedoaopeaaGreatQ
namespace Go.Proofs.YtmehagedoaopeaaGreatQ
open Go Go.RowKit Go.Proofs.YtmehagedoaopeaaGreatW.PrintWords Go.Proofs.YtmehagedoaopeaaGreatGp Go.Proofs.YtmehagedoaopeaaGreat.PZ

theorem Dr.mono {α : Type} {g : Nat → Option (α × Int × Int)} {p c c' : Int} {P P' : α → Prop} (h : Dr g p c P) (hc : c ≤ c') (hP : ∀ x, P x → P' x) : Dr g p c' P' := by
  obtain ⟨v, p', sd', e, hv, q0, q1⟩ := h
  exact ⟨v, p', sd', e, hP v hv, q0, by omega⟩
theorem seed9_ok {s : List Int} (hs : Bys s) {p : Int} (sd : Int) (h0 : 0 ≤ p) (h1 : p ≤ 1000000000000000000) :
    ∃ v p' sd', spec_l1Cur_seed9.f s p sd = some (v, p', sd') ∧ (-1 ≤ v ∧ v ≤ 10000) ∧ 0 ≤ p' ∧ p' ≤ p + 4 := by
  obtain ⟨v, p', sd', e, hv, q0, q1⟩ := pick_ok hs sd (n := 12) h0 (by omega)
  unfold spec_l1Cur_seed9.f
  rw [e]
  simp only [Option.bind_some]
  by_cases c : v = 0
  · obtain ⟨u, p2, sd2, eu, hu, r0, r1⟩ := among_ok hs sd' (l := [(-1), 9999, 10000]) (by simp) q0 (by omega)
    rw [if_pos c, eu]
    refine ⟨u, p2, sd2, rfl, ?_, r0, by omega⟩
    simp only [List.mem_cons, List.not_mem_nil, or_false] at hu
    omega
  · rw [if_neg c]
    by_cases d : v = 1
    · obtain ⟨u, p2, sd2, eu, hu, r0, r1⟩ := pick_ok hs sd' (n := 10000) q0 (by omega)
      rw [if_pos d, eu]
      exact ⟨u, p2, sd2, rfl, by omega, r0, by omega⟩
    · obtain ⟨u, p2, sd2, eu, hu, r0, r1⟩ := pick_ok hs sd' (n := 20) q0 (by omega)
      rw [if_neg d, eu]
      exact ⟨u, p2, sd2, rfl, by omega, r0, by omega⟩
theorem of_ok {s : List Int} (hs : Bys s) {p : Int} (sd : Int) {l : List ByteArray} (hl : 0 < l.length) (h0 : 0 ≤ p) (h1 : p ≤ 3000000000000000000) :
    ∃ v p' sd', spec_l1Cur_of.f s p sd l = some (v, p', sd') ∧ v ∈ l ∧ 0 ≤ p' ∧ p' ≤ p + 2 := by
  obtain ⟨v, p', sd', e, hv, q0, q1⟩ := pick_ok hs sd (n := (l.length : Int)) h0 h1
  have hm : rdOf ByteArray.empty l v ∈ l := by
    unfold rdOf
    have : v.toNat < l.length := by omega
    rw [List.getD_eq_getElem?_getD, List.getElem?_eq_getElem this]
    exact List.getElem_mem this
  unfold spec_l1Cur_of.f
  rw [e]
  simp only [Option.bind_some]
  rw [if_pos (by omega), if_pos (by omega)]
  exact ⟨_, _, _, rfl, hm, q0, q1⟩
theorem text_ok {s : List Int} (hs : Bys s) {p : Int} (sd : Int) (h0 : 0 ≤ p) (h1 : p ≤ 500000000000000000) : Dr (fun k => spec_l1Cur_text.f k s p sd) p 14 (fun v => v.size ≤ 13) := by
  obtain ⟨v, p', sd', e, hv, q0, q1⟩ := pick_ok hs sd (n := 16) h0 (by omega)
  obtain ⟨u, p2, sd2, eu, hu, r0, r1⟩ := key_ok hs sd' q0 (by omega)
  unfold spec_l1Cur_text.f
  rw [e]
  simp only [Option.bind_some]
  by_cases c0 : v = 0
  · exact ⟨_, p', sd', ev_pos c0 (Ev.now _), by decide, q0, by omega⟩
  · by_cases c1 : v = 1
    · have h1 : (⟨#[32]⟩ : ByteArray).size = 1 := rfl
      refine ⟨u ++ ⟨#[32]⟩, p2, sd2, ev_neg c0 (ev_pos c1 (ev_bind _ eu (ev_pos (by simp only []; omega) (Ev.now _)))), ?_, r0, by omega⟩
      show (u ++ ⟨#[32]⟩ : ByteArray).size ≤ 13
      rw [ByteArray.size_append]
      omega
    · by_cases c2 : v = 2
      · exact ⟨_, p', sd', ev_neg c0 (ev_neg c1 (ev_pos c2 (Ev.now _))), by decide, q0, by omega⟩
      · by_cases c3 : v = 3
        · obtain ⟨x, p3, sd3, ex, hx, t0, t1⟩ := of_ok hs sd' (l := [(⟨#[126]⟩ : ByteArray), (⟨#[125]⟩ : ByteArray), (⟨#[97, 126]⟩ : ByteArray), (⟨#[127]⟩ : ByteArray)]) (by simp) q0 (by omega)
          refine ⟨x, p3, sd3, ev_neg c0 (ev_neg c1 (ev_neg c2 (ev_pos c3 ?_))), ?_, t0, by omega⟩
          · rw [ex]; exact ev_bind _ (Ev.now _) (Ev.now _)
          · simp only [List.mem_cons, List.not_mem_nil, or_false] at hx
            rcases hx with rfl | rfl | rfl | rfl <;> decide
        · exact ⟨u, p2, sd2, ev_neg c0 (ev_neg c1 (ev_neg c2 (ev_neg c3 (ev_bind _ eu (Ev.now _))))), by omega, r0, by omega⟩
theorem many_l0 (s : List Int) (p sd : Int) : ∀ (d i m : Nat) (x : List ByteArray), Kys m x → m + d ≤ 1000 → i + d ≤ 1000 →
    ∃ v, Ev (fun k => spec_l1Cur_many.l0 k ((i + d : Nat) : Int) x (i : Int) s p sd) (v, p, sd) ∧ Kys (m + d) v := by
  intro d
  induction d with
  | zero =>
    intro i m x hx hm hi
    refine ⟨x, ev_succ ?_, hx⟩
    simp only [spec_l1Cur_many.l0]
    exact ev_neg (by omega) (Ev.now _)
  | succ d ih =>
    intro i m x hx hm hi
    have hl := hx.1
    have hz : (strOfNums [(wrap64 (97 + (wrap64 (Int.tdiv (i : Int) 10)))) % 256, (wrap64 (48 + (Int.tmod (i : Int) 10))) % 256]).size ≤ 13 := by rw [strOf_size]; simp
    obtain ⟨v, e, hv⟩ := ih (i + 1) (m + 1) (insK (strOfNums [(wrap64 (97 + (wrap64 (Int.tdiv (i : Int) 10)))) % 256, (wrap64 (48 + (Int.tmod (i : Int) 10))) % 256]) x) (hx.ins hz) (by omega) (by omega)
    refine ⟨v, ev_succ ?_, hv.mono (by omega)⟩
    simp only [spec_l1Cur_many.l0]
    refine ev_pos (by omega) (ev_bind _ (putS_f x _ (by omega)) ?_)
    rw [winc (by omega), show i + (d + 1) = i + 1 + d from by omega]
    exact e
theorem anyKeys_ok {s : List Int} (hs : Bys s) {p : Int} (sd : Int) {n : Nat} (hn : n ≤ 40) (h0 : 0 ≤ p) (h1 : p ≤ 100000000000000000) : Dr (fun k => spec_l1Cur_anyKeys.f k s p sd (n : Int)) p 600 (Kys 42) := by
  obtain ⟨ks, p', sd', e, hv, q0, q1⟩ := keys_ok hs sd (by omega : n ≤ 100) h0 (by omega)
  obtain ⟨v, p2, sd2, e2, hv2, r0, r1⟩ := pick_ok hs sd' (n := 14) q0 (by omega)
  have hl := hv.1
  unfold spec_l1Cur_anyKeys.f
  by_cases c0 : v = 0
  · obtain ⟨u, p3, sd3, eu, hu, t0, t1⟩ := text_ok hs sd2 r0 (by omega)
    refine ⟨ks ++ [u], p3, sd3, ev_bind _ e ?_, (hv.one hu).mono (by omega), t0, by omega⟩
    simp only [e2]
    exact ev_bind _ (Ev.now _) (ev_pos c0 (ev_bind _ eu (ev_pos (by omega) (Ev.now _))))
  · by_cases c1 : v = 1
    · by_cases c : (ks.length : Int) > 0
      · obtain ⟨u, p3, sd3, eu, hu, t0, t1⟩ := pick_ok hs sd2 (n := (ks.length : Int)) r0 (by omega)
        have hm : rdOf ByteArray.empty ks u ∈ ks := by
          unfold rdOf
          have : u.toNat < ks.length := by omega
          rw [List.getD_eq_getElem?_getD, List.getElem?_eq_getElem this]
          exact List.getElem_mem this
        refine ⟨ks ++ [rdOf ByteArray.empty ks u], p3, sd3, ev_bind _ e ?_, (hv.one (hv.2 _ hm)).mono (by omega), t0, by omega⟩
        simp only [e2]
        refine ev_bind _ (Ev.now _) (ev_neg c0 (ev_pos c1 (ev_pos c ?_)))
        simp only [eu]
        exact ev_bind _ (Ev.now _) (ev_pos (by omega) (ev_pos (by omega) (ev_pos (by omega) (Ev.now _))))
      · refine ⟨ks, p2, sd2, ev_bind _ e ?_, hv.mono (by omega), r0, by omega⟩
        simp only [e2]
        exact ev_bind _ (Ev.now _) (ev_neg c0 (ev_pos c1 (ev_neg c (Ev.now _))))
    · by_cases c2 : v = 2
      · obtain ⟨u, p3, sd3, eu, hu, t0, t1⟩ := pick_ok hs sd2 (n := 2) r0 (by omega)
        obtain ⟨y, ey, hy⟩ := many_l0 s p3 sd3 (40 + u.toNat) 0 0 [] ⟨by simp, by simp⟩ (by omega) (by omega)
        refine ⟨y, p3, sd3, ev_bind _ e ?_, hy.mono (by omega), t0, by omega⟩
        simp only [e2]
        refine ev_bind _ (Ev.now _) (ev_neg c0 (ev_neg c1 (ev_pos c2 ?_)))
        simp only [eu]
        refine ev_bind _ (Ev.now _) (ev_bind (y, p3, sd3) ?_ (Ev.now _))
        unfold spec_l1Cur_many.f
        simp only []
        rw [w64 (by omega) (by omega), show 40 + u = ((0 + (40 + u.toNat) : Nat) : Int) from by omega]
        exact ey
      · refine ⟨ks, p2, sd2, ev_bind _ e ?_, hv.mono (by omega), r0, by omega⟩
        simp only [e2]
        exact ev_bind _ (Ev.now _) (ev_neg c0 (ev_neg c1 (ev_neg c2 (Ev.now _))))
theorem big_f {l0 l1 : List Int} (h0 : l0.length ≤ maxLen) (h1 : l1.length ≤ maxLen) : ∃ b, laws_big.f l0 l1 = some b ∧ (b = false → (l0.length : Int) ≤ 1048576 ∧ (l1.length : Int) ≤ 1048576) := by
  rw [maxLen_eq] at h0 h1
  unfold laws_big.f
  by_cases c : (l0.length : Int) > 1048576
  · exact ⟨true, if_pos c, by simp⟩
  · refine ⟨_, if_neg c, fun h => ?_⟩
    rw [decide_eq_false_iff_not, w64 (by omega) (by omega)] at h
    omega
theorem bys {l : List Int} (h : (l.length : Int) ≤ 1048576) (hw : ∀ x ∈ l, (Lit.int .u8 x).wf = true) : Bys l := by
  refine ⟨h, fun x hx => ?_⟩
  have := hw x hx
  simp only [Lit.wf, Bool.and_eq_true, decide_eq_true_eq] at this
  exact this
end Go.Proofs.YtmehagedoaopeaaGreatQ
namespace Go.Proofs.YtmehagedoaopeaaGreatQ
open Go Go.RowKit Go.Proofs.YtmehagedoaopeaaGreatW.PrintWords Go.Proofs.YtmehagedoaopeaaGreatGp Go.Proofs.YtmehagedoaopeaaGreat.PZ

def isEdgeB (P : Int) (e : List Int) : Bool := decide (e.length = 3) && decide (0 ≤ rd e 0) && decide (rd e 0 < rd e 1) && decide (rd e 1 < rd e 2) && decide (rd e 2 < P)
def goodB (P : Int) (E : Edges) : Bool := decide (1 ≤ P ∧ P ≤ 72) && decide (E.length ≤ 40) && E.all (isEdgeB P)
theorem impl_isEdge_f (e : List Int) (P : Int) : impl_isEdge.f e P = some (isEdgeB P e) := by
  unfold impl_isEdge.f isEdgeB
  by_cases c : e.length = 3
  · rw [if_pos (by omega), if_pos (by omega), decide_eq_true c]
    by_cases c0 : rd e 0 ≥ 0
    · rw [if_pos c0, if_pos (by omega), decide_eq_true c0]
      by_cases c1 : rd e 0 < rd e 1
      · rw [if_pos c1, if_pos (by omega), decide_eq_true c1]
        by_cases c2 : rd e 1 < rd e 2
        · rw [if_pos c2, decide_eq_true c2]; simp
        · rw [if_neg c2, decide_eq_false c2]; simp
      · rw [if_neg c1, decide_eq_false c1]; simp
    · rw [if_neg c0, decide_eq_false c0]; simp
  · rw [if_neg (by omega), decide_eq_false c]; simp
theorem isEdgeB_ok {P : Int} {e : List Int} (h : isEdgeB P e = true) : e.length ≤ 3 ∧ ∀ p ∈ e, 0 ≤ p ∧ p < P := by
  unfold isEdgeB at h
  simp only [Bool.and_eq_true, decide_eq_true_eq] at h
  obtain ⟨⟨⟨⟨h1, h2⟩, h3⟩, h4⟩, h5⟩ := h
  match e, h1 with
  | [a, b, c], _ =>
    simp only [rd] at h2 h3 h4 h5
    change 0 ≤ a at h2
    change a < b at h3
    change b < c at h4
    change c < P at h5
    refine ⟨by simp, fun p hp => ?_⟩
    simp only [List.mem_cons, List.not_mem_nil, or_false] at hp
    omega
theorem goodB_ok {P : Int} {E : Edges} (h : goodB P E = true) : GoodH P.toNat E ∧ (P.toNat : Int) = P ∧ E.length ≤ 40 ∧ P ≤ 72 := by
  unfold goodB at h
  simp only [Bool.and_eq_true, decide_eq_true_eq, List.all_eq_true] at h
  obtain ⟨⟨h1, h2⟩, h3⟩ := h
  refine ⟨⟨fun e he p hp => ?_, by omega, fun e he => (isEdgeB_ok (h3 e he)).1, by omega⟩, by omega, h2, h1.2⟩
  have := (isEdgeB_ok (h3 e he)).2 p hp
  omega
theorem impl_IsHyper_l0 (P : Int) (E : Edges) (x0 : List (List Int)) (hl : (x0.length : Int) ≤ 9223372036854775806) : ∀ (t pre : List (List Int)), x0 = pre ++ t →
    ∃ r, Ev (fun k => slices_IndexFunc_int_int_at_impl_IsHyper_1.l0 k x0 (x0.length : Int) (pre.length : Int) P E) r ∧ decide (r ≥ 0) = !(t.all (isEdgeB P)) := by
  intro t
  induction t with
  | nil =>
    intro pre h
    refine ⟨-1, ev_succ ?_, by simp⟩
    simp only [slices_IndexFunc_int_int_at_impl_IsHyper_1.l0]
    exact ev_neg (by rw [h]; exact not_lt_end) (Ev.now _)
  | cons x t ih =>
    intro pre h
    have hm : ((pre.length : Nat) : Int) < (x0.length : Int) := by rw [h]; exact lt_mid
    have hg : rd_L3 x0 (pre.length : Int) = x := by simp [rd_L3, h]
    have e1 : impl_IsHyper_1.f x P E = some (!(isEdgeB P x)) := by unfold impl_IsHyper_1.f; rw [impl_isEdge_f]; rfl
    by_cases c : isEdgeB P x = true
    · obtain ⟨r, h1, h2⟩ := ih (pre ++ [x]) (by rw [h]; simp)
      rw [len_one] at h1
      refine ⟨r, ev_succ ?_, by rw [h2]; simp [c]⟩
      simp only [slices_IndexFunc_int_int_at_impl_IsHyper_1.l0, hg, e1]
      rw [c, winc (by omega)]
      exact ev_pos hm (ev_pos (by omega) (ev_pos hm (ev_bind _ (Ev.now _) (ev_neg (by simp) h1))))
    · refine ⟨(pre.length : Int), ev_succ ?_, by simp [c]⟩
      simp only [slices_IndexFunc_int_int_at_impl_IsHyper_1.l0, hg, e1]
      rw [Bool.eq_false_iff.2 c]
      exact ev_pos hm (ev_pos (by omega) (ev_pos hm (ev_bind _ (Ev.now _) (ev_pos (by simp) (Ev.now _)))))
theorem impl_IsHyper_f (P : Int) (E : Edges) (hl : (E.length : Int) ≤ 9223372036854775806) : Ev (fun k => impl_IsHyper.f k P E) (goodB P E) := by
  obtain ⟨r, h1, h2⟩ := impl_IsHyper_l0 P E E hl E [] rfl
  unfold impl_IsHyper.f slices_ContainsFunc_int_int_at_impl_IsHyper_1.f slices_IndexFunc_int_int_at_impl_IsHyper_1.f goodB
  rw [impl_in]
  refine ev_bind _ (ev_bind _ h1 (ev_some h2)) ?_
  by_cases c : E.all (isEdgeB P) = true
  · rw [c]
    refine ev_neg (by simp) (ev_bind _ (Ev.now _) ?_)
    by_cases d : 1 ≤ P ∧ P ≤ 72
    · rw [decide_eq_true d]
      refine ev_pos rfl (ev_some ?_)
      rw [Bool.true_and, Bool.and_true, decide_eq_decide]
      omega
    · rw [decide_eq_false d]
      exact ev_neg (by simp) (Ev.now _)
  · rw [Bool.eq_false_iff.2 c]
    exact ev_pos (by simp) (ev_some (by simp))

def hypE (a0 n : Int) (l : List ByteArray) : Edges := l.map fun s => tripL a0 s n 3 0
theorem hypE_len (a0 n : Int) (l : List ByteArray) : (hypE a0 n l).length = l.length := by simp [hypE]
theorem hypE_app (a0 n : Int) (l : List ByteArray) (s : ByteArray) : hypE a0 n (l ++ [s]) = hypE a0 n l ++ [tripL a0 s n 3 0] := by simp [hypE]
theorem impl_hyper_l0 {a0 n : Int} (h0 : 0 ≤ a0) (h0' : a0 ≤ 1000000) (q : Int) {x0 : List ByteArray} (hx : x0.length ≤ 1000) (hz : ∀ s ∈ x0, s.size ≤ 1000) : ∀ (t pre : List ByteArray), x0 = pre ++ t →
    Ev (fun k => impl_hyper.l0 k a0 n x0 (x0.length : Int) (pre.length : Int) q (hypE a0 n pre)) (q, hypE a0 n x0) := by
  intro t
  induction t with
  | nil =>
    intro pre h
    have hp : x0 = pre := by rw [h, List.append_nil]
    subst hp
    refine ev_succ ?_
    simp only [impl_hyper.l0]
    exact ev_neg (by omega) (Ev.now _)
  | cons x t ih =>
    intro pre h
    have hm : ((pre.length : Nat) : Int) < (x0.length : Int) := by rw [h]; exact lt_mid
    have hg : rdOf ByteArray.empty x0 (pre.length : Int) = x := by rw [h]; exact rdOf_mid
    have hxs := hz x (by rw [h]; simp)
    refine ev_succ ?_
    simp only [impl_hyper.l0, hg]
    refine ev_pos hm (ev_pos (by omega) (ev_pos hm (ev_bind _ (impl_threePlaces_f a0 n x (by omega) h0 h0') (ev_pos (by rw [hypE_len]; omega) ?_))))
    rw [winc (by omega), ← hypE_app]
    have := ih (pre ++ [x]) (by rw [h]; simp)
    rw [len_one] at this
    exact this
theorem impl_hyper_f {a0 n : Int} (h0 : 0 ≤ a0) (h0' : a0 ≤ 1000000) (hn : 0 ≤ n) (hn' : n ≤ 1000) {x0 : List ByteArray} (hx : x0.length ≤ 1000) (hz : ∀ s ∈ x0, s.size ≤ 1000) : Ev (fun k => impl_hyper.f k a0 x0 n) (3 * n, hypE a0 n x0) := by
  unfold impl_hyper.f
  rw [w64 (by omega) (by omega)]
  exact impl_hyper_l0 h0 h0' (3 * n) hx hz x0 [] rfl
theorem spec_peHyper_l0 {a0 n : Int} (h0 : 0 ≤ a0) (h0' : a0 ≤ 1000000) (q : Int) {x0 : List ByteArray} (hx : x0.length ≤ 1000) (hz : ∀ s ∈ x0, s.size ≤ 1000) : ∀ (t pre : List ByteArray), x0 = pre ++ t →
    Ev (fun k => spec_peHyper.l0 k a0 n x0 (x0.length : Int) (pre.length : Int) q (hypE a0 n pre)) (q, hypE a0 n x0) := by
  intro t
  induction t with
  | nil =>
    intro pre h
    have hp : x0 = pre := by rw [h, List.append_nil]
    subst hp
    refine ev_succ ?_
    simp only [spec_peHyper.l0]
    exact ev_neg (by omega) (Ev.now _)
  | cons x t ih =>
    intro pre h
    have hm : ((pre.length : Nat) : Int) < (x0.length : Int) := by rw [h]; exact lt_mid
    have hg : rdOf ByteArray.empty x0 (pre.length : Int) = x := by rw [h]; exact rdOf_mid
    have hxs := hz x (by rw [h]; simp)
    refine ev_succ ?_
    simp only [spec_peHyper.l0, hg]
    refine ev_pos hm (ev_pos (by omega) (ev_pos hm (ev_bind _ (spec_peTriple_f a0 n x (by omega) h0 h0') (ev_pos (by rw [hypE_len]; omega) ?_))))
    rw [winc (by omega), ← hypE_app]
    have := ih (pre ++ [x]) (by rw [h]; simp)
    rw [len_one] at this
    exact this
theorem spec_peHyper_f {a0 n : Int} (h0 : 0 ≤ a0) (h0' : a0 ≤ 1000000) (hn : 0 ≤ n) (hn' : n ≤ 1000) {x0 : List ByteArray} (hx : x0.length ≤ 1000) (hz : ∀ s ∈ x0, s.size ≤ 1000) : Ev (fun k => spec_peHyper.f k a0 x0 n) (3 * n, hypE a0 n x0) := by
  unfold spec_peHyper.f
  rw [w64 (by omega) (by omega)]
  exact spec_peHyper_l0 h0 h0' (3 * n) hx hz x0 [] rfl
theorem trip_edge (a0 : Int) (s : ByteArray) {n : Int} (h0 : 1 ≤ n) (h1 : n ≤ 24) : isEdgeB (3 * n) (tripL a0 s n 3 0) = true := by
  have r0 := placeV_range a0 ((0 : Nat) : Int) s h0 (by omega)
  have r1 := placeV_range a0 ((0 + 1 : Nat) : Int) s h0 (by omega)
  have r2 := placeV_range a0 ((0 + 1 + 1 : Nat) : Int) s h0 (by omega)
  have e0 : wrap64 (placeV a0 ((0 : Nat) : Int) s n + wrap64 (((0 : Nat) : Int) * n)) = placeV a0 ((0 : Nat) : Int) s n := by
    rw [w64 (x := ((0 : Nat) : Int) * n) (by omega) (by omega), w64 (by omega) (by omega)]; omega
  have e1 : wrap64 (placeV a0 ((0 + 1 : Nat) : Int) s n + wrap64 (((0 + 1 : Nat) : Int) * n)) = placeV a0 ((0 + 1 : Nat) : Int) s n + n := by
    rw [w64 (x := ((0 + 1 : Nat) : Int) * n) (by omega) (by omega), w64 (by omega) (by omega)]; omega
  have e2 : wrap64 (placeV a0 ((0 + 1 + 1 : Nat) : Int) s n + wrap64 (((0 + 1 + 1 : Nat) : Int) * n)) = placeV a0 ((0 + 1 + 1 : Nat) : Int) s n + 2 * n := by
    rw [w64 (x := ((0 + 1 + 1 : Nat) : Int) * n) (by omega) (by omega), w64 (by omega) (by omega)]; omega
  have et : tripL a0 s n 3 0 = [placeV a0 ((0 : Nat) : Int) s n, placeV a0 ((0 + 1 : Nat) : Int) s n + n, placeV a0 ((0 + 1 + 1 : Nat) : Int) s n + 2 * n] := by
    simp only [tripL]
    rw [e0, e1, e2]
  rw [et]
  generalize placeV a0 ((0 : Nat) : Int) s n = x0 at r0
  generalize placeV a0 ((0 + 1 : Nat) : Int) s n = x1 at r1
  generalize placeV a0 ((0 + 1 + 1 : Nat) : Int) s n = x2 at r2
  unfold isEdgeB
  simp only [Bool.and_eq_true, decide_eq_true_eq]
  refine ⟨⟨⟨⟨rfl, ?_⟩, ?_⟩, ?_⟩, ?_⟩
  · exact r0.1
  · show x0 < x1 + n; omega
  · show x1 + n < x2 + 2 * n; omega
  · show x2 + 2 * n < 3 * n; omega
theorem hyp_good (a0 : Int) {n : Int} (h0 : 1 ≤ n) (h1 : n ≤ 24) {l : List ByteArray} (hl : l.length ≤ 40) : goodB (3 * n) (hypE a0 n l) = true := by
  unfold goodB
  simp only [Bool.and_eq_true, decide_eq_true_eq, List.all_eq_true]
  refine ⟨⟨by omega, by rw [hypE_len]; exact hl⟩, fun e he => ?_⟩
  simp only [hypE, List.mem_map] at he
  obtain ⟨s, _, rfl⟩ := he
  exact trip_edge a0 s h0 h1
def peelsB (a0 : Int) (l : List ByteArray) (n : Int) : Bool := (coreE (3 * n).toNat (hypE a0 n l)).length == 0
theorem impl_order_f {P : Int} {E : Edges} (h : goodB P E = true) : Ev (fun k => impl_Hyper_order.f k P E) (stepsL (peelAll P.toNat E).1, (coreE P.toNat E).length == 0) := by
  obtain ⟨hG, hP, _, _⟩ := goodB_ok h
  have := impl_peel_f hG
  rw [hP] at this
  unfold impl_Hyper_order.f
  refine ev_bind _ this (ev_some ?_)
  rw [castL_len]
  congr 1
  rw [Bool.eq_iff_iff, beq_iff_eq, beq_iff_eq]
  omega
theorem spec_pePeels_f {a0 n : Int} (h0 : 0 ≤ a0) (h0' : a0 ≤ 1000000) (hn : 1 ≤ n) (hn' : n ≤ 24) {x0 : List ByteArray} (hx : x0.length ≤ 40) (hz : ∀ s ∈ x0, s.size ≤ 1000) : Ev (fun k => spec_pePeels.f k a0 x0 n) (peelsB a0 x0 n) := by
  obtain ⟨hG, hP, _, _⟩ := goodB_ok (hyp_good a0 hn hn' hx)
  have := spec_peCore_f hG
  rw [hP] at this
  unfold spec_pePeels.f
  refine ev_bind _ (spec_peHyper_f h0 h0' (by omega) (by omega) (by omega) hz) (ev_bind _ this (ev_some ?_))
  rw [castL_len, peelsB, Bool.eq_iff_iff, beq_iff_eq, beq_iff_eq]
  omega
theorem impl_PeelOrder_f {P : Int} {E : Edges} (h : goodB P E = true) : ∃ st, Ev (fun k => impl_PeelOrder.f k P E) (st, (coreE P.toNat E).length == 0) := by
  have hg := impl_IsHyper_f P E (by have := (goodB_ok h).2.2.1; omega)
  rw [h] at hg
  unfold impl_PeelOrder.f
  by_cases c : ((coreE P.toNat E).length == 0) = true
  · exact ⟨_, ev_bind _ hg (ev_pos rfl (ev_bind _ (impl_order_f h) (ev_pos c (by rw [c]; exact Ev.now _))))⟩
  · exact ⟨_, ev_bind _ hg (ev_pos rfl (ev_bind _ (impl_order_f h) (ev_neg c (by rw [Bool.eq_false_iff.2 c]; exact Ev.now _))))⟩
theorem impl_segmentOk_f (n : Int) : impl_segmentOk.f n = some (decide (1 ≤ n ∧ n ≤ 24)) := by
  unfold impl_segmentOk.f
  rw [impl_in]; rfl
theorem impl_isSeedP_f (n : Int) : impl_isSeed.f n = some (decide (0 ≤ n ∧ n ≤ 9999)) := by
  unfold impl_isSeed.f
  rw [impl_in]; rfl
theorem keys_small {l : List ByteArray} (h : areKeysB l = true) : l.length ≤ 40 ∧ ∀ s ∈ l, s.size ≤ 1000 :=
  ⟨areKeysB_len h, fun s hs => by have := isKeyB_size (areKeysB_all h s hs); omega⟩
def keyedB (a0 : Int) (l : List ByteArray) (n : Int) : Bool := decide (0 ≤ a0 ∧ a0 ≤ 9999) && areKeysB l && decide (1 ≤ n ∧ n ≤ 24)
theorem spec_peKeyed_f (a0 n : Int) {l : List ByteArray} (hl : l.length ≤ 1000) (hz : ∀ s ∈ l, s.size ≤ 1000) : Ev (fun k => spec_peKeyed.f k a0 l n) (keyedB a0 l n) := by
  unfold spec_peKeyed.f keyedB
  rw [spec_in, spec_in]
  refine ev_bind _ (Ev.now _) ?_
  by_cases c : 0 ≤ a0 ∧ a0 ≤ 9999
  · rw [decide_eq_true c]
    refine ev_pos rfl (ev_bind _ (spec_biKeys_f l (by omega) (fun s hs => by have := hz s hs; omega)) ?_)
    by_cases d : areKeysB l = true
    · rw [d]; exact ev_pos rfl (ev_bind _ (Ev.now _) (ev_some (by simp)))
    · rw [Bool.eq_false_iff.2 d]; exact ev_neg (by simp) (ev_some (by simp))
  · rw [decide_eq_false c]
    exact ev_neg (by simp) (ev_some (by simp))
theorem segment_ok {s : List Int} (hs : Bys s) {p : Int} (sd : Int) (h0 : 0 ≤ p) (h1 : p ≤ 1000000000000000000) : ∃ v p' sd', spec_l1Cur_segment.f s p sd = some (v, p', sd') ∧ (-1 ≤ v ∧ v ≤ 25) ∧ 0 ≤ p' ∧ p' ≤ p + 4 := by
  obtain ⟨v, p', sd', e, q0, q1⟩ := one_ok hs sd 8 h0 (by omega)
  unfold spec_l1Cur_segment.f
  rw [e]
  simp only [Option.bind_some]
  by_cases c : v = true
  · obtain ⟨u, p2, sd2, eu, hu, r0, r1⟩ := among_ok hs sd' (l := [(-1), 0, 1, 24, 25]) (by simp) q0 (by omega)
    rw [if_pos c, eu]
    simp only [List.mem_cons, List.not_mem_nil, or_false] at hu
    exact ⟨u, p2, sd2, rfl, by omega, r0, by omega⟩
  · obtain ⟨u, p2, sd2, eu, hu, r0, r1⟩ := pick_ok hs sd' (n := 10) q0 (by omega)
    rw [if_neg c, eu]
    refine ⟨wrap64 (1 + u), p2, sd2, rfl, ?_, r0, by omega⟩
    rw [w64 (by omega) (by omega)]
    omega
end Go.Proofs.YtmehagedoaopeaaGreatQ
namespace Go.Proofs.YtmehagedoaopeaaGreatQ
open Go Go.RowKit Go.Proofs.YtmehagedoaopeaaGreatW.PrintWords Go.Proofs.YtmehagedoaopeaaGreatGp Go.Proofs.YtmehagedoaopeaaGreat.PZ

theorem rd_edge (E : Edges) (i : Nat) : rd_L3 E (i : Int) = edg E i := by
  unfold rd_L3 edg
  rw [Int.toNat_natCast]
theorem rd_step (xs : List (Nat × Int)) {n : Nat} (h : n < xs.length) : rd_T71 (stepsL xs) (n : Int) = mkS71 xs[n] := by
  unfold rd_T71 stepsL
  rw [Int.toNat_natCast, List.getD_eq_getElem?_getD, List.getElem?_eq_getElem (by simpa using h)]
  simp
def allIn (lo hi : Int) (l : List Int) : Bool := l.all (fun x => decide (lo ≤ x ∧ x ≤ hi))
def isPeeledB (a n : Int) (m : List Int) : Bool := decide (0 ≤ a ∧ a ≤ 9999) && decide (1 ≤ n ∧ n ≤ 24) && decide ((m.length : Int) = 3 * n) && allIn 0 3 m
end Go.Proofs.YtmehagedoaopeaaGreatQ
namespace Go.Proofs.YtmehagedoaopeaaGreatQ
open Go Go.RowKit Go.Proofs.YtmehagedoaopeaaGreatW.PrintWords

def StepsOk (E : Edges) : List Nat → List (Nat × Int) → Prop
  | _, [] => True
  | L, (i, p) :: t => i ∈ L ∧ p ∈ edg E i ∧ degOf E L p = 1 ∧ StepsOk E (dropE L i) t
theorem peelC_ok {P : Nat} {E : Edges} : ∀ (cs L : List Nat), StepsOk E L (peelC P E cs L).1
  | [], L => by simp [peelC, StepsOk]
  | c :: cs, L => by
    cases hs : stepE P E L c with
    | none => rw [peelC, hs]; simp [StepsOk]
    | some x =>
      obtain ⟨i, p⟩ := x
      rw [peelC_cons_some cs hs]
      obtain ⟨_, h2, h3⟩ := stepE_some hs
      obtain ⟨h4, h5⟩ := withE_some h3
      exact ⟨h4, h5, h2, peelC_ok cs _⟩
theorem steps_later {E : Edges} : ∀ {L : List Nat} {t : List (Nat × Int)}, StepsOk E L t → ∀ s ∈ t, s.1 ∈ L ∧ s.2 ∈ edg E s.1
  | _, [], _, s, h => by cases h
  | L, (i, p) :: t, ⟨h1, h2, _, h4⟩, s, h => by
    rcases List.mem_cons.1 h with rfl | h
    · exact ⟨h1, h2⟩
    · obtain ⟨a, b⟩ := steps_later h4 s h
      exact ⟨(mem_dropE.1 a).1, b⟩
theorem steps_apart {E : Edges} {L : List Nat} {i : Nat} {p : Int} {t : List (Nat × Int)} (h : StepsOk E L ((i, p) :: t)) : ∀ s ∈ t, s.1 ≠ i ∧ p ∉ edg E s.1 ∧ s.2 ≠ p := fun s hs => by
  obtain ⟨h1, h2, h3, h4⟩ := h
  obtain ⟨a, b⟩ := steps_later h4 s hs
  obtain ⟨a1, a2⟩ := mem_dropE.1 a
  have hp : p ∉ edg E s.1 := fun hp => by have := degOf_two h1 a1 (Ne.symm a2) h2 hp; omega
  exact ⟨a2, hp, fun e => hp (e ▸ b)⟩
theorem steps_nodup {E : Edges} : ∀ {L : List Nat} {t : List (Nat × Int)}, StepsOk E L t → (t.map Prod.fst).Nodup ∧ (t.map Prod.snd).Nodup
  | _, [], _ => by simp
  | L, (i, p) :: t, h => by
    have ha := steps_apart h
    obtain ⟨h1, h2⟩ := steps_nodup h.2.2.2
    simp only [List.map_cons, List.nodup_cons, List.mem_map]
    exact ⟨⟨fun ⟨s, hs, e⟩ => (ha s hs).1 e, h1⟩, ⟨fun ⟨s, hs, e⟩ => (ha s hs).2.2 e, h2⟩⟩
def fillB (v : List Int → Nat × Int → Int) (xs : List (Nat × Int)) (m : List Int) : List Int := xs.foldr (fun s m => m.set s.2.toNat (v m s)) m
theorem fillB_cons (v : List Int → Nat × Int → Int) (s : Nat × Int) (t : List (Nat × Int)) (m : List Int) : fillB v (s :: t) m = (fillB v t m).set s.2.toNat (v (fillB v t m) s) := rfl
theorem fillB_len (v : List Int → Nat × Int → Int) : ∀ (xs : List (Nat × Int)) (m : List Int), (fillB v xs m).length = m.length
  | [], _ => rfl
  | s :: t, m => by rw [fillB_cons, List.length_set, fillB_len v t m]
theorem rd_set_ne {m : List Int} {p q : Int} {x : Int} (h0 : 0 ≤ p) (h1 : 0 ≤ q) (h : p ≠ q) : rd (m.set p.toNat x) q = rd m q := by
  unfold rd
  rw [List.getD_eq_getElem?_getD, List.getD_eq_getElem?_getD, List.getElem?_set_ne (by omega)]
theorem rd_set_eq {m : List Int} {p : Int} {x : Int} (h0 : 0 ≤ p) (h1 : p < (m.length : Int)) : rd (m.set p.toNat x) p = x := by
  unfold rd
  rw [List.getD_eq_getElem?_getD, List.getElem?_set_self (by omega), Option.getD_some]
theorem fillB_other (v : List Int → Nat × Int → Int) {q : Int} (hq : 0 ≤ q) : ∀ (xs : List (Nat × Int)) (m : List Int), (∀ s ∈ xs, 0 ≤ s.2 ∧ s.2 ≠ q) → rd (fillB v xs m) q = rd m q
  | [], _, _ => rfl
  | s :: t, m, h => by
    rw [fillB_cons, rd_set_ne (h s (by simp)).1 hq (h s (by simp)).2]
    exact fillB_other v hq t m (fun x hx => h x (by simp [hx]))
theorem fillB_congr {E : Edges} (v v' : List Int → Nat × Int → Int) (m0 : List Int) (hE : ∀ i, ∀ p ∈ edg E i, 0 ≤ p ∧ p < (m0.length : Int)) (R : List Int → Prop) (hR0 : R m0)
    (hv : ∀ (m : List Int) (s : Nat × Int), m.length = m0.length → R m → s.2 ∈ edg E s.1 → rd m s.2 = rd m0 s.2 → v m s = v' m s ∧ R (m.set s.2.toNat (v m s))) :
    ∀ (xs : List (Nat × Int)) (L : List Nat), StepsOk E L xs → fillB v xs m0 = fillB v' xs m0 ∧ R (fillB v xs m0)
  | [], _, _ => ⟨rfl, hR0⟩
  | (i, p) :: t, L, h => by
    obtain ⟨he, hR⟩ := fillB_congr v v' m0 hE R hR0 hv t _ h.2.2.2
    have ha := steps_apart h
    have hp := hE i p h.2.1
    have ho : rd (fillB v t m0) p = rd m0 p := fillB_other v hp.1 t m0 (fun s hs => ⟨(hE s.1 s.2 (steps_later h.2.2.2 s hs).2).1, (ha s hs).2.2⟩)
    obtain ⟨r1, r2⟩ := hv (fillB v t m0) (i, p) (fillB_len v t m0) hR h.2.1 ho
    rw [fillB_cons, fillB_cons, ← he]
    exact ⟨by rw [← r1], r2⟩
theorem peel_takes {P : Nat} {E : Edges} {cs L : List Nat} (hn : L.Nodup) (h : (peelC P E cs L).2 = []) : ∀ i ∈ L, ∃ s ∈ (peelC P E cs L).1, s.1 = i := by
  induction cs generalizing L with
  | nil => simp only [peelC] at h; subst h; simp
  | cons c cs ih =>
    intro i hi
    cases hs : stepE P E L c with
    | none => rw [peelC, hs] at h; simp only at h; subst h; cases hi
    | some x =>
      obtain ⟨j, p⟩ := x
      rw [peelC_cons_some cs hs] at h ⊢
      by_cases e : i = j
      · exact ⟨(j, p), by simp, e.symm⟩
      · obtain ⟨s, h1, h2⟩ := ih (nodup_drop hn j) h i (mem_dropE.2 ⟨hi, e⟩)
        exact ⟨s, by simp [h1], h2⟩
end Go.Proofs.YtmehagedoaopeaaGreatQ
namespace Go.Proofs.YtmehagedoaopeaaGreatQ
open Go Go.RowKit Go.Proofs.YtmehagedoaopeaaGreatW.PrintWords Go.Proofs.YtmehagedoaopeaaGreatW.PrintMore Go.Proofs.YtmehagedoaopeaaGreatGp Go.Proofs.YtmehagedoaopeaaGreat.PZ

def sumP (m e : List Int) : Int := rd m (rd e 0) + rd m (rd e 1) + rd m (rd e 2)
theorem trip_form (a0 : Int) (s : ByteArray) {n : Int} (h0 : 1 ≤ n) (h1 : n ≤ 24) : ∃ x y z, tripL a0 s n 3 0 = [x, y, z] ∧ 0 ≤ x ∧ x < y ∧ y < z ∧ z < 3 * n := by
  have h := trip_edge a0 s h0 h1
  unfold isEdgeB at h
  simp only [Bool.and_eq_true, decide_eq_true_eq] at h
  obtain ⟨⟨⟨⟨g1, g2⟩, g3⟩, g4⟩, g5⟩ := h
  match e : tripL a0 s n 3 0, g1 with
  | [a, b, c], _ =>
    rw [e] at g2 g3 g4 g5
    exact ⟨a, b, c, rfl, g2, g3, g4, g5⟩
theorem allIn_rd {lo hi : Int} {m : List Int} (h : allIn lo hi m = true) {p : Int} (h0 : 0 ≤ p) (h1 : p < (m.length : Int)) : lo ≤ rd m p ∧ rd m p ≤ hi := by
  unfold allIn at h
  rw [List.all_eq_true] at h
  have hm : rd m p ∈ m := by
    unfold rd
    rw [List.getD_eq_getElem?_getD, List.getElem?_eq_getElem (by omega)]
    exact List.getElem_mem _
  simpa using h _ hm
theorem isPeeledB_ok {a n : Int} {m : List Int} (h : isPeeledB a n m = true) : (0 ≤ a ∧ a ≤ 9999) ∧ (1 ≤ n ∧ n ≤ 24) ∧ (m.length : Int) = 3 * n ∧ ∀ p, 0 ≤ p → p < (m.length : Int) → 0 ≤ rd m p ∧ rd m p ≤ 3 := by
  unfold isPeeledB at h
  simp only [Bool.and_eq_true, decide_eq_true_eq] at h
  exact ⟨h.1.1.1, h.1.1.2, h.1.2, fun p h0 h1 => allIn_rd h.2 h0 h1⟩
theorem spec_pfSum_f {m : List Int} {x y z : Int} (hx : 0 ≤ x) (hxy : x < y) (hyz : y < z) (hz : z < (m.length : Int)) (hb : ∀ p, 0 ≤ p → p < (m.length : Int) → 0 ≤ rd m p ∧ rd m p ≤ 1000) : Ev (fun k => spec_pfSum.f k m [x, y, z]) (rd m x + rd m y + rd m z) := by
  have b1 := hb x hx (by omega)
  have b2 := hb y (by omega) (by omega)
  have b3 := hb z (by omega) (by omega)
  have r0 : rd [x, y, z] 0 = x := rfl
  have r1 : rd [x, y, z] 1 = y := rfl
  have r2 : rd [x, y, z] 2 = z := rfl
  have i0 : wrap64 ((0 : Int) + 1) = 1 := w64 (by omega) (by omega)
  have i1 : wrap64 ((1 : Int) + 1) = 2 := w64 (by omega) (by omega)
  have i2 : wrap64 ((2 : Int) + 1) = 3 := w64 (by omega) (by omega)
  unfold spec_pfSum.f
  refine ev_succ ?_
  simp only [spec_pfSum.l0, r0, i0, List.length_cons, List.length_nil]
  refine ev_pos (by omega) (ev_pos (by omega) (ev_pos (by omega) (ev_pos (by omega) (ev_pos (by omega) (ev_succ ?_)))))
  simp only [spec_pfSum.l0, r1, i1, List.length_cons, List.length_nil]
  refine ev_pos (by omega) (ev_pos (by omega) (ev_pos (by omega) (ev_pos (by omega) (ev_pos (by omega) (ev_succ ?_)))))
  simp only [spec_pfSum.l0, r2, i2, List.length_cons, List.length_nil]
  refine ev_pos (by omega) (ev_pos (by omega) (ev_pos (by omega) (ev_pos (by omega) (ev_pos (by omega) (ev_succ ?_)))))
  simp only [spec_pfSum.l0, List.length_cons, List.length_nil]
  refine ev_neg (by omega) (ev_some ?_)
  rw [w64 (x := 0 + rd m x) (by omega) (by omega), w64 (x := 0 + rd m x + rd m y) (by omega) (by omega), w64 (by omega) (by omega)]
  omega
theorem sumP_set {m : List Int} {x y z p v : Int} (hx : 0 ≤ x) (hxy : x < y) (hyz : y < z) (hz : z < (m.length : Int)) (hp : p ∈ [x, y, z]) : sumP (m.set p.toNat v) [x, y, z] = sumP m [x, y, z] - rd m p + v := by
  have r0 : rd [x, y, z] 0 = x := rfl
  have r1 : rd [x, y, z] 1 = y := rfl
  have r2 : rd [x, y, z] 2 = z := rfl
  simp only [sumP, r0, r1, r2]
  simp only [List.mem_cons, List.not_mem_nil, or_false] at hp
  rcases hp with rfl | rfl | rfl
  · rw [rd_set_eq (by omega) (by omega), rd_set_ne (by omega) (by omega) (by omega), rd_set_ne (by omega) (by omega) (by omega)]; omega
  · rw [rd_set_ne (by omega) (by omega) (by omega), rd_set_eq (by omega) (by omega), rd_set_ne (by omega) (by omega) (by omega)]; omega
  · rw [rd_set_ne (by omega) (by omega) (by omega), rd_set_ne (by omega) (by omega) (by omega), rd_set_eq (by omega) (by omega)]; omega
theorem sumP_congr {m m' : List Int} {x y z : Int} (h : ∀ p ∈ [x, y, z], rd m p = rd m' p) : sumP m [x, y, z] = sumP m' [x, y, z] := by
  have r0 : rd [x, y, z] 0 = x := rfl
  have r1 : rd [x, y, z] 1 = y := rfl
  have r2 : rd [x, y, z] 2 = z := rfl
  simp only [sumP, r0, r1, r2]
  rw [h x (by simp), h y (by simp), h z (by simp)]
theorem hyp_edge (a0 : Int) {n : Int} (h0 : 1 ≤ n) (h1 : n ≤ 24) {l : List ByteArray} {i : Nat} (hi : i < l.length) : ∃ x y z, edg (hypE a0 n l) i = [x, y, z] ∧ edg (hypE a0 n l) i = tripL a0 l[i] n 3 0 ∧ 0 ≤ x ∧ x < y ∧ y < z ∧ z < 3 * n := by
  have e : edg (hypE a0 n l) i = tripL a0 l[i] n 3 0 := by
    unfold edg hypE
    rw [List.getD_eq_getElem?_getD, List.getElem?_map, List.getElem?_eq_getElem hi]
    rfl
  obtain ⟨x, y, z, e2, g⟩ := trip_form a0 l[i] h0 h1
  exact ⟨x, y, z, e.trans e2, e, g⟩
def InR (lo hi : Int) (m : List Int) : Prop := ∀ p, 0 ≤ p → p < (m.length : Int) → lo ≤ rd m p ∧ rd m p ≤ hi
theorem InR.set {lo hi : Int} {m : List Int} (h : InR lo hi m) {p v : Int} (hp : 0 ≤ p) (hv : lo ≤ v ∧ v ≤ hi) : InR lo hi (m.set p.toNat v) := fun q h0 h1 => by
  rw [List.length_set] at h1
  by_cases e : p = q
  · subst e; rw [rd_set_eq hp h1]; exact hv
  · rw [rd_set_ne hp h0 e]; exact h q h0 h1
theorem InR.rep {lo hi v : Int} (n : Nat) (hv : lo ≤ v ∧ v ≤ hi) : InR lo hi (List.replicate n v) := fun p h0 h1 => by
  rw [List.length_replicate] at h1
  have : rd (List.replicate n v) p = v := by
    unfold rd
    rw [List.getD_eq_getElem?_getD, List.getElem?_replicate, if_pos (by omega)]
    rfl
  rw [this]; exact hv
theorem rd_rep {v : Int} {n : Nat} {p : Int} (h0 : 0 ≤ p) (h1 : p < (n : Int)) : rd (List.replicate n v) p = v := by
  unfold rd
  rw [List.getD_eq_getElem?_getD, List.getElem?_replicate, if_pos (by omega)]
  rfl
structure KeySteps (a0 n : Int) (l : List ByteArray) (xs : List (Nat × Int)) : Prop where
  ok : StepsOk (hypE a0 n l) (allE (hypE a0 n l)) xs
  len : xs.length ≤ l.length
  rng : ∀ s ∈ xs, s.1 < l.length ∧ s.2 ∈ edg (hypE a0 n l) s.1
theorem key_steps (a0 n : Int) (l : List ByteArray) : KeySteps a0 n l (peelAll (3 * n).toNat (hypE a0 n l)).1 := by
  have h := peelC_ok (P := (3 * n).toNat) (E := hypE a0 n l) (List.replicate (hypE a0 n l).length 0) (allE (hypE a0 n l))
  have hl := peelC_len (P := (3 * n).toNat) (E := hypE a0 n l) (List.replicate (hypE a0 n l).length 0) (allE (hypE a0 n l)) (allE_nodup _)
  have hal : (allE (hypE a0 n l)).length = l.length := by simp [allE, hypE_len]
  refine ⟨h, by unfold peelAll; omega, fun s hs => ?_⟩
  obtain ⟨h1, h2⟩ := steps_later h s hs
  exact ⟨by simpa [allE, hypE_len] using h1, h2⟩
theorem key_takes {a0 n : Int} {l : List ByteArray} (h : peelsB a0 l n = true) {i : Nat} (hi : i < l.length) : ∃ s ∈ (peelAll (3 * n).toNat (hypE a0 n l)).1, s.1 = i := by
  unfold peelsB at h
  have hc : (peelC (3 * n).toNat (hypE a0 n l) (List.replicate (hypE a0 n l).length 0) (allE (hypE a0 n l))).2 = [] := List.length_eq_zero_iff.1 (by simpa [coreE, peelAll] using h)
  exact peel_takes (allE_nodup _) hc i (by simpa [allE, hypE_len] using hi)
theorem impl_HyperOf_v (a0 n : Int) {l : List ByteArray} (hl : l.length ≤ 1000) (hz : ∀ s ∈ l, s.size ≤ 1000) : Ev (fun k => impl_HyperOf.f k a0 l n) (if keyedB a0 l n = true then (3 * n, hypE a0 n l, true) else (0, [], false)) := by
  unfold impl_HyperOf.f keyedB
  rw [impl_isSeedP_f, impl_segmentOk_f]
  by_cases c : 0 ≤ a0 ∧ a0 ≤ 9999
  · rw [decide_eq_true c]
    refine ev_bind _ (Ev.now _) (ev_pos rfl (ev_bind _ (impl_AreKeys_f l (by omega) (fun s hs => by have := hz s hs; omega)) ?_))
    by_cases d : areKeysB l = true
    · rw [d]
      refine ev_pos rfl (ev_bind _ (Ev.now _) ?_)
      by_cases e : 1 ≤ n ∧ n ≤ 24
      · rw [decide_eq_true e]
        exact ev_pos rfl (ev_bind _ (impl_hyper_f c.1 (by omega) (by omega) (by omega) hl hz) (Ev.now _))
      · rw [decide_eq_false e, if_neg (by simp)]
        exact ev_neg (by simp) (Ev.now _)
    · rw [Bool.eq_false_iff.2 d, if_neg (by simp)]
      exact ev_neg (by simp) (Ev.now _)
  · rw [decide_eq_false c, if_neg (by simp)]
    exact ev_bind _ (Ev.now _) (ev_neg (by simp) (Ev.now _))
theorem keyedB_ok {a0 n : Int} {l : List ByteArray} (h : keyedB a0 l n = true) : (0 ≤ a0 ∧ a0 ≤ 9999) ∧ areKeysB l = true ∧ 1 ≤ n ∧ n ≤ 24 := by
  simp only [keyedB, Bool.and_eq_true, decide_eq_true_eq] at h
  exact ⟨h.1.1, h.1.2, h.2⟩
end Go.Proofs.YtmehagedoaopeaaGreatQ
namespace Go.Proofs.YtmehagedoaopeaaGreatQ
open Go Go.RowKit Go.Proofs.YtmehagedoaopeaaGreatW.PrintWords Go.Proofs.YtmehagedoaopeaaGreatGp Go.Proofs.YtmehagedoaopeaaGreat.PZ

end Go.Proofs.YtmehagedoaopeaaGreatQ
namespace Go.Proofs.YtmehagedoaopeaaGreatQ
open Go Go.RowKit Go.Proofs.YtmehagedoaopeaaGreatW.PrintWords Go.Proofs.YtmehagedoaopeaaGreatGp Go.Proofs.YtmehagedoaopeaaGreat.PZ

theorem ofInt_wrap (a : BitVec 64) : BitVec.ofInt 64 (IntKind.i64.wrap (a.toNat : Int)) = a := by
  have h : a.toNat < 2 ^ 64 := a.isLt
  apply BitVec.eq_of_toNat_eq
  rw [BitVec.toNat_ofInt]
  show ((IntKind.i64.wrap (a.toNat : Int)) % ((2 ^ 64 : Nat) : Int)).toNat = a.toNat
  have e : IntKind.i64.wrap (a.toNat : Int) = if (a.toNat : Int) % 18446744073709551616 ≥ 9223372036854775808 then (a.toNat : Int) % 18446744073709551616 - 18446744073709551616 else (a.toNat : Int) % 18446744073709551616 := by
    unfold IntKind.wrap
    simp [IntKind.bits, IntKind.signed]
  rw [e]
  have h2 : (2 : Nat) ^ 64 = 18446744073709551616 := by decide
  rw [h2] at h ⊢
  split <;> omega
theorem or_andNot (x b : Int) : Go.bits .or .i64 (Go.bits .andNot .i64 x b) b = Go.bits .or .i64 x b := by
  have e : ∀ op y, Go.bits op .i64 y b = IntKind.i64.wrap (((match op with | .and => BitVec.ofInt 64 y &&& BitVec.ofInt 64 b | .or => BitVec.ofInt 64 y ||| BitVec.ofInt 64 b | .xor => BitVec.ofInt 64 y ^^^ BitVec.ofInt 64 b | _ => BitVec.ofInt 64 y &&& ~~~(BitVec.ofInt 64 b)) : BitVec 64).toNat : Int) := fun op y => by
    unfold Go.bits; cases op <;> rfl
  rw [e .or, e .or, e .andNot]
  simp only
  rw [ofInt_wrap]
  congr 2
  apply congrArg
  apply BitVec.eq_of_getLsbD_eq
  intro i hi
  simp only [BitVec.getLsbD_or, BitVec.getLsbD_and, BitVec.getLsbD_not, hi, decide_true, Bool.true_and]
  cases (BitVec.ofInt 64 x).getLsbD i <;> cases (BitVec.ofInt 64 b).getLsbD i <;> rfl

def setV (l : List Int) (p : Int) : List Int := l.set (p / 16).toNat (Go.bits .or .i64 (rd l (p / 16)) (shl .i64 1 (p % 16)))
theorem setV_len (l : List Int) (p : Int) : (setV l p).length = l.length := by simp [setV]
theorem div16 {p : Int} (h0 : 0 ≤ p) (h1 : p ≤ 1000000) : wrap64 (Int.tdiv p 16) = p / 16 ∧ Int.tmod p 16 = p % 16 := by
  rw [Int.tdiv_eq_ediv_of_nonneg h0, Int.tmod_eq_emod_of_nonneg h0, w64 (by omega) (by omega)]
  exact ⟨rfl, rfl⟩
theorem rd_set {l : List Int} {i : Nat} {v : Int} (h : i < l.length) : rd (l.set i v) (i : Int) = v := by simp [rd, h]
theorem impl_Bits_set_f (n : Int) (l : List Int) {p : Int} (h0 : 0 ≤ p) (h1 : p ≤ 1000000) (h2 : p / 16 < (l.length : Int)) : impl_Bits_set.f n l p true = some (setV l p) := by
  unfold impl_Bits_set.f
  rw [(div16 h0 h1).1, (div16 h0 h1).2, if_pos (by omega), if_pos h2, if_pos (by omega)]
  simp only [Option.bind_some, if_true]
  obtain ⟨q, hq⟩ : ∃ q : Nat, p / 16 = (q : Int) := ⟨(p / 16).toNat, by omega⟩
  unfold setV
  rw [hq] at h2 ⊢
  simp only [Int.toNat_natCast]
  rw [rd_set (by omega), List.set_set, or_andNot]

end Go.Proofs.YtmehagedoaopeaaGreatQ
namespace Go.Proofs.YtmehagedoaopeaaGreatQ
open Go Go.RowKit Go.Proofs.YtmehagedoaopeaaGreatW.PrintWords Go.Proofs.YtmehagedoaopeaaGreatGp Go.Proofs.YtmehagedoaopeaaGreat.PZ

def atV (l : List Int) (p : Int) : Bool := Go.bits .and .i64 (shr .i64 (rd l (p / 16)) (p % 16)) 1 == 1
theorem div16' {p : Int} (h0 : 0 ≤ p) (h1 : p ≤ 1000000) : wrap64 (Int.tdiv p 16) = p / 16 ∧ Int.tmod p 16 = p % 16 := by
  rw [Int.tdiv_eq_ediv_of_nonneg h0, Int.tmod_eq_emod_of_nonneg h0, w64 (by omega) (by omega)]
  exact ⟨rfl, rfl⟩
theorem impl_Bits_at_f (n : Int) (l : List Int) {p : Int} (h0 : 0 ≤ p) (h1 : p ≤ 1000000) (h2 : p / 16 < (l.length : Int)) : impl_Bits_at.f n l p = some (atV l p) := by
  unfold impl_Bits_at.f
  rw [(div16' h0 h1).1, (div16' h0 h1).2, if_pos (by omega), if_pos h2, if_pos (by omega)]
  rfl
end Go.Proofs.YtmehagedoaopeaaGreatQ
namespace Go.Proofs.YtmehagedoaopeaaGreatQ
open Go Go.RowKit Go.Proofs.YtmehagedoaopeaaGreatW.PrintWords Go.Proofs.YtmehagedoaopeaaGreatW.PrintMore Go.Proofs.YtmehagedoaopeaaGreatGp

theorem wraps_i64 (n : Int) (h0 : 0 ≤ n) (h1 : n < 2 ^ 62) : IntKind.i64.wrap n = n := by
  rw [IntKind.wrap_i64]
  have : (2 : Int) ^ 62 = 4611686018427387904 := by decide
  omega
theorem bits64 (a b : Nat) (ha : a < 2 ^ 62) (hb : b < 2 ^ 62) : Go.bits .and .i64 a b = ((a &&& b : Nat) : Int) ∧ Go.bits .or .i64 a b = ((a ||| b : Nat) : Int) :=
  bits_nat .i64 62 (by decide) wraps_i64 a b ha hb
theorem two62 : (2 : Nat) ^ 62 = 4611686018427387904 := by decide
theorem two64 : (2 : Nat) ^ 64 = 18446744073709551616 := by decide
theorem pow16 {j : Nat} (h : j < 16) : 2 ^ j < 65536 := by
  have : 2 ^ j ≤ 2 ^ 15 := Nat.pow_le_pow_right (by decide) (by omega)
  have e : (2 : Nat) ^ 15 = 32768 := by decide
  omega
theorem shl1 {j : Nat} (h : j < 16) : shl .i64 1 (j : Int) = ((2 ^ j : Nat) : Int) := by
  unfold shl
  have hj : min (j : Int).toNat IntKind.i64.bits = j := by simp [IntKind.bits]; omega
  rw [hj, Int.one_mul, show ((2 : Int) ^ j) = ((2 ^ j : Nat) : Int) from by simp]
  have hp := pow16 h
  generalize 2 ^ j = z at hp ⊢
  refine wraps_i64 _ (by omega) ?_
  have : (2 : Int) ^ 62 = 4611686018427387904 := by decide
  omega
theorem shrN {w j : Nat} (h : j < 16) : shr .i64 (w : Int) (j : Int) = ((w / 2 ^ j : Nat) : Int) := by
  unfold shr
  have hj : min (j : Int).toNat IntKind.i64.bits = j := by simp [IntKind.bits]; omega
  rw [hj]
  simp
theorem and1 {w j : Nat} (hw : w < 65536) (h : j < 16) : (Go.bits .and .i64 (shr .i64 (w : Int) (j : Int)) 1 == 1) = w.testBit j := by
  have hd : w / 2 ^ j ≤ w := Nat.div_le_self _ _
  have e : Go.bits .and .i64 ((w / 2 ^ j : Nat) : Int) ((1 : Nat) : Int) = (((w / 2 ^ j) &&& 1 : Nat) : Int) := (bits64 _ _ (by rw [two62]; omega) (by rw [two62]; omega)).1
  rw [shrN h, show (1 : Int) = ((1 : Nat) : Int) from rfl, e, Nat.and_one_is_mod, Nat.testBit_eq_decide_div_mod_eq]
  rw [Bool.eq_iff_iff]
  simp only [beq_iff_eq, decide_eq_true_eq]
  omega
theorem or1 {w j : Nat} (hw : w < 65536) (h : j < 16) : Go.bits .or .i64 (w : Int) (shl .i64 1 (j : Int)) = ((w ||| 2 ^ j : Nat) : Int) := by
  have := pow16 h
  rw [shl1 h]
  exact (bits64 _ _ (by rw [two62]; omega) (by rw [two62]; omega)).2
theorem or1_lt {w j : Nat} (hw : w < 65536) (h : j < 16) : w ||| 2 ^ j < 65536 := by
  have e : (65536 : Nat) = 2 ^ 16 := by decide
  rw [e] at hw ⊢
  have := pow16 h
  exact Nat.or_lt_two_pow hw (by omega)
theorem clr1 {w j : Nat} (hw : w < 65536) (h : j < 16) (hz : w.testBit j = false) : Go.bits .andNot .i64 (w : Int) (shl .i64 1 (j : Int)) = (w : Int) := by
  rw [shl1 h]
  have e : Go.bits .andNot .i64 (w : Int) ((2 ^ j : Nat) : Int) = IntKind.i64.wrap (((BitVec.ofInt 64 (w : Int) &&& ~~~ BitVec.ofInt 64 ((2 ^ j : Nat) : Int) : BitVec 64)).toNat : Int) := by unfold Go.bits; rfl
  have z : (BitVec.ofInt 64 (w : Int) &&& ~~~ BitVec.ofInt 64 ((2 ^ j : Nat) : Int) : BitVec 64) = BitVec.ofInt 64 (w : Int) := by
    rw [BitVec.ofInt_natCast, BitVec.ofInt_natCast]
    apply BitVec.eq_of_getLsbD_eq
    intro i hi
    simp only [BitVec.getLsbD_and, BitVec.getLsbD_not, BitVec.getLsbD_ofNat, hi, decide_true, Bool.true_and, Nat.testBit_two_pow]
    by_cases c : j = i
    · subst c; simp [hz]
    · simp [c]
  rw [e, z, BitVec.ofInt_natCast, BitVec.toNat_ofNat, Nat.mod_eq_of_lt (by rw [two64]; omega)]
  refine wraps_i64 _ (by omega) ?_
  have : (2 : Int) ^ 62 = 4611686018427387904 := by decide
  omega

def okW (l : List Int) : Prop := ∀ w ∈ l, 0 ≤ w ∧ w ≤ 65535
def bitN (l : List Int) (p : Nat) : Bool := (l.getD (p / 16) 0).toNat.testBit (p % 16)
theorem rdN {l : List Int} {p : Nat} (h : p / 16 < l.length) : rd l ((p : Int) / 16) = l.getD (p / 16) 0 := by
  have : ((p : Int) / 16) = ((p / 16 : Nat) : Int) := by omega
  rw [this, rd_get h, List.getD_eq_getElem?_getD, List.getElem?_eq_getElem h]
  rfl
theorem okW_get {l : List Int} (hl : okW l) {i : Nat} (h : i < l.length) : ∃ w : Nat, l.getD i 0 = (w : Int) ∧ w < 65536 := by
  have hm := hl _ (List.getElem_mem h)
  rw [List.getD_eq_getElem?_getD, List.getElem?_eq_getElem h]
  exact ⟨l[i].toNat, by simp; omega, by omega⟩
theorem atV_bit {l : List Int} (hl : okW l) {p : Nat} (h : p / 16 < l.length) : atV l (p : Int) = bitN l p := by
  obtain ⟨w, hw, hw2⟩ := okW_get hl h
  unfold atV bitN
  rw [rdN h, hw, show ((p : Int) % 16) = ((p % 16 : Nat) : Int) from by omega, and1 hw2 (by omega)]
  simp
theorem setV_get {l : List Int} (hl : okW l) {p : Nat} (h : p / 16 < l.length) : ∃ w : Nat, w < 65536 ∧ l.getD (p / 16) 0 = (w : Int) ∧ setV l (p : Int) = l.set (p / 16) ((w ||| 2 ^ (p % 16) : Nat) : Int) := by
  obtain ⟨w, hw, hw2⟩ := okW_get hl h
  refine ⟨w, hw2, hw, ?_⟩
  unfold setV
  rw [rdN h, hw, show ((p : Int) % 16) = ((p % 16 : Nat) : Int) from by omega, or1 hw2 (by omega)]
  congr 1
theorem okW_setV {l : List Int} (hl : okW l) {p : Nat} (h : p / 16 < l.length) : okW (setV l (p : Int)) := by
  obtain ⟨w, hw, _, e⟩ := setV_get hl h
  rw [e]
  intro x hx
  rcases List.mem_or_eq_of_mem_set hx with hx | rfl
  · exact hl x hx
  · have := or1_lt hw (show p % 16 < 16 by omega)
    omega
theorem bit_setV {l : List Int} (hl : okW l) {p q : Nat} (h : p / 16 < l.length) : bitN (setV l (p : Int)) q = (decide (p = q) || bitN l q) := by
  obtain ⟨w, hw, hg, e⟩ := setV_get hl h
  rw [e]
  unfold bitN
  by_cases c : p / 16 = q / 16
  · rw [← c, List.getD_eq_getElem?_getD, List.getElem?_set_self (by simpa using h), hg]
    simp only [Option.getD_some, Int.toNat_natCast, Nat.testBit_or, Nat.testBit_two_pow]
    rw [show decide (p % 16 = q % 16) = decide (p = q) from by
      rw [Bool.eq_iff_iff]; simp; omega, Bool.or_comm]
  · rw [List.getD_eq_getElem?_getD, List.getElem?_set_ne c, ← List.getD_eq_getElem?_getD, decide_eq_false (by omega), Bool.false_or]
theorem clrV {l : List Int} (hl : okW l) {p : Nat} (h : p / 16 < l.length) (hz : bitN l p = false) : l.set ((p : Int) / 16).toNat (Go.bits .andNot .i64 (rd l ((p : Int) / 16)) (shl .i64 1 ((p : Int) % 16))) = l := by
  obtain ⟨w, hw, hw2⟩ := okW_get hl h
  unfold bitN at hz
  rw [hw] at hz
  rw [rdN h, hw, show ((p : Int) % 16) = ((p % 16 : Nat) : Int) from by omega, clr1 hw2 (by omega) (by simpa using hz), show ((p : Int) / 16).toNat = p / 16 from by omega, ← hw]
  apply List.ext_getElem?
  intro i
  by_cases c : p / 16 = i
  · subst c
    rw [List.getElem?_set_self (by simpa using h), List.getD_eq_getElem?_getD, List.getElem?_eq_getElem h]
    rfl
  · rw [List.getElem?_set_ne c]

end Go.Proofs.YtmehagedoaopeaaGreatQ
namespace Go.Proofs.YtmehagedoaopeaaGreatQ
open Go Go.RowKit Go.Proofs.YtmehagedoaopeaaGreatW.PrintWords Go.Proofs.YtmehagedoaopeaaGreatGp Go.Proofs.YtmehagedoaopeaaGreat.PZ

def blankV (n : Int) : List Int := List.replicate ((n + 15) / 16).toNat 0
end Go.Proofs.YtmehagedoaopeaaGreatQ
namespace Go.Proofs.YtmehagedoaopeaaGreatQ
open Go Go.RowKit Go.Proofs.YtmehagedoaopeaaGreatW.PrintWords Go.Proofs.YtmehagedoaopeaaGreatGp Go.Proofs.YtmehagedoaopeaaGreat.PZ

end Go.Proofs.YtmehagedoaopeaaGreatQ
namespace Go.Proofs.YtmehagedoaopeaaGreatQ
open Go Go.RowKit Go.Proofs.YtmehagedoaopeaaGreatW.PrintWords Go.Proofs.YtmehagedoaopeaaGreatGp Go.Proofs.YtmehagedoaopeaaGreat.PZ

def all16 (l : List Int) : Bool := l.all (fun x => decide (0 ≤ x ∧ x ≤ 65535))
def bitsB (n : Int) (l : List Int) : Bool :=
  decide (0 ≤ n ∧ n ≤ 4096) && (decide ((l.length : Int) = (n + 15) / 16) && (all16 l && (decide (n % 16 = 0) || (shr .i64 (rd l ((l.length : Int) - 1)) (n % 16) == 0))))
theorem bitsB_len {n : Int} {l : List Int} (h : bitsB n l = true) : 0 ≤ n ∧ n ≤ 4096 ∧ (l.length : Int) = (n + 15) / 16 := by
  simp only [bitsB, Bool.and_eq_true, decide_eq_true_eq] at h
  exact ⟨h.1.1, h.1.2, h.2.1⟩
theorem impl_IsBits_l0 (n : Int) (x20 : List Int) (c : 0 ≤ n ∧ n ≤ 4096) (c2 : (x20.length : Int) = (n + 15) / 16) : ∀ (t pre : List Int), x20 = pre ++ t →
    Ev (fun k => impl_IsBits.l0 k x20 (x20.length : Int) (pre.length : Int) n x20) (all16 t && (decide (n % 16 = 0) || (shr .i64 (rd x20 ((x20.length : Int) - 1)) (n % 16) == 0))) := by
  intro t
  induction t with
  | nil =>
    intro pre h
    refine ev_succ ?_
    simp only [impl_IsBits.l0]
    refine ev_neg (by rw [h]; exact not_lt_end) ?_
    rw [Int.tmod_eq_emod_of_nonneg c.1]
    by_cases c4 : n % 16 = 0
    · exact ev_pos c4 (ev_some (by simp [all16, c4]))
    · refine ev_neg c4 ?_
      rw [w64 (x := (x20.length : Int) - 1) (by omega) (by omega)]
      refine ev_pos (by omega) (ev_pos (by omega) (ev_pos (by omega) (ev_some ?_)))
      simp [all16, c4]
  | cons s t ih =>
    intro pre h
    have hm : ((pre.length : Nat) : Int) < (x20.length : Int) := by rw [h]; exact lt_mid
    have hg : rd x20 (pre.length : Int) = s := by rw [h]; exact rd_mid
    refine ev_succ ?_
    simp only [impl_IsBits.l0, hg, impl_in]
    refine ev_pos hm (ev_pos (by omega) (ev_pos hm (ev_bind _ (Ev.now _) ?_)))
    by_cases c5 : 0 ≤ s ∧ s ≤ 65535
    · refine ev_pos (by simpa using c5) ?_
      rw [winc (by omega)]
      have := ih (pre ++ [s]) (by rw [h]; simp)
      rw [len_one] at this
      rw [show all16 (s :: t) = all16 t from by simp [all16, c5]]
      exact this
    · refine ev_neg (by simpa using c5) (ev_some ?_)
      have : decide (0 ≤ s ∧ s ≤ 65535) = false := decide_eq_false c5
      simp only [all16, List.all_cons, this, Bool.false_and]
theorem impl_words_f {n : Int} (h0 : 0 ≤ n) (h1 : n ≤ 4096) : impl_words.f n = some ((n + 15) / 16) := by
  unfold impl_words.f
  rw [w64 (x := n + 16) (by omega) (by omega), w64 (x := n + 16 - 1) (by omega) (by omega), Int.tdiv_eq_ediv_of_nonneg (by omega), w64 (by omega) (by omega), show n + 16 - 1 = n + 15 from by omega]
theorem impl_IsBits_f (n : Int) (l : List Int) : Ev (fun k => impl_IsBits.f k n l) (bitsB n l) := by
  unfold impl_IsBits.f
  simp only [impl_in]
  refine ev_bind _ (Ev.now _) ?_
  by_cases c : 0 ≤ n ∧ n ≤ 4096
  · refine ev_pos (by simpa using c) ?_
    rw [impl_words_f c.1 c.2]
    simp only [Option.bind_some]
    refine ev_succ ?_
    simp only [impl_IsBits.j0]
    by_cases c2 : (l.length : Int) = (n + 15) / 16
    · refine ev_neg (by simp [c2]) ?_
      have := impl_IsBits_l0 n l c c2 l [] rfl
      rw [show bitsB n l = (all16 l && (decide (n % 16 = 0) || (shr .i64 (rd l ((l.length : Int) - 1)) (n % 16) == 0))) from by simp [bitsB, c, c2]]
      exact this
    · exact ev_pos (by simpa using c2) (ev_some (by simp [bitsB, c2]))
  · refine ev_neg (by simpa using c) (ev_succ ?_)
    simp only [impl_IsBits.j0]
    refine ev_pos (by trivial) (ev_some ?_)
    have : decide (0 ≤ n ∧ n ≤ 4096) = false := decide_eq_false c
    simp only [bitsB, this, Bool.false_and]
end Go.Proofs.YtmehagedoaopeaaGreatQ
namespace Go.Proofs.YtmehagedoaopeaaGreatQ
open Go Go.RowKit Go.Proofs.YtmehagedoaopeaaGreatW.PrintWords Go.Proofs.YtmehagedoaopeaaGreatW.PrintMore Go.Proofs.YtmehagedoaopeaaGreatGp

theorem all16_ok {l : List Int} : all16 l = true ↔ okW l := by
  unfold all16 okW
  rw [List.all_eq_true]
  simp
theorem bitsB_setV {n : Int} {l : List Int} (h : bitsB n l = true) {p : Int} (h0 : 0 ≤ p) (h1 : p < n) : bitsB n (setV l p) = true := by
  obtain ⟨n0, n1, hlen⟩ := bitsB_len h
  have hl : okW l := by
    simp only [bitsB, Bool.and_eq_true] at h
    exact all16_ok.1 h.2.2.1
  have hp16 : p.toNat / 16 < l.length := by omega
  have e : setV l p = setV l ((p.toNat : Nat) : Int) := by rw [Int.toNat_of_nonneg h0]
  have hl2 : okW (setV l p) := by rw [e]; exact okW_setV hl hp16
  simp only [bitsB, Bool.and_eq_true, decide_eq_true_eq, Bool.or_eq_true, beq_iff_eq] at h ⊢
  refine ⟨h.1, by rw [setV_len]; exact h.2.1, all16_ok.2 hl2, ?_⟩
  rcases h.2.2.2 with c | c
  · exact .inl c
  · by_cases cm : n % 16 = 0
    · exact .inl cm
    right
    rw [setV_len]
    obtain ⟨w, hw, hg, e2⟩ := setV_get hl hp16
    rw [← e] at e2
    obtain ⟨k, hk⟩ : ∃ k : Nat, (l.length : Int) - 1 = (k : Int) := ⟨l.length - 1, by omega⟩
    have hkl : k < l.length := by omega
    obtain ⟨v, hv, _⟩ := okW_get hl hkl
    have hm : n % 16 = (((n % 16).toNat : Nat) : Int) := by omega
    have rv : rd l (k : Int) = (v : Int) := by rw [← hv]; rfl
    rw [hk, hm] at c ⊢
    rw [rv, shrN (by omega)] at c
    rw [e2]
    by_cases ck : p.toNat / 16 = k
    · subst ck
      have hwv : w = v := by rw [hg] at hv; exact Int.ofNat.inj hv
      subst hwv
      have r : rd (l.set (p.toNat / 16) ((w ||| 2 ^ (p.toNat % 16) : Nat) : Int)) ((p.toNat / 16 : Nat) : Int) = ((w ||| 2 ^ (p.toNat % 16) : Nat) : Int) := rd_set hkl
      rw [r, shrN (by omega)]
      have hlt : w < 2 ^ (n % 16).toNat := by
        have hz : w / 2 ^ (n % 16).toNat = 0 := by omega
        rcases (Nat.div_eq_zero_iff).1 hz with hz | hz
        · have := Nat.two_pow_pos (n % 16).toNat
          omega
        · exact hz
      have hpm : p.toNat % 16 < (n % 16).toNat := by omega
      have hlt2 : 2 ^ (p.toNat % 16) < 2 ^ (n % 16).toNat := Nat.pow_lt_pow_right (by decide) hpm
      have := Nat.or_lt_two_pow hlt hlt2
      rw [Nat.div_eq_of_lt this]
      rfl
    · have r : rd (l.set (p.toNat / 16) ((w ||| 2 ^ (p.toNat % 16) : Nat) : Int)) (k : Int) = rd l (k : Int) := by
        simp [rd, List.getElem?_set_ne ck]
      rw [r, rv, shrN (by omega)]
      exact c
end Go.Proofs.YtmehagedoaopeaaGreatQ
namespace Go.Proofs.YtmehagedoaopeaaGreatQ
open Go Go.RowKit Go.Proofs.YtmehagedoaopeaaGreatW.PrintWords Go.Proofs.YtmehagedoaopeaaGreatW.PrintMore Go.Proofs.YtmehagedoaopeaaGreatGp Go.Proofs.YtmehagedoaopeaaGreat.PZ

theorem bitN_blankV (n : Int) (q : Nat) : bitN (blankV n) q = false := by
  unfold bitN blankV
  rw [List.getD_eq_getElem?_getD, List.getElem?_replicate]
  split <;> simp
theorem okW_blankV (n : Int) : okW (blankV n) := fun w hw => by rw [List.eq_of_mem_replicate hw]; omega
theorem blankV_len' {n : Int} (h : 0 ≤ n) : ((blankV n).length : Int) = (n + 15) / 16 := by simp [blankV]; omega
def madeL (g : Nat → Bool) : Nat → Nat → List Int → List Int
  | 0, _, acc => acc
  | m + 1, i, acc => madeL g m (i + 1) (if g i = true then setV acc (i : Int) else acc)
theorem madeL_len (g : Nat → Bool) : ∀ (m i : Nat) (acc : List Int), (madeL g m i acc).length = acc.length
  | 0, _, _ => rfl
  | m + 1, i, acc => by
    rw [madeL, madeL_len]
    split
    · rw [setV_len]
    · rfl
theorem madeL_ok (g : Nat → Bool) : ∀ (m i : Nat) (acc : List Int), okW acc → i + m ≤ 16 * acc.length → okW (madeL g m i acc) ∧ ∀ q, bitN (madeL g m i acc) q = (bitN acc q || (decide (i ≤ q ∧ q < i + m) && g q))
  | 0, i, acc, h, _ => ⟨h, fun q => by
    rw [madeL, decide_eq_false (by omega)]; simp⟩
  | m + 1, i, acc, h, hm => by
    rw [madeL]
    by_cases c : g i = true
    · rw [if_pos c]
      obtain ⟨g1, g2⟩ := madeL_ok g m (i + 1) (setV acc (i : Int)) (okW_setV h (by omega)) (by rw [setV_len]; omega)
      refine ⟨g1, fun q => ?_⟩
      rw [g2, bit_setV h (by omega)]
      by_cases e : i = q
      · subst e
        rw [c, decide_eq_true (show i ≤ i ∧ i < i + (m + 1) by omega)]
        simp
      · rw [show decide (i + 1 ≤ q ∧ q < i + 1 + m) = decide (i ≤ q ∧ q < i + (m + 1)) from by rw [Bool.eq_iff_iff, decide_eq_true_eq, decide_eq_true_eq]; omega, decide_eq_false e, Bool.false_or]
    · rw [if_neg c]
      obtain ⟨g1, g2⟩ := madeL_ok g m (i + 1) acc h (by omega)
      refine ⟨g1, fun q => ?_⟩
      rw [g2]
      by_cases e : i = q
      · subst e
        simp only [Bool.not_eq_true] at c
        rw [c]
        simp
      · rw [show decide (i + 1 ≤ q ∧ q < i + 1 + m) = decide (i ≤ q ∧ q < i + (m + 1)) from by rw [Bool.eq_iff_iff, decide_eq_true_eq, decide_eq_true_eq]; omega]
theorem bitsB_madeL {n : Int} (g : Nat → Bool) : ∀ (m i : Nat) (acc : List Int), bitsB n acc = true → ((i + m : Nat) : Int) ≤ n → bitsB n (madeL g m i acc) = true
  | 0, _, _, h, _ => h
  | m + 1, i, acc, h, hm => by
    rw [madeL]
    refine bitsB_madeL g m (i + 1) _ ?_ (by omega)
    split
    · exact bitsB_setV h (by omega) (by omega)
    · exact h
theorem bitsB_blankV {n : Int} (h0 : 0 ≤ n) (h1 : n ≤ 4096) : bitsB n (blankV n) = true := by
  have hr : ∀ i : Int, rd (blankV n) i = 0 := fun i => by
    unfold rd blankV
    rw [List.getD_eq_getElem?_getD, List.getElem?_replicate]
    split <;> rfl
  have hs : shr .i64 0 (n % 16) = 0 := by
    have := shrN (w := 0) (j := (n % 16).toNat) (by omega)
    rw [show (((n % 16).toNat : Nat) : Int) = n % 16 from by omega] at this
    simpa using this
  simp only [bitsB, hr, hs, Bool.and_eq_true, decide_eq_true_eq, Bool.or_eq_true, beq_self_eq_true, or_true, and_true]
  exact ⟨⟨h0, h1⟩, by simp [blankV]; omega, all16_ok.2 (okW_blankV n)⟩
theorem impl_clr_f (n : Int) {l : List Int} (hl : okW l) {p : Nat} (h1 : (p : Int) ≤ 1000000) (h2 : p / 16 < l.length) (hz : bitN l p = false) : impl_Bits_set.f n l (p : Int) false = some l := by
  have hc := clrV hl h2 hz
  unfold impl_Bits_set.f
  rw [(div16 (p := (p : Int)) (by omega) h1).1, (div16 (p := (p : Int)) (by omega) h1).2, if_pos (by omega), if_pos (by omega), if_pos (by omega)]
  simp only [Option.bind_some, Bool.false_eq_true, if_false]
  rw [hc]
theorem impl_blank_f {n : Int} (h0 : 0 ≤ n) (h1 : n ≤ 4096) : impl_blank.f n = some (n, blankV n) := by
  unfold impl_blank.f
  rw [impl_words_f h0 h1]
  simp only [Option.bind_some]
  rw [if_pos (by omega), if_pos (by omega)]
  rfl

def cntL' (l : List Int) : Nat → Nat → Nat
  | 0, _ => 0
  | m + 1, i => (if atV l (i : Int) = true then 1 else 0) + cntL' l m (i + 1)
theorem impl_count_l0 (z : Int) (l : List Int) {n : Nat} (hn : n ≤ 100000) (h1 : n ≤ 16 * l.length) : ∀ (m i c : Nat), i + m = n → c ≤ i + 100000 → Ev (fun k => impl_Bits_count.l0 k (n : Int) (c : Int) (i : Int) z l) ((c + cntL' l m i : Nat) : Int) := by
  intro m
  induction m with
  | zero =>
    intro i c e hc
    refine ev_succ ?_
    simp only [impl_Bits_count.l0]
    exact ev_neg (by omega) (ev_some (by simp [cntL']))
  | succ m ih =>
    intro i c e hc
    refine ev_succ ?_
    simp only [impl_Bits_count.l0]
    rw [impl_Bits_at_f _ l (by omega) (by omega) (by omega), winc (i := i) (by omega), winc (i := c) (by omega), cntL']
    simp only [Option.bind_some]
    refine ev_pos (by omega) ?_
    by_cases h : atV l (i : Int) = true
    · rw [if_pos h]
      have := ih (i + 1) (c + 1) (by omega) (by omega)
      rw [show c + (1 + cntL' l m (i + 1)) = c + 1 + cntL' l m (i + 1) from by omega]
      exact ev_pos h this
    · rw [if_neg h, Nat.zero_add]
      exact ev_neg h (ih (i + 1) c (by omega) (by omega))
theorem cntL'_le (l : List Int) : ∀ (m i : Nat), cntL' l m i ≤ m
  | 0, _ => Nat.le_refl _
  | m + 1, i => by
    have := cntL'_le l m (i + 1)
    rw [cntL']
    split <;> omega
theorem impl_count_f (z : Int) (l : List Int) {i n : Nat} (hi : i ≤ n) (hn : n ≤ 100000) (h1 : n ≤ 16 * l.length) : Ev (fun k => impl_Bits_count.f k z l (i : Int) (n : Int)) ((cntL' l (n - i) i : Nat) : Int) := by
  have := impl_count_l0 z l hn h1 (n - i) i 0 (by omega) (by omega)
  rw [Nat.zero_add] at this
  unfold impl_Bits_count.f
  exact this

theorem impl_ranked_l0 {n : Nat} (hn : n ≤ 4096) {l : List Int} (h1 : n ≤ 16 * l.length) (y0 : Int) (y1 : List Int) : ∀ (d i : Nat) (a b : Int) (S B : List Int), n ≤ i + 16 * d → i ≤ n + 16 → S.length ≤ i → B.length ≤ i →
    0 ≤ a → a ≤ (i : Int) → 0 ≤ b → b ≤ (i : Int) → ∃ S' B', Ev (fun k => impl_ranked.l0 k a b (i : Int) (n : Int) l y0 y1 S B) (y0, y1, S', B') ∧ (S' : List Int).length ≤ n + 16 ∧ (B' : List Int).length ≤ n + 16 := by
  intro d
  induction d with
  | zero =>
    intro i a b S B h h' hS hB ha ha' hb hb'
    refine ⟨S, B, ev_succ ?_, by omega, by omega⟩
    simp only [impl_ranked.l0]
    exact ev_neg (by omega) (Ev.now _)
  | succ d ih =>
    intro i a b S B h h' hS hB ha ha' hb hb'
    by_cases c : (i : Int) < (n : Int)
    · have hm : mn (wrap64 ((i : Int) + 16)) (n : Int) = ((min (i + 16) n : Nat) : Int) := by
        rw [w64 (by omega) (by omega)]
        unfold mn
        split <;> omega
      have hc := impl_count_f (n : Int) l (i := i) (n := min (i + 16) n) (by omega) (by omega) (by omega)
      have hle := cntL'_le l (min (i + 16) n - i) i
      by_cases c2 : Int.tmod (i : Int) 64 = 0
      · obtain ⟨S', B', e, l1, l2⟩ := ih (i + 16) (a + ((cntL' l (min (i + 16) n - i) i : Nat) : Int)) a (S ++ [a]) (B ++ [0]) (by omega) (by omega) (by simp; omega) (by simp; omega) (by omega) (by omega) (by omega) (by omega)
        refine ⟨S', B', ev_succ ?_, l1, l2⟩
        simp only [impl_ranked.l0]
        rw [hm, w64 (x := (i : Int) + 16) (by omega) (by omega)]
        refine ev_pos c (ev_pos c2 (ev_pos (by omega) (ev_pos (by omega) (ev_bind _ hc ?_))))
        rw [w64 (x := a + ((cntL' l (min (i + 16) n - i) i : Nat) : Int)) (by omega) (by omega)]
        exact e
      · obtain ⟨S', B', e, l1, l2⟩ := ih (i + 16) (a + ((cntL' l (min (i + 16) n - i) i : Nat) : Int)) b S (B ++ [a - b]) (by omega) (by omega) (by omega) (by simp; omega) (by omega) (by omega) (by omega) (by omega)
        refine ⟨S', B', ev_succ ?_, l1, l2⟩
        simp only [impl_ranked.l0]
        rw [hm, w64 (x := (i : Int) + 16) (by omega) (by omega), w64 (x := a - b) (by omega) (by omega)]
        refine ev_pos c (ev_neg c2 (ev_pos (by omega) (ev_bind _ hc ?_)))
        rw [w64 (x := a + ((cntL' l (min (i + 16) n - i) i : Nat) : Int)) (by omega) (by omega)]
        exact e
    · refine ⟨S, B, ev_succ ?_, by omega, by omega⟩
      simp only [impl_ranked.l0]
      exact ev_neg c (Ev.now _)
theorem impl_ranked_f {n : Nat} (hn : n ≤ 4096) {l : List Int} (h1 : n ≤ 16 * l.length) (hl : l.length ≤ 1000) : ∃ S B, Ev (fun k => impl_ranked.f k (n : Int) l) ((n : Int), l, S, B) ∧ (S : List Int).length ≤ n + 16 ∧ (B : List Int).length ≤ n + 16 := by
  obtain ⟨S, B, e, l1, l2⟩ := impl_ranked_l0 hn h1 (n : Int) l (n / 16 + 1) 0 0 0 [] [] (by omega) (by omega) (by simp) (by simp) (by omega) (by omega) (by omega) (by omega)
  refine ⟨S, B, ?_, l1, l2⟩
  unfold impl_ranked.f impl_cloneBits.f slices_Clone_int_int.f
  simp only [Option.bind_some, List.nil_append, List.length_nil, Nat.zero_add]
  rw [if_pos (by omega)]
  exact e
theorem equal_same_l0 (l : List Int) (hl : (l.length : Int) ≤ 9223372036854775806) : ∀ (t pre : List Int), l = pre ++ t → Ev (fun k => slices_Equal_int_int.l0 k l l (l.length : Int) (pre.length : Int)) true := by
  intro t
  induction t with
  | nil =>
    intro pre h
    refine ev_succ ?_
    simp only [slices_Equal_int_int.l0]
    exact ev_neg (by rw [h]; exact not_lt_end) (Ev.now _)
  | cons x t ih =>
    intro pre h
    have hm : ((pre.length : Nat) : Int) < (l.length : Int) := by rw [h]; exact lt_mid
    have := ih (pre ++ [x]) (by rw [h]; simp)
    rw [len_one] at this
    refine ev_succ ?_
    simp only [slices_Equal_int_int.l0]
    rw [winc (by omega)]
    exact ev_pos hm (ev_pos (by omega) (ev_pos hm (ev_pos hm (ev_pos trivial this))))
theorem equal_same_f (l : List Int) (hl : (l.length : Int) ≤ 9223372036854775806) : Ev (fun k => slices_Equal_int_int.f k l l) true := by
  unfold slices_Equal_int_int.f
  exact ev_pos rfl (equal_same_l0 l hl l [] rfl)
theorem impl_IsRanked_f {n : Nat} {l S B : List Int} (hb : bitsB (n : Int) l = true) (hr : Ev (fun k => impl_ranked.f k (n : Int) l) ((n : Int), l, S, B)) (hS : S.length ≤ 100000) (hB : B.length ≤ 100000) : Ev (fun k => impl_IsRanked.f k (n : Int) l S B) true := by
  have e := impl_IsBits_f (n : Int) l
  rw [hb] at e
  unfold impl_IsRanked.f
  exact ev_bind _ e (ev_pos rfl (ev_bind _ hr (ev_bind _ (equal_same_f S (by omega)) (ev_pos rfl (ev_bind _ (equal_same_f B (by omega)) (Ev.now _))))))
theorem impl_Rank1_f {n : Nat} (hn : n ≤ 4096) {l S B : List Int} (hb : bitsB (n : Int) l = true) (hr : Ev (fun k => impl_ranked.f k (n : Int) l) ((n : Int), l, S, B)) (hS : S.length ≤ 100000) (hB : B.length ≤ 100000) {i : Nat} (hi : i ≤ n) : Ev (fun k => impl_Rank1.f k (n : Int) l S B (i : Int)) (((cntL' l i 0 : Nat) : Int), true) := by
  have h16 := (bitsB_len hb).2.2
  have hc := impl_count_f (n : Int) l (i := 0) (n := i) (by omega) (by omega) (by omega)
  unfold impl_Rank1.f
  rw [impl_in]
  refine ev_bind _ (impl_IsRanked_f hb hr hS hB) (ev_pos rfl (ev_bind _ (Ev.now _) (ev_pos (by simp; omega) (ev_bind _ ?_ (Ev.now _)))))
  exact hc
end Go.Proofs.YtmehagedoaopeaaGreatQ
namespace Go.Proofs.YtmehagedoaopeaaGreatQ
open Go Go.RowKit Go.Proofs.YtmehagedoaopeaaGreatW.PrintWords Go.Proofs.YtmehagedoaopeaaGreatW.PrintMore Go.Proofs.YtmehagedoaopeaaGreatGp Go.Proofs.YtmehagedoaopeaaGreat.PZ

theorem impl_IsPeeled_l0 (x0 : List Int) (hl : (x0.length : Int) ≤ 9223372036854775806) : ∀ (t pre : List Int), x0 = pre ++ t →
    ∃ r, Ev (fun k => slices_IndexFunc_int_int_at_impl_IsPeeled_1.l0 k x0 (x0.length : Int) (pre.length : Int)) r ∧ decide (r ≥ 0) = !(allIn 0 3 t) := by
  intro t
  induction t with
  | nil =>
    intro pre h
    refine ⟨-1, ev_succ ?_, by simp [allIn]⟩
    simp only [slices_IndexFunc_int_int_at_impl_IsPeeled_1.l0]
    exact ev_neg (by rw [h]; exact not_lt_end) (Ev.now _)
  | cons x t ih =>
    intro pre h
    have hm : ((pre.length : Nat) : Int) < (x0.length : Int) := by rw [h]; exact lt_mid
    have hg : rd x0 (pre.length : Int) = x := by rw [h]; exact rd_mid
    have e1 : impl_IsPeeled_1.f x = some (!(decide (0 ≤ x ∧ x ≤ 3))) := by
      unfold impl_IsPeeled_1.f
      rw [impl_in]; rfl
    by_cases c : 0 ≤ x ∧ x ≤ 3
    · obtain ⟨r, h1, h2⟩ := ih (pre ++ [x]) (by rw [h]; simp)
      rw [len_one] at h1
      refine ⟨r, ev_succ ?_, by rw [h2]; simp [allIn, c]⟩
      simp only [slices_IndexFunc_int_int_at_impl_IsPeeled_1.l0, hg, e1]
      rw [decide_eq_true c, winc (by omega)]
      exact ev_pos hm (ev_pos (by omega) (ev_pos hm (ev_bind _ (Ev.now _) (ev_neg (by simp) h1))))
    · have hd : decide (0 ≤ x ∧ x ≤ 3) = false := decide_eq_false c
      refine ⟨(pre.length : Int), ev_succ ?_, by simp only [allIn, List.all_cons, hd]; simp⟩
      simp only [slices_IndexFunc_int_int_at_impl_IsPeeled_1.l0, hg, e1]
      rw [hd]
      exact ev_pos hm (ev_pos (by omega) (ev_pos hm (ev_bind _ (Ev.now _) (ev_pos (by simp) (Ev.now _)))))
theorem impl_IsPeeled_f (a n : Int) (m : List Int) (hl : (m.length : Int) ≤ 9223372036854775806) : Ev (fun k => impl_IsPeeled.f k a n m) (isPeeledB a n m) := by
  obtain ⟨r, h1, h2⟩ := impl_IsPeeled_l0 m hl m [] rfl
  unfold impl_IsPeeled.f slices_ContainsFunc_int_int_at_impl_IsPeeled_1.f slices_IndexFunc_int_int_at_impl_IsPeeled_1.f
  rw [impl_isSeedP_f, impl_segmentOk_f]
  refine ev_bind _ (ev_bind _ h1 (ev_some h2)) ?_
  by_cases c : allIn 0 3 m = true
  · rw [c]
    refine ev_neg (by simp) (ev_bind _ (Ev.now _) ?_)
    by_cases c1 : 0 ≤ a ∧ a ≤ 9999
    · refine ev_pos (decide_eq_true c1) (ev_bind _ (Ev.now _) ?_)
      by_cases c2 : 1 ≤ n ∧ n ≤ 24
      · refine ev_pos (decide_eq_true c2) (ev_some ?_)
        rw [w64 (x := 3 * n) (by omega) (by omega), isPeeledB, decide_eq_true c1, decide_eq_true c2, c, Bool.and_true, Bool.true_and, Bool.true_and, Bool.eq_iff_iff]
        simp
      · refine ev_neg (by simpa using c2) (ev_some ?_)
        rw [isPeeledB, decide_eq_false c2]; simp
    · refine ev_neg (by simpa using c1) (ev_some ?_)
      rw [isPeeledB, decide_eq_false c1]; simp
  · rw [Bool.eq_false_iff.2 c]
    refine ev_pos (by simp) (ev_some ?_)
    rw [isPeeledB, Bool.eq_false_iff.2 c, Bool.and_false]

theorem impl_led_f {m : List Int} {x y z : Int} (hx : 0 ≤ x) (hxy : x < y) (hyz : y < z) (hz : z < (m.length : Int)) (hb : ∀ p, 0 ≤ p → p < (m.length : Int) → 0 ≤ rd m p ∧ rd m p ≤ 1000) : impl_led.f m [x, y, z] = some ((rd m x + rd m y + rd m z) % 3) := by
  have b1 := hb x hx (by omega)
  have b2 := hb y (by omega) (by omega)
  have b3 := hb z (by omega) (by omega)
  have r0 : rd [x, y, z] 0 = x := rfl
  have r1 : rd [x, y, z] 1 = y := rfl
  have r2 : rd [x, y, z] 2 = z := rfl
  unfold impl_led.f
  simp only [r0, r1, r2, List.length_cons, List.length_nil]
  rw [if_pos (by omega), if_pos (by omega), if_pos (by omega), if_pos (by omega), if_pos (by omega), if_pos (by omega), if_pos (by omega), if_pos (by omega), if_pos (by omega), w64 (x := rd m x + rd m y) (by omega) (by omega), w64 (by omega) (by omega), Int.tmod_eq_emod_of_nonneg (by omega)]
def placeP (a n : Int) (m : List Int) (s : ByteArray) : Int := rd (tripL a s n 3 0) (sumP m (tripL a s n 3 0) % 3)
section
variable {a n : Int} {m : List Int} {s : ByteArray}
theorem placeP_mem (h : isPeeledB a n m = true) : placeP a n m s ∈ tripL a s n 3 0 := by
  obtain ⟨_, ⟨h1, h2⟩, hl, hb⟩ := isPeeledB_ok h
  obtain ⟨x, y, z, e, g0, g1, g2, g3⟩ := trip_form a s h1 h2
  have : placeP a n m s = rd [x, y, z] (sumP m [x, y, z] % 3) := by unfold placeP; rw [e]
  rw [this, e]
  have hr : sumP m [x, y, z] % 3 = 0 ∨ sumP m [x, y, z] % 3 = 1 ∨ sumP m [x, y, z] % 3 = 2 := by omega
  rcases hr with hr | hr | hr <;> rw [hr] <;> simp [rd]
theorem placeP_range (h : isPeeledB a n m = true) : 0 ≤ placeP a n m s ∧ placeP a n m s < (m.length : Int) := by
  obtain ⟨_, ⟨h1, h2⟩, hl, hb⟩ := isPeeledB_ok h
  have := tripL_range a s h1 h2 _ (placeP_mem h)
  omega
theorem impl_Peeled_place_f (h : isPeeledB a n m = true) (hs : s.size ≤ 1000) : Ev (fun k => impl_Peeled_place.f k a n m s) (placeP a n m s) := by
  obtain ⟨⟨g0, g0'⟩, ⟨h1, h2⟩, hl, hb⟩ := isPeeledB_ok h
  obtain ⟨x, y, z, e, q0, q1, q2, q3⟩ := trip_form a s h1 h2
  have h3 := impl_threePlaces_f a n s (by omega) g0 (by omega)
  have hp : placeP a n m s = rd [x, y, z] ((rd m x + rd m y + rd m z) % 3) := by unfold placeP; rw [e]; rfl
  rw [e] at h3
  unfold impl_Peeled_place.f
  refine ev_bind _ h3 ?_
  rw [impl_led_f q0 q1 q2 (by omega) (fun p a b => by have := hb p a b; omega), hp]
  refine ev_bind _ (Ev.now _) (ev_pos (by omega) (ev_pos ?_ (Ev.now _)))
  simp only [List.length_cons, List.length_nil]
  omega
def usedN (l : List Int) : Nat := l.countP (fun x => x != 3)
theorem usedN_cons (x : Int) (l : List Int) : usedN (x :: l) = (if x = 3 then 0 else 1) + usedN l := by
  unfold usedN
  rw [List.countP_cons]
  by_cases c : x = 3
  · subst c; simp
  · rw [if_neg c, if_pos (by simpa using c)]; omega
theorem usedN_le (l : List Int) : usedN l ≤ l.length := List.countP_le_length
theorem impl_used_l0 (x0 : List Int) (hl : (x0.length : Int) ≤ 1000000) : ∀ (t pre : List Int) (c : Nat), x0 = pre ++ t → c ≤ pre.length →
    Ev (fun k => impl_Peeled_used.l0 k (c : Int) x0 (x0.length : Int) (pre.length : Int)) ((c + usedN t : Nat) : Int) := by
  intro t
  induction t with
  | nil =>
    intro pre c h hc
    refine ev_succ ?_
    simp only [impl_Peeled_used.l0]
    exact ev_neg (by rw [h]; exact not_lt_end) (ev_some (by simp [usedN]))
  | cons x t ih =>
    intro pre c h hc
    have hm : ((pre.length : Nat) : Int) < (x0.length : Int) := by rw [h]; exact lt_mid
    have hg : rd x0 (pre.length : Int) = x := by rw [h]; exact rd_mid
    refine ev_succ ?_
    simp only [impl_Peeled_used.l0, hg]
    rw [winc (i := pre.length) (by omega), winc (i := c) (by omega), usedN_cons]
    refine ev_pos hm (ev_pos (by omega) (ev_pos hm ?_))
    by_cases e : x = 3
    · have := ih (pre ++ [x]) c (by rw [h]; simp) (by simp; omega)
      rw [len_one] at this
      rw [if_pos e, Nat.zero_add]
      exact ev_pos e this
    · have := ih (pre ++ [x]) (c + 1) (by rw [h]; simp) (by simp; omega)
      rw [len_one] at this
      rw [if_neg e, show c + (1 + usedN t) = c + 1 + usedN t from by omega]
      exact ev_neg e this
theorem impl_used_f (a n : Int) {m : List Int} (hl : m.length ≤ 1000000) {p : Int} (h0 : 0 ≤ p) (h1 : p ≤ (m.length : Int)) : Ev (fun k => impl_Peeled_used.f k a n m p) ((usedN (m.take p.toNat) : Nat) : Int) := by
  have := impl_used_l0 (m.take p.toNat) (by simp; omega) (m.take p.toNat) [] 0 rfl (Nat.le_refl _)
  rw [Nat.zero_add] at this
  unfold impl_Peeled_used.f
  exact ev_pos h0 (ev_pos h1 this)
def indexP (a n : Int) (m : List Int) (s : ByteArray) : Int × Bool :=
  if rd m (placeP a n m s) = 3 then (0, false) else (((usedN (m.take (placeP a n m s).toNat) : Nat) : Int), true)
def indexV (a n : Int) (m : List Int) (s : ByteArray) : Int × Bool := if isPeeledB a n m = true ∧ isKeyB s = true then indexP a n m s else (0, false)
theorem impl_Peeled_index_f (h : isPeeledB a n m = true) (hm : m.length ≤ 1000) (hs : s.size ≤ 1000) : Ev (fun k => impl_Peeled_index.f k a n m s) (indexP a n m s) := by
  obtain ⟨p0, p1⟩ := placeP_range (s := s) h
  unfold impl_Peeled_index.f indexP
  refine ev_bind _ (impl_Peeled_place_f h hs) (ev_pos p0 (ev_pos p1 ?_))
  by_cases c : rd m (placeP a n m s) = 3
  · rw [if_pos c]; exact ev_pos c (Ev.now _)
  · rw [if_neg c]; exact ev_neg c (ev_bind _ (impl_used_f a n (by omega) p0 (by omega)) (Ev.now _))
theorem impl_PeeledIndex_f (hm : m.length ≤ 1000) (hs : s.size ≤ 1000) : Ev (fun k => impl_PeeledIndex.f k a n m s) (indexV a n m s) := by
  unfold impl_PeeledIndex.f indexV
  refine ev_bind _ (impl_IsPeeled_f a n m (by omega)) ?_
  by_cases c : isPeeledB a n m = true
  · refine ev_pos c (ev_bind _ (impl_IsKey_f s (by omega)) ?_)
    by_cases c2 : isKeyB s = true
    · rw [if_pos ⟨c, c2⟩]
      exact ev_pos c2 (ev_bind _ (impl_Peeled_index_f c hm hs) (Ev.now _))
    · rw [if_neg (fun h => c2 h.2)]
      exact ev_neg c2 (Ev.now _)
  · rw [if_neg (fun h => c h.1)]
    exact ev_neg c (Ev.now _)
theorem impl_PeeledPlace_f (hm : m.length ≤ 1000) (hs : s.size ≤ 1000) : Ev (fun k => impl_PeeledPlace.f k a n m s) (if isPeeledB a n m = true ∧ isKeyB s = true then (placeP a n m s, true) else (0, false)) := by
  unfold impl_PeeledPlace.f
  refine ev_bind _ (impl_IsPeeled_f a n m (by omega)) ?_
  by_cases c : isPeeledB a n m = true
  · refine ev_pos c (ev_bind _ (impl_IsKey_f s (by omega)) ?_)
    by_cases c2 : isKeyB s = true
    · rw [if_pos ⟨c, c2⟩]
      exact ev_pos c2 (ev_bind _ (impl_Peeled_place_f c hs) (Ev.now _))
    · rw [if_neg (fun h => c2 h.2)]
      exact ev_neg c2 (Ev.now _)
  · rw [if_neg (fun h => c h.1)]
    exact ev_neg c (Ev.now _)
end

def usedG (m : List Int) (i : Nat) : Bool := rd m (i : Int) != 3
def usedL (m : List Int) : List Int := madeL (usedG m) m.length 0 (blankV (m.length : Int))
theorem impl_made_l0 (y0 y1 : Int) {m : List Int} (hn : m.length ≤ 1000) (z : Int) : ∀ (d i : Nat) (acc : List Int), i + d = m.length → okW acc → m.length ≤ 16 * acc.length → (∀ q, i ≤ q → bitN acc q = false) →
    Ev (fun k => impl_madeBits_at_impl_UsedOf_1.l0 k (m.length : Int) (i : Int) y0 y1 m z acc) (z, madeL (usedG m) d i acc) := by
  intro d
  induction d with
  | zero =>
    intro i acc e hW hl hz
    refine ev_succ ?_
    simp only [impl_madeBits_at_impl_UsedOf_1.l0]
    exact ev_neg (by omega) (ev_some rfl)
  | succ d ih =>
    intro i acc e hW hl hz
    refine ev_succ ?_
    have e1 : impl_UsedOf_1.f (i : Int) y0 y1 m = some (usedG m i) := by
      unfold impl_UsedOf_1.f
      rw [if_pos (by omega), if_pos (by omega)]
      rfl
    simp only [impl_madeBits_at_impl_UsedOf_1.l0]
    rw [e1, winc (by omega), madeL]
    refine ev_pos (by omega) (ev_bind _ (Ev.now _) ?_)
    by_cases c : usedG m i = true
    · rw [c, if_pos rfl, impl_Bits_set_f z acc (by omega) (by omega) (by omega)]
      refine ev_bind _ (Ev.now _) (ih (i + 1) (setV acc (i : Int)) (by omega) (okW_setV hW (by omega)) (by rw [setV_len]; exact hl) (fun q hq => ?_))
      rw [bit_setV hW (by omega), hz q (by omega), decide_eq_false (by omega)]
      rfl
    · simp only [Bool.not_eq_true] at c
      rw [c, if_neg (by simp), impl_clr_f z hW (by omega) (by omega) (hz i (Nat.le_refl _))]
      exact ev_bind _ (Ev.now _) (ih (i + 1) acc (by omega) hW hl (fun q hq => hz q (by omega)))
theorem usedL_bits {m : List Int} (hm : m.length ≤ 1000) : bitsB (m.length : Int) (usedL m) = true := bitsB_madeL _ _ _ _ (bitsB_blankV (by omega) (by omega)) (by omega)
theorem usedL_at {m : List Int} (hm : m.length ≤ 1000) {i : Nat} (hi : i < m.length) : atV (usedL m) (i : Int) = usedG m i := by
  have hb := blankV_len' (n := (m.length : Int)) (by omega)
  obtain ⟨h1, h2⟩ := madeL_ok (usedG m) m.length 0 (blankV (m.length : Int)) (okW_blankV _) (by omega)
  unfold usedL
  rw [atV_bit h1 (by rw [madeL_len]; omega), h2 i, bitN_blankV, decide_eq_true (by omega), Bool.false_or, Bool.true_and]
theorem impl_UsedOf_f {a n : Int} {m : List Int} (h : isPeeledB a n m = true) (hm : m.length ≤ 1000) : ∃ S B, Ev (fun k => impl_UsedOf.f k a n m) ((m.length : Int), usedL m, S, B, true) ∧ Ev (fun k => impl_ranked.f k (m.length : Int) (usedL m)) ((m.length : Int), usedL m, S, B) ∧ (S : List Int).length ≤ 100000 ∧ (B : List Int).length ≤ 100000 := by
  have hb := blankV_len' (n := (m.length : Int)) (by omega)
  have hl : (usedL m).length = (blankV (m.length : Int)).length := madeL_len _ _ _ _
  obtain ⟨S, B, e, l1, l2⟩ := impl_ranked_f (n := m.length) (l := usedL m) (by omega) (by omega) (by omega)
  have e0 := impl_IsPeeled_f a n m (by omega)
  rw [h] at e0
  have e1 := impl_made_l0 a n hm (m.length : Int) m.length 0 (blankV (m.length : Int)) (by omega) (okW_blankV _) (by omega) (fun q _ => bitN_blankV _ q)
  refine ⟨S, B, ?_, e, by omega, by omega⟩
  unfold impl_UsedOf.f impl_madeBits_at_impl_UsedOf_1.f
  rw [impl_blank_f (by omega) (by omega)]
  exact ev_bind _ e0 (ev_pos rfl (ev_bind _ (ev_bind _ (Ev.now _) e1) (ev_bind _ e (Ev.now _))))
theorem cnt_used {m : List Int} (hm : m.length ≤ 1000) : ∀ (d i : Nat), i + d ≤ m.length → cntL' (usedL m) d i = usedN ((m.drop i).take d)
  | 0, _, _ => by simp [cntL', usedN]
  | d + 1, i, h => by
    have hc : m.drop i = m[i]'(by omega) :: m.drop (i + 1) := List.drop_eq_getElem_cons (by omega)
    rw [cntL', usedL_at hm (by omega), cnt_used hm d (i + 1) (by omega), hc, List.take_succ_cons, usedN_cons]
    have hr : rd m (i : Int) = m[i]'(by omega) := rd_get (by omega)
    congr 1
    unfold usedG
    rw [hr]
    by_cases c : m[i]'(by omega) = 3
    · rw [if_pos c, if_neg (by simp [c])]
    · rw [if_neg c, if_pos (by simpa using c)]
theorem cnt_used' {m : List Int} (hm : m.length ≤ 1000) {p : Nat} (h : p ≤ m.length) : cntL' (usedL m) p 0 = usedN (m.take p) := by
  rw [cnt_used hm p 0 (by omega), List.drop_zero]
end Go.Proofs.YtmehagedoaopeaaGreatQ
namespace Go.Proofs.YtmehagedoaopeaaGreatQ
open Go Go.RowKit Go.Proofs.YtmehagedoaopeaaGreatW.PrintWords Go.Proofs.YtmehagedoaopeaaGreatW.PrintMore Go.Proofs.YtmehagedoaopeaaGreatGp Go.Proofs.YtmehagedoaopeaaGreat.PZ

def ixE (p : Int) (e : List Int) : Int := if p = rd e 0 then 0 else if p = rd e 1 then 1 else 2
def vQ (E : Edges) (m : List Int) (s : Nat × Int) : Int := (ixE s.2 (edg E s.1) + 2 * sumP m (edg E s.1)) % 3
def vP (E : Edges) (m : List Int) (s : Nat × Int) : Int := Int.tmod (wrap64 ((wrap64 (impl_BuildPeeled.idx s.2 (edg E s.1) 0 - impl_BuildPeeled.sum (m.set s.2.toNat 0) (edg E s.1))) + 3)) 3
theorem fillB_goodS {E : Edges} (v : List Int → Nat × Int → Int) (G : List Int → Nat × Int → Prop) (m0 : List Int)
    (hE : ∀ i, ∀ p ∈ edg E i, 0 ≤ p ∧ p < (m0.length : Int))
    (hG : ∀ (m m' : List Int) (s : Nat × Int), s.2 ∈ edg E s.1 → (∀ p ∈ edg E s.1, rd m p = rd m' p) → G m s → G m' s)
    (R : List Int → Prop) (hR0 : R m0)
    (hv : ∀ (m : List Int) (s : Nat × Int), m.length = m0.length → R m → s.2 ∈ edg E s.1 → rd m s.2 = rd m0 s.2 → R (m.set s.2.toNat (v m s)) ∧ G (m.set s.2.toNat (v m s)) s) :
    ∀ (xs : List (Nat × Int)) (L : List Nat), StepsOk E L xs → R (fillB v xs m0) ∧ ∀ s ∈ xs, G (fillB v xs m0) s
  | [], _, _ => ⟨hR0, by simp⟩
  | (i, p) :: t, L, h => by
    obtain ⟨hR, hs⟩ := fillB_goodS v G m0 hE hG R hR0 hv t _ h.2.2.2
    have ha := steps_apart h
    have hp := hE i p h.2.1
    have ho : rd (fillB v t m0) p = rd m0 p := fillB_other v hp.1 t m0 (fun s hs => ⟨(hE s.1 s.2 (steps_later h.2.2.2 s hs).2).1, (ha s hs).2.2⟩)
    obtain ⟨r1, r2⟩ := hv (fillB v t m0) (i, p) (fillB_len v t m0) hR h.2.1 ho
    refine ⟨r1, fun s hs' => ?_⟩
    rcases List.mem_cons.1 hs' with rfl | hs'
    · exact r2
    · refine hG _ _ _ (steps_later h.2.2.2 s hs').2 (fun q hq => ?_) (hs s hs')
      rw [fillB_cons, rd_set_ne hp.1 (hE s.1 q hq).1 (fun e => (ha s hs').2.1 (e ▸ hq))]
theorem usedN_set {m : List Int} {p v : Int} (h0 : 0 ≤ p) (h1 : p < (m.length : Int)) (h3 : rd m p = 3) (hv : v ≠ 3) : usedN (m.set p.toNat v) = usedN m + 1 := by
  unfold rd at h3
  generalize hi : p.toNat = i at *
  have hl : i < m.length := by omega
  clear hi h0 h1
  induction m generalizing i with
  | nil => simp at hl
  | cons x t ih =>
    cases i with
    | zero =>
      have : x = 3 := by simpa using h3
      subst this
      rw [List.set_cons_zero, usedN_cons, usedN_cons, if_neg hv, if_pos rfl]
      omega
    | succ i =>
      rw [List.set_cons_succ, usedN_cons, usedN_cons, ih i (by simpa using h3) (by simpa using hl)]
      omega
theorem fillB_used {E : Edges} (v : List Int → Nat × Int → Int) (m0 : List Int) (hE : ∀ i, ∀ p ∈ edg E i, 0 ≤ p ∧ p < (m0.length : Int)) (h3 : ∀ i, ∀ p ∈ edg E i, rd m0 p = 3) (hv : ∀ m s, v m s ≠ 3) :
    ∀ (xs : List (Nat × Int)) (L : List Nat), StepsOk E L xs → usedN (fillB v xs m0) = usedN m0 + xs.length
  | [], _, _ => rfl
  | (i, p) :: t, L, h => by
    have ha := steps_apart h
    have hp := hE i p h.2.1
    have ho : rd (fillB v t m0) p = rd m0 p := fillB_other v hp.1 t m0 (fun s hs => ⟨(hE s.1 s.2 (steps_later h.2.2.2 s hs).2).1, (ha s hs).2.2⟩)
    have ih := fillB_used v m0 hE h3 hv t _ h.2.2.2
    rw [fillB_cons, usedN_set (p := p) hp.1 (by rw [fillB_len]; exact hp.2) (ho.trans (h3 i p h.2.1)) (hv _ _), ih, List.length_cons]
    omega
theorem usedN_app (a b : List Int) : usedN (a ++ b) = usedN a + usedN b := by unfold usedN; exact List.countP_append
theorem usedN_mono (m : List Int) {i j : Nat} (h : i ≤ j) : usedN (m.take i) ≤ usedN (m.take j) := by
  have : m.take j = m.take i ++ (m.drop i).take (j - i) := by
    rw [← List.take_add, show i + (j - i) = j by omega]
  rw [this, usedN_app]
  omega
theorem usedN_step (m : List Int) {i : Nat} (hi : i < m.length) (h3 : rd m (i : Int) ≠ 3) : usedN (m.take (i + 1)) = usedN (m.take i) + 1 := by
  rw [List.take_succ_eq_append_getElem hi, usedN_app, usedN_cons]
  rw [rd_get hi] at h3
  rw [if_neg h3]; rfl
theorem usedN_lt (m : List Int) {i j : Nat} (hi : i < m.length) (h : i < j) (h3 : rd m (i : Int) ≠ 3) : usedN (m.take i) < usedN (m.take j) := by
  have := usedN_step m hi h3
  have := usedN_mono m (show i + 1 ≤ j from h)
  omega
theorem usedN_inj (m : List Int) {i j : Nat} (hi : i < m.length) (hj : j < m.length) (h3 : rd m (i : Int) ≠ 3) (g3 : rd m (j : Int) ≠ 3) (e : usedN (m.take i) = usedN (m.take j)) : i = j := by
  rcases Nat.lt_trichotomy i j with h | h | h
  · have := usedN_lt m hi h h3; omega
  · exact h
  · have := usedN_lt m hj h g3; omega
theorem usedN_select : ∀ (m : List Int) (i : Nat), i < usedN m → ∃ q, ∃ h : q < m.length, m[q] ≠ 3 ∧ usedN (m.take q) = i
  | [], i, h => by simp [usedN] at h
  | x :: t, i, h => by
    rw [usedN_cons] at h
    by_cases c : x = 3
    · rw [if_pos c] at h
      obtain ⟨q, hq, h1, h2⟩ := usedN_select t i (by omega)
      refine ⟨q + 1, by simpa using hq, by simpa using h1, ?_⟩
      rw [List.take_succ_cons, usedN_cons, if_pos c, h2]; omega
    · rw [if_neg c] at h
      by_cases z : i = 0
      · exact ⟨0, by simp, by simpa using c, by simp [z, usedN]⟩
      · obtain ⟨q, hq, h1, h2⟩ := usedN_select t (i - 1) (by omega)
        refine ⟨q + 1, by simpa using hq, by simpa using h1, ?_⟩
        rw [List.take_succ_cons, usedN_cons, if_neg c, h2]; omega
section
variable {a0 n : Int} {l : List ByteArray}
theorem ix_ok {x y z p : Int} (hxy : x < y) (hyz : y < z) (hp : p ∈ [x, y, z]) : impl_BuildPeeled.idx p [x, y, z] 0 = ixE p [x, y, z] ∧ rd [x, y, z] (ixE p [x, y, z]) = p ∧ 0 ≤ ixE p [x, y, z] ∧ ixE p [x, y, z] ≤ 2 := by
  have r0 : rd [x, y, z] 0 = x := rfl
  have r1 : rd [x, y, z] 1 = y := rfl
  have r2 : rd [x, y, z] 2 = z := rfl
  simp only [List.mem_cons, List.not_mem_nil, or_false] at hp
  unfold ixE
  rw [r0, r1]
  simp only [impl_BuildPeeled.idx]
  rcases hp with rfl | rfl | rfl
  · rw [if_pos rfl, if_pos rfl]; exact ⟨rfl, r0, by omega, by omega⟩
  · rw [if_neg (by omega), if_pos rfl, if_neg (by omega), if_pos rfl]; exact ⟨rfl, r1, by omega, by omega⟩
  · rw [if_neg (by omega), if_neg (by omega), if_pos rfl, if_neg (by omega), if_neg (by omega)]; exact ⟨rfl, r2, by omega, by omega⟩
theorem pld_step (h0 : 1 ≤ n) (h1 : n ≤ 24) {m : List Int} {s : Nat × Int} (hm : (m.length : Int) = 3 * n) (hR : InR 0 3 m) (hi : s.1 < l.length) (hp : s.2 ∈ edg (hypE a0 n l) s.1) (hz : rd m s.2 = 3) :
    vP (hypE a0 n l) m s = vQ (hypE a0 n l) m s ∧ (0 ≤ vQ (hypE a0 n l) m s ∧ vQ (hypE a0 n l) m s ≤ 2) ∧
      rd (edg (hypE a0 n l) s.1) (sumP (m.set s.2.toNat (vQ (hypE a0 n l) m s)) (edg (hypE a0 n l) s.1) % 3) = s.2 := by
  obtain ⟨x, y, z, e, _, g0, g1, g2, g3⟩ := hyp_edge a0 h0 h1 hi
  rw [e] at hp
  obtain ⟨i1, i2, i3, i4⟩ := ix_ok g1 g2 hp
  have b1 := hR x (by omega) (by omega)
  have b2 := hR y (by omega) (by omega)
  have b3 := hR z (by omega) (by omega)
  have hS : sumP m [x, y, z] = rd m x + rd m y + rd m z := rfl
  have hset := sumP_set (m := m) (v := 0) g0 g1 g2 (by omega) hp
  rw [hz] at hset
  have hs0 : 0 ≤ sumP m [x, y, z] - 3 := by
    have hp' := hp
    simp only [List.mem_cons, List.not_mem_nil, or_false] at hp'
    rcases hp' with h | h | h <;> (rw [h] at hz; omega)
  have hpr : 0 ≤ s.2 ∧ s.2 < (m.length : Int) := by
    simp only [List.mem_cons, List.not_mem_nil, or_false] at hp
    omega
  have hR' : InR 0 3 (m.set s.2.toNat 0) := hR.set hpr.1 (by omega)
  have hlen : ((m.set s.2.toNat 0).length : Int) = 3 * n := by rw [List.length_set]; exact hm
  have c1 := hR' x (by omega) (by omega)
  have c2 := hR' y (by omega) (by omega)
  have c3 := hR' z (by omega) (by omega)
  have hS' : sumP (m.set s.2.toNat 0) [x, y, z] = rd (m.set s.2.toNat 0) x + rd (m.set s.2.toNat 0) y + rd (m.set s.2.toNat 0) z := rfl
  have hsum : impl_BuildPeeled.sum (m.set s.2.toNat 0) [x, y, z] = (sumP m [x, y, z] - 3) % 3 := by
    have r0 : rd [x, y, z] 0 = x := rfl
    have r1 : rd [x, y, z] 1 = y := rfl
    have r2 : rd [x, y, z] 2 = z := rfl
    unfold impl_BuildPeeled.sum
    rw [r0, r1, r2, w64 (x := rd (m.set s.2.toNat 0) x + rd (m.set s.2.toNat 0) y) (by omega) (by omega), w64 (by omega) (by omega), Int.tmod_eq_emod_of_nonneg (by omega)]
    congr 1
    omega
  have hv : vQ (hypE a0 n l) m s = (ixE s.2 [x, y, z] + 2 * sumP m [x, y, z]) % 3 := by unfold vQ; rw [e]
  refine ⟨?_, ⟨by rw [hv]; omega, by rw [hv]; omega⟩, ?_⟩
  · rw [hv]
    unfold vP
    rw [e, i1, hsum]
    generalize ixE s.2 [x, y, z] = j at *
    generalize sumP m [x, y, z] = S at *
    rw [w64 (x := j - (S - 3) % 3) (by omega) (by omega), w64 (by omega) (by omega), Int.tmod_eq_emod_of_nonneg (by omega)]
    omega
  · rw [e, sumP_set g0 g1 g2 (by omega) hp, hz, hv]
    have : (sumP m [x, y, z] - 3 + (ixE s.2 [x, y, z] + 2 * sumP m [x, y, z]) % 3) % 3 = ixE s.2 [x, y, z] := by omega
    rw [this, i2]
def markM0 (n : Int) : List Int := List.replicate (3 * n).toNat 3
def stepsK (a0 n : Int) (l : List ByteArray) : List (Nat × Int) := (peelAll (3 * n).toNat (hypE a0 n l)).1
def markV (a0 n : Int) (l : List ByteArray) : List Int := fillB (vQ (hypE a0 n l)) (stepsK a0 n l) (markM0 n)
theorem markM0_len (h0 : 1 ≤ n) : ((markM0 n).length : Int) = 3 * n := by simp [markM0]; omega
theorem markV_len : (markV a0 n l).length = (3 * n).toNat := by rw [markV, fillB_len]; simp [markM0]
theorem edgK_lt {i : Nat} {p : Int} (hp : p ∈ edg (hypE a0 n l) i) : i < l.length := by
  by_cases hi : i < l.length
  · exact hi
  · unfold edg at hp
    rw [List.getD_eq_getElem?_getD, List.getElem?_eq_none (by rw [hypE_len]; omega)] at hp
    simp at hp
theorem markE (h0 : 1 ≤ n) (h1 : n ≤ 24) : ∀ i, ∀ p ∈ edg (hypE a0 n l) i, 0 ≤ p ∧ p < ((markM0 n).length : Int) := fun i p hp => by
  rw [markM0_len h0]
  obtain ⟨x, y, z, e, _, g0, g1, g2, g3⟩ := hyp_edge a0 h0 h1 (edgK_lt hp)
  rw [e] at hp
  simp only [List.mem_cons, List.not_mem_nil, or_false] at hp
  omega
theorem mark3 (h0 : 1 ≤ n) (h1 : n ≤ 24) : ∀ i, ∀ p ∈ edg (hypE a0 n l) i, rd (markM0 n) p = 3 := fun i p hp => by
  obtain ⟨q0, q1⟩ := markE h0 h1 i p hp
  exact rd_rep q0 (by simpa [markM0] using q1)
theorem pld_both (h0 : 1 ≤ n) (h1 : n ≤ 24) : fillB (vP (hypE a0 n l)) (stepsK a0 n l) (markM0 n) = markV a0 n l ∧ InR 0 3 (markV a0 n l) ∧
    ∀ s ∈ stepsK a0 n l, rd (edg (hypE a0 n l) s.1) (sumP (markV a0 n l) (edg (hypE a0 n l) s.1) % 3) = s.2 ∧ rd (markV a0 n l) s.2 ≠ 3 := by
  have hK : KeySteps a0 n l (stepsK a0 n l) := key_steps a0 n l
  have hR0 : InR 0 3 (markM0 n) := InR.rep _ (by omega)
  have hml := markM0_len h0
  have c1 := fillB_congr (vP (hypE a0 n l)) (vQ (hypE a0 n l)) (markM0 n) (markE h0 h1) (InR 0 3) hR0 (fun m s hm hR hp hz => by
    obtain ⟨e1, e2, _⟩ := pld_step h0 h1 (by rw [hm]; exact hml) hR (edgK_lt hp) hp (hz.trans (mark3 h0 h1 _ _ hp))
    exact ⟨e1, hR.set (markE h0 h1 _ _ hp).1 (by rw [e1]; omega)⟩) _ _ hK.ok
  have c2 := fillB_goodS (E := hypE a0 n l) (vQ (hypE a0 n l)) (fun m s => rd (edg (hypE a0 n l) s.1) (sumP m (edg (hypE a0 n l) s.1) % 3) = s.2 ∧ rd m s.2 ≠ 3) (markM0 n) (markE h0 h1) (fun m m' s hp hc hG => by
    obtain ⟨x, y, z, e, _⟩ := hyp_edge a0 h0 h1 (edgK_lt hp)
    refine ⟨?_, by rw [← hc _ hp]; exact hG.2⟩
    have := hG.1
    rw [e] at this hc ⊢
    rw [← sumP_congr hc]
    exact this) (InR 0 3) hR0 (fun m s hm hR hp hz => by
    obtain ⟨_, e2, e3⟩ := pld_step h0 h1 (by rw [hm]; exact hml) hR (edgK_lt hp) hp (hz.trans (mark3 h0 h1 _ _ hp))
    have hq := markE h0 h1 _ _ hp
    refine ⟨hR.set hq.1 (by omega), e3, ?_⟩
    rw [rd_set_eq hq.1 (by rw [hm]; exact hq.2)]
    omega) _ _ hK.ok
  exact ⟨c1.1, c2.1, c2.2⟩
theorem mark_free (h0 : 1 ≤ n) (h1 : n ≤ 24) {q : Int} (hq : 0 ≤ q) (hq1 : q < 3 * n) (h : ∀ s ∈ stepsK a0 n l, s.2 ≠ q) : rd (markV a0 n l) q = 3 := by
  have hK : KeySteps a0 n l (stepsK a0 n l) := key_steps a0 n l
  unfold markV
  rw [fillB_other _ hq _ _ (fun s hs => ⟨(markE h0 h1 _ _ (hK.rng s hs).2).1, h s hs⟩)]
  exact rd_rep hq (by omega)
theorem mark_used (h0 : 1 ≤ n) (h1 : n ≤ 24) : usedN (markV a0 n l) = (stepsK a0 n l).length := by
  have hK : KeySteps a0 n l (stepsK a0 n l) := key_steps a0 n l
  have := fillB_used (E := hypE a0 n l) (vQ (hypE a0 n l)) (markM0 n) (markE h0 h1) (mark3 h0 h1) (fun m s => by unfold vQ; omega) _ _ hK.ok
  unfold markV
  rw [this]
  have : usedN (markM0 n) = 0 := by
    unfold usedN markM0
    rw [List.countP_replicate]
    simp
  omega
theorem steps_all (hp : peelsB a0 l n = true) : (stepsK a0 n l).length = l.length := by
  have := peelC_len (P := (3 * n).toNat) (E := hypE a0 n l) (List.replicate (hypE a0 n l).length 0) (allE (hypE a0 n l)) (allE_nodup _)
  have hc : (peelC (3 * n).toNat (hypE a0 n l) (List.replicate (hypE a0 n l).length 0) (allE (hypE a0 n l))).2 = [] := List.length_eq_zero_iff.1 (by simpa [peelsB, coreE, peelAll] using hp)
  rw [hc] at this
  have hal : (allE (hypE a0 n l)).length = l.length := by simp [allE, hypE_len]
  simp only [List.length_nil, Nat.add_zero] at this
  exact this.trans hal
theorem markV_peeled (c : keyedB a0 l n = true) : isPeeledB a0 n (markV a0 n l) = true := by
  obtain ⟨ha, _, h0, h1⟩ := keyedB_ok c
  have hR := (pld_both (a0 := a0) (l := l) h0 h1).2.1
  have hlen : (markV a0 n l).length = (3 * n).toNat := markV_len
  unfold isPeeledB
  rw [decide_eq_true ha, decide_eq_true ⟨h0, h1⟩, decide_eq_true (by omega)]
  simp only [Bool.true_and]
  unfold allIn
  rw [List.all_eq_true]
  intro x hx
  obtain ⟨i, hi, rfl⟩ := List.mem_iff_getElem.1 hx
  have := hR (i : Int) (by omega) (by omega)
  rw [rd_get hi] at this
  simpa using this
theorem place_step (h0 : 1 ≤ n) (h1 : n ≤ 24) {s : Nat × Int} (hs : s ∈ stepsK a0 n l) (hi : s.1 < l.length) : placeP a0 n (markV a0 n l) l[s.1] = s.2 := by
  obtain ⟨x, y, z, e, e2, _⟩ := hyp_edge a0 h0 h1 hi
  unfold placeP
  rw [← e2]
  exact ((pld_both h0 h1).2.2 s hs).1
theorem map_inj {α β : Type} {f : α → β} : ∀ {xs : List α}, (xs.map f).Nodup → ∀ s ∈ xs, ∀ t ∈ xs, f s = f t → s = t
  | [], _, s, h, _, _, _ => by cases h
  | x :: xs, hn, s, hs, t, ht, e => by
    rw [List.map_cons, List.nodup_cons, List.mem_map] at hn
    rcases List.mem_cons.1 hs with rfl | hs' <;> rcases List.mem_cons.1 ht with rfl | ht'
    · rfl
    · exact absurd ⟨t, ht', e.symm⟩ hn.1
    · exact absurd ⟨s, hs', e⟩ hn.1
    · exact map_inj hn.2 s hs' t ht' e
def rkK (a0 n : Int) (l : List ByteArray) (s : ByteArray) : Nat := usedN ((markV a0 n l).take (placeP a0 n (markV a0 n l) s).toNat)
theorem place_facts (h0 : 1 ≤ n) (h1 : n ≤ 24) (hp : peelsB a0 l n = true) {i : Nat} (hi : i < l.length) : 0 ≤ placeP a0 n (markV a0 n l) l[i] ∧ placeP a0 n (markV a0 n l) l[i] < 3 * n ∧ rd (markV a0 n l) (placeP a0 n (markV a0 n l) l[i]) ≠ 3 ∧ ∃ s ∈ stepsK a0 n l, s.1 = i ∧ s.2 = placeP a0 n (markV a0 n l) l[i] := by
  obtain ⟨s, hs, rfl⟩ := key_takes hp hi
  have hs' : s ∈ stepsK a0 n l := hs
  have hK : KeySteps a0 n l (stepsK a0 n l) := key_steps a0 n l
  have e := place_step h0 h1 hs' hi
  have hr := markE h0 h1 _ _ (hK.rng s hs').2
  rw [markM0_len h0] at hr
  rw [e]
  exact ⟨hr.1, hr.2, ((pld_both h0 h1).2.2 s hs').2, s, hs', rfl, rfl⟩
theorem rk_index (h0 : 1 ≤ n) (h1 : n ≤ 24) (hp : peelsB a0 l n = true) {i : Nat} (hi : i < l.length) : indexP a0 n (markV a0 n l) l[i] = (((rkK a0 n l l[i] : Nat) : Int), true) := if_neg (place_facts h0 h1 hp hi).2.2.1
theorem rk_inj (h0 : 1 ≤ n) (h1 : n ≤ 24) (hp : peelsB a0 l n = true) {i j : Nat} (hi : i < l.length) (hj : j < l.length) (e : rkK a0 n l l[i] = rkK a0 n l l[j]) : i = j := by
  obtain ⟨p0, p1, p2, s, hs, s1, s2⟩ := place_facts h0 h1 hp hi
  obtain ⟨q0, q1, q2, t, ht, t1, t2⟩ := place_facts h0 h1 hp hj
  have hlen : (markV a0 n l).length = (3 * n).toNat := markV_len
  have hK : KeySteps a0 n l (stepsK a0 n l) := key_steps a0 n l
  have hq := usedN_inj (markV a0 n l) (i := (placeP a0 n (markV a0 n l) l[i]).toNat) (j := (placeP a0 n (markV a0 n l) l[j]).toNat) (by omega) (by omega) (by rw [show (((placeP a0 n (markV a0 n l) l[i]).toNat : Nat) : Int) = placeP a0 n (markV a0 n l) l[i] by omega]; exact p2) (by rw [show (((placeP a0 n (markV a0 n l) l[j]).toNat : Nat) : Int) = placeP a0 n (markV a0 n l) l[j] by omega]; exact q2) e
  have : s = t := map_inj (steps_nodup hK.ok).2 s hs t ht (by rw [s2, t2]; omega)
  rw [← s1, ← t1, this]
theorem rk_onto (h0 : 1 ≤ n) (h1 : n ≤ 24) (hp : peelsB a0 l n = true) {r : Nat} (hr : r < l.length) : ∃ i, ∃ h : i < l.length, rkK a0 n l l[i] = r := by
  have hlen : (markV a0 n l).length = (3 * n).toNat := markV_len
  obtain ⟨q, hq, q3, qr⟩ := usedN_select (markV a0 n l) r (by rw [mark_used h0 h1, steps_all hp]; exact hr)
  have hK : KeySteps a0 n l (stepsK a0 n l) := key_steps a0 n l
  have : ∃ s ∈ stepsK a0 n l, s.2 = (q : Int) := by
    apply Classical.byContradiction
    intro hn
    have := mark_free (a0 := a0) (l := l) h0 h1 (q := (q : Int)) (by omega) (by omega) (fun s hs e => hn ⟨s, hs, e⟩)
    rw [rd_get hq] at this
    exact q3 this
  obtain ⟨s, hs, e⟩ := this
  have hi := (hK.rng s hs).1
  refine ⟨s.1, hi, ?_⟩
  unfold rkK
  rw [place_step h0 h1 hs hi, e]
  exact qr
end
end Go.Proofs.YtmehagedoaopeaaGreatQ
namespace Go.Proofs.YtmehagedoaopeaaGreatQ
open Go Go.RowKit Go.Proofs.YtmehagedoaopeaaGreatW.PrintWords Go.Proofs.YtmehagedoaopeaaGreatW.PrintMore Go.Proofs.YtmehagedoaopeaaGreatGp Go.Proofs.YtmehagedoaopeaaGreat.PZ

def buildP (a0 n : Int) (l : List ByteArray) : Int × Int × List Int × Bool := if keyedB a0 l n = true ∧ peelsB a0 l n = true then (a0, n, markV a0 n l, true) else (0, 0, [], false)
theorem buildP_pos {a0 n : Int} {l : List ByteArray} (h : keyedB a0 l n = true ∧ peelsB a0 l n = true) : buildP a0 n l = (a0, n, markV a0 n l, true) := if_pos h
theorem buildP_neg {a0 n : Int} {l : List ByteArray} (h : ¬ (keyedB a0 l n = true ∧ peelsB a0 l n = true)) : buildP a0 n l = (0, 0, [], false) := if_neg h
section
variable {a0 n : Int} {l : List ByteArray}
theorem pld_l0v (h0 : 1 ≤ n) (h1 : n ≤ 24) (hl : l.length ≤ 40) (ix hP o0 o1 : Int) : impl_BuildPeeled.l0 (stepsL (stepsK a0 n l)) ix hP (hypE a0 n l) o0 o1 (markM0 n) = some (o0, o1, markV a0 n l, true) := by
  have hK : KeySteps a0 n l (stepsK a0 n l) := key_steps a0 n l
  have hml := markM0_len h0
  have hg : (stepsL (stepsK a0 n l)).all (impl_BuildPeeled.ok (hypE a0 n l) (markM0 n).length) = true := by
    rw [List.all_eq_true]
    intro s hs
    obtain ⟨q, hq, rfl⟩ := List.mem_map.1 hs
    obtain ⟨g0, g1⟩ := hK.rng q hq
    obtain ⟨x, y, z, e, _, q0, q1, q2, q3⟩ := hyp_edge a0 h0 h1 g0
    have r0 : rd [x, y, z] 0 = x := rfl
    have r1 : rd [x, y, z] 1 = y := rfl
    have r2 : rd [x, y, z] 2 = z := rfl
    have hpr : 0 ≤ q.2 ∧ q.2 < 3 * n := by
      rw [e] at g1
      simp only [List.mem_cons, List.not_mem_nil, or_false] at g1
      omega
    simp only [impl_BuildPeeled.ok, impl_BuildPeeled.in3, mkS71, rd_edge, e, r0, r1, r2, hypE_len, List.length_cons, List.length_nil, Bool.and_eq_true, decide_eq_true_eq]
    exact ⟨decide_eq_true (by omega), decide_eq_true (by omega), decide_eq_true (by omega), by omega⟩
  have hlen : (stepsL (stepsK a0 n l)).length = (stepsK a0 n l).length := by simp [stepsL]
  have hkl := hK.len
  unfold impl_BuildPeeled.l0
  rw [if_pos ⟨hg, by omega, by omega⟩]
  have hf : (stepsL (stepsK a0 n l)).foldr (fun s m => impl_BuildPeeled.step (hypE a0 n l) m s) (markM0 n) = fillB (vP (hypE a0 n l)) (stepsK a0 n l) (markM0 n) := by
    unfold stepsL fillB
    rw [List.foldr_map]
    congr 1
    funext s m
    simp only [impl_BuildPeeled.step, mkS71, rd_edge, List.set_set, vP]
  rw [hf, (pld_both h0 h1).1]
theorem impl_BuildPeeled_f (a0 n : Int) {l : List ByteArray} (hl : l.length ≤ 1000) (hz : ∀ s ∈ l, s.size ≤ 1000) : Ev (fun k => impl_BuildPeeled.f k a0 l n) (buildP a0 n l) := by
  have hh := impl_HyperOf_v a0 n hl hz
  unfold impl_BuildPeeled.f
  by_cases c : keyedB a0 l n = true
  · obtain ⟨_, hk, h0, h1⟩ := keyedB_ok c
    have hl40 := (keys_small hk).1
    rw [if_pos c] at hh
    by_cases c3 : peelsB a0 l n = true
    · rw [buildP_pos ⟨c, c3⟩]
      refine ev_bind _ hh (ev_pos rfl (ev_bind _ (impl_order_f (hyp_good a0 h0 h1 hl40)) (ev_pos c3 (ev_bind (markM0 n) ?_ (ev_some' (pld_l0v h0 h1 hl40 _ _ a0 n))))))
      unfold slices_Repeat_int_int.f
      exact ev_pos rfl (ev_pos (by omega) (ev_pos (by omega) (Ev.now _)))
    · rw [buildP_neg (fun h => c3 h.2)]
      exact ev_bind _ hh (ev_pos rfl (ev_bind _ (impl_order_f (hyp_good a0 h0 h1 hl40)) (ev_neg c3 (Ev.now _))))
  · rw [if_neg c] at hh
    rw [buildP_neg (fun h => c h.1)]
    exact ev_bind _ hh (ev_neg (by simp) (Ev.now _))

theorem spec_pfIndex_f {x y z p : Int} (hxy : x < y) (hyz : y < z) (hp : p ∈ [x, y, z]) : Ev (fun k => spec_pfIndex.f k [x, y, z] p) (ixE p [x, y, z]) := by
  have r0 : rd [x, y, z] 0 = x := rfl
  have r1 : rd [x, y, z] 1 = y := rfl
  have r2 : rd [x, y, z] 2 = z := rfl
  have i0 : wrap64 ((0 : Int) + 1) = 1 := w64 (by omega) (by omega)
  have i1 : wrap64 ((1 : Int) + 1) = 2 := w64 (by omega) (by omega)
  simp only [List.mem_cons, List.not_mem_nil, or_false] at hp
  unfold spec_pfIndex.f ixE
  rw [r0, r1]
  refine ev_succ ?_
  simp only [spec_pfIndex.l0, r0, i0, List.length_cons, List.length_nil]
  refine ev_pos (by omega) (ev_pos (by omega) (ev_pos (by omega) ?_))
  by_cases c0 : p = x
  · rw [if_pos c0]; exact ev_pos c0.symm (Ev.now _)
  · rw [if_neg c0]
    refine ev_neg (fun h => c0 h.symm) (ev_succ ?_)
    simp only [spec_pfIndex.l0, r1, i1, List.length_cons, List.length_nil]
    refine ev_pos (by omega) (ev_pos (by omega) (ev_pos (by omega) ?_))
    by_cases c1 : p = y
    · rw [if_pos c1]; exact ev_pos c1.symm (Ev.now _)
    · rw [if_neg c1]
      refine ev_neg (fun h => c1 h.symm) (ev_succ ?_)
      simp only [spec_pfIndex.l0, r2, List.length_cons, List.length_nil]
      exact ev_pos (by omega) (ev_pos (by omega) (ev_pos (by omega) (ev_pos (by omega) (Ev.now _))))
theorem InR_fill (E : Edges) : ∀ (xs : List (Nat × Int)), (∀ s ∈ xs, 0 ≤ s.2) → InR 0 3 (fillB (vQ E) xs (markM0 n))
  | [], _ => InR.rep _ (by omega)
  | s :: t, h => by
    rw [fillB_cons]
    refine (InR_fill E t (fun x hx => h x (by simp [hx]))).set (h s (by simp)) ?_
    unfold vQ
    omega
theorem spec_pld_l1 (h0 : 1 ≤ n) (h1 : n ≤ 24) (hP o0 o1 : Int) {xs : List (Nat × Int)} (hx : xs.length ≤ 1000) (hr : ∀ s ∈ xs, s.1 < l.length ∧ s.2 ∈ edg (hypE a0 n l) s.1) : ∀ j, j ≤ xs.length →
    Ev (fun k => spec_BuildPeeled.l1 k (stepsL xs) ((j : Int) - 1) hP (hypE a0 n l) o0 o1 (fillB (vQ (hypE a0 n l)) (xs.drop j) (markM0 n))) (o0, o1, fillB (vQ (hypE a0 n l)) xs (markM0 n), true) := by
  intro j
  induction j with
  | zero =>
    intro _
    refine ev_succ ?_
    simp only [spec_BuildPeeled.l1, List.drop_zero]
    exact ev_neg (by omega) (Ev.now _)
  | succ j ih =>
    intro hj
    have hs := hr xs[j] (List.getElem_mem (by omega))
    obtain ⟨x, y, z, e, _, g0, g1, g2, g3⟩ := hyp_edge a0 h0 h1 hs.1
    have hR : InR 0 3 (fillB (vQ (hypE a0 n l)) (xs.drop (j + 1)) (markM0 n)) := InR_fill _ _ (fun s hs => (markE h0 h1 _ _ (hr s (List.mem_of_mem_drop hs)).2).1)
    have hml : (fillB (vQ (hypE a0 n l)) (xs.drop (j + 1)) (markM0 n)).length = (markM0 n).length := fillB_len _ _ _
    have hm0 := markM0_len h0
    have hp := hs.2
    rw [e] at hp
    have hpr : 0 ≤ (xs[j]).2 ∧ (xs[j]).2 < 3 * n := by
      simp only [List.mem_cons, List.not_mem_nil, or_false] at hp
      omega
    have next := ih (by omega)
    have hd : xs.drop j = xs[j] :: xs.drop (j + 1) := List.drop_eq_getElem_cons (by omega)
    rw [hd, fillB_cons] at next
    generalize fillB (vQ (hypE a0 n l)) (xs.drop (j + 1)) (markM0 n) = m at hR hml next ⊢
    have b1 := hR x (by omega) (by omega)
    have b2 := hR y (by omega) (by omega)
    have b3 := hR z (by omega) (by omega)
    obtain ⟨_, _, i3, i4⟩ := ix_ok g1 g2 hp
    have hidx := spec_pfIndex_f g1 g2 hp
    have hsum := spec_pfSum_f (m := m) g0 g1 g2 (by omega) (fun p q0 q1 => by have := hR p q0 q1; omega)
    have hst := rd_step xs (n := j) (by omega)
    have hsl : (stepsL xs).length = xs.length := by simp [stepsL]
    have hv : vQ (hypE a0 n l) m xs[j] = Int.tmod (wrap64 (ixE (xs[j]).2 [x, y, z] + (wrap64 (2 * (rd m x + rd m y + rd m z))))) 3 := by
      unfold vQ
      rw [e, w64 (x := 2 * _) (by omega) (by omega), w64 (by omega) (by omega), Int.tmod_eq_emod_of_nonneg (by omega)]
      rfl
    rw [hv] at next
    refine ev_succ ?_
    rw [show (((j + 1 : Nat) : Int) - 1) = (j : Int) from by omega]
    simp only [spec_BuildPeeled.l1, hst, mkS71, rd_edge]
    rw [w64 (x := (j : Int) - 1) (by omega) (by omega), e]
    exact ev_pos (by omega) (ev_pos (by omega) (ev_pos (by omega) (ev_pos (by omega) (ev_pos (by rw [hypE_len]; omega) (ev_bind _ hidx (ev_bind _ hsum (ev_pos hpr.1 (ev_pos (by omega) next))))))))
theorem spec_pld_l0 (h0 : 1 ≤ n) (h1 : n ≤ 24) (hP o0 o1 : Int) {xs : List (Nat × Int)} (hx : xs.length ≤ 1000) (hr : ∀ s ∈ xs, s.1 < l.length ∧ s.2 ∈ edg (hypE a0 n l) s.1) : ∀ (d i : Nat), ((i + d : Nat) : Int) = 3 * n →
    Ev (fun k => spec_BuildPeeled.l0 k n (stepsL xs) (i : Int) hP (hypE a0 n l) o0 o1 (List.replicate i 3)) (o0, o1, fillB (vQ (hypE a0 n l)) xs (markM0 n), true) := by
  have hw : wrap64 (3 * n) = 3 * n := w64 (by omega) (by omega)
  have hsl : (stepsL xs).length = xs.length := by simp [stepsL]
  intro d
  induction d with
  | zero =>
    intro i hi
    have := spec_pld_l1 h0 h1 hP o0 o1 hx hr xs.length (Nat.le_refl _)
    rw [List.drop_length] at this
    refine ev_succ ?_
    simp only [spec_BuildPeeled.l0, hw, hsl]
    rw [w64 (x := (xs.length : Int) - 1) (by omega) (by omega)]
    refine ev_neg (by omega) ?_
    rw [show List.replicate i (3 : Int) = markM0 n by unfold markM0; congr 1; omega]
    exact this
  | succ d ih =>
    intro i hi
    have next := ih (i + 1) (by omega)
    rw [List.replicate_succ'] at next
    refine ev_succ ?_
    simp only [spec_BuildPeeled.l0, hw]
    rw [winc (by omega)]
    exact ev_pos (by omega) (ev_pos (by simp; omega) next)
theorem spec_BuildPeeled_f (a0 n : Int) {l : List ByteArray} (hl : l.length ≤ 1000) (hz : ∀ s ∈ l, s.size ≤ 1000) : Ev (fun k => spec_BuildPeeled.f k a0 l n) (buildP a0 n l) := by
  have bad : ∀ b : Bool, b = true → Ev (fun k => spec_BuildPeeled.j0 k a0 l n b) (0, 0, [], false) := fun b hb => by
    refine ev_succ ?_
    simp only [spec_BuildPeeled.j0]
    exact ev_pos hb (Ev.now _)
  unfold spec_BuildPeeled.f
  refine ev_bind _ (spec_peKeyed_f a0 n hl hz) ?_
  by_cases c : keyedB a0 l n = true
  · obtain ⟨⟨g0, g1⟩, hk, h0, h1⟩ := keyedB_ok c
    have hl40 := (keys_small hk).1
    refine ev_pos c (ev_bind _ (spec_pePeels_f g0 (by omega) h0 h1 hl40 hz) ?_)
    by_cases c3 : peelsB a0 l n = true
    · obtain ⟨hG, hP, _, _⟩ := goodB_ok (hyp_good a0 h0 h1 hl40)
      have hp := spec_pePeel_f hG (cs := []) (by simp) (by simp) true
      rw [hP] at hp
      have hX : peelC (3 * n).toNat (hypE a0 n l) (chc [] ++ if true = true then List.replicate (hypE a0 n l).length 0 else []) (allE (hypE a0 n l)) = peelAll (3 * n).toNat (hypE a0 n l) := by
        simp [chc, peelAll]
      rw [hX] at hp
      have hK : KeySteps a0 n l (stepsK a0 n l) := key_steps a0 n l
      have hkl := hK.len
      have := spec_pld_l0 (a0 := a0) (l := l) h0 h1 (3 * n) a0 n (xs := stepsK a0 n l) (by omega) hK.rng (3 * n).toNat 0 (by omega)
      rw [buildP_pos ⟨c, c3⟩]
      refine ev_succ ?_
      simp only [spec_BuildPeeled.j0]
      exact ev_neg (by simp [c3]) (ev_bind _ (spec_peHyper_f g0 (by omega) (by omega) (by omega) hl hz) (ev_bind _ hp this))
    · rw [buildP_neg (fun h => c3 h.2)]
      exact bad _ (by simp [c3])
  · rw [buildP_neg (fun h => c h.1)]
    exact ev_neg c (bad _ rfl)

theorem goes_nodup : ∀ (t S : List Int), t.Nodup → (∀ x ∈ t, x ∉ S) → goesI S t = true
  | [], _, _, _ => rfl
  | x :: t, S, hn, hS => by
    rw [List.nodup_cons] at hn
    unfold goesI
    rw [goes_nodup t (x :: S) hn.2 (fun y hy h => by
      rcases List.mem_cons.1 h with rfl | h
      · exact hn.1 hy
      · exact hS y (by simp [hy]) h)]
    simpa using hS x (by simp)
def rksL (a0 n : Int) (l : List ByteArray) : List Int := l.map (fun s => ((rkK a0 n l s : Nat) : Int))
theorem rks_nodup (h0 : 1 ≤ n) (h1 : n ≤ 24) (hp : peelsB a0 l n = true) : (rksL a0 n l).Nodup := by
  rw [List.nodup_iff_pairwise_ne, List.pairwise_iff_getElem]
  intro i j hi hj hij e
  have hi' : i < l.length := by simpa [rksL] using hi
  have hj' : j < l.length := by simpa [rksL] using hj
  simp only [rksL, List.getElem_map] at e
  have := rk_inj h0 h1 hp hi' hj' (by omega)
  omega
theorem isFor_l0 (c : keyedB a0 l n = true) (hp : peelsB a0 l n = true) : ∀ (t pre : List ByteArray), l = pre ++ t →
    Ev (fun k => impl_Peeled_isFor.l0 k l ((rksL a0 n l).take pre.length) l (l.length : Int) (pre.length : Int) a0 n (markV a0 n l)) true := by
  obtain ⟨ha, hk, h0, h1⟩ := keyedB_ok c
  have hsm := keys_small hk
  have hlen : (markV a0 n l).length = (3 * n).toNat := markV_len
  have hrl : (rksL a0 n l).length = l.length := by simp [rksL]
  intro t
  induction t with
  | nil =>
    intro pre h
    have hpl : pre.length = l.length := by rw [h]; simp
    have hall : (rksL a0 n l).all okI = true := by
      rw [List.all_eq_true]
      intro x hx
      obtain ⟨s, hs, rfl⟩ := List.mem_map.1 hx
      have : rkK a0 n l s ≤ 72 := by
        unfold rkK
        refine Nat.le_trans (usedN_le _) ?_
        rw [List.length_take]
        omega
      simp only [okI, Bool.and_eq_true, decide_eq_true_eq]
      omega
    have hd : impl_distinct.f (rksL a0 n l) = some true := by
      unfold impl_distinct.f
      rw [if_pos ⟨by omega, hall⟩, goes_nodup _ [] (rks_nodup h0 h1 hp) (by simp)]
    have hu := impl_used_f a0 n (m := markV a0 n l) (by omega) (p := ((markV a0 n l).length : Int)) (by omega) (by omega)
    rw [show (((markV a0 n l).length : Int)).toNat = (markV a0 n l).length by omega, List.take_length, mark_used h0 h1, steps_all hp] at hu
    refine ev_succ ?_
    simp only [impl_Peeled_isFor.l0]
    rw [hpl, List.take_of_length_le (by omega)]
    refine ev_neg (by omega) ?_
    rw [hd]
    exact ev_bind _ (Ev.now _) (ev_pos rfl (ev_bind _ hu (ev_some (by simp))))
  | cons s t ih =>
    intro pre h
    have hm : pre.length < l.length := by rw [h]; simp
    have hg : l[pre.length]'hm = s := by simp [h]
    have next := ih (pre ++ [s]) (by rw [h]; simp)
    rw [len_one] at next
    have hT : (rksL a0 n l).take (pre ++ [s]).length = (rksL a0 n l).take pre.length ++ [((rkK a0 n l s : Nat) : Int)] := by
      rw [List.length_append, List.length_singleton, List.take_succ_eq_append_getElem (by omega)]
      simp only [rksL, List.getElem_map, hg]
    rw [hT] at next
    have hix := impl_Peeled_index_f (a := a0) (n := n) (m := markV a0 n l) (s := s) (markV_peeled c) (by omega) (by have := hsm.2 s (by rw [h]; simp); omega)
    have hrk := rk_index h0 h1 hp hm
    rw [hg] at hrk
    rw [hrk] at hix
    refine ev_succ ?_
    simp only [impl_Peeled_isFor.l0]
    rw [rdOf_get hm, hg, winc (by omega)]
    exact ev_pos (by omega) (ev_pos (by omega) (ev_pos (by omega) (ev_bind _ hix (ev_pos rfl (ev_pos (by rw [List.length_take]; omega) next)))))
theorem impl_IsPeeledFor_f (c : keyedB a0 l n = true) (hp : peelsB a0 l n = true) : Ev (fun k => impl_IsPeeledFor.f k a0 n (markV a0 n l) l) (true, true) := by
  obtain ⟨ha, hk, h0, h1⟩ := keyedB_ok c
  have hsm := keys_small hk
  have hlen : (markV a0 n l).length = (3 * n).toNat := markV_len
  have ek := impl_AreKeys_f l (by omega) (fun s hs => by have := hsm.2 s hs; omega)
  rw [hk] at ek
  have ei := impl_IsPeeled_f a0 n (markV a0 n l) (by omega)
  rw [markV_peeled c] at ei
  unfold impl_IsPeeledFor.f impl_Peeled_isFor.f
  exact ev_bind _ ei (ev_pos rfl (ev_bind _ ek (ev_pos rfl (ev_bind _ (isFor_l0 c hp l [] rfl) (Ev.now _)))))
end

def markG (m : List Int) (q : Nat) : Bool := if q % 2 = 0 then rd m ((q / 2 : Nat) : Int) % 2 == 1 else decide (2 ≤ rd m ((q / 2 : Nat) : Int))
theorem bit0 {x : Int} (h0 : 0 ≤ x) (h1 : x ≤ 3) : (Go.bits .and .i64 (shr .i64 x 0) 1 == 1) = (x % 2 == 1) := by
  obtain rfl | rfl | rfl | rfl : x = 0 ∨ x = 1 ∨ x = 2 ∨ x = 3 := by omega
  all_goals decide
theorem bit1 {x : Int} (h0 : 0 ≤ x) (h1 : x ≤ 3) : (Go.bits .and .i64 (shr .i64 x 1) 1 == 1) = decide (2 ≤ x) := by
  obtain rfl | rfl | rfl | rfl : x = 0 ∨ x = 1 ∨ x = 2 ∨ x = 3 := by omega
  all_goals decide
theorem impl_setTo_f (z : Int) {acc : List Int} (hW : okW acc) {p : Nat} (hp : p ≤ 100000) (hl : p / 16 < acc.length) (hz : bitN acc p = false) (b : Bool) : impl_Bits_set.f z acc (p : Int) b = some (if b = true then setV acc (p : Int) else acc) := by
  cases b
  · rw [if_neg (by simp)]; exact impl_clr_f z hW (by omega) hl hz
  · rw [if_pos rfl]; exact impl_Bits_set_f z acc (by omega) (by omega) (by omega)
theorem madeL_add (g : Nat → Bool) (a b : Nat) (i : Nat) (acc : List Int) : madeL g (a + b) i acc = madeL g b (i + a) (madeL g a i acc) := by
  induction a generalizing i acc with
  | zero => simp [madeL]
  | succ a ih =>
    rw [show a + 1 + b = (a + b) + 1 by omega, madeL, madeL, ih]
    congr 1
    omega
theorem setField_f (z : Int) {m : List Int} {acc : List Int} (hW : okW acc) {i : Nat} (hi : i < m.length) (hm : m.length ≤ 1000) (hR : InR 0 3 m) (hl : 2 * m.length ≤ 16 * acc.length) (hz : ∀ q, 2 * i ≤ q → bitN acc q = false) : Ev (fun k => impl_Bits_setField.f k z acc ((2 * i : Nat) : Int) 2 (rd m (i : Int))) (madeL (markG m) 2 (2 * i) acc) := by
  have hr := hR (i : Int) (by omega) (by omega)
  have i0 : wrap64 ((0 : Int) + 1) = 1 := w64 (by omega) (by omega)
  have i1 : wrap64 ((1 : Int) + 1) = 2 := w64 (by omega) (by omega)
  have g0 : markG m (2 * i) = (rd m (i : Int) % 2 == 1) := by
    unfold markG
    rw [if_pos (by omega), show 2 * i / 2 = i by omega]
  have g1 : markG m (2 * i + 1) = decide (2 ≤ rd m (i : Int)) := by
    unfold markG
    rw [if_neg (by omega), show (2 * i + 1) / 2 = i by omega]
  have p0 := impl_setTo_f z hW (p := 2 * i) (by omega) (by omega) (hz _ (by omega)) (rd m (i : Int) % 2 == 1)
  rw [← g0] at p0
  have hW1 : okW (if markG m (2 * i) = true then setV acc ((2 * i : Nat) : Int) else acc) := by
    split
    · exact okW_setV hW (by omega)
    · exact hW
  have hl1 : (if markG m (2 * i) = true then setV acc ((2 * i : Nat) : Int) else acc).length = acc.length := by
    split
    · rw [setV_len]
    · rfl
  have hz1 : bitN (if markG m (2 * i) = true then setV acc ((2 * i : Nat) : Int) else acc) (2 * i + 1) = false := by
    split
    · rw [bit_setV hW (by omega), hz _ (by omega), decide_eq_false (by omega)]; rfl
    · exact hz _ (by omega)
  have p1 := impl_setTo_f z hW1 (p := 2 * i + 1) (by omega) (by omega) hz1 (decide (2 ≤ rd m (i : Int)))
  rw [← g1] at p1
  have hE : madeL (markG m) 2 (2 * i) acc = (if markG m (2 * i + 1) = true then setV (if markG m (2 * i) = true then setV acc ((2 * i : Nat) : Int) else acc) ((2 * i + 1 : Nat) : Int) else (if markG m (2 * i) = true then setV acc ((2 * i : Nat) : Int) else acc)) := rfl
  rw [hE]
  unfold impl_Bits_setField.f
  refine ev_succ ?_
  simp only [impl_Bits_setField.l0]
  rw [bit0 hr.1 hr.2, w64 (x := ((2 * i : Nat) : Int) + 0) (by omega) (by omega), i0, Int.add_zero, ← g0, p0]
  refine ev_pos (by omega) (ev_pos (by omega) (ev_bind _ (Ev.now _) (ev_succ ?_)))
  simp only [impl_Bits_setField.l0]
  rw [bit1 hr.1 hr.2, w64 (x := ((2 * i : Nat) : Int) + 1) (by omega) (by omega), i1, ← g1, show ((2 * i : Nat) : Int) + 1 = ((2 * i + 1 : Nat) : Int) by omega, p1]
  refine ev_pos (by omega) (ev_pos (by omega) (ev_bind _ (Ev.now _) (ev_succ ?_)))
  simp only [impl_Bits_setField.l0]
  exact ev_neg (by omega) (Ev.now _)
theorem fields_l0 (z : Int) {m : List Int} (hm : m.length ≤ 1000) (hR : InR 0 3 m) : ∀ (d i : Nat) (acc : List Int), i + d = m.length → okW acc → 2 * m.length ≤ 16 * acc.length → (∀ q, 2 * i ≤ q → bitN acc q = false) →
    Ev (fun k => impl_fields.l0 k 2 m (m.length : Int) (i : Int) z acc) (z, madeL (markG m) (2 * d) (2 * i) acc) := by
  intro d
  induction d with
  | zero =>
    intro i acc e hW hl hz
    refine ev_succ ?_
    simp only [impl_fields.l0]
    exact ev_neg (by omega) (Ev.now _)
  | succ d ih =>
    intro i acc e hW hl hz
    have h1 := setField_f z (m := m) hW (i := i) (by omega) hm hR hl hz
    obtain ⟨k1, k2⟩ := madeL_ok (markG m) 2 (2 * i) acc hW (by omega)
    have next := ih (i + 1) (madeL (markG m) 2 (2 * i) acc) (by omega) k1 (by rw [madeL_len]; exact hl) (fun q hq => by
      rw [k2, hz q (by omega), decide_eq_false (by omega)]; rfl)
    rw [show 2 * (i + 1) = 2 * i + 2 by omega, ← madeL_add, show 2 + 2 * d = 2 * (d + 1) by omega] at next
    refine ev_succ ?_
    simp only [impl_fields.l0]
    rw [winc (by omega), w64 (x := (i : Int) * 2) (by omega) (by omega), show (i : Int) * 2 = ((2 * i : Nat) : Int) by omega]
    exact ev_pos (by omega) (ev_pos (by omega) (ev_pos (by omega) (ev_bind _ h1 next)))
def packL (m : List Int) : List Int := madeL (markG m) (2 * m.length) 0 (blankV ((2 * m.length : Nat) : Int))
theorem impl_fields_f {m : List Int} (hm : m.length ≤ 1000) (hR : InR 0 3 m) : Ev (fun k => impl_fields.f k m 2) (((2 * m.length : Nat) : Int), packL m) := by
  have hb := blankV_len' (n := ((2 * m.length : Nat) : Int)) (by omega)
  unfold impl_fields.f
  rw [w64 (x := (m.length : Int) * 2) (by omega) (by omega), show (m.length : Int) * 2 = ((2 * m.length : Nat) : Int) by omega, impl_blank_f (by omega) (by omega)]
  exact ev_bind _ (Ev.now _) (fields_l0 _ hm hR m.length 0 (blankV ((2 * m.length : Nat) : Int)) (by omega) (okW_blankV _) (by omega) (fun q _ => bitN_blankV _ q))
theorem packL_bits {m : List Int} (hm : m.length ≤ 1000) : bitsB ((2 * m.length : Nat) : Int) (packL m) = true := bitsB_madeL _ _ _ _ (bitsB_blankV (by omega) (by omega)) (by omega)
theorem packL_len {m : List Int} : ((packL m).length : Int) = (((2 * m.length : Nat) : Int) + 15) / 16 := by
  unfold packL
  rw [madeL_len, blankV_len' (by omega)]
theorem packL_at {m : List Int} {q : Nat} (hq : q < 2 * m.length) : atV (packL m) (q : Int) = markG m q := by
  have hb := blankV_len' (n := ((2 * m.length : Nat) : Int)) (by omega)
  have hl := packL_len (m := m)
  obtain ⟨h1, h2⟩ := madeL_ok (markG m) (2 * m.length) 0 (blankV ((2 * m.length : Nat) : Int)) (okW_blankV _) (by omega)
  have h1' : okW (packL m) := h1
  rw [atV_bit h1' (by omega)]
  unfold packL
  rw [h2 q, bitN_blankV, decide_eq_true (by omega), Bool.false_or, Bool.true_and]
theorem field_f (z : Int) {m : List Int} (hm : m.length ≤ 1000) (hR : InR 0 3 m) {i : Nat} (hi : i < m.length) : Ev (fun k => impl_Bits_field.f k z (packL m) ((2 * i : Nat) : Int) 2) (rd m (i : Int)) := by
  have hr := hR (i : Int) (by omega) (by omega)
  have hl := packL_len (m := m)
  have i0 : wrap64 ((0 : Int) + 1) = 1 := w64 (by omega) (by omega)
  have i1 : wrap64 ((1 : Int) + 1) = 2 := w64 (by omega) (by omega)
  have a0 : impl_Bits_at.f z (packL m) ((2 * i : Nat) : Int) = some (rd m (i : Int) % 2 == 1) := by
    rw [impl_Bits_at_f z _ (by omega) (by omega) (by omega), packL_at (by omega)]
    unfold markG
    rw [if_pos (by omega), show 2 * i / 2 = i by omega]
  have a1 : impl_Bits_at.f z (packL m) ((2 * i + 1 : Nat) : Int) = some (decide (2 ≤ rd m (i : Int))) := by
    rw [impl_Bits_at_f z _ (by omega) (by omega) (by omega), packL_at (by omega)]
    unfold markG
    rw [if_neg (by omega), show (2 * i + 1) / 2 = i by omega]
  have o1 : Go.bits .or .i64 0 (shl .i64 1 0) = 1 := by decide
  have o2 : Go.bits .or .i64 1 (shl .i64 1 1) = 3 := by decide
  have o3 : Go.bits .or .i64 0 (shl .i64 1 1) = 2 := by decide
  have fin : ∀ v : Int, Ev (fun k => impl_Bits_field.l0 k ((2 * i : Nat) : Int) v 2 2 z (packL m)) v := fun v => by
    refine ev_succ ?_
    simp only [impl_Bits_field.l0]
    exact ev_neg (by omega) (Ev.now _)
  have sec : ∀ v r : Int, (if 2 ≤ rd m (i : Int) then Go.bits .or .i64 v (shl .i64 1 1) else v) = r → Ev (fun k => impl_Bits_field.l0 k ((2 * i : Nat) : Int) v 2 1 z (packL m)) r := fun v r hv => by
    refine ev_succ ?_
    simp only [impl_Bits_field.l0]
    rw [w64 (x := ((2 * i : Nat) : Int) + 1) (by omega) (by omega), i1, show ((2 * i : Nat) : Int) + 1 = ((2 * i + 1 : Nat) : Int) by omega, a1]
    refine ev_pos (by omega) (ev_bind _ (Ev.now _) ?_)
    by_cases c : 2 ≤ rd m (i : Int)
    · rw [if_pos c] at hv
      rw [hv]
      exact ev_pos (decide_eq_true c) (ev_pos (by omega) (fin r))
    · rw [if_neg c] at hv
      rw [hv]
      exact ev_neg (by simpa using c) (fin r)
  unfold impl_Bits_field.f
  refine ev_succ ?_
  simp only [impl_Bits_field.l0]
  rw [w64 (x := ((2 * i : Nat) : Int) + 0) (by omega) (by omega), i0, Int.add_zero, a0, o1]
  refine ev_pos (by omega) (ev_bind _ (Ev.now _) ?_)
  by_cases c : rd m (i : Int) % 2 = 1
  · refine ev_pos (by simpa using c) (ev_pos (by omega) (sec 1 _ ?_))
    rw [o2]
    split <;> omega
  · refine ev_neg (by simpa using c) (sec 0 _ ?_)
    rw [o3]
    split <;> omega
theorem unpack_l0 (z a n : Int) {m : List Int} (hm : m.length ≤ 1000) (hR : InR 0 3 m) : ∀ (d i : Nat), i + d = m.length →
    Ev (fun k => impl_UnpackMarks.l0 k (m.length : Int) (i : Int) z (packL m) a n (m.take i)) (a, n, m, true) := by
  intro d
  induction d with
  | zero =>
    intro i hi
    refine ev_succ ?_
    simp only [impl_UnpackMarks.l0]
    rw [List.take_of_length_le (by omega)]
    exact ev_neg (by omega) (Ev.now _)
  | succ d ih =>
    intro i hi
    have next := ih (i + 1) (by omega)
    rw [List.take_succ_eq_append_getElem (by omega), ← rd_get (xs := m) (i := i) (by omega)] at next
    refine ev_succ ?_
    simp only [impl_UnpackMarks.l0]
    rw [winc (by omega), w64 (x := (i : Int) * 2) (by omega) (by omega), show (i : Int) * 2 = ((2 * i : Nat) : Int) by omega]
    exact ev_pos (by omega) (ev_bind _ (field_f z hm hR (by omega)) (ev_pos (by rw [List.length_take]; omega) next))
theorem impl_PackMarks_f {a n : Int} {m : List Int} (h : isPeeledB a n m = true) (hm : m.length ≤ 1000) : Ev (fun k => impl_PackMarks.f k a n m) (((2 * m.length : Nat) : Int), packL m, true) := by
  have hR : InR 0 3 m := (isPeeledB_ok h).2.2.2
  have e0 := impl_IsPeeled_f a n m (by omega)
  rw [h] at e0
  unfold impl_PackMarks.f
  exact ev_bind _ e0 (ev_pos rfl (ev_bind _ (impl_fields_f hm hR) (Ev.now _)))
theorem impl_UnpackMarks_f {a n : Int} {m : List Int} (h : isPeeledB a n m = true) (hm : m.length ≤ 1000) : Ev (fun k => impl_UnpackMarks.f k a n ((2 * m.length : Nat) : Int) (packL m)) (a, n, m, true) := by
  obtain ⟨ha, hn, hlen, hR⟩ := isPeeledB_ok h
  have eb := impl_IsBits_f ((2 * m.length : Nat) : Int) (packL m)
  rw [packL_bits hm] at eb
  have := unpack_l0 ((2 * m.length : Nat) : Int) a n hm hR m.length 0 (by omega)
  unfold impl_UnpackMarks.f
  rw [impl_isSeedP_f, impl_segmentOk_f]
  refine ev_bind _ eb (ev_pos rfl (ev_bind _ (Ev.now _) (ev_pos (decide_eq_true ha) (ev_bind _ (Ev.now _) (ev_pos (decide_eq_true hn) (ev_succ ?_))))))
  simp only [impl_UnpackMarks.j0]
  rw [w64 (x := 3 * n) (by omega) (by omega), w64 (by omega) (by omega), ← hlen]
  exact ev_neg (by simp; omega) this
end Go.Proofs.YtmehagedoaopeaaGreatQ
namespace Go.Proofs.YtmehagedoaopeaaGreatQ
open Go Go.RowKit Go.Proofs.YtmehagedoaopeaaGreatW.PrintWords Go.Proofs.YtmehagedoaopeaaGreatGp Go.Proofs.YtmehagedoaopeaaGreat.PZ

end Go.Proofs.YtmehagedoaopeaaGreatQ
namespace Go.Proofs.YtmehagedoaopeaaGreatQ
open Go Go.RowKit Go.Proofs.YtmehagedoaopeaaGreatW.PrintWords Go.Proofs.YtmehagedoaopeaaGreatGp Go.Proofs.YtmehagedoaopeaaGreat.PZ

namespace LW
theorem has_l0 (x0 : List Int) (a : Int) (hl : (x0.length : Int) ≤ 9223372036854775806) : ∀ (t pre : List Int), x0 = pre ++ t →
    Ev (fun k => laws_pHas.l0 k a x0 (x0.length : Int) (pre.length : Int)) (t.contains a) := by
  intro t
  induction t with
  | nil =>
    intro pre h
    refine ev_succ ?_
    simp only [laws_pHas.l0]
    exact ev_neg (by rw [h]; exact not_lt_end) (ev_some (by simp))
  | cons x t ih =>
    intro pre h
    have hm : ((pre.length : Nat) : Int) < (x0.length : Int) := by rw [h]; exact lt_mid
    have hg : rd x0 (pre.length : Int) = x := by rw [h]; exact rd_mid
    refine ev_succ ?_
    simp only [laws_pHas.l0, hg]
    refine ev_pos hm (ev_pos (by omega) (ev_pos hm ?_))
    by_cases c : x = a
    · exact ev_pos c (ev_some (by simp [c]))
    · refine ev_neg c ?_
      rw [winc (by omega)]
      have := ih (pre ++ [x]) (by rw [h]; simp)
      rw [len_one] at this
      have e : (x :: t).contains a = t.contains a := by simp [Ne.symm c]
      rw [e]
      exact this
theorem has_f (l : List Int) (a : Int) (hl : (l.length : Int) ≤ 9223372036854775806) : Ev (fun k => laws_pHas.f k l a) (l.contains a) := by
  unfold laws_pHas.f
  exact has_l0 l a hl l [] rfl
theorem once_l0 {l : List Int} {n : Nat} (hn : n ≤ 1000) (hl : l.length ≤ 1000) (h : ∀ i : Nat, i < n → (i : Int) ∈ l) : ∀ (d i : Nat), i + d = n →
    Ev (fun k => laws_pAllOnce.l0 k l (n : Int) (i : Int)) true := by
  intro d
  induction d with
  | zero =>
    intro i hi
    refine ev_succ ?_
    simp only [laws_pAllOnce.l0]
    exact ev_neg (by omega) (Ev.now _)
  | succ d ih =>
    intro i hi
    refine ev_succ ?_
    simp only [laws_pAllOnce.l0]
    rw [winc (by omega)]
    exact ev_pos (by omega) (ev_bind _ (has_f l _ (by omega)) (ev_pos (by rw [List.contains_iff_mem]; exact h i (by omega)) (ih (i + 1) (by omega))))
theorem once_f {l : List Int} {n : Nat} (hn : n ≤ 1000) (hl : l.length = n) (h : ∀ i : Nat, i < n → (i : Int) ∈ l) : Ev (fun k => laws_pAllOnce.f k l (n : Int)) true := by
  unfold laws_pAllOnce.f
  exact ev_pos (by omega) (once_l0 hn (by omega) h n 0 (by omega))
theorem same_l0 (x0 y0 : List Int) (hl : (x0.length : Int) ≤ 9223372036854775806) (hy : y0.length = x0.length) : ∀ (t pre u pru : List Int), x0 = pre ++ t → y0 = pru ++ u → pru.length = pre.length →
    Ev (fun k => laws_pSameInts.l0 k x0 y0 (x0.length : Int) (pre.length : Int)) (decide (t = u)) := by
  intro t
  induction t with
  | nil =>
    intro pre u pru h h2 hp
    have : u = [] := by
      have e1 : y0.length = pru.length + u.length := by rw [h2]; simp
      have e2 : x0.length = pre.length := by rw [h]; simp
      exact List.length_eq_zero_iff.1 (by omega)
    subst this
    refine ev_succ ?_
    simp only [laws_pSameInts.l0]
    exact ev_neg (by rw [h]; exact not_lt_end) (ev_some (by simp))
  | cons x t ih =>
    intro pre u pru h h2 hp
    have hm : ((pre.length : Nat) : Int) < (x0.length : Int) := by rw [h]; exact lt_mid
    have hg : rd x0 (pre.length : Int) = x := by rw [h]; exact rd_mid
    cases u with
    | nil =>
      have e1 : y0.length = pru.length := by rw [h2]; simp
      omega
    | cons y u =>
      have hg2 : rd y0 (pre.length : Int) = y := by rw [h2, ← hp]; exact rd_mid
      refine ev_succ ?_
      simp only [laws_pSameInts.l0, hg, hg2]
      by_cases c : x = y
      · subst c
        have := ih (pre ++ [x]) u (pru ++ [x]) (by rw [h]; simp) (by rw [h2]; simp) (by simp [hp])
        rw [len_one] at this
        rw [show decide (x :: t = x :: u) = decide (t = u) from by simp, winc (by omega)]
        exact ev_pos hm (ev_pos (by omega) (ev_pos hm (ev_pos (by omega) (ev_pos rfl this))))
      · rw [decide_eq_false (fun e => c (List.cons.inj e).1)]
        exact ev_pos hm (ev_pos (by omega) (ev_pos hm (ev_pos (by omega) (ev_neg c (Ev.now _)))))
theorem same_f (l l' : List Int) (hl : (l.length : Int) ≤ 9223372036854775806) (h : l'.length = l.length) : Ev (fun k => laws_pSameInts.f k l l') (decide (l = l')) := by
  unfold laws_pSameInts.f
  exact ev_pos (by omega) (same_l0 l l' hl h l [] l' [] rfl rfl rfl)
end LW
end Go.Proofs.YtmehagedoaopeaaGreatQ
namespace Go.Proofs.YtmehagedoaopeaaGreat.Pure
open Go Go.RowKit Go.Proofs.YtmehagedoaopeaaGreatW.PrintWords Go.Proofs.YtmehagedoaopeaaGreatW.PrintMore Go.Proofs.YtmehagedoaopeaaGreatGp Go.Proofs.YtmehagedoaopeaaGreat.PZ Go.Proofs.YtmehagedoaopeaaGreatQ

theorem DrawBuildPeeled_ok {s : List Int} (hs : Bys s) : ∃ a l n, Ev (fun k => spec_DrawBuildPeeled.f k s) (a, l, n) ∧ Kys 42 l := by
  obtain ⟨ks, p1, sd1, e1, hk, q0, q1⟩ := anyKeys_ok hs 0 (p := 0) (n := 10) (by omega) (by omega) (by omega)
  obtain ⟨b, p2, sd2, e2, r0, r1⟩ := one_ok hs sd1 2 q0 (by omega)
  have hl := hk.1
  unfold spec_DrawBuildPeeled.f
  by_cases c : b = true
  · obtain ⟨a, p3, sd3, e3, _, t0, t1⟩ := pick_ok hs sd2 (n := 20) r0 (by omega)
    have e4 : ∃ v, spec_l1Clip.f (ks.length : Int) 22 = some v := by
      unfold spec_l1Clip.f spec_l1Least.f spec_l1Most.f
      by_cases d : (ks.length : Int) < 22
      · rw [if_pos d, Option.bind_some, if_neg (by omega)]; exact ⟨_, rfl⟩
      · rw [if_neg d, Option.bind_some, if_neg (by omega)]; exact ⟨_, rfl⟩
    obtain ⟨v, e4⟩ := e4
    refine ⟨a, ks, wrap64 (v + 1), ev_bind _ e1 ?_, hk⟩
    rw [e2]
    refine ev_bind _ (Ev.now _) (ev_pos c ?_)
    rw [e3]
    refine ev_bind _ (Ev.now _) ?_
    rw [e4]
    exact ev_bind _ (Ev.now _) (Ev.now _)
  · obtain ⟨a, p3, sd3, e3, _, t0, t1⟩ := seed9_ok hs sd2 r0 (by omega)
    obtain ⟨n, p4, sd4, e4, _, u0, u1⟩ := segment_ok hs sd3 t0 (by omega)
    refine ⟨a, ks, n, ev_bind _ e1 ?_, hk⟩
    rw [e2]
    refine ev_bind _ (Ev.now _) (ev_neg c ?_)
    rw [e3]
    refine ev_bind _ (Ev.now _) ?_
    rw [e4]
    exact ev_bind _ (Ev.now _) (Ev.now _)
theorem same_l0 (x0 : List Int) (hl : (x0.length : Int) ≤ 9223372036854775806) : ∀ (t pre : List Int), x0 = pre ++ t →
    Ev (fun k => laws_pSameInts.l0 k x0 x0 (x0.length : Int) (pre.length : Int)) true := by
  intro t
  induction t with
  | nil =>
    intro pre h
    refine ev_succ ?_
    simp only [laws_pSameInts.l0]
    exact ev_neg (by rw [h]; exact not_lt_end) (Ev.now _)
  | cons x t ih =>
    intro pre h
    have hm : ((pre.length : Nat) : Int) < (x0.length : Int) := by rw [h]; exact lt_mid
    refine ev_succ ?_
    simp only [laws_pSameInts.l0]
    refine ev_pos hm (ev_pos (by omega) (ev_pos hm (ev_pos hm (ev_pos trivial ?_))))
    rw [winc (by omega)]
    have := ih (pre ++ [x]) (by rw [h]; simp)
    rw [len_one] at this
    exact this
theorem same_f (a n : Int) (l : List Int) (hl : (l.length : Int) ≤ 9223372036854775806) : Ev (fun k => laws_pSamePeeled.f k a n l a n l) true := by
  unfold laws_pSamePeeled.f laws_pSameInts.f
  exact ev_pos rfl (ev_pos rfl (ev_bind _ (ev_pos rfl (same_l0 l hl l [] rfl)) (Ev.now _)))
section
variable {a0 n : Int} {l : List ByteArray}
theorem per_l0 (c : keyedB a0 l n = true) (hp : peelsB a0 l n = true) {S B : List Int} (er : Ev (fun k => impl_ranked.f k ((markV a0 n l).length : Int) (usedL (markV a0 n l))) (((markV a0 n l).length : Int), usedL (markV a0 n l), S, B)) (hS : S.length ≤ 100000) (hB : B.length ≤ 100000) (P : Int) : ∀ (d i : Nat), i + d = l.length →
    Ev (fun k => laws_FnPeeledIsPerfect.l0 k a0 l n ((rksL a0 n l).take i) l (l.length : Int) (i : Int) a0 n (markV a0 n l) P (hypE a0 n l) ((markV a0 n l).length : Int) (usedL (markV a0 n l)) S B) true := by
  obtain ⟨ha, hk, h0, h1⟩ := keyedB_ok c
  have hsm := keys_small hk
  have hlen : (markV a0 n l).length = (3 * n).toNat := markV_len
  have hm : (markV a0 n l).length ≤ 1000 := by omega
  have hrl : (rksL a0 n l).length = l.length := by simp [rksL]
  have hpe := markV_peeled c
  intro d
  induction d with
  | zero =>
    intro i hi
    have hon := LW.once_f (l := rksL a0 n l) (n := l.length) (by omega) hrl (fun r hr => by
      obtain ⟨j, hj, e⟩ := rk_onto (a0 := a0) h0 h1 hp hr
      exact List.mem_map.2 ⟨l[j], List.getElem_mem hj, by rw [e]⟩)
    refine ev_succ ?_
    simp only [laws_FnPeeledIsPerfect.l0]
    rw [List.take_of_length_le (by omega)]
    exact ev_neg (by omega) (ev_bind _ (impl_PackMarks_f hpe hm) (ev_bind _ (impl_UnpackMarks_f hpe hm) (ev_pos rfl (ev_pos rfl (ev_bind _ (same_f a0 n (markV a0 n l) (by omega)) (ev_pos rfl (ev_bind _ hon (Ev.now _))))))))
  | succ d ih =>
    intro i hi
    have hi' : i < l.length := by omega
    have hsz := hsm.2 l[i] (List.getElem_mem hi')
    have hkk := areKeysB_all hk _ (List.getElem_mem hi')
    have e1 := impl_PeeledPlace_f (a := a0) (n := n) (m := markV a0 n l) (s := l[i]) hm (by omega)
    rw [if_pos ⟨hpe, hkk⟩] at e1
    have e2 := impl_PeeledIndex_f (a := a0) (n := n) (m := markV a0 n l) (s := l[i]) hm (by omega)
    have hv : indexV a0 n (markV a0 n l) l[i] = indexP a0 n (markV a0 n l) l[i] := if_pos ⟨hpe, hkk⟩
    rw [hv, rk_index h0 h1 hp hi'] at e2
    obtain ⟨p0, p1, p2, _⟩ := place_facts (a0 := a0) h0 h1 hp hi'
    have hbit := usedL_bits hm
    have hq : (((placeP a0 n (markV a0 n l) l[i]).toNat : Nat) : Int) = placeP a0 n (markV a0 n l) l[i] := by omega
    have erk := impl_Rank1_f (by omega) hbit er hS hB (i := (placeP a0 n (markV a0 n l) l[i]).toNat) (by omega)
    rw [hq, cnt_used' hm (by omega)] at erk
    have hmem := placeP_mem (a := a0) (n := n) (m := markV a0 n l) (s := l[i]) hpe
    obtain ⟨x, y, z, e, ee, _⟩ := hyp_edge a0 h0 h1 hi'
    have hin : (tripL a0 l[i] n 3 0).contains (placeP a0 n (markV a0 n l) l[i]) = true := by simpa using hmem
    have ehas := LW.has_f (tripL a0 l[i] n 3 0) (placeP a0 n (markV a0 n l) l[i]) (by simp [tripL])
    rw [hin] at ehas
    have next := ih (i + 1) (by omega)
    have hT : (rksL a0 n l).take (i + 1) = (rksL a0 n l).take i ++ [((rkK a0 n l l[i] : Nat) : Int)] := by
      rw [List.take_succ_eq_append_getElem (by omega)]
      simp only [rksL, List.getElem_map]
    rw [hT] at next
    refine ev_succ ?_
    simp only [laws_FnPeeledIsPerfect.l0, rd_edge]
    rw [rdOf_get hi', winc (by omega), ee]
    exact ev_pos (by omega) (ev_pos (by omega) (ev_pos (by omega) (ev_bind _ e1 (ev_bind _ e2 (ev_bind _ erk (ev_pos rfl (ev_pos rfl (ev_pos rfl (ev_pos rfl (ev_pos (by rw [hypE_len]; omega) (ev_bind _ ehas (ev_pos rfl (ev_pos (by rw [List.length_take]; omega) next)))))))))))))
end
theorem FnPeeledIsPerfect : laws_FnPeeledIsPerfect.Pure := by
  intro l0 l1 h0 _ hw0 h1 _ _
  refine Ev.rounds (r := true) ?_
  unfold laws_FnPeeledIsPerfect.f
  obtain ⟨b, eb, hb⟩ := big_f h0 h1
  rw [eb]
  refine ev_bind _ (Ev.now _) ?_
  by_cases c : b = true
  · exact ev_pos c (Ev.now _)
  obtain ⟨g0, _⟩ := hb (by simpa using c)
  have hs := bys g0 hw0
  obtain ⟨a, l, n, ed, hk⟩ := DrawBuildPeeled_ok hs
  have hl : l.length ≤ 1000 := by have := hk.1; omega
  have hz : ∀ s ∈ l, s.size ≤ 1000 := fun s h => by have := hk.2 s h; omega
  refine ev_neg c (ev_bind _ ed (ev_bind _ (impl_BuildPeeled_f a n hl hz) (ev_bind _ (spec_BuildPeeled_f a n hl hz) (ev_neg (by simp) ?_))))
  have hsame : Ev (fun k => laws_pSamePeeled.f k (buildP a n l).1 (buildP a n l).2.1 (buildP a n l).2.2.1 (buildP a n l).1 (buildP a n l).2.1 (buildP a n l).2.2.1) true := same_f _ _ _ (by
    unfold buildP
    split
    · rename_i h
      have := (keyedB_ok h.1).2.2
      have hv : (markV a n l).length = (3 * n).toNat := markV_len
      simp only []
      omega
    · simp)
  refine ev_bind _ hsame (ev_succ ?_)
  simp only [laws_FnPeeledIsPerfect.j0]
  have hh := impl_HyperOf_v a n hl hz
  by_cases ck : keyedB a l n = true
  · obtain ⟨ha, hkk, h0', h1'⟩ := keyedB_ok ck
    have hl40 := (keys_small hkk).1
    rw [if_pos ck] at hh
    obtain ⟨st, ep⟩ := impl_PeelOrder_f (hyp_good a h0' h1' hl40)
    refine ev_neg (by simp) (ev_bind _ hh (ev_bind _ ep (ev_pos rfl (ev_succ ?_))))
    simp only [laws_FnPeeledIsPerfect.j1]
    by_cases cp : peelsB a l n = true
    · have cp' : ((coreE (3 * n).toNat (hypE a n l)).length == 0) = true := cp
      rw [buildP_pos ⟨ck, cp⟩, cp']
      have hlen : (markV a n l).length = (3 * n).toNat := markV_len
      obtain ⟨S, B, eu, er, hS, hB⟩ := impl_UsedOf_f (markV_peeled ck) (by omega : (markV a n l).length ≤ 1000)
      refine ev_neg (by simp) (ev_pos rfl (ev_bind _ eu (ev_bind _ (impl_IsPeeledFor_f ck cp) (ev_pos rfl (ev_pos rfl (ev_succ ?_))))))
      simp only [laws_FnPeeledIsPerfect.j2]
      exact ev_neg (by simp) (per_l0 ck cp er hS hB (3 * n) l.length 0 (by omega))
    · have cp' : ((coreE (3 * n).toNat (hypE a n l)).length == 0) = false := by simpa [peelsB] using cp
      rw [buildP_neg (fun h => cp h.2), cp']
      exact ev_neg (by simp) (ev_neg (by simp) (Ev.now _))
  · rw [if_neg ck] at hh
    rw [buildP_neg (fun h => ck h.1)]
    have ep : ∃ r, Ev (fun k => impl_PeelOrder.f k 0 []) r := by
      by_cases g : goodB 0 [] = true
      · obtain ⟨st, ep⟩ := impl_PeelOrder_f g
        exact ⟨_, ep⟩
      · have eh := impl_IsHyper_f 0 [] (by simp)
        rw [Bool.eq_false_iff.2 g] at eh
        refine ⟨([], false), ?_⟩
        unfold impl_PeelOrder.f
        exact ev_bind _ eh (ev_neg (by simp) (Ev.now _))
    obtain ⟨r, ep⟩ := ep
    refine ev_neg (by simp) (ev_bind _ hh (ev_bind _ ep (ev_neg (by simp) (ev_succ ?_))))
    simp only [laws_FnPeeledIsPerfect.j1]
    exact ev_neg (by simp) (ev_neg (by simp) (Ev.now _))
end Go.Proofs.YtmehagedoaopeaaGreat.Pure
