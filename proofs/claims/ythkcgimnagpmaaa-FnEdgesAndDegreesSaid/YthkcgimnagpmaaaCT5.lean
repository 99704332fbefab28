import Derived.Test.YthkcgimnagpmaaaCT4
import Derived.Test.YthkcgimnagpmaaaCT1
import Derived.Test.YthkcgimnagpmaaaCT3
namespace Go.Proofs.YthkcgimnagpmaaaQ
open Go Go.RowKit Go.Proofs.YthkcgimnagpmaaaW.PrintWords

def castL (L : List Nat) : List Int := L.map Int.ofNat
theorem castL_len (L : List Nat) : (castL L).length = L.length := by simp [castL]
theorem castL_app (L M : List Nat) : castL (L ++ M) = castL L ++ castL M := by simp [castL]
theorem mem_castL {L : List Nat} {i : Nat} : (i : Int) ∈ castL L ↔ i ∈ L := by
  simp only [castL, List.mem_map]
  constructor
  · rintro ⟨a, h, e⟩
    exact (Int.ofNat.inj e) ▸ h
  · exact fun h => ⟨i, h, rfl⟩

def cntL (ps : List Int) (m : Nat) : List Int := (List.range m).map fun i => ((ps.count (Int.ofNat i) : Nat) : Int)
theorem cntL_len (ps : List Int) (m : Nat) : (cntL ps m).length = m := by simp [cntL]
theorem cntL_get (ps : List Int) {m i : Nat} (h : i < m) : (cntL ps m)[i]'(by rw [cntL_len]; exact h) = ((ps.count (Int.ofNat i) : Nat) : Int) := by simp [cntL]
theorem cntL_rd (ps : List Int) {m : Nat} {p : Int} (h0 : 0 ≤ p) (h1 : p < (m : Int)) : rd (cntL ps m) p = ((ps.count p : Nat) : Int) := by
  have hlt : p.toNat < (cntL ps m).length := by rw [cntL_len]; omega
  unfold rd
  rw [List.getD_eq_getElem?_getD, List.getElem?_eq_getElem hlt, Option.getD_some, cntL_get _ (by omega), show Int.ofNat p.toNat = p from by simp; omega]
theorem cntL_nil (m : Nat) : cntL [] m = List.replicate m 0 := by
  apply List.ext_getElem
  · simp [cntL]
  · intro i h1 h2
    simp [cntL]
theorem cntL_set (ps : List Int) {m : Nat} {p : Int} (h0 : 0 ≤ p) : (cntL ps m).set p.toNat (((ps.count p : Nat) : Int) + 1) = cntL (ps ++ [p]) m := by
  apply List.ext_getElem
  · simp [cntL]
  · intro i g1 g2
    rw [List.getElem_set]
    simp only [cntL, List.getElem_map, List.getElem_range, List.count_append]
    by_cases c : p.toNat = i
    · rw [if_pos c]
      have : Int.ofNat i = p := by simp; omega
      rw [this]; simp
    · rw [if_neg c]
      have : ¬ p = (i : Int) := by omega
      simp [this]
def plsL (E : Edges) (L : List Nat) : List Int := L.flatMap (edg E)
theorem degOf_pls (E : Edges) (L : List Nat) (p : Int) : (plsL E L).count p = degOf E L p := by
  induction L with
  | nil => rfl
  | cons i L ih => rw [degOf_cons, plsL, List.flatMap_cons, List.count_append, ← ih, plsL]
structure GoodH (P : Nat) (E : Edges) : Prop where
  rng : goodE P E
  len : E.length ≤ 1000
  row : ∀ e ∈ E, e.length ≤ 3
  plc : P ≤ 1000
theorem GoodH.edge {P : Nat} {E : Edges} (h : GoodH P E) (i : Nat) : (edg E i).length ≤ 3 ∧ ∀ p ∈ edg E i, 0 ≤ p ∧ p < (P : Int) := by
  unfold edg
  by_cases c : i < E.length
  · rw [List.getD_eq_getElem?_getD, List.getElem?_eq_getElem c, Option.getD_some]
    exact ⟨h.row _ (List.getElem_mem c), h.rng _ (List.getElem_mem c)⟩
  · rw [List.getD_eq_getElem?_getD, List.getElem?_eq_none (by omega)]
    simp
theorem plsL_len {P : Nat} {E : Edges} (h : GoodH P E) (L : List Nat) : (plsL E L).length ≤ 3 * L.length := by
  induction L with
  | nil => simp [plsL]
  | cons i L ih =>
    have := (h.edge i).1
    simp only [plsL, List.flatMap_cons, List.length_append, List.length_cons] at ih ⊢
    omega
theorem count_le_len (l : List Int) (p : Int) : l.count p ≤ l.length := List.count_le_length

def freeUp (ps : List Int) (i : Nat) : List Int := ((List.range i).map Int.ofNat).filter fun p => ps.count p == 1
theorem freeUp_succ (ps : List Int) (i : Nat) : freeUp ps (i + 1) = if ps.count (i : Int) = 1 then freeUp ps i ++ [(i : Int)] else freeUp ps i := by
  unfold freeUp
  rw [List.range_succ, List.map_append, List.filter_append]
  by_cases c : ps.count (i : Int) = 1
  · rw [if_pos c]; simp [c]
  · rw [if_neg c]; simp [c]
theorem freeUp_len (ps : List Int) (i : Nat) : (freeUp ps i).length ≤ i := by
  unfold freeUp
  refine Nat.le_trans (List.length_filter_le _ _) (by simp)
theorem freeL_up (P : Nat) (E : Edges) (L : List Nat) : freeUp (plsL E L) P = freeL P E L := by
  unfold freeUp freeL placesL
  refine List.filter_congr fun p _ => ?_
  rw [degOf_pls]
def Rg (n : Nat) (L : List Nat) : Prop := L.Sublist (List.range n)
theorem Rg.lt {n : Nat} {L : List Nat} (h : Rg n L) {i : Nat} (hi : i ∈ L) : i < n := List.mem_range.1 (h.subset hi)
theorem Rg.nodup {n : Nat} {L : List Nat} (h : Rg n L) : L.Nodup := List.Sublist.nodup h List.nodup_range
theorem Rg.len {n : Nat} {L : List Nat} (h : Rg n L) : L.length ≤ n := by
  have := List.Sublist.length_le h
  simpa using this
theorem Rg.drop {n : Nat} {L : List Nat} (h : Rg n L) (i : Nat) : Rg n (dropE L i) := (dropE_sub L i).trans h
theorem Rg.all (n : Nat) : Rg n (List.range n) := List.Sublist.refl _
theorem sub_filter : ∀ {L M : List Nat}, L.Sublist M → M.Nodup → M.filter (fun i => L.contains i) = L := by
  intro L M h
  induction h with
  | slnil => intro _; rfl
  | @cons L M a hs ih =>
    intro hn
    rw [List.nodup_cons] at hn
    have : ¬ a ∈ L := fun c => hn.1 (hs.subset c)
    rw [List.filter_cons_of_neg (by simpa using this)]
    exact ih hn.2
  | @cons_cons L M a hs ih =>
    intro hn
    rw [List.nodup_cons] at hn
    rw [List.filter_cons_of_pos (by simp)]
    congr 1
    rw [← ih hn.2]
    refine List.filter_congr fun x hx => ?_
    have : ¬ x = a := fun e => hn.1 (e ▸ hx)
    rw [ih hn.2, Bool.eq_iff_iff]
    simp [this]
theorem Rg.filter {n : Nat} {L : List Nat} (h : Rg n L) : (List.range n).filter (fun i => L.contains i) = L := sub_filter h List.nodup_range
def upTo (L : List Nat) (i : Nat) : List Nat := (List.range i).filter fun j => L.contains j
theorem upTo_succ (L : List Nat) (i : Nat) : upTo L (i + 1) = if i ∈ L then upTo L i ++ [i] else upTo L i := by
  unfold upTo
  rw [List.range_succ, List.filter_append]
  by_cases c : i ∈ L
  · rw [if_pos c]; simp [c]
  · rw [if_neg c]; simp [c]
theorem upTo_all {n : Nat} {L : List Nat} (h : Rg n L) : upTo L n = L := h.filter
theorem upTo_len (L : List Nat) (i : Nat) : (upTo L i).length ≤ i := Nat.le_trans (List.length_filter_le _ _) (by simp)
def goneOf (n : Nat) (L : List Nat) : List Bool := (List.range n).map fun i => !(L.contains i)
theorem goneOf_len (n : Nat) (L : List Nat) : (goneOf n L).length = n := by simp [goneOf]
theorem goneOf_rd {n : Nat} {L : List Nat} {i : Nat} (h : i < n) : rdOf false (goneOf n L) (i : Int) = !(L.contains i) := by
  simp [rdOf, goneOf, h]
theorem goneOf_all (n : Nat) : goneOf n (List.range n) = List.replicate n false := by
  apply List.ext_getElem
  · simp [goneOf]
  · intro i h1 h2
    simp [goneOf] at h1 ⊢
    exact h1
theorem goneOf_set {n : Nat} {L : List Nat} {i : Nat} : (goneOf n L).set i true = goneOf n (dropE L i) := by
  apply List.ext_getElem
  · simp [goneOf]
  · intro j h1 h2
    rw [List.getElem_set]
    simp only [goneOf, List.getElem_map, List.getElem_range]
    by_cases c : i = j
    · rw [if_pos c]; subst c; simp [dropE]
    · rw [if_neg c, Bool.eq_iff_iff]
      simp [dropE, Ne.symm c]
theorem withE_least {E : Edges} {p : Int} : ∀ {L : List Nat} {j : Nat}, L.Pairwise (· < ·) → withE E L p = some j → ∀ k ∈ L, k < j → ¬ p ∈ edg E k
  | [], j, _, h, _, hk, _ => by cases hk
  | x :: L, j, hp, h, k, hk, hkj => by
    rw [List.pairwise_cons] at hp
    unfold withE at h
    rw [List.find?_cons] at h
    by_cases c : (edg E x).contains p = true
    · rw [c] at h
      obtain rfl := Option.some.inj h
      rcases List.mem_cons.1 hk with rfl | hk
      · omega
      · have := hp.1 k hk; omega
    · rw [Bool.eq_false_iff.2 c] at h
      rcases List.mem_cons.1 hk with rfl | hk
      · simpa using c
      · exact withE_least hp.2 h k hk hkj
theorem Rg.sorted {n : Nat} {L : List Nat} (h : Rg n L) : L.Pairwise (· < ·) := List.Pairwise.sublist h List.pairwise_lt_range
end Go.Proofs.YthkcgimnagpmaaaQ
namespace Go.Proofs.YthkcgimnagpmaaaQ
open Go Go.RowKit Go.Proofs.YthkcgimnagpmaaaW.PrintWords Go.Proofs.YthkcgimnagpmaaaGp Go.Proofs.Ythkcgimnagpmaaa.PT

theorem rd_edg (E : Edges) (i : Nat) : rd_L2 E (i : Int) = edg E i := rfl
theorem wcount {c : Nat} (h : c ≤ 1000000) : wrap64 ((c : Int) + 1) = (c : Int) + 1 := w64 (by omega) (by omega)
theorem impl_degrees_l1 {P : Nat} {E : Edges} {G : List Bool} {n : Int} {r : List Int} {i : Nat} (e : List Int) (hi : (i : Int) < 9223372036854775806) (he : (e.length : Int) ≤ 9223372036854775806) (hr : ∀ p ∈ e, 0 ≤ p ∧ p < (P : Int)) (ps : List Int) (hps : ps.length + e.length ≤ 1000000)
    (H : Ev (fun k => impl_Hyper_degrees.l0 k G (cntL (ps ++ e) P) E n ((i + 1 : Nat) : Int)) r) : ∀ (t pre : List Int), e = pre ++ t →
    Ev (fun k => impl_Hyper_degrees.l1 k G (cntL (ps ++ pre) P) E n (i : Int) e (e.length : Int) (pre.length : Int)) r := by
  intro t
  induction t with
  | nil =>
    intro pre h
    have hp : e = pre := by rw [h, List.append_nil]
    subst hp
    refine ev_succ ?_
    simp only [impl_Hyper_degrees.l1]
    refine ev_neg (by omega) ?_
    rw [winc (by omega)]
    exact H
  | cons x t ih =>
    intro pre h
    have hm : ((pre.length : Nat) : Int) < (e.length : Int) := by rw [h]; exact lt_mid
    have hg : rd e (pre.length : Int) = x := by rw [h]; exact rd_mid
    obtain ⟨x0, x1⟩ := hr x (by rw [h]; simp)
    have hc := count_le_len (ps ++ pre) x
    have hl : e.length = pre.length + (t.length + 1) := by rw [h]; simp
    rw [List.length_append] at hc
    refine ev_succ ?_
    simp only [impl_Hyper_degrees.l1, hg]
    refine ev_pos hm (ev_pos (by omega) (ev_pos hm (ev_pos x0 (ev_pos (by rw [cntL_len]; exact x1) ?_))))
    rw [winc (by omega), cntL_rd _ x0 x1, wcount (by omega), cntL_set _ x0, List.append_assoc]
    have := ih (pre ++ [x]) (by rw [h]; simp)
    rw [len_one] at this
    exact this
theorem impl_degrees_l0 {P : Nat} {E : Edges} (hG : GoodH P E) {L : List Nat} (hL : Rg E.length L) : ∀ (d i : Nat), i + d = E.length →
    Ev (fun k => impl_Hyper_degrees.l0 k (goneOf E.length L) (cntL (plsL E (upTo L i)) P) E (E.length : Int) (i : Int)) (cntL (plsL E L) P) := by
  intro d
  have hn := hG.len
  induction d with
  | zero =>
    intro i h
    have hi : i = E.length := by omega
    refine ev_succ ?_
    simp only [impl_Hyper_degrees.l0]
    refine ev_neg (by omega) (ev_some ?_)
    rw [hi, upTo_all hL]
  | succ d ih =>
    intro i h
    have next := ih (i + 1) (by omega)
    rw [upTo_succ] at next
    refine ev_succ ?_
    simp only [impl_Hyper_degrees.l0]
    refine ev_pos (by omega) (ev_pos (by omega) (ev_pos (by omega) (ev_pos (by rw [goneOf_len]; omega) ?_)))
    rw [goneOf_rd (by omega)]
    by_cases c : i ∈ L
    · rw [if_pos c] at next
      refine ev_neg (by simp [c]) ?_
      rw [rd_edg]
      have hb := plsL_len hG (upTo L i)
      have hu := upTo_len L i
      obtain ⟨he, hr⟩ := hG.edge i
      have hpe : plsL E (upTo L i ++ [i]) = plsL E (upTo L i) ++ edg E i := by simp [plsL]
      rw [hpe] at next
      have := impl_degrees_l1 (P := P) (E := E) (G := goneOf E.length L) (n := (E.length : Int)) (edg E i) (by omega) (by omega) hr (plsL E (upTo L i)) (by omega) next (edg E i) [] rfl
      rw [List.append_nil] at this
      exact this
    · rw [if_neg c] at next
      refine ev_pos (by simp [c]) ?_
      rw [winc (by omega)]
      exact next
theorem impl_degrees_f {P : Nat} {E : Edges} (hG : GoodH P E) {L : List Nat} (hL : Rg E.length L) : Ev (fun k => impl_Hyper_degrees.f k (P : Int) E (goneOf E.length L)) (cntL (plsL E L) P) := by
  have hp := hG.plc
  unfold impl_Hyper_degrees.f
  refine ev_pos (by omega) (ev_pos (by omega) ?_)
  have := impl_degrees_l0 hG hL E.length 0 (by omega)
  rw [show plsL E (upTo L 0) = [] from rfl, cntL_nil] at this
  exact this
theorem impl_singles_l0 {P : Nat} (ps : List Int) (hP : P ≤ 1000) : ∀ (d i : Nat), i + d = P →
    Ev (fun k => impl_Hyper_singles.l0 k (freeUp ps i) (cntL ps P) (P : Int) (i : Int)) (freeUp ps P) := by
  intro d
  induction d with
  | zero =>
    intro i h
    have hi : i = P := by omega
    refine ev_succ ?_
    simp only [impl_Hyper_singles.l0]
    refine ev_neg (by omega) (ev_some (by rw [hi]))
  | succ d ih =>
    intro i h
    have next := ih (i + 1) (by omega)
    have hl := freeUp_len ps i
    rw [freeUp_succ] at next
    refine ev_succ ?_
    simp only [impl_Hyper_singles.l0]
    rw [cntL_rd ps (by omega) (by omega)]
    refine ev_pos (by omega) (ev_pos (by omega) (ev_pos (by rw [cntL_len]; omega) ?_))
    rw [winc (by omega)]
    by_cases c : ps.count (i : Int) = 1
    · rw [if_pos c] at next
      exact ev_pos (by omega) (ev_pos (by omega) next)
    · rw [if_neg c] at next
      exact ev_neg (by omega) next
theorem impl_singles_f {P : Nat} {E : Edges} (hG : GoodH P E) {L : List Nat} (hL : Rg E.length L) : Ev (fun k => impl_Hyper_singles.f k (P : Int) E (goneOf E.length L)) (freeL P E L) := by
  unfold impl_Hyper_singles.f
  refine ev_bind _ (impl_degrees_f hG hL) ?_
  have := impl_singles_l0 (plsL E L) hG.plc P 0 (by omega)
  rw [cntL_len, ← freeL_up]
  exact this
theorem slices_Index_int_l0 (x0 : List Int) (a : Int) (hl : (x0.length : Int) ≤ 9223372036854775806) : ∀ (t pre : List Int), x0 = pre ++ t →
    ∃ r, Ev (fun k => slices_Index_int_int.l0 k x0 a (x0.length : Int) (pre.length : Int)) r ∧ decide (r ≥ 0) = t.contains a := by
  intro t
  induction t with
  | nil =>
    intro pre h
    refine ⟨-1, ev_succ ?_, by simp⟩
    simp only [slices_Index_int_int.l0]
    exact ev_neg (by rw [h]; exact not_lt_end) (Ev.now _)
  | cons x t ih =>
    intro pre h
    have hm : ((pre.length : Nat) : Int) < (x0.length : Int) := by rw [h]; exact lt_mid
    have hg : rd x0 (pre.length : Int) = x := by rw [h]; exact rd_mid
    by_cases c : a = x
    · refine ⟨(pre.length : Int), ev_succ ?_, by simp [c]⟩
      simp only [slices_Index_int_int.l0, hg]
      exact ev_pos hm (ev_pos (by omega) (ev_pos hm (ev_pos c (Ev.now _))))
    · obtain ⟨r, h1, h2⟩ := ih (pre ++ [x]) (by rw [h]; simp)
      rw [len_one] at h1
      refine ⟨r, ev_succ ?_, by rw [h2]; simp [c]⟩
      simp only [slices_Index_int_int.l0, hg]
      refine ev_pos hm (ev_pos (by omega) (ev_pos hm (ev_neg c ?_)))
      rw [winc (by omega)]
      exact h1
theorem slices_Contains_int_f (l : List Int) (a : Int) (hl : (l.length : Int) ≤ 9223372036854775806) : Ev (fun k => slices_Contains_int_int.f k l a) (l.contains a) := by
  obtain ⟨r, h1, h2⟩ := slices_Index_int_l0 l a hl l [] rfl
  unfold slices_Contains_int_int.f slices_Index_int_int.f
  refine ev_bind _ h1 (ev_some h2)
theorem impl_edgeAt_l0 {P : Nat} {E : Edges} (hG : GoodH P E) {L : List Nat} {p : Int} {j : Nat} (hj : j ∈ L) (hjn : j < E.length) (hpj : p ∈ edg E j) (hlt : ∀ k ∈ L, k < j → ¬ p ∈ edg E k) : ∀ (d i : Nat), i + d = j →
    Ev (fun k => impl_Hyper_edgeAt.l0 k (goneOf E.length L) p (i : Int) (P : Int) E) (j : Int) := by
  intro d
  have hn := hG.len
  have he := fun i => (hG.edge i).1
  induction d with
  | zero =>
    intro i h
    obtain rfl : i = j := by omega
    have := he i
    refine ev_succ ?_
    simp only [impl_Hyper_edgeAt.l0]
    rw [goneOf_rd hjn, rd_edg]
    refine ev_pos (by omega) (ev_pos (by rw [goneOf_len]; omega) (ev_neg (by simp [hj]) (ev_pos (by omega) (ev_bind _ (slices_Contains_int_f _ p (by omega)) (ev_pos (by simpa using hpj) (Ev.now _))))))
  | succ d ih =>
    intro i h
    have := he i
    have next := ih (i + 1) (by omega)
    refine ev_succ ?_
    simp only [impl_Hyper_edgeAt.l0]
    rw [goneOf_rd (by omega), rd_edg, winc (by omega)]
    refine ev_pos (by omega) (ev_pos (by rw [goneOf_len]; omega) ?_)
    by_cases c : i ∈ L
    · exact ev_neg (by simp [c]) (ev_pos (by omega) (ev_bind _ (slices_Contains_int_f _ p (by omega)) (ev_neg (by simpa using hlt i c (by omega)) next)))
    · exact ev_pos (by simp [c]) next
theorem impl_edgeAt_f {P : Nat} {E : Edges} (hG : GoodH P E) {L : List Nat} (hL : Rg E.length L) {p : Int} {j : Nat} (h : withE E L p = some j) : Ev (fun k => impl_Hyper_edgeAt.f k (P : Int) E (goneOf E.length L) p) (j : Int) := by
  obtain ⟨h1, h2⟩ := withE_some h
  unfold impl_Hyper_edgeAt.f
  exact impl_edgeAt_l0 hG h1 (hL.lt h1) h2 (withE_least hL.sorted h) j 0 (by omega)
theorem impl_left_l0 {n : Nat} {L : List Nat} (hn : n ≤ 1000) (hL : Rg n L) : ∀ (d i : Nat), i + d = n →
    Ev (fun k => impl_left.l0 k (castL (upTo L i)) (goneOf n L) (n : Int) (i : Int)) (castL L) := by
  intro d
  induction d with
  | zero =>
    intro i h
    have hi : i = n := by omega
    refine ev_succ ?_
    simp only [impl_left.l0]
    exact ev_neg (by omega) (ev_some (by rw [hi, upTo_all hL]))
  | succ d ih =>
    intro i h
    have next := ih (i + 1) (by omega)
    have hl := upTo_len L i
    rw [upTo_succ] at next
    refine ev_succ ?_
    simp only [impl_left.l0]
    rw [goneOf_rd (by omega), winc (by omega)]
    refine ev_pos (by omega) (ev_pos (by omega) (ev_pos (by rw [goneOf_len]; omega) ?_))
    by_cases c : i ∈ L
    · rw [if_pos c, castL_app] at next
      exact ev_neg (by simp [c]) (ev_pos (by rw [castL_len]; omega) next)
    · rw [if_neg c] at next
      exact ev_pos (by simp [c]) next
theorem impl_left_f {n : Nat} {L : List Nat} (hn : n ≤ 1000) (hL : Rg n L) : Ev (fun k => impl_left.f k (goneOf n L)) (castL L) := by
  unfold impl_left.f
  rw [goneOf_len]
  exact impl_left_l0 hn hL n 0 (by omega)
def mkS51 (s : Nat × Int) : S51 := ⟨(s.1 : Int), s.2⟩
def stepsL (l : List (Nat × Int)) : List S51 := l.map mkS51
theorem step_zero {P : Nat} {E : Edges} {L : List Nat} (h : freeL P E L ≠ []) : ∃ i, stepE P E L 0 = some (i, rd (freeL P E L) 0) := by
  unfold stepE
  have : ¬ (freeL P E L).length = 0 := fun e => h (List.length_eq_zero_iff.1 e)
  rw [if_neg this, Nat.zero_mod]
  exact ⟨_, rfl⟩
theorem impl_peel_l0 {P : Nat} {E : Edges} (hG : GoodH P E) : ∀ (d : Nat) (L : List Nat) (acc : List S51), Rg E.length L → L.length ≤ d → acc.length + d ≤ 1000000 →
    Ev (fun k => impl_Hyper_peel.l0 k acc (goneOf E.length L) (P : Int) E) (acc ++ stepsL (peelC P E (List.replicate d 0) L).1, castL (peelC P E (List.replicate d 0) L).2) := by
  have hn := hG.len
  have stop : ∀ (d : Nat) (L : List Nat) (acc : List S51), Rg E.length L → freeL P E L = [] → Ev (fun k => impl_Hyper_peel.l0 k acc (goneOf E.length L) (P : Int) E) (acc ++ stepsL (peelC P E (List.replicate d 0) L).1, castL (peelC P E (List.replicate d 0) L).2) := by
    intro d L acc hL hf
    have e : peelC P E (List.replicate d 0) L = ([], L) := by
      cases d with
      | zero => rfl
      | succ d => rw [List.replicate_succ, peelC_cons_none _ _ hf]
    rw [e]
    refine ev_succ ?_
    simp only [impl_Hyper_peel.l0]
    refine ev_bind _ (impl_singles_f hG hL) (ev_pos (by rw [hf]; rfl) (ev_bind _ (impl_left_f hn hL) (ev_some (by simp [stepsL]))))
  intro d
  induction d with
  | zero =>
    intro L acc hL hd _
    have : L = [] := List.length_eq_zero_iff.1 (by omega)
    exact stop 0 L acc hL (by rw [this]; exact freeL_nil)
  | succ d ih =>
    intro L acc hL hd ha
    by_cases hf : freeL P E L = []
    · exact stop (d + 1) L acc hL hf
    · obtain ⟨i, hs⟩ := step_zero hf
      obtain ⟨_, _, hw⟩ := stepE_some hs
      have hi := (withE_some hw).1
      have hin := hL.lt hi
      have hl : ¬ (freeL P E L).length = 0 := fun e => hf (List.length_eq_zero_iff.1 e)
      have hdl := dropE_len hL.nodup hi
      rw [List.replicate_succ, peelC_cons_some _ hs]
      refine ev_succ ?_
      simp only [impl_Hyper_peel.l0]
      refine ev_bind _ (impl_singles_f hG hL) (ev_neg (by omega) (ev_pos (by omega) (ev_bind _ (impl_edgeAt_f hG hL hw) (ev_pos (by omega) (ev_pos (by rw [goneOf_len]; omega) (ev_pos (by omega) ?_))))))
      rw [Int.toNat_natCast, goneOf_set]
      have := ih (dropE L i) (acc ++ [mkS51 (i, rd (freeL P E L) 0)]) (hL.drop i) (by omega) (by simp; omega)
      rw [List.append_assoc] at this
      exact this
theorem impl_peel_f {P : Nat} {E : Edges} (hG : GoodH P E) : Ev (fun k => impl_Hyper_peel.f k (P : Int) E) (stepsL (peelAll P E).1, castL (coreE P E)) := by
  have hn := hG.len
  unfold impl_Hyper_peel.f impl_Hyper_none.f
  refine ev_bind _ (ev_pos (by omega) (ev_pos (by omega) (Ev.now _))) ?_
  rw [Int.toNat_natCast, ← goneOf_all]
  have := impl_peel_l0 hG E.length (List.range E.length) [] (Rg.all _) (by simp) (by simp; omega)
  rw [List.nil_append] at this
  exact this
end Go.Proofs.YthkcgimnagpmaaaQ
namespace Go.Proofs.YthkcgimnagpmaaaQ
open Go Go.RowKit Go.Proofs.YthkcgimnagpmaaaW.PrintWords Go.Proofs.YthkcgimnagpmaaaGp Go.Proofs.Ythkcgimnagpmaaa.PT

end Go.Proofs.YthkcgimnagpmaaaQ
namespace Go.Proofs.YthkcgimnagpmaaaQ
open Go Go.RowKit Go.Proofs.YthkcgimnagpmaaaW.PrintWords Go.Proofs.YthkcgimnagpmaaaGp Go.Proofs.Ythkcgimnagpmaaa.PT

section
variable {P : Nat} {E : Edges} (hG : GoodH P E) {cs : List Int} {on : Bool} {acc : List S51} {L : List Nat} (hL : Rg E.length L)
include hG hL
end
end Go.Proofs.YthkcgimnagpmaaaQ
namespace Go.Proofs.YthkcgimnagpmaaaQ
open Go Go.RowKit Go.Proofs.YthkcgimnagpmaaaW.PrintWords Go.Proofs.YthkcgimnagpmaaaGp Go.Proofs.Ythkcgimnagpmaaa.PT

def mm (x y : Int) : Int := Int.tmod (wrap64 (x * y)) 65521
theorem mul_range {x y : Int} (hx : 0 ≤ x) (hx1 : x ≤ 65520) (hy : 0 ≤ y) (hy1 : y ≤ 65520) : 0 ≤ x * y ∧ x * y ≤ 4292870400 :=
  ⟨Int.mul_nonneg hx hy, by have := Int.mul_le_mul hx1 hy1 hy (by omega); omega⟩
theorem emod_range (x : Int) : 0 ≤ x % 65521 ∧ x % 65521 ≤ 65520 := by omega
theorem mm_eq {x y : Int} (hx : 0 ≤ x) (hx1 : x ≤ 65520) (hy : 0 ≤ y) (hy1 : y ≤ 65520) : mm x y = x * y % 65521 := by
  obtain ⟨h0, h1⟩ := mul_range hx hx1 hy hy1
  unfold mm
  rw [w64 (by omega) (by omega)]
  exact Int.tmod_eq_emod_of_nonneg h0
theorem mm_mod (a b : Int) : mm (a % 65521) (b % 65521) = a * b % 65521 := by
  rw [mm_eq (emod_range a).1 (emod_range a).2 (emod_range b).1 (emod_range b).2]
  exact (Int.mul_emod a b 65521).symm
def pw (h : Int) : Nat → Int
  | 0 => 1
  | n + 1 => pw h n * h
theorem self_mod {h : Int} (h0 : 0 ≤ h) (h1 : h ≤ 65520) : h = h % 65521 := by omega
theorem mm11 {h : Int} (h0 : 0 ≤ h) (h1 : h ≤ 65520) : mm (mm (mm (mm (mm h h) (mm h h)) h) (mm (mm (mm h h) (mm h h)) h)) h = pw h 11 % 65521 := by
  have e := self_mod h0 h1
  have a2 : mm h h = h * h % 65521 := mm_eq h0 h1 h0 h1
  have a4 : mm (mm h h) (mm h h) = (h * h) * (h * h) % 65521 := by rw [a2, mm_mod]
  have a5 : mm (mm (mm h h) (mm h h)) h = (h * h) * (h * h) * h % 65521 := by
    rw [a4]; conv => lhs; arg 2; rw [e]
    rw [mm_mod]
  rw [a5, mm_mod]
  conv => lhs; arg 2; rw [e]
  rw [mm_mod]
  congr 1
  simp only [pw, Int.one_mul, Int.mul_assoc]
def hstep (h : Int) (c : UInt8) : Int := Int.tmod (wrap64 ((wrap64 (263 * h)) + (wrap64 (c.toNat : Int)))) 65521
def hfold (h : Int) (l : List UInt8) : Int := l.foldl hstep h
theorem hstep_range {h : Int} {c : UInt8} (h0 : 0 ≤ h) (h1 : h ≤ 65520) : 0 ≤ hstep h c ∧ hstep h c ≤ 65520 := by
  have hc : c.toNat < 256 := c.toNat_lt
  unfold hstep
  rw [w64 (x := 263 * h) (by omega) (by omega), w64 (x := (c.toNat : Int)) (by omega) (by omega), w64 (by omega) (by omega), Int.tmod_eq_emod_of_nonneg (by omega)]
  omega
def hstart (a0 a1 : Int) : Int := Int.tmod (wrap64 ((wrap64 ((wrap64 (31 * a0)) + (wrap64 (977 * a1)))) + 7)) 65521
theorem hstart_range {a0 a1 : Int} (h0 : 0 ≤ a0) (h0' : a0 ≤ 1000000) (h1 : 0 ≤ a1) (h1' : a1 ≤ 1000000) : 0 ≤ hstart a0 a1 ∧ hstart a0 a1 ≤ 65520 := by
  unfold hstart
  rw [w64 (x := 31 * a0) (by omega) (by omega), w64 (x := 977 * a1) (by omega) (by omega), w64 (x := 31 * a0 + 977 * a1) (by omega) (by omega), w64 (by omega) (by omega), Int.tmod_eq_emod_of_nonneg (by omega)]
  omega
def hashV (a0 a1 : Int) (s : ByteArray) : Int := pw (hfold (hstart a0 a1) s.data.toList) 11 % 65521
theorem spec_biHash_l0 (x2 : ByteArray) (hz : (x2.size : Int) ≤ 9223372036854775806) : ∀ (t pre : List UInt8) (h : Int), x2.data.toList = pre ++ t → 0 ≤ h → h ≤ 65520 →
    Ev (fun k => spec_biHash.l0 k x2 h (pre.length : Int)) (pw (hfold h t) 11 % 65521) := by
  intro t
  induction t with
  | nil =>
    intro pre h e h0 h1
    refine ev_succ ?_
    simp only [spec_biHash.l0]
    refine ev_neg (not_lt_size e) (ev_some ?_)
    exact mm11 h0 h1
  | cons c t ih =>
    intro pre h e h0 h1
    have hm := lt_size e
    refine ev_succ ?_
    simp only [spec_biHash.l0, bt_mid e]
    refine ev_pos hm (ev_pos (by omega) ?_)
    rw [winc (by omega)]
    have := ih (pre ++ [c]) (hstep h c) (by rw [e]; simp) (hstep_range h0 h1).1 (hstep_range h0 h1).2
    rw [len_one] at this
    exact this
theorem spec_biHash_f (a0 a1 : Int) (s : ByteArray) (hz : (s.size : Int) ≤ 9223372036854775806) (h0 : 0 ≤ a0) (h0' : a0 ≤ 1000000) (h1 : 0 ≤ a1) (h1' : a1 ≤ 1000000) :
    Ev (fun k => spec_biHash.f k a0 a1 s) (hashV a0 a1 s) := by
  unfold spec_biHash.f
  exact spec_biHash_l0 s hz s.data.toList [] _ rfl (hstart_range h0 h0' h1 h1').1 (hstart_range h0 h0' h1 h1').2
def placeV (a0 a1 : Int) (s : ByteArray) (n : Int) : Int := wrap64 (Int.tdiv (wrap64 (hashV a0 a1 s * n)) 65521)
theorem spec_biPlace_f (a0 a1 : Int) (s : ByteArray) (n : Int) (hz : (s.size : Int) ≤ 9223372036854775806) (h0 : 0 ≤ a0) (h0' : a0 ≤ 1000000) (h1 : 0 ≤ a1) (h1' : a1 ≤ 1000000) :
    Ev (fun k => spec_biPlace.f k a0 a1 s n) (placeV a0 a1 s n) := by
  unfold spec_biPlace.f
  exact ev_bind _ (spec_biHash_f a0 a1 s hz h0 h0' h1 h1') (Ev.now _)
end Go.Proofs.YthkcgimnagpmaaaQ
namespace Go.Proofs.YthkcgimnagpmaaaQ
open Go Go.RowKit Go.Proofs.YthkcgimnagpmaaaW.PrintWords Go.Proofs.YthkcgimnagpmaaaGp Go.Proofs.Ythkcgimnagpmaaa.PT

def tripL (a0 : Int) (s : ByteArray) (n : Int) : Nat → Nat → List Int
  | 0, _ => []
  | m + 1, i => wrap64 (placeV a0 (i : Int) s n + wrap64 ((i : Int) * n)) :: tripL a0 s n m (i + 1)
theorem spec_peTriple_l0 (a0 : Int) (n : Int) (s : ByteArray) (hz : (s.size : Int) ≤ 9223372036854775806) (h0 : 0 ≤ a0) (h0' : a0 ≤ 1000000) : ∀ (m i : Nat) (acc : List Int), i + m = 3 → acc.length = i →
    Ev (fun k => spec_peTriple.l0 k a0 s n acc (i : Int)) (acc ++ tripL a0 s n m i) := by
  intro m
  induction m with
  | zero =>
    intro i acc e ha
    refine ev_succ ?_
    simp only [spec_peTriple.l0, tripL]
    exact ev_neg (by omega) (ev_some (by simp))
  | succ m ih =>
    intro i acc e ha
    refine ev_succ ?_
    simp only [spec_peTriple.l0, tripL]
    refine ev_pos (by omega) (ev_bind _ (spec_biPlace_f a0 (i : Int) s n hz h0 h0' (by omega) (by omega)) (ev_pos (by omega) ?_))
    rw [winc (by omega)]
    have := ih (i + 1) (acc ++ [wrap64 (placeV a0 (i : Int) s n + wrap64 ((i : Int) * n))]) (by omega) (by simp [ha])
    rw [List.append_assoc] at this
    exact this
theorem spec_peTriple_f (a0 n : Int) (s : ByteArray) (hz : (s.size : Int) ≤ 9223372036854775806) (h0 : 0 ≤ a0) (h0' : a0 ≤ 1000000) : Ev (fun k => spec_peTriple.f k a0 s n) (tripL a0 s n 3 0) := by
  unfold spec_peTriple.f
  have := spec_peTriple_l0 a0 n s hz h0 h0' 3 0 [] rfl rfl
  exact this
end Go.Proofs.YthkcgimnagpmaaaQ
namespace Go.Proofs.YthkcgimnagpmaaaQ
open Go Go.RowKit Go.Proofs.YthkcgimnagpmaaaW.PrintWords Go.Proofs.YthkcgimnagpmaaaGp Go.Proofs.Ythkcgimnagpmaaa.PT

theorem spec_in (n a b : Int) : spec_l1In.f n a b = some (decide (a ≤ n ∧ n ≤ b)) := by
  unfold spec_l1In.f
  by_cases h : a ≤ n <;> by_cases h' : n ≤ b <;> simp [h, h']
theorem impl_in (n a b : Int) : impl_in.f n a b = some (decide (a ≤ n ∧ n ≤ b)) := by
  unfold impl_in.f
  by_cases h : a ≤ n <;> by_cases h' : n ≤ b <;> simp [h, h']

end Go.Proofs.YthkcgimnagpmaaaQ
namespace Go.Proofs.YthkcgimnagpmaaaQ
open Go Go.RowKit Go.Proofs.YthkcgimnagpmaaaW.PrintWords Go.Proofs.YthkcgimnagpmaaaGp Go.Proofs.Ythkcgimnagpmaaa.PT

structure Bys (s : List Int) : Prop where
  len : (s.length : Int) ≤ 1048576
  all : ∀ x ∈ s, 0 ≤ x ∧ x ≤ 255
theorem and255 (x : Int) : 0 ≤ Go.bits .and .u64 x 255 ∧ Go.bits .and .u64 x 255 ≤ 255 := by
  have e : Go.bits .and .u64 x 255 = IntKind.u64.wrap (((BitVec.ofInt 64 x &&& BitVec.ofInt 64 255 : BitVec 64)).toNat : Int) := by unfold Go.bits; rfl
  have h : ((BitVec.ofInt 64 x &&& BitVec.ofInt 64 255 : BitVec 64)).toNat ≤ 255 := by
    rw [BitVec.toNat_and]
    exact Nat.and_le_right
  rw [e]
  unfold IntKind.wrap
  simp only [IntKind.bits, IntKind.signed]
  generalize (BitVec.ofInt 64 x &&& BitVec.ofInt 64 255 : BitVec 64).toNat = m at h
  simp
  omega
theorem rd_by {s : List Int} (hs : Bys s) (i : Int) : 0 ≤ rd s i ∧ rd s i ≤ 255 := by
  unfold rd
  by_cases c : i.toNat < s.length
  · rw [List.getD_eq_getElem?_getD, List.getElem?_eq_getElem c]
    exact hs.all _ (List.getElem_mem c)
  · rw [List.getD_eq_getElem?_getD, List.getElem?_eq_none (by omega)]
    simp
theorem next_ok {s : List Int} (hs : Bys s) {p : Int} (sd : Int) (h0 : 0 ≤ p) (h1 : p ≤ 4000000000000000000) :
    ∃ v p' sd', spec_l1Cur_next.f s p sd = some (v, p', sd') ∧ (0 ≤ v ∧ v ≤ 255) ∧ 0 ≤ p' ∧ p' ≤ p + 1 := by
  have hb := rd_by hs p
  have w1 : wrap64 (p + 1) = p + 1 := w64 (by omega) (by omega)
  have w2 : wrap64 (rd s p) = rd s p := w64 (by omega) (by omega)
  unfold spec_l1Cur_next.f
  rw [w1, w2]
  by_cases c : p < (s.length : Int)
  · rw [if_pos c, if_pos h0]
    split
    · exact ⟨_, _, _, rfl, hb, by omega, by omega⟩
    · omega
  · rw [if_neg c, if_neg (by omega)]
    refine ⟨_, _, _, rfl, ?_, by omega, by omega⟩
    have := and255 ((IntKind.u64.wrap ((IntKind.u64.wrap (IntKind.u64.wrap (sd * 6364136223846793005))) + 1442695040888963407)) / 1099511627776)
    rw [w64 (by omega) (by omega)]
    exact this
theorem pick_ok {s : List Int} (hs : Bys s) {p : Int} (sd : Int) {n : Int} (h0 : 0 ≤ p) (h1 : p ≤ 3000000000000000000) :
    ∃ v p' sd', spec_l1Cur_pick.f s p sd n = some (v, p', sd') ∧ (0 ≤ v ∧ (v < n ∨ v = 0)) ∧ 0 ≤ p' ∧ p' ≤ p + 2 := by
  unfold spec_l1Cur_pick.f
  by_cases c : n ≤ 1
  · rw [if_pos c]; exact ⟨_, _, _, rfl, ⟨by omega, .inr rfl⟩, h0, by omega⟩
  obtain ⟨v, p', sd', e, hv, q0, q1⟩ := next_ok hs sd h0 (by omega)
  have hn : ¬ n = 0 := by omega
  rw [if_neg c, e]
  simp only [Option.bind_some, if_neg hn]
  by_cases d : n > 200
  · obtain ⟨u, p2, sd2, e2, hu, r0, r1⟩ := next_ok hs sd' q0 (by omega)
    rw [if_pos d, e2]
    simp only [Option.bind_some]
    refine ⟨_, _, _, rfl, ?_, r0, by omega⟩
    rw [w64 (x := v * 256) (by omega) (by omega), w64 (x := v * 256 + u) (by omega) (by omega), Int.tmod_eq_emod_of_nonneg (by omega)]
    exact ⟨Int.emod_nonneg _ hn, .inl (Int.emod_lt_of_pos _ (by omega))⟩
  · rw [if_neg d]
    refine ⟨_, _, _, rfl, ?_, q0, by omega⟩
    rw [Int.tmod_eq_emod_of_nonneg hv.1]
    exact ⟨Int.emod_nonneg _ hn, .inl (Int.emod_lt_of_pos _ (by omega))⟩
theorem one_ok {s : List Int} (hs : Bys s) {p : Int} (sd : Int) (n : Int) (h0 : 0 ≤ p) (h1 : p ≤ 3000000000000000000) :
    ∃ v p' sd', spec_l1Cur_one.f s p sd n = some (v, p', sd') ∧ 0 ≤ p' ∧ p' ≤ p + 2 := by
  obtain ⟨v, p', sd', e, _, q0, q1⟩ := pick_ok hs sd (n := n) h0 h1
  unfold spec_l1Cur_one.f
  rw [e]
  exact ⟨_, _, _, rfl, q0, q1⟩
theorem among_ok {s : List Int} (hs : Bys s) {p : Int} (sd : Int) {l : List Int} (hl : 0 < l.length) (h0 : 0 ≤ p) (h1 : p ≤ 3000000000000000000) :
    ∃ v p' sd', spec_l1Cur_among.f s p sd l = some (v, p', sd') ∧ v ∈ l ∧ 0 ≤ p' ∧ p' ≤ p + 2 := by
  obtain ⟨v, p', sd', e, hv, q0, q1⟩ := pick_ok hs sd (n := (l.length : Int)) h0 h1
  have hm : rd l v ∈ l := by
    unfold rd
    have : v.toNat < l.length := by omega
    rw [List.getD_eq_getElem?_getD, List.getElem?_eq_getElem this]
    exact List.getElem_mem this
  unfold spec_l1Cur_among.f
  rw [e]
  simp only [Option.bind_some]
  rw [if_pos (by omega), if_pos (by omega)]
  exact ⟨_, _, _, rfl, hm, q0, q1⟩
theorem strOf_size (l : List Int) : (strOfNums l).size = l.length := by simp [strOfNums, ByteArray.size]

def Dr {α : Type} (g : Nat → Option (α × Int × Int)) (p c : Int) (P : α → Prop) : Prop := ∃ v p' sd', Ev g (v, p', sd') ∧ P v ∧ 0 ≤ p' ∧ p' ≤ p + c
theorem key_l1 (s : List Int) (p sd : Int) : ∀ (d : Nat) (x : List Int), 12 - x.length ≤ d → x.length ≤ 12 →
    ∃ v, Ev (fun k => spec_l1Cur_key.l1 k x s p sd) (v, p, sd) ∧ v.size ≤ 12 := by
  intro d
  induction d with
  | zero =>
    intro x h1 h2
    refine ⟨strOfNums x, ev_succ ?_, by rw [strOf_size]; omega⟩
    simp only [spec_l1Cur_key.l1]
    exact ev_neg (by omega) (Ev.now _)
  | succ d ih =>
    intro x h1 h2
    by_cases c : (x.length : Int) < 12
    · obtain ⟨v, e, hv⟩ := ih (x ++ [97]) (by simp; omega) (by simp; omega)
      refine ⟨v, ev_succ ?_, hv⟩
      simp only [spec_l1Cur_key.l1]
      exact ev_pos c (ev_pos (by omega) e)
    · refine ⟨strOfNums x, ev_succ ?_, by rw [strOf_size]; omega⟩
      simp only [spec_l1Cur_key.l1]
      exact ev_neg c (Ev.now _)
theorem key_l0 {s : List Int} (hs : Bys s) : ∀ (n : Nat) (x : List Int) (p sd : Int), x.length + n ≤ 12 → 0 ≤ p → p + 2 * (n : Int) ≤ 2000000000000000000 →
    Dr (fun k => spec_l1Cur_key.l0 k x (n : Int) s p sd) p (2 * (n : Int) + 2) (fun v => v.size ≤ 12) := by
  intro n
  induction n with
  | zero =>
    intro x p sd hx h0 h1
    obtain ⟨v, p', sd', e, q0, q1⟩ := one_ok hs sd 12 h0 (by omega)
    by_cases c : v = true
    · obtain ⟨u, eu, hu⟩ := key_l1 s p' sd' 12 x (by omega) (by omega)
      refine ⟨u, p', sd', ev_succ ?_, hu, q0, by omega⟩
      simp only [spec_l1Cur_key.l0, e]
      exact ev_neg (by omega) (ev_bind _ (Ev.now _) (ev_pos c eu))
    · refine ⟨strOfNums x, p', sd', ev_succ ?_, (by rw [strOf_size]; omega : (strOfNums x).size ≤ 12), q0, by omega⟩
      simp only [spec_l1Cur_key.l0, e]
      exact ev_neg (by omega) (ev_bind _ (Ev.now _) (ev_neg c (Ev.now _)))
  | succ n ih =>
    intro x p sd hx h0 h1
    obtain ⟨v, p', sd', e, hv, q0, q1⟩ := pick_ok hs sd (n := 11) h0 (by omega)
    obtain ⟨u, p2, sd2, eu, hu, r0, r1⟩ := ih (x ++ [bt (⟨#[97, 97, 98, 98, 99, 120, 121, 122, 33, 125, 48]⟩ : ByteArray) v]) p' sd' (by simp; omega) q0 (by omega)
    refine ⟨u, p2, sd2, ev_succ ?_, hu, r0, by omega⟩
    simp only [spec_l1Cur_key.l0, e]
    refine ev_pos (by omega) (ev_bind _ (Ev.now _) (ev_pos hv.1 (ev_pos (by omega) (ev_pos (by omega) ?_))))
    rw [wdec (by omega)]
    exact eu
theorem key_ok {s : List Int} (hs : Bys s) {p : Int} (sd : Int) (h0 : 0 ≤ p) (h1 : p ≤ 1000000000000000000) : Dr (fun k => spec_l1Cur_key.f k s p sd) p 12 (fun v => v.size ≤ 12) := by
  obtain ⟨v, p', sd', e, hv, q0, q1⟩ := pick_ok hs sd (n := 4) h0 (by omega)
  obtain ⟨u, p2, sd2, eu, hu, r0, r1⟩ := key_l0 hs (v.toNat + 1) [] p' sd' (by simp; omega) q0 (by omega)
  refine ⟨u, p2, sd2, ?_, hu, r0, by omega⟩
  unfold spec_l1Cur_key.f
  rw [e]
  refine ev_bind _ (Ev.now _) ?_
  rw [w64 (by omega) (by omega), show 1 + v = ((v.toNat + 1 : Nat) : Int) from by omega]
  exact eu
def insK (s : ByteArray) : List ByteArray → List ByteArray
  | [] => [s]
  | q :: t => if lessS q s = true then q :: insK s t else if q = s then q :: t else s :: q :: t
theorem insK_len (s : ByteArray) : ∀ l, (insK s l).length ≤ l.length + 1
  | [] => by simp [insK]
  | q :: t => by
    have := insK_len s t
    unfold insK
    split
    · simp; omega
    · split <;> simp
theorem insK_mem (s : ByteArray) : ∀ l, ∀ x ∈ insK s l, x = s ∨ x ∈ l
  | [], x, h => by simp [insK] at h; exact .inl h
  | q :: t, x, h => by
    unfold insK at h
    split at h
    · rcases List.mem_cons.1 h with e | e
      · exact .inr (by simp [e])
      · rcases insK_mem s t x e with e | e
        · exact .inl e
        · exact .inr (by simp [e])
    · split at h
      · exact .inr h
      · rcases List.mem_cons.1 h with e | e
        · exact .inl e
        · exact .inr e
theorem putS_l0 (x0 : List ByteArray) (s : ByteArray) (hx : x0.length ≤ 1000000) : ∀ (t pre : List ByteArray), x0 = pre ++ t →
    Ev (fun k => spec_l1PutS.l0 k x0 s (pre.length : Int)) (pre ++ insK s t) := by
  intro t
  induction t with
  | nil =>
    intro pre h
    have hp : x0 = pre := by rw [h, List.append_nil]
    subst hp
    refine ev_succ ?_
    simp only [spec_l1PutS.l0]
    refine ev_neg (by omega) (ev_bind _ (Ev.now _) (ev_pos (by omega) (ev_pos (by omega) (ev_bind _ (Ev.now _) ?_))))
    rw [Int.toNat_natCast, List.take_length, List.nil_append]
    refine ev_pos (by simp; omega) (ev_bind _ (Ev.now _) (ev_pos (by omega) (ev_bind _ (Ev.now _) (ev_bind _ (Ev.now _) (ev_pos (by simp; omega) (ev_some ?_))))))
    simp [insK]
  | cons q t ih =>
    intro pre h
    have hm : ((pre.length : Nat) : Int) < (x0.length : Int) := by rw [h]; exact lt_mid
    have hg : rdOf ByteArray.empty x0 (pre.length : Int) = q := by rw [h]; exact rdOf_mid
    refine ev_succ ?_
    simp only [spec_l1PutS.l0, hg]
    refine ev_pos hm (ev_pos (by omega) ?_)
    unfold insK
    by_cases c : lessS q s = true
    · refine ev_pos c ?_
      rw [winc (by omega), if_pos c]
      have := ih (pre ++ [q]) (by rw [h]; simp)
      rw [len_one] at this
      simpa using this
    · refine ev_neg c ?_
      rw [if_neg c]
      by_cases d : q = s
      · refine ev_pos (tl_inj.2 d) (ev_some ?_)
        rw [if_pos d, h]
      · refine ev_neg (fun e => d (tl_inj.1 e)) (ev_bind _ (Ev.now _) (ev_pos (by omega) (ev_bind _ (Ev.now _) ?_)))
        have et : x0.take pre.length = pre := by rw [h]; simp
        have ed : x0.drop pre.length = q :: t := by rw [h]; simp
        have hl : x0.length = pre.length + (t.length + 1) := by rw [h]; simp
        rw [Int.toNat_natCast, et, ed, List.nil_append, if_neg d]
        refine ev_pos (by simp; omega) (ev_bind _ (Ev.now _) (ev_pos (by omega) (ev_bind _ (Ev.now _) (ev_bind _ (Ev.now _) (ev_pos (by simp; omega) (ev_some ?_))))))
        simp
theorem putS_f (l : List ByteArray) (s : ByteArray) (h : l.length ≤ 1000000) : Ev (fun k => spec_l1PutS.f k l s) (insK s l) := putS_l0 l s h l [] rfl
def Kys (m : Nat) (l : List ByteArray) : Prop := l.length ≤ m ∧ ∀ s ∈ l, s.size ≤ 13
theorem Kys.ins {m : Nat} {l : List ByteArray} (h : Kys m l) {s : ByteArray} (hs : s.size ≤ 13) : Kys (m + 1) (insK s l) :=
  ⟨by have := insK_len s l; have := h.1; omega, fun x hx => by exact (insK_mem s l x hx).elim (fun e => e ▸ hs) (h.2 x)⟩
theorem Kys.one {m : Nat} {l : List ByteArray} (h : Kys m l) {s : ByteArray} (hs : s.size ≤ 13) : Kys (m + 1) (l ++ [s]) :=
  ⟨by have := h.1; simp; omega, fun x hx => by exact (List.mem_append.1 hx).elim (h.2 x) (fun e => List.mem_singleton.1 e ▸ hs)⟩
theorem Kys.mono {m m' : Nat} {l : List ByteArray} (h : Kys m l) (hm : m ≤ m') : Kys m' l := ⟨Nat.le_trans h.1 hm, h.2⟩
theorem keys_l0 {s : List Int} (hs : Bys s) : ∀ (n m : Nat) (x : List ByteArray) (p sd : Int), Kys m x → m + n ≤ 1000 → 0 ≤ p → p + 12 * (n : Int) ≤ 500000000000000000 →
    Dr (fun k => spec_l1Cur_keys.l0 k x (n : Int) s p sd) p (12 * (n : Int)) (Kys (m + n)) := by
  intro n
  induction n with
  | zero =>
    intro m x p sd hx hm h0 h1
    refine ⟨x, p, sd, ev_succ ?_, hx, h0, by omega⟩
    simp only [spec_l1Cur_keys.l0]
    exact ev_neg (by omega) (Ev.now _)
  | succ n ih =>
    intro m x p sd hx hm h0 h1
    obtain ⟨v, p', sd', e, hv, q0, q1⟩ := key_ok hs sd h0 (by omega)
    have hl := hx.1
    obtain ⟨u, p2, sd2, eu, hu, r0, r1⟩ := ih (m + 1) (insK v x) p' sd' (hx.ins (by omega)) (by omega) q0 (by omega)
    refine ⟨u, p2, sd2, ev_succ ?_, hu.mono (by omega), r0, by omega⟩
    simp only [spec_l1Cur_keys.l0]
    refine ev_pos (by omega) (ev_bind _ e (ev_bind _ (putS_f x v (by omega)) ?_))
    rw [wdec (by omega)]
    exact eu
theorem keys_ok {s : List Int} (hs : Bys s) {p : Int} (sd : Int) {n : Nat} (hn : n ≤ 100) (h0 : 0 ≤ p) (h1 : p ≤ 400000000000000000) : Dr (fun k => spec_l1Cur_keys.f k s p sd (n : Int)) p (12 * (n : Int) + 2) (Kys n) := by
  obtain ⟨v, p', sd', e, hv, q0, q1⟩ := pick_ok hs sd (n := (n : Int) + 1) h0 (by omega)
  obtain ⟨u, p2, sd2, eu, hu, r0, r1⟩ := keys_l0 hs v.toNat 0 [] p' sd' ⟨by simp, by simp⟩ (by omega) q0 (by omega)
  refine ⟨u, p2, sd2, ?_, hu.mono (by omega), r0, by omega⟩
  unfold spec_l1Cur_keys.f
  rw [w64 (x := (n : Int) + 1) (by omega) (by omega), e]
  refine ev_bind _ (Ev.now _) ?_
  rw [show ((v.toNat : Nat) : Int) = v from by omega] at eu
  exact eu
end Go.Proofs.YthkcgimnagpmaaaQ
namespace Go.Proofs.YthkcgimnagpmaaaQ
open Go Go.RowKit Go.Proofs.YthkcgimnagpmaaaW.PrintWords Go.Proofs.YthkcgimnagpmaaaGp Go.Proofs.Ythkcgimnagpmaaa.PT

theorem Dr.mono {α : Type} {g : Nat → Option (α × Int × Int)} {p c c' : Int} {P P' : α → Prop} (h : Dr g p c P) (hc : c ≤ c') (hP : ∀ x, P x → P' x) : Dr g p c' P' := by
  obtain ⟨v, p', sd', e, hv, q0, q1⟩ := h
  exact ⟨v, p', sd', e, hP v hv, q0, by omega⟩
theorem big_f {l0 l1 : List Int} (h0 : l0.length ≤ maxLen) (h1 : l1.length ≤ maxLen) : ∃ b, laws_big.f l0 l1 = some b ∧ (b = false → (l0.length : Int) ≤ 1048576 ∧ (l1.length : Int) ≤ 1048576) := by
  rw [maxLen_eq] at h0 h1
  unfold laws_big.f
  by_cases c : (l0.length : Int) > 1048576
  · exact ⟨true, if_pos c, by simp⟩
  · refine ⟨_, if_neg c, fun h => ?_⟩
    rw [decide_eq_false_iff_not, w64 (by omega) (by omega)] at h
    omega
theorem bys {l : List Int} (h : (l.length : Int) ≤ 1048576) (hw : ∀ x ∈ l, (Lit.int .u8 x).wf = true) : Bys l := by
  refine ⟨h, fun x hx => ?_⟩
  have := hw x hx
  simp only [Lit.wf, Bool.and_eq_true, decide_eq_true_eq] at this
  exact this
end Go.Proofs.YthkcgimnagpmaaaQ
namespace Go.Proofs.YthkcgimnagpmaaaQ
open Go Go.RowKit Go.Proofs.YthkcgimnagpmaaaW.PrintWords Go.Proofs.YthkcgimnagpmaaaGp Go.Proofs.Ythkcgimnagpmaaa.PT

def isEdgeB (P : Int) (e : List Int) : Bool := decide (e.length = 3) && decide (0 ≤ rd e 0) && decide (rd e 0 < rd e 1) && decide (rd e 1 < rd e 2) && decide (rd e 2 < P)
def goodB (P : Int) (E : Edges) : Bool := decide (1 ≤ P ∧ P ≤ 72) && decide (E.length ≤ 40) && E.all (isEdgeB P)
theorem impl_isEdge_f (e : List Int) (P : Int) : impl_isEdge.f e P = some (isEdgeB P e) := by
  unfold impl_isEdge.f isEdgeB
  by_cases c : e.length = 3
  · rw [if_pos (by omega), if_pos (by omega), decide_eq_true c]
    by_cases c0 : rd e 0 ≥ 0
    · rw [if_pos c0, if_pos (by omega), decide_eq_true c0]
      by_cases c1 : rd e 0 < rd e 1
      · rw [if_pos c1, if_pos (by omega), decide_eq_true c1]
        by_cases c2 : rd e 1 < rd e 2
        · rw [if_pos c2, decide_eq_true c2]; simp
        · rw [if_neg c2, decide_eq_false c2]; simp
      · rw [if_neg c1, decide_eq_false c1]; simp
    · rw [if_neg c0, decide_eq_false c0]; simp
  · rw [if_neg (by omega), decide_eq_false c]; simp
theorem isEdgeB_ok {P : Int} {e : List Int} (h : isEdgeB P e = true) : e.length ≤ 3 ∧ ∀ p ∈ e, 0 ≤ p ∧ p < P := by
  unfold isEdgeB at h
  simp only [Bool.and_eq_true, decide_eq_true_eq] at h
  obtain ⟨⟨⟨⟨h1, h2⟩, h3⟩, h4⟩, h5⟩ := h
  match e, h1 with
  | [a, b, c], _ =>
    simp only [rd] at h2 h3 h4 h5
    change 0 ≤ a at h2
    change a < b at h3
    change b < c at h4
    change c < P at h5
    refine ⟨by simp, fun p hp => ?_⟩
    simp only [List.mem_cons, List.not_mem_nil, or_false] at hp
    omega
theorem goodB_ok {P : Int} {E : Edges} (h : goodB P E = true) : GoodH P.toNat E ∧ (P.toNat : Int) = P ∧ E.length ≤ 40 ∧ P ≤ 72 := by
  unfold goodB at h
  simp only [Bool.and_eq_true, decide_eq_true_eq, List.all_eq_true] at h
  obtain ⟨⟨h1, h2⟩, h3⟩ := h
  refine ⟨⟨fun e he p hp => ?_, by omega, fun e he => (isEdgeB_ok (h3 e he)).1, by omega⟩, by omega, h2, h1.2⟩
  have := (isEdgeB_ok (h3 e he)).2 p hp
  omega
theorem impl_IsHyper_l0 (P : Int) (E : Edges) (x0 : List (List Int)) (hl : (x0.length : Int) ≤ 9223372036854775806) : ∀ (t pre : List (List Int)), x0 = pre ++ t →
    ∃ r, Ev (fun k => slices_IndexFunc_int_int_at_impl_IsHyper_1.l0 k x0 (x0.length : Int) (pre.length : Int) P E) r ∧ decide (r ≥ 0) = !(t.all (isEdgeB P)) := by
  intro t
  induction t with
  | nil =>
    intro pre h
    refine ⟨-1, ev_succ ?_, by simp⟩
    simp only [slices_IndexFunc_int_int_at_impl_IsHyper_1.l0]
    exact ev_neg (by rw [h]; exact not_lt_end) (Ev.now _)
  | cons x t ih =>
    intro pre h
    have hm : ((pre.length : Nat) : Int) < (x0.length : Int) := by rw [h]; exact lt_mid
    have hg : rd_L2 x0 (pre.length : Int) = x := by simp [rd_L2, h]
    have e1 : impl_IsHyper_1.f x P E = some (!(isEdgeB P x)) := by unfold impl_IsHyper_1.f; rw [impl_isEdge_f]; rfl
    by_cases c : isEdgeB P x = true
    · obtain ⟨r, h1, h2⟩ := ih (pre ++ [x]) (by rw [h]; simp)
      rw [len_one] at h1
      refine ⟨r, ev_succ ?_, by rw [h2]; simp [c]⟩
      simp only [slices_IndexFunc_int_int_at_impl_IsHyper_1.l0, hg, e1]
      rw [c, winc (by omega)]
      exact ev_pos hm (ev_pos (by omega) (ev_pos hm (ev_bind _ (Ev.now _) (ev_neg (by simp) h1))))
    · refine ⟨(pre.length : Int), ev_succ ?_, by simp [c]⟩
      simp only [slices_IndexFunc_int_int_at_impl_IsHyper_1.l0, hg, e1]
      rw [Bool.eq_false_iff.2 c]
      exact ev_pos hm (ev_pos (by omega) (ev_pos hm (ev_bind _ (Ev.now _) (ev_pos (by simp) (Ev.now _)))))
theorem impl_IsHyper_f (P : Int) (E : Edges) (hl : (E.length : Int) ≤ 9223372036854775806) : Ev (fun k => impl_IsHyper.f k P E) (goodB P E) := by
  obtain ⟨r, h1, h2⟩ := impl_IsHyper_l0 P E E hl E [] rfl
  unfold impl_IsHyper.f slices_ContainsFunc_int_int_at_impl_IsHyper_1.f slices_IndexFunc_int_int_at_impl_IsHyper_1.f goodB
  rw [impl_in]
  refine ev_bind _ (ev_bind _ h1 (ev_some h2)) ?_
  by_cases c : E.all (isEdgeB P) = true
  · rw [c]
    refine ev_neg (by simp) (ev_bind _ (Ev.now _) ?_)
    by_cases d : 1 ≤ P ∧ P ≤ 72
    · rw [decide_eq_true d]
      refine ev_pos rfl (ev_some ?_)
      rw [Bool.true_and, Bool.and_true, decide_eq_decide]
      omega
    · rw [decide_eq_false d]
      exact ev_neg (by simp) (Ev.now _)
  · rw [Bool.eq_false_iff.2 c]
    exact ev_pos (by simp) (ev_some (by simp))

def hypE (a0 n : Int) (l : List ByteArray) : Edges := l.map fun s => tripL a0 s n 3 0
theorem hypE_len (a0 n : Int) (l : List ByteArray) : (hypE a0 n l).length = l.length := by simp [hypE]
theorem hypE_app (a0 n : Int) (l : List ByteArray) (s : ByteArray) : hypE a0 n (l ++ [s]) = hypE a0 n l ++ [tripL a0 s n 3 0] := by simp [hypE]
theorem spec_peHyper_l0 {a0 n : Int} (h0 : 0 ≤ a0) (h0' : a0 ≤ 1000000) (q : Int) {x0 : List ByteArray} (hx : x0.length ≤ 1000) (hz : ∀ s ∈ x0, s.size ≤ 1000) : ∀ (t pre : List ByteArray), x0 = pre ++ t →
    Ev (fun k => spec_peHyper.l0 k a0 n x0 (x0.length : Int) (pre.length : Int) q (hypE a0 n pre)) (q, hypE a0 n x0) := by
  intro t
  induction t with
  | nil =>
    intro pre h
    have hp : x0 = pre := by rw [h, List.append_nil]
    subst hp
    refine ev_succ ?_
    simp only [spec_peHyper.l0]
    exact ev_neg (by omega) (Ev.now _)
  | cons x t ih =>
    intro pre h
    have hm : ((pre.length : Nat) : Int) < (x0.length : Int) := by rw [h]; exact lt_mid
    have hg : rdOf ByteArray.empty x0 (pre.length : Int) = x := by rw [h]; exact rdOf_mid
    have hxs := hz x (by rw [h]; simp)
    refine ev_succ ?_
    simp only [spec_peHyper.l0, hg]
    refine ev_pos hm (ev_pos (by omega) (ev_pos hm (ev_bind _ (spec_peTriple_f a0 n x (by omega) h0 h0') (ev_pos (by rw [hypE_len]; omega) ?_))))
    rw [winc (by omega), ← hypE_app]
    have := ih (pre ++ [x]) (by rw [h]; simp)
    rw [len_one] at this
    exact this
theorem spec_peHyper_f {a0 n : Int} (h0 : 0 ≤ a0) (h0' : a0 ≤ 1000000) (hn : 0 ≤ n) (hn' : n ≤ 1000) {x0 : List ByteArray} (hx : x0.length ≤ 1000) (hz : ∀ s ∈ x0, s.size ≤ 1000) : Ev (fun k => spec_peHyper.f k a0 x0 n) (3 * n, hypE a0 n x0) := by
  unfold spec_peHyper.f
  rw [w64 (by omega) (by omega)]
  exact spec_peHyper_l0 h0 h0' (3 * n) hx hz x0 [] rfl
end Go.Proofs.YthkcgimnagpmaaaQ
namespace Go.Proofs.YthkcgimnagpmaaaQ
open Go Go.RowKit Go.Proofs.YthkcgimnagpmaaaW.PrintWords Go.Proofs.YthkcgimnagpmaaaGp Go.Proofs.Ythkcgimnagpmaaa.PT

def risF (lo hi : Int) : Option Int → List Int → Bool
  | _, [] => true
  | p, x :: t => decide (lo ≤ x ∧ x ≤ hi) && (match p with | none => true | some q => decide (q < x)) && risF lo hi (some x) t
theorem last_int {pre : List Int} (h : 0 < pre.length) : ∃ q p, pre = q ++ [p] := by
  rcases List.eq_nil_or_concat pre with e | ⟨q, p, e⟩
  · rw [e] at h; simp at h
  · exact ⟨q, p, by rw [e]; simp⟩
theorem rd_last {pre t : List Int} {p s : Int} : rd ((pre ++ [p]) ++ s :: t) ((pre.length : Nat) : Int) = p := by simp [rd]
theorem spec_rising_l0 (lo hi : Int) (x0 : List Int) (hl : (x0.length : Int) ≤ 9223372036854775806) : ∀ (t pre : List Int), x0 = pre ++ t →
    Ev (fun k => spec_l1Rising.l0 k x0 lo hi x0 (x0.length : Int) (pre.length : Int)) (risF lo hi pre.getLast? t) := by
  intro t
  induction t with
  | nil =>
    intro pre h
    refine ev_succ ?_
    simp only [spec_l1Rising.l0]
    exact ev_neg (by rw [h]; exact not_lt_end) (ev_some (by simp [risF]))
  | cons x t ih =>
    intro pre h
    have hm : ((pre.length : Nat) : Int) < (x0.length : Int) := by rw [h]; exact lt_mid
    have hg : rd x0 (pre.length : Int) = x := by rw [h]; exact rd_mid
    have next := ih (pre ++ [x]) (by rw [h]; simp)
    rw [len_one, List.getLast?_append, List.getLast?_singleton, Option.some_or] at next
    refine ev_succ ?_
    simp only [spec_l1Rising.l0, hg]
    rw [spec_in]
    refine ev_pos hm (ev_pos (by omega) (ev_pos hm (ev_bind _ (Ev.now _) ?_)))
    rw [winc (by omega)]
    unfold risF
    by_cases c : lo ≤ x ∧ x ≤ hi
    · rw [decide_eq_true c, Bool.true_and]
      refine ev_pos rfl ?_
      by_cases p0 : 0 < pre.length
      · obtain ⟨q, p, rfl⟩ := last_int p0
        have hq : rd x0 (q.length : Int) = p := by rw [h]; exact rd_last
        have hlen : (q ++ [p]).length = q.length + 1 := by simp
        rw [hlen] at hm next ⊢
        rw [List.getLast?_append, List.getLast?_singleton, Option.some_or, wdec (by omega)]
        refine ev_pos (by omega) (ev_pos (by omega) (ev_pos (by omega) ?_))
        rw [hq]
        by_cases d : p < x
        · simp only [decide_eq_true d, Bool.true_and]
          exact ev_neg (by omega) next
        · simp only [decide_eq_false d, Bool.false_and]
          exact ev_pos (by omega) (Ev.now _)
      · have : pre = [] := List.length_eq_zero_iff.1 (by omega)
        subst this
        simp only [List.getLast?_nil, Bool.true_and]
        exact ev_neg (by simp) next
    · rw [decide_eq_false c]
      exact ev_neg (by simp) (ev_some (by simp))
theorem spec_rising_f (lo hi : Int) (l : List Int) (hl : (l.length : Int) ≤ 9223372036854775806) : Ev (fun k => spec_l1Rising.f k l lo hi) (risF lo hi none l) := by
  unfold spec_l1Rising.f
  exact spec_rising_l0 lo hi l hl l [] rfl
theorem ris_edge (P : Int) (e : List Int) (h : e.length = 3) : risF 0 (P - 1) none e = isEdgeB P e := by
  match e, h with
  | [a, b, c], _ =>
    unfold isEdgeB
    simp only [risF, Bool.and_true]
    rw [Bool.eq_iff_iff]
    simp only [Bool.and_eq_true, decide_eq_true_eq]
    have e0 : rd [a, b, c] 0 = a := rfl
    have e1 : rd [a, b, c] 1 = b := rfl
    have e2 : rd [a, b, c] 2 = c := rfl
    have e3 : [a, b, c].length = 3 := rfl
    rw [e0, e1, e2, e3]
    omega
theorem spec_peEdge_f {P : Int} (h1 : 1 ≤ P) (h2 : P ≤ 72) (e : List Int) (hl : (e.length : Int) ≤ 9223372036854775806) : Ev (fun k => spec_peEdge.f k e P) (isEdgeB P e) := by
  unfold spec_peEdge.f
  rw [w64 (by omega) (by omega)]
  by_cases c : e.length = 3
  · refine ev_pos (by omega) ?_
    rw [← ris_edge P e c]
    exact ev_bind _ (spec_rising_f 0 (P - 1) e hl) (Ev.now _)
  · refine ev_neg (by omega) (ev_some ?_)
    unfold isEdgeB
    rw [decide_eq_false c]; rfl
theorem spec_peGood_l0 {P : Int} (h1 : 1 ≤ P) (h2 : P ≤ 72) (E x0 : Edges) (hl : (x0.length : Int) ≤ 9223372036854775806) (hr : ∀ e ∈ x0, (e.length : Int) ≤ 9223372036854775806) : ∀ (t pre : Edges), x0 = pre ++ t →
    Ev (fun k => spec_peGood.l0 k x0 (x0.length : Int) (pre.length : Int) P E) (t.all (isEdgeB P)) := by
  intro t
  induction t with
  | nil =>
    intro pre h
    refine ev_succ ?_
    simp only [spec_peGood.l0]
    exact ev_neg (by rw [h]; exact not_lt_end) (ev_some (by simp))
  | cons x t ih =>
    intro pre h
    have hm : ((pre.length : Nat) : Int) < (x0.length : Int) := by rw [h]; exact lt_mid
    have hg : rd_L2 x0 (pre.length : Int) = x := by simp [rd_L2, h]
    refine ev_succ ?_
    simp only [spec_peGood.l0, hg]
    refine ev_pos hm (ev_pos (by omega) (ev_pos hm (ev_bind _ (spec_peEdge_f h1 h2 x (hr x (by rw [h]; simp))) ?_)))
    rw [winc (by omega)]
    by_cases c : isEdgeB P x = true
    · have := ih (pre ++ [x]) (by rw [h]; simp)
      rw [len_one] at this
      rw [List.all_cons, c]
      exact ev_pos rfl this
    · rw [List.all_cons, Bool.eq_false_iff.2 c]
      exact ev_neg (by simp) (Ev.now _)
theorem spec_peGood_f (P : Int) (E : Edges) (hl : (E.length : Int) ≤ 9223372036854775806) (hr : ∀ e ∈ E, (e.length : Int) ≤ 9223372036854775806) : Ev (fun k => spec_peGood.f k P E) (goodB P E) := by
  unfold spec_peGood.f goodB
  rw [spec_in]
  refine ev_bind _ (Ev.now _) ?_
  by_cases c : 1 ≤ P ∧ P ≤ 72
  · rw [decide_eq_true c]
    refine ev_pos rfl (ev_succ ?_)
    simp only [spec_peGood.j0]
    by_cases d : E.length ≤ 40
    · rw [decide_eq_false (by omega), decide_eq_true d]
      exact ev_neg (by simp) (spec_peGood_l0 c.1 c.2 E E hl hr E [] rfl)
    · rw [decide_eq_true (by omega), decide_eq_false d]
      exact ev_pos rfl (ev_some (by simp))
  · rw [decide_eq_false c]
    refine ev_neg (by simp) (ev_succ ?_)
    simp only [spec_peGood.j0]
    exact ev_pos trivial (ev_some (by simp))

end Go.Proofs.YthkcgimnagpmaaaQ
namespace Go.Proofs.YthkcgimnagpmaaaQ
open Go Go.RowKit Go.Proofs.YthkcgimnagpmaaaW.PrintWords

theorem rd_set_ne {m : List Int} {p q : Int} {x : Int} (h0 : 0 ≤ p) (h1 : 0 ≤ q) (h : p ≠ q) : rd (m.set p.toNat x) q = rd m q := by
  unfold rd
  rw [List.getD_eq_getElem?_getD, List.getD_eq_getElem?_getD, List.getElem?_set_ne (by omega)]
theorem rd_set_eq {m : List Int} {p : Int} {x : Int} (h0 : 0 ≤ p) (h1 : p < (m.length : Int)) : rd (m.set p.toNat x) p = x := by
  unfold rd
  rw [List.getD_eq_getElem?_getD, List.getElem?_set_self (by omega), Option.getD_some]
end Go.Proofs.YthkcgimnagpmaaaQ
namespace Go.Proofs.YthkcgimnagpmaaaQ
open Go Go.RowKit Go.Proofs.YthkcgimnagpmaaaW.PrintWords Go.Proofs.YthkcgimnagpmaaaW.PrintMore Go.Proofs.YthkcgimnagpmaaaGp Go.Proofs.Ythkcgimnagpmaaa.PT

def Part (n : Nat) (G : List (List Int)) : Prop := G.flatten.length = n ∧ (∀ j : Nat, j < n → (j : Int) ∈ G.flatten) ∧ G.length ≤ n
theorem rdll_get {G : List (List Int)} {q : Nat} (h : q < G.length) : rd_L2 G (q : Int) = G[q] := by
  unfold rd_L2
  rw [Int.toNat_natCast, List.getD_eq_getElem?_getD, List.getElem?_eq_getElem h]
  rfl
theorem put_flat : ∀ (G : List (List Int)) (q : Nat) (h : q < G.length) (x : Int), (G.set q (G[q] ++ [x])).flatten.length = G.flatten.length + 1 ∧ ∀ y, y ∈ (G.set q (G[q] ++ [x])).flatten ↔ (y ∈ G.flatten ∨ y = x)
  | [], _, h, _ => by simp at h
  | g :: G, 0, _, x => by
    refine ⟨by simp; omega, fun y => ?_⟩
    simp only [List.set_cons_zero, List.flatten_cons, List.getElem_cons_zero, List.mem_append, List.mem_singleton]
    constructor
    · rintro ((h | h) | h)
      · exact .inl (.inl h)
      · exact .inr h
      · exact .inl (.inr h)
    · rintro ((h | h) | h)
      · exact .inl (.inl h)
      · exact .inr h
      · exact .inl (.inr h)
  | g :: G, q + 1, h, x => by
    have h' : q < G.length := by simpa using h
    obtain ⟨i1, i2⟩ := put_flat G q h' x
    refine ⟨by simp only [List.set_cons_succ, List.flatten_cons, List.getElem_cons_succ, List.length_append, i1]; omega, fun y => ?_⟩
    simp only [List.set_cons_succ, List.flatten_cons, List.getElem_cons_succ, List.mem_append, i2]
    constructor
    · rintro (h | h | h)
      · exact .inl (.inl h)
      · exact .inl (.inr h)
      · exact .inr h
    · rintro ((h | h) | h)
      · exact .inl h
      · exact .inr (.inl h)
      · exact .inr (.inr h)
theorem len_flat : ∀ (G : List (List Int)) (q : Nat) (h : q < G.length), G[q].length ≤ G.flatten.length
  | [], _, h => by simp at h
  | g :: G, 0, _ => by simp
  | g :: G, q + 1, h => by
    have := len_flat G q (by simpa using h)
    simp only [List.getElem_cons_succ, List.flatten_cons, List.length_append]
    omega
theorem gr_l4 {n m : Nat} {of : List Int} (hn : n ≤ 1000) (hmn : m ≤ n) (hl : of.length = n) (hof : ∀ p : Nat, p < n → 0 ≤ rd of (p : Int) ∧ rd of (p : Int) < (m : Int)) : ∀ (d i : Nat) (G : List (List Int)), i + d = n → G.length = m → G.flatten.length = i → (∀ j : Nat, j < i → (j : Int) ∈ G.flatten) →
    ∃ R, Ev (fun k => impl_groups.l4 k G of (of.length : Int) (i : Int)) R ∧ Part n R := by
  intro d
  induction d with
  | zero =>
    intro i G hi hG hf hm
    refine ⟨G, ev_succ ?_, by omega, fun j hj => hm j (by omega), by omega⟩
    simp only [impl_groups.l4]
    exact ev_neg (by omega) (Ev.now _)
  | succ d ih =>
    intro i G hi hG hf hm
    obtain ⟨o0, o1⟩ := hof i (by omega)
    obtain ⟨q, hq⟩ : ∃ q : Nat, rd of (i : Int) = (q : Int) := ⟨(rd of (i : Int)).toNat, by omega⟩
    have hqG : q < G.length := by omega
    obtain ⟨p1, p2⟩ := put_flat G q hqG (i : Int)
    have hlen := len_flat G q hqG
    obtain ⟨R, hR, hP⟩ := ih (i + 1) (G.set q (G[q] ++ [(i : Int)])) (by omega) (by rw [List.length_set]; exact hG) (by rw [p1, hf]) (fun j hj => by
      rw [p2]
      by_cases e : j = i
      · exact .inr (by omega)
      · exact .inl (hm j (by omega)))
    refine ⟨R, ev_succ ?_, hP⟩
    simp only [impl_groups.l4, hq, rdll_get hqG, Int.toNat_natCast]
    rw [winc (by omega)]
    exact ev_pos (by omega) (ev_pos (by omega) (ev_pos (by omega) (ev_pos (by omega) (ev_pos (by omega) (ev_pos (by omega) hR)))))
section
variable {L : List (List Int)}
theorem idx_ex (hL : ∀ e ∈ L, e.length ≤ 1000) {todo : List Int} (ht : 0 < todo.length) (h0 : 0 ≤ rd todo 0) (h1 : rd todo 0 < (L.length : Int)) (x0 : List Int) (hx : x0.length ≤ 1000) : ∀ (t pre : List Int), x0 = pre ++ t →
    ∃ r, Ev (fun k => slices_IndexFunc_int_int_at_impl_groups_1.l0 k x0 (x0.length : Int) (pre.length : Int) L todo) r := by
  have hlen : (rd_L2 L (rd todo 0)).length ≤ 1000 := by
    have := rdll_get (G := L) (q := (rd todo 0).toNat) (by omega)
    rw [Int.toNat_of_nonneg h0] at this
    rw [this]
    exact hL _ (List.getElem_mem _)
  intro t
  induction t with
  | nil =>
    intro pre h
    refine ⟨-1, ev_succ ?_⟩
    simp only [slices_IndexFunc_int_int_at_impl_groups_1.l0]
    exact ev_neg (by rw [h]; exact not_lt_end) (Ev.now _)
  | cons x t ih =>
    intro pre h
    have hm : ((pre.length : Nat) : Int) < (x0.length : Int) := by rw [h]; exact lt_mid
    obtain ⟨r, hr⟩ := ih (pre ++ [x]) (by rw [h]; simp)
    rw [len_one] at hr
    have hc := slices_Contains_int_f (rd_L2 L (rd todo 0)) (rd x0 (pre.length : Int)) (by omega)
    have e1 : Ev (fun k => impl_groups_1.f k (rd x0 (pre.length : Int)) L todo) ((rd_L2 L (rd todo 0)).contains (rd x0 (pre.length : Int))) := by
      unfold impl_groups_1.f
      exact ev_pos (by omega) (ev_pos h0 (ev_pos h1 (ev_bind _ hc (Ev.now _))))
    by_cases c : (rd_L2 L (rd todo 0)).contains (rd x0 (pre.length : Int)) = true
    · refine ⟨(pre.length : Int), ev_succ ?_⟩
      simp only [slices_IndexFunc_int_int_at_impl_groups_1.l0]
      exact ev_pos hm (ev_pos (by omega) (ev_pos hm (ev_bind _ e1 (ev_pos c (Ev.now _)))))
    · refine ⟨r, ev_succ ?_⟩
      simp only [slices_IndexFunc_int_int_at_impl_groups_1.l0]
      rw [winc (by omega)]
      exact ev_pos hm (ev_pos (by omega) (ev_pos hm (ev_bind _ e1 (ev_neg c hr))))
theorem cont_ex (hL : ∀ e ∈ L, e.length ≤ 1000) {todo : List Int} (ht : 0 < todo.length) (h0 : 0 ≤ rd todo 0) (h1 : rd todo 0 < (L.length : Int)) (x0 : List Int) (hx : x0.length ≤ 1000) : ∃ b, Ev (fun k => slices_ContainsFunc_int_int_at_impl_groups_1.f k x0 L todo) b := by
  obtain ⟨r, hr⟩ := idx_ex hL ht h0 h1 x0 hx x0 [] rfl
  refine ⟨decide (r ≥ 0), ?_⟩
  unfold slices_ContainsFunc_int_int_at_impl_groups_1.f slices_IndexFunc_int_int_at_impl_groups_1.f
  exact ev_bind _ hr (Ev.now _)
def negN (l : List Int) : Nat := l.countP (fun x => decide (x < 0))
theorem negN_set {l : List Int} {p : Nat} (hp : p < l.length) {v : Int} (h : rd l (p : Int) < 0) (hv : 0 ≤ v) : negN (l.set p v) + 1 = negN l := by
  rw [rd_get hp] at h
  induction l generalizing p with
  | nil => simp at hp
  | cons x t ih =>
    cases p with
    | zero =>
      have hx : x < 0 := by simpa using h
      simp only [List.set_cons_zero, negN, List.countP_cons, decide_eq_true hx, if_pos, decide_eq_false (show ¬ v < 0 by omega)]
      simp
    | succ p =>
      have := ih (p := p) (by simpa using hp) (by simpa using h)
      simp only [List.set_cons_succ, negN, List.countP_cons] at this ⊢
      omega
structure OfOk (n m : Nat) (of : List Int) : Prop where
  len : of.length = n
  rng : ∀ p : Nat, p < n → -1 ≤ rd of (p : Int) ∧ rd of (p : Int) ≤ (m : Int)
theorem OfOk.set {n m : Nat} {of : List Int} (h : OfOk n m of) {p : Nat} (_ : p < n) : OfOk n m (of.set p (m : Int)) := by
  refine ⟨by rw [List.length_set]; exact h.len, fun q hq => ?_⟩
  by_cases e : p = q
  · subst e
    have := rd_set_eq (m := of) (p := (p : Int)) (x := (m : Int)) (by omega) (by have := h.len; omega)
    rw [Int.toNat_natCast] at this
    rw [this]; omega
  · have := rd_set_ne (m := of) (p := (p : Int)) (q := (q : Int)) (x := (m : Int)) (by omega) (by omega) (by omega)
    rw [Int.toNat_natCast] at this
    rw [this]; exact h.rng q hq
theorem set_keeps {of : List Int} {p : Nat} {m : Nat} {q : Nat} (hq : q < of.length) (h : 0 ≤ rd of (q : Int)) : 0 ≤ rd (of.set p (m : Int)) (q : Int) := by
  by_cases e : p = q
  · subst e
    have := rd_set_eq (m := of) (p := (p : Int)) (x := (m : Int)) (by omega) (by omega)
    rw [Int.toNat_natCast] at this
    rw [this]; omega
  · have := rd_set_ne (m := of) (p := (p : Int)) (q := (q : Int)) (x := (m : Int)) (by omega) (by omega) (by omega)
    rw [Int.toNat_natCast] at this
    rw [this]; exact h
theorem gr_l3 (hn : L.length ≤ 1000) (hL : ∀ e ∈ L, e.length ≤ 1000) {m i : Nat} (hm : m ≤ 1000) {X : List (List Int)} {N : Nat} (hNb : N ≤ 3000) (old : List Int)
    (H : ∀ of todo : List Int, OfOk L.length m of → (∀ x ∈ todo, 0 ≤ x ∧ x < (L.length : Int)) → todo.length + negN of + 1 = N → (∀ q : Nat, q < L.length → 0 ≤ rd old (q : Int) → 0 ≤ rd of (q : Int)) → ∃ R, Ev (fun k => impl_groups.l2 k X of (m : Int) (L.length : Int) (i : Int) L todo) R ∧ Part L.length R) :
    ∀ (d j : Nat) (of todo : List Int), j + d = L.length → OfOk L.length m of → (∀ x ∈ todo, 0 ≤ x ∧ x < (L.length : Int)) → 0 < todo.length → todo.length + negN of = N → (∀ q : Nat, q < L.length → 0 ≤ rd old (q : Int) → 0 ≤ rd of (q : Int)) →
    ∃ R, Ev (fun k => impl_groups.l3 k X of (m : Int) (L.length : Int) (i : Int) (L.length : Int) (j : Int) L todo) R ∧ Part L.length R := by
  intro d
  induction d with
  | zero =>
    intro j of todo hj ho ht hpos hN hold
    obtain ⟨R, hR, hP⟩ := H of (todo.drop 1) ho (fun x hx => ht x (List.mem_of_mem_drop hx)) (by rw [List.length_drop]; omega) hold
    refine ⟨R, ev_succ ?_, hP⟩
    simp only [impl_groups.l3]
    exact ev_neg (by omega) (ev_pos (by omega) hR)
  | succ d ih =>
    intro j of todo hj ho ht hpos hN hold
    have hol := ho.len
    by_cases c : rd of (j : Int) < 0
    · have hx0 : rd todo 0 ∈ todo := by
        have := rd_get (xs := todo) (i := 0) hpos
        rw [show ((0 : Nat) : Int) = 0 from rfl] at this
        rw [this]; exact List.getElem_mem _
      obtain ⟨t0, t1⟩ := ht _ hx0
      have hjL : j < L.length := by omega
      obtain ⟨b, hb⟩ := cont_ex hL hpos t0 t1 (rd_L2 L (j : Int)) (by rw [rdll_get hjL]; exact hL _ (List.getElem_mem _))
      by_cases cb : b = true
      · have hneg := negN_set (l := of) (p := j) (v := (m : Int)) (by omega) c (by omega)
        obtain ⟨R, hR, hP⟩ := ih (j + 1) (of.set j (m : Int)) (todo ++ [(j : Int)]) (by omega) (ho.set hjL) (fun x hx => by
          rcases List.mem_append.1 hx with h | h
          · exact ht x h
          · rw [List.mem_singleton.1 h]; omega) (by simp) (by rw [List.length_append, List.length_singleton]; omega) (fun q hq h => set_keeps (by omega) (hold q hq h))
        refine ⟨R, ev_succ ?_, hP⟩
        simp only [impl_groups.l3, Int.toNat_natCast]
        rw [winc (by omega)]
        exact ev_pos (by omega) (ev_pos (by omega) (ev_pos (by omega) (ev_pos c (ev_pos (by omega) (ev_bind _ hb (ev_pos cb (ev_pos (by omega) hR)))))))
      · obtain ⟨R, hR, hP⟩ := ih (j + 1) of todo (by omega) ho ht hpos hN hold
        refine ⟨R, ev_succ ?_, hP⟩
        simp only [impl_groups.l3]
        rw [winc (by omega)]
        exact ev_pos (by omega) (ev_pos (by omega) (ev_pos (by omega) (ev_pos c (ev_pos (by omega) (ev_bind _ hb (ev_neg cb hR))))))
    · obtain ⟨R, hR, hP⟩ := ih (j + 1) of todo (by omega) ho ht hpos hN hold
      refine ⟨R, ev_succ ?_, hP⟩
      simp only [impl_groups.l3]
      rw [winc (by omega)]
      exact ev_pos (by omega) (ev_pos (by omega) (ev_pos (by omega) (ev_neg c hR)))
theorem gr_l2 (hn : L.length ≤ 1000) (hL : ∀ e ∈ L, e.length ≤ 1000) {m i : Nat} (hm : m ≤ 1000) {X : List (List Int)} (hX : X.length ≤ 1000) (hi : i ≤ 1000) (old : List Int)
    (H : ∀ of : List Int, OfOk L.length m of → (∀ q : Nat, q < L.length → 0 ≤ rd old (q : Int) → 0 ≤ rd of (q : Int)) → ∃ R, Ev (fun k => impl_groups.l1 k (X ++ [[]]) of (L.length : Int) ((i + 1 : Nat) : Int) L) R ∧ Part L.length R) :
    ∀ (N : Nat) (of todo : List Int), N ≤ 3000 → todo.length + negN of = N → OfOk L.length m of → (∀ x ∈ todo, 0 ≤ x ∧ x < (L.length : Int)) → (∀ q : Nat, q < L.length → 0 ≤ rd old (q : Int) → 0 ≤ rd of (q : Int)) →
    ∃ R, Ev (fun k => impl_groups.l2 k X of (m : Int) (L.length : Int) (i : Int) L todo) R ∧ Part L.length R := by
  intro N
  induction N with
  | zero =>
    intro of todo hN h ho ht hold
    obtain ⟨R, hR, hP⟩ := H of ho hold
    refine ⟨R, ev_succ ?_, hP⟩
    simp only [impl_groups.l2]
    rw [winc (by omega)]
    exact ev_neg (by omega) (ev_pos (by omega) hR)
  | succ N ih =>
    intro of todo hN h ho ht hold
    by_cases c : todo.length = 0
    · obtain ⟨R, hR, hP⟩ := H of ho hold
      refine ⟨R, ev_succ ?_, hP⟩
      simp only [impl_groups.l2]
      rw [winc (by omega)]
      exact ev_neg (by omega) (ev_pos (by omega) hR)
    · obtain ⟨R, hR, hP⟩ := gr_l3 hn hL hm (X := X) (i := i) hN old (fun of' todo' ho' ht' hN' hold' => ih of' todo' (by omega) (by omega) ho' ht' hold') L.length 0 of todo (by omega) ho ht (by omega) h hold
      refine ⟨R, ev_succ ?_, hP⟩
      simp only [impl_groups.l2]
      exact ev_pos (by omega) hR
theorem gr_l1 (hn : L.length ≤ 1000) (hL : ∀ e ∈ L, e.length ≤ 1000) : ∀ (d i m : Nat) (of : List Int), i + d = L.length → m ≤ i → of.length = L.length → (∀ p : Nat, p < L.length → -1 ≤ rd of (p : Int) ∧ rd of (p : Int) < (m : Int)) → (∀ p : Nat, p < i → 0 ≤ rd of (p : Int)) →
    ∃ R, Ev (fun k => impl_groups.l1 k (List.replicate m []) of (L.length : Int) (i : Int) L) R ∧ Part L.length R := by
  intro d
  induction d with
  | zero =>
    intro i m of hi hm hl hr hz
    obtain ⟨R, hR, hP⟩ := gr_l4 (n := L.length) (m := m) (of := of) hn (by omega) hl (fun p hp => ⟨hz p (by omega), (hr p hp).2⟩) L.length 0 (List.replicate m []) (by omega) (by simp) (by simp) (fun j hj => absurd hj (by omega))
    refine ⟨R, ev_succ ?_, hP⟩
    simp only [impl_groups.l1]
    exact ev_neg (by omega) hR
  | succ d ih =>
    intro i m of hi hm hl hr hz
    have hiL : i < L.length := by omega
    by_cases c : rd of (i : Int) ≥ 0
    · obtain ⟨R, hR, hP⟩ := ih (i + 1) m of (by omega) (by omega) hl hr (fun p hp => by
        by_cases e : p = i
        · subst e; exact c
        · exact hz p (by omega))
      refine ⟨R, ev_succ ?_, hP⟩
      simp only [impl_groups.l1]
      rw [winc (by omega)]
      exact ev_pos (by omega) (ev_pos (by omega) (ev_pos (by omega) (ev_pos c hR)))
    · have hok : OfOk L.length m of := ⟨hl, fun p hp => by have := hr p hp; omega⟩
      have hneg := negN_set (l := of) (p := i) (v := (m : Int)) (by omega) (by omega) (by omega)
      have hnl : negN of ≤ of.length := List.countP_le_length
      have hset : rd (of.set i (m : Int)) (i : Int) = (m : Int) := by
        have := rd_set_eq (m := of) (p := (i : Int)) (x := (m : Int)) (by omega) (by omega)
        rw [Int.toNat_natCast] at this
        exact this
      obtain ⟨R, hR, hP⟩ := gr_l2 hn hL (m := m) (i := i) (by omega) (X := List.replicate m []) (by simp; omega) (by omega) (of.set i (m : Int)) (fun of' ho' hold' => by
        have := ih (i + 1) (m + 1) of' (by omega) (by omega) ho'.len (fun p hp => by have := ho'.rng p hp; omega) (fun p hp => by
          refine hold' p (by omega) ?_
          by_cases e : p = i
          · subst e; rw [hset]; omega
          · exact set_keeps (by omega) (hz p (by omega)))
        rw [List.replicate_succ'] at this
        exact this) (1 + negN (of.set i (m : Int))) (of.set i (m : Int)) [(i : Int)] (by omega) (by simp) (hok.set hiL) (fun x hx => by rw [List.mem_singleton.1 hx]; omega) (fun _ _ h => h)
      refine ⟨R, ev_succ ?_, hP⟩
      simp only [impl_groups.l1, Int.toNat_natCast, List.length_replicate]
      exact ev_pos (by omega) (ev_pos (by omega) (ev_pos (by omega) (ev_neg c hR)))
theorem gr_l0 (hn : L.length ≤ 1000) (hL : ∀ e ∈ L, e.length ≤ 1000) : ∀ (d i : Nat) (of : List Int), i + d = L.length → of.length = L.length → (∀ p : Nat, p < i → rd of (p : Int) = -1) →
    ∃ R, Ev (fun k => impl_groups.l0 k [] of (L.length : Int) (i : Int) L) R ∧ Part L.length R := by
  intro d
  induction d with
  | zero =>
    intro i of hi hl hz
    obtain ⟨R, hR, hP⟩ := gr_l1 hn hL L.length 0 0 of (by omega) (by omega) hl (fun p hp => by have := hz p (by omega); omega) (fun p hp => absurd hp (by omega))
    refine ⟨R, ev_succ ?_, hP⟩
    simp only [impl_groups.l0]
    exact ev_neg (by omega) hR
  | succ d ih =>
    intro i of hi hl hz
    obtain ⟨R, hR, hP⟩ := ih (i + 1) (of.set i (-1)) (by omega) (by rw [List.length_set]; exact hl) (fun p hp => by
      by_cases e : i = p
      · subst e
        have := rd_set_eq (m := of) (p := (i : Int)) (x := -1) (by omega) (by omega)
        rw [Int.toNat_natCast] at this
        exact this
      · have := rd_set_ne (m := of) (p := (i : Int)) (q := (p : Int)) (x := -1) (by omega) (by omega) (by omega)
        rw [Int.toNat_natCast] at this
        rw [this]; exact hz p (by omega))
    refine ⟨R, ev_succ ?_, hP⟩
    simp only [impl_groups.l0, Int.toNat_natCast]
    rw [winc (by omega)]
    exact ev_pos (by omega) (ev_pos (by omega) (ev_pos (by omega) hR))
theorem impl_groups_f (hn : L.length ≤ 1000) (hL : ∀ e ∈ L, e.length ≤ 1000) : ∃ R, Ev (fun k => impl_groups.f k L) R ∧ Part L.length R := by
  obtain ⟨R, hR, hP⟩ := gr_l0 hn hL L.length 0 (List.replicate L.length 0) (by omega) (by simp) (fun p hp => absurd hp (by omega))
  refine ⟨R, ?_, hP⟩
  unfold impl_groups.f
  simp only [Int.toNat_natCast, List.length_replicate, Option.bind_some]
  exact ev_pos (by omega) (ev_pos (by omega) hR)
end
end Go.Proofs.YthkcgimnagpmaaaQ
namespace Go.Proofs.YthkcgimnagpmaaaQ
open Go Go.RowKit Go.Proofs.YthkcgimnagpmaaaW.PrintWords Go.Proofs.YthkcgimnagpmaaaGp Go.Proofs.Ythkcgimnagpmaaa.PT

def insI (s : Int) : List Int → List Int
  | [] => [s]
  | q :: t => if q < s then q :: insI s t else if q = s then q :: t else s :: q :: t
theorem insI_len (s : Int) : ∀ l, (insI s l).length ≤ l.length + 1
  | [] => by simp [insI]
  | q :: t => by
    have := insI_len s t
    unfold insI
    split
    · simp; omega
    · split <;> simp
theorem put_l0 (x0 : List Int) (s : Int) (hx : x0.length ≤ 1000000) : ∀ (t pre : List Int), x0 = pre ++ t →
    Ev (fun k => spec_l1Put.l0 k x0 s (pre.length : Int)) (pre ++ insI s t) := by
  intro t
  induction t with
  | nil =>
    intro pre h
    have hp : x0 = pre := by rw [h, List.append_nil]
    subst hp
    refine ev_succ ?_
    simp only [spec_l1Put.l0]
    refine ev_neg (by omega) (ev_bind _ (Ev.now _) (ev_pos (by omega) (ev_pos (by omega) (ev_bind _ (Ev.now _) ?_))))
    rw [Int.toNat_natCast, List.take_length, List.nil_append]
    refine ev_pos (by simp; omega) (ev_bind _ (Ev.now _) (ev_pos (by omega) (ev_bind _ (Ev.now _) (ev_bind _ (Ev.now _) (ev_pos (by simp; omega) (ev_some ?_))))))
    simp [insI]
  | cons q t ih =>
    intro pre h
    have hm : ((pre.length : Nat) : Int) < (x0.length : Int) := by rw [h]; exact lt_mid
    have hg : rd x0 (pre.length : Int) = q := by rw [h]; exact rd_mid
    refine ev_succ ?_
    simp only [spec_l1Put.l0, hg]
    refine ev_pos hm (ev_pos (by omega) ?_)
    unfold insI
    by_cases c : q < s
    · refine ev_pos c ?_
      rw [winc (by omega), if_pos c]
      have := ih (pre ++ [q]) (by rw [h]; simp)
      rw [len_one] at this
      simpa using this
    · refine ev_neg c ?_
      rw [if_neg c]
      by_cases d : q = s
      · refine ev_pos d (ev_some ?_)
        rw [if_pos d, h]
      · refine ev_neg d (ev_bind _ (Ev.now _) (ev_pos (by omega) (ev_bind _ (Ev.now _) ?_)))
        have et : x0.take pre.length = pre := by rw [h]; simp
        have ed : x0.drop pre.length = q :: t := by rw [h]; simp
        have hl : x0.length = pre.length + (t.length + 1) := by rw [h]; simp
        rw [Int.toNat_natCast, et, ed, List.nil_append, if_neg d]
        refine ev_pos (by simp; omega) (ev_bind _ (Ev.now _) (ev_pos (by omega) (ev_bind _ (Ev.now _) (ev_bind _ (Ev.now _) (ev_pos (by simp; omega) (ev_some ?_))))))
        simp
theorem put_f (l : List Int) (s : Int) (h : l.length ≤ 1000000) : Ev (fun k => spec_l1Put.f k l s) (insI s l) := put_l0 l s h l [] rfl
theorem edge_l0 {s : List Int} (hs : Bys s) (P : Int) : ∀ (d i : Nat) (x : List Int) (p sd : Int), i + d = 5 → x.length ≤ i → 0 ≤ p → p + 2 * (d : Int) ≤ 1000000000000000000 →
    Dr (fun k => spec_l1Cur_edge.l0 k P x (i : Int) s p sd) p (2 * (d : Int)) (fun v => v.length ≤ 5) := by
  intro d
  induction d with
  | zero =>
    intro i x p sd hi hx h0 h1
    refine ⟨x, p, sd, ev_succ ?_, by omega, h0, by omega⟩
    simp only [spec_l1Cur_edge.l0]
    refine ev_neg (by omega) (ev_succ ?_)
    simp only [spec_l1Cur_edge.j1]
    exact ev_neg (by simp) (Ev.now _)
  | succ d ih =>
    intro i x p sd hi hx h0 h1
    by_cases c : (x.length : Int) < 3
    · obtain ⟨v, p', sd', e, hv, q0, q1⟩ := pick_ok hs sd (n := if P > 1 then P else 1) h0 (by omega)
      have hl := insI_len v x
      obtain ⟨u, p2, sd2, eu, hu, r0, r1⟩ := ih (i + 1) (insI v x) p' sd' (by omega) (by omega) q0 (by omega)
      refine ⟨u, p2, sd2, ev_succ ?_, hu, r0, by omega⟩
      simp only [spec_l1Cur_edge.l0]
      rw [decide_eq_true c]
      refine ev_pos (by omega) (ev_succ ?_)
      simp only [spec_l1Cur_edge.j1, spec_l1Most.f]
      refine ev_pos trivial (ev_bind (if P > 1 then P else 1) ?_ ?_)
      · split <;> exact Ev.now _
      · rw [e]
        refine ev_bind _ (Ev.now _) (ev_bind _ (put_f x v (by omega)) ?_)
        rw [winc (by omega)]
        exact eu
    · refine ⟨x, p, sd, ev_succ ?_, by omega, h0, by omega⟩
      simp only [spec_l1Cur_edge.l0]
      rw [decide_eq_false c]
      refine ev_pos (by omega) (ev_succ ?_)
      simp only [spec_l1Cur_edge.j1]
      exact ev_neg (by simp) (Ev.now _)
theorem edge_ok {s : List Int} (hs : Bys s) (P : Int) {p : Int} (sd : Int) (h0 : 0 ≤ p) (h1 : p ≤ 900000000000000000) : Dr (fun k => spec_l1Cur_edge.f k s p sd P) p 10 (fun v => v.length ≤ 5) := by
  unfold spec_l1Cur_edge.f
  have := edge_l0 hs P 5 0 [] p sd rfl (by simp) h0 (by omega)
  exact this
def DrH (g : Nat → Option (Int × Edges × Int × Int)) (p c : Int) : Prop := ∃ P E p' sd', Ev g (P, E, p', sd') ∧ ((E : Edges).length ≤ 100 ∧ ∀ e ∈ E, e.length ≤ 5) ∧ 0 ≤ p' ∧ p' ≤ p + c
theorem hyper_l0 {s : List Int} (hs : Bys s) : ∀ (d : Nat) (p sd P : Int) (E : Edges), E.length + d ≤ 100 → (∀ e ∈ E, e.length ≤ 5) → 0 ≤ p → p + 12 * (d : Int) ≤ 800000000000000000 →
    DrH (fun k => spec_l1Cur_hyper.l0 k (d : Int) s p sd P E) p (12 * (d : Int) + 4) := by
  intro d
  induction d with
  | zero =>
    intro p sd P E hE hE5 h0 h1
    obtain ⟨v, p', sd', e, q0, q1⟩ := one_ok hs sd 14 h0 (by omega)
    by_cases c : v = true
    · obtain ⟨u, p2, sd2, eu, hu, r0, r1⟩ := among_ok hs sd' (l := [(-1), 0, 2, 5, 72, 73]) (by simp) q0 (by omega)
      refine ⟨u, E, p2, sd2, ev_succ ?_, ⟨by omega, hE5⟩, r0, by omega⟩
      simp only [spec_l1Cur_hyper.l0, e]
      refine ev_neg (by omega) (ev_bind _ (Ev.now _) (ev_pos c ?_))
      simp only [eu]
      exact ev_bind _ (Ev.now _) (Ev.now _)
    · refine ⟨P, E, p', sd', ev_succ ?_, ⟨by omega, hE5⟩, q0, by omega⟩
      simp only [spec_l1Cur_hyper.l0, e]
      exact ev_neg (by omega) (ev_bind _ (Ev.now _) (ev_neg c (Ev.now _)))
  | succ d ih =>
    intro p sd P E hE hE5 h0 h1
    obtain ⟨v, p', sd', e, hv, q0, q1⟩ := edge_ok hs P sd h0 (by omega)
    have hE6 : ∀ e ∈ E ++ [v], e.length ≤ 5 := fun e he => (List.mem_append.1 he).elim (hE5 e) (fun h => List.mem_singleton.1 h ▸ hv)
    by_cases c : (v.length : Int) = 3
    · obtain ⟨P2, E2, p2, sd2, e2, h2, r0, r1⟩ := ih p' sd' P (E ++ [v]) (by simp; omega) hE6 q0 (by omega)
      refine ⟨P2, E2, p2, sd2, ev_succ ?_, h2, r0, by omega⟩
      simp only [spec_l1Cur_hyper.l0]
      refine ev_pos (by omega) (ev_bind _ e (ev_pos c (ev_pos (by omega) ?_)))
      rw [wdec (by omega)]
      exact e2
    · obtain ⟨b, p1, sd1, e1, t0, t1⟩ := one_ok hs sd' 8 q0 (by omega)
      by_cases cb : b = true
      · obtain ⟨P2, E2, p2, sd2, e2, h2, r0, r1⟩ := ih p1 sd1 P (E ++ [v]) (by simp; omega) hE6 t0 (by omega)
        refine ⟨P2, E2, p2, sd2, ev_succ ?_, h2, r0, by omega⟩
        simp only [spec_l1Cur_hyper.l0]
        refine ev_pos (by omega) (ev_bind _ e (ev_neg c ?_))
        simp only [e1]
        refine ev_bind _ (Ev.now _) (ev_pos cb (ev_pos (by omega) ?_))
        rw [wdec (by omega)]
        exact e2
      · obtain ⟨P2, E2, p2, sd2, e2, h2, r0, r1⟩ := ih p1 sd1 P E (by omega) hE5 t0 (by omega)
        refine ⟨P2, E2, p2, sd2, ev_succ ?_, h2, r0, by omega⟩
        simp only [spec_l1Cur_hyper.l0]
        refine ev_pos (by omega) (ev_bind _ e (ev_neg c ?_))
        simp only [e1]
        refine ev_bind _ (Ev.now _) (ev_neg cb ?_)
        rw [wdec (by omega)]
        exact e2
theorem hyper_ok {s : List Int} (hs : Bys s) {p : Int} (sd : Int) (h0 : 0 ≤ p) (h1 : p ≤ 100000000000000000) : DrH (fun k => spec_l1Cur_hyper.f k s p sd) p 700 := by
  obtain ⟨b, p1, sd1, e1, q0, q1⟩ := one_ok hs sd 4 h0 (by omega)
  unfold spec_l1Cur_hyper.f
  rw [e1]
  by_cases c : b = true
  · obtain ⟨a, p2, sd2, e2, ha, r0, r1⟩ := pick_ok hs sd1 (n := 20) q0 (by omega)
    obtain ⟨ks, p3, sd3, e3, hk, s0, s1⟩ := keys_ok hs sd2 (n := 10) (by omega) r0 (by omega)
    obtain ⟨n, p4, sd4, e4, hn, t0, t1⟩ := pick_ok hs sd3 (n := 6) s0 (by omega)
    have hh := spec_peHyper_f (a0 := a) (n := 1 + n) (by omega) (by omega) (by omega) (by omega) (x0 := ks) (by have := hk.1; omega) (fun s hs => by have := hk.2 s hs; omega)
    refine ⟨3 * (1 + n), hypE a (1 + n) ks, p4, sd4, ev_bind _ (Ev.now _) (ev_pos c ?_), ⟨by rw [hypE_len]; have := hk.1; omega, fun e he => by simp only [hypE, List.mem_map] at he; obtain ⟨s, _, rfl⟩ := he; simp [tripL]⟩, t0, by omega⟩
    simp only [e2]
    refine ev_bind _ (Ev.now _) (ev_bind _ e3 ?_)
    simp only [e4]
    refine ev_bind _ (Ev.now _) ?_
    simp only []
    rw [w64 (by omega) (by omega)]
    exact ev_bind _ hh (Ev.now _)
  · obtain ⟨a, p2, sd2, e2, ha, r0, r1⟩ := pick_ok hs sd1 (n := 8) q0 (by omega)
    obtain ⟨n, p3, sd3, e3, hn, s0, s1⟩ := pick_ok hs sd2 (n := 8) r0 (by omega)
    obtain ⟨b2, p4, sd4, e4, t0, t1⟩ := one_ok hs sd3 24 s0 (by omega)
    by_cases c2 : b2 = true
    · obtain ⟨m, p5, sd5, e5, hm, u0, u1⟩ := pick_ok hs sd4 (n := 2) t0 (by omega)
      obtain ⟨P2, E2, p6, sd6, e6, h6, v0, v1⟩ := hyper_l0 hs (40 + m.toNat) p5 sd5 72 [] (by simp; omega) (by simp) u0 (by omega)
      refine ⟨P2, E2, p6, sd6, ev_bind _ (Ev.now _) (ev_neg c ?_), h6, v0, by omega⟩
      simp only [e2]
      refine ev_bind _ (Ev.now _) ?_
      simp only [e3]
      refine ev_bind _ (Ev.now _) ?_
      simp only [e4]
      refine ev_bind _ (Ev.now _) (ev_pos c2 ?_)
      simp only [e5]
      refine ev_bind _ (Ev.now _) (ev_succ ?_)
      simp only [spec_l1Cur_hyper.j0]
      rw [w64 (by omega) (by omega), show 40 + m = ((40 + m.toNat : Nat) : Int) from by omega]
      exact e6
    · obtain ⟨P2, E2, p6, sd6, e6, h6, v0, v1⟩ := hyper_l0 hs n.toNat p4 sd4 (wrap64 (3 + a)) [] (by simp; omega) (by simp) t0 (by omega)
      refine ⟨P2, E2, p6, sd6, ev_bind _ (Ev.now _) (ev_neg c ?_), h6, v0, by omega⟩
      simp only [e2]
      refine ev_bind _ (Ev.now _) ?_
      simp only [e3]
      refine ev_bind _ (Ev.now _) ?_
      simp only [e4]
      refine ev_bind _ (Ev.now _) (ev_neg c2 (ev_succ ?_))
      simp only [spec_l1Cur_hyper.j0]
      rw [show ((n.toNat : Nat) : Int) = n from by omega] at e6
      exact e6
end Go.Proofs.YthkcgimnagpmaaaQ
namespace Go.Proofs.YthkcgimnagpmaaaQ
open Go Go.RowKit Go.Proofs.YthkcgimnagpmaaaW.PrintWords Go.Proofs.YthkcgimnagpmaaaW.PrintMore Go.Proofs.YthkcgimnagpmaaaGp Go.Proofs.Ythkcgimnagpmaaa.PT

theorem rdll_mid {pre t : List (List Int)} {x : List Int} : rd_L2 (pre ++ x :: t) (pre.length : Int) = x := by
  rw [rdll_get (by simp)]; simp
theorem clone_l0 (P : Int) {x0 : List (List Int)} (hl : x0.length ≤ 1000) (hr : ∀ e ∈ x0, e.length ≤ 1000) : ∀ (t pre : List (List Int)), x0 = pre ++ t →
    Ev (fun k => impl_cloneHyper.l0 k x0 (x0.length : Int) (pre.length : Int) P pre) (P, x0) := by
  intro t
  induction t with
  | nil =>
    intro pre h
    refine ev_succ ?_
    simp only [impl_cloneHyper.l0]
    exact ev_neg (by rw [h]; exact not_lt_end) (ev_some (by rw [h]; simp))
  | cons x t ih =>
    intro pre h
    have hm : ((pre.length : Nat) : Int) < (x0.length : Int) := by rw [h]; exact lt_mid
    have hg : rd_L2 x0 (pre.length : Int) = x := by rw [h]; exact rdll_mid
    have hx := hr x (by rw [h]; simp)
    have next := ih (pre ++ [x]) (by rw [h]; simp)
    rw [len_one] at next
    have ec : slices_Clone_int_int.f x = some x := by
      unfold slices_Clone_int_int.f
      rw [Option.bind_some, if_pos (by simp; omega)]; rfl
    refine ev_succ ?_
    simp only [impl_cloneHyper.l0, hg, ec]
    rw [winc (by omega)]
    exact ev_pos hm (ev_pos (by omega) (ev_pos hm (ev_bind _ (Ev.now _) (ev_pos (by omega) next))))
theorem impl_cloneHyper_f (P : Int) {E : Edges} (hl : E.length ≤ 1000) (hr : ∀ e ∈ E, e.length ≤ 1000) : Ev (fun k => impl_cloneHyper.f k P E) (P, E) := by
  unfold impl_cloneHyper.f
  exact clone_l0 P hl hr E [] rfl
theorem own_l0 (P : Int) {x0 : List (List Int)} (hl : x0.length ≤ 1000) (hr : ∀ e ∈ x0, e.length ≤ 1000) : ∀ (t pre : List (List Int)), x0 = pre ++ t →
    Ev (fun k => spec_peOwn.l0 k x0 (x0.length : Int) (pre.length : Int) P pre) (P, x0) := by
  intro t
  induction t with
  | nil =>
    intro pre h
    refine ev_succ ?_
    simp only [spec_peOwn.l0]
    exact ev_neg (by rw [h]; exact not_lt_end) (ev_some (by rw [h]; simp))
  | cons x t ih =>
    intro pre h
    have hm : ((pre.length : Nat) : Int) < (x0.length : Int) := by rw [h]; exact lt_mid
    have hg : rd_L2 x0 (pre.length : Int) = x := by rw [h]; exact rdll_mid
    have hx := hr x (by rw [h]; simp)
    have next := ih (pre ++ [x]) (by rw [h]; simp)
    rw [len_one] at next
    have ec : spec_l1Own.f x = some x := by
      unfold spec_l1Own.f
      rw [Option.bind_some, if_pos (by simp; omega)]; rfl
    refine ev_succ ?_
    simp only [spec_peOwn.l0, hg, ec]
    rw [winc (by omega)]
    exact ev_pos hm (ev_pos (by omega) (ev_pos hm (ev_bind _ (Ev.now _) (ev_pos (by omega) next))))
theorem good_app {P : Int} {E : Edges} {e : List Int} (h : goodB P E = true) : goodB P (E ++ [e]) = (isEdgeB P e && !(decide (E.length = 40))) := by
  unfold goodB at h ⊢
  simp only [Bool.and_eq_true, decide_eq_true_eq] at h
  obtain ⟨⟨h1, h2⟩, h3⟩ := h
  rw [decide_eq_true h1, List.all_append, h3, List.length_append, List.length_singleton]
  simp only [List.all_cons, List.all_nil, Bool.and_true, Bool.true_and]
  by_cases c : E.length = 40
  · rw [decide_eq_true c, decide_eq_false (by omega)]; simp
  · rw [decide_eq_false c, decide_eq_true (by omega)]; simp
def addV (P : Int) (E : Edges) (e : List Int) : Int × List (List Int) × Bool := if goodB P E = true ∧ goodB P (E ++ [e]) = true then (P, E ++ [e], true) else (0, [], false)
theorem impl_WithEdge_f (P : Int) {E : Edges} {e : List Int} (hl : E.length ≤ 100) (hr : ∀ x ∈ E, x.length ≤ 5) (he : e.length ≤ 5) : Ev (fun k => impl_WithEdge.f k P E e) (addV P E e) := by
  have ec : slices_Clone_int_int.f e = some e := by
    unfold slices_Clone_int_int.f
    rw [Option.bind_some, if_pos (by simp; omega)]; rfl
  have h1 := impl_IsHyper_f P E (by omega)
  have h2 := impl_IsHyper_f P (E ++ [e]) (by simp; omega)
  unfold impl_WithEdge.f
  rw [ec]
  refine ev_bind _ (impl_cloneHyper_f P (by omega) (fun x hx => by have := hr x hx; omega)) (ev_bind _ (Ev.now _) (ev_pos (by show E.length < _; omega) (ev_bind _ (Ev.now _) (ev_bind _ h1 ?_))))
  by_cases c1 : goodB P E = true
  · refine ev_pos c1 (ev_bind _ h2 ?_)
    by_cases c2 : goodB P (E ++ [e]) = true
    · have hv : addV P E e = (P, E ++ [e], true) := if_pos ⟨c1, c2⟩
      rw [hv]; exact ev_pos c2 (Ev.now _)
    · have hv : addV P E e = (0, [], false) := if_neg (fun h => c2 h.2)
      rw [hv]; exact ev_neg c2 (Ev.now _)
  · have hv : addV P E e = (0, [], false) := if_neg (fun h => c1 h.1)
    rw [hv]; exact ev_neg c1 (Ev.now _)
theorem spec_WithEdge_f (P : Int) {E : Edges} {e : List Int} (hl : E.length ≤ 100) (hr : ∀ x ∈ E, x.length ≤ 5) (he : e.length ≤ 5) : Ev (fun k => spec_WithEdge.f k P E e) (addV P E e) := by
  have bad : ∀ b : Bool, b = true → Ev (fun k => spec_WithEdge.j0 k e b P E) (0, [], false) := fun b hb => by
    refine ev_succ ?_
    simp only [spec_WithEdge.j0]
    exact ev_pos hb (Ev.now _)
  have ec : spec_l1Own.f e = some e := by
    unfold spec_l1Own.f
    rw [Option.bind_some, if_pos (by simp; omega)]; rfl
  unfold spec_WithEdge.f
  refine ev_bind _ (spec_peGood_f P E (by omega) (fun x hx => by have := hr x hx; omega)) ?_
  by_cases c1 : goodB P E = true
  · obtain ⟨_, _, _, hP⟩ := goodB_ok c1
    have hP1 : 1 ≤ P := by
      unfold goodB at c1
      simp only [Bool.and_eq_true, decide_eq_true_eq] at c1
      exact c1.1.1.1
    have ha := good_app (e := e) c1
    refine ev_pos c1 (ev_bind _ (spec_peEdge_f hP1 hP e (by omega)) ?_)
    by_cases c2 : isEdgeB P e = true
    · refine ev_pos c2 ?_
      by_cases c3 : E.length = 40
      · have hv : addV P E e = (0, [], false) := if_neg (fun h => by rw [ha, c2, decide_eq_true c3] at h; simp at h)
        rw [hv]
        exact bad _ (by simp [c3])
      · have hv : addV P E e = (P, E ++ [e], true) := if_pos ⟨c1, by rw [ha, c2, decide_eq_false c3]; rfl⟩
        rw [hv]
        refine ev_succ ?_
        simp only [spec_WithEdge.j0, ec]
        refine ev_neg (by rw [beq_iff_eq]; omega) (ev_bind (P, E) ?_ (ev_bind _ (Ev.now _) (ev_pos (by show E.length < _; omega) (Ev.now _))))
        unfold spec_peOwn.f
        exact own_l0 P (by omega) (fun x hx => by have := hr x hx; omega) E [] rfl
    · have hv : addV P E e = (0, [], false) := if_neg (fun h => by rw [ha, Bool.eq_false_iff.2 c2] at h; simp at h)
      rw [hv]
      exact ev_neg c2 (bad _ rfl)
  · have hv : addV P E e = (0, [], false) := if_neg (fun h => c1 h.1)
    rw [hv]
    exact ev_neg c1 (bad _ rfl)
theorem pls_flat (E : Edges) : plsL E (allE E) = E.flatten := by
  unfold plsL allE
  rw [List.flatMap_def]
  congr 1
  apply List.ext_getElem
  · simp
  · intro i h1 h2
    rw [List.getElem_map, List.getElem_range]
    unfold edg
    rw [List.getD_eq_getElem?_getD, List.getElem?_eq_getElem h2]
    rfl
theorem impl_HyperDegrees_f {P : Int} {E : Edges} (h : goodB P E = true) : Ev (fun k => impl_HyperDegrees.f k P E) (cntL E.flatten P.toNat, true) := by
  obtain ⟨hG, hP, hl, _⟩ := goodB_ok h
  have h1 := impl_IsHyper_f P E (by omega)
  rw [h] at h1
  have h2 := impl_degrees_f hG (L := allE E) (List.Sublist.refl _)
  rw [pls_flat, hP] at h2
  unfold impl_HyperDegrees.f impl_Hyper_none.f
  refine ev_bind _ h1 (ev_pos rfl (ev_bind (List.replicate E.length false) (ev_pos (by omega) (ev_pos (by omega) (ev_some (by simp)))) ?_))
  have hg : List.replicate E.length false = goneOf E.length (allE E) := (goneOf_all _).symm
  rw [hg]
  exact ev_bind _ h2 (Ev.now _)
theorem edge_form {P : Int} {e : List Int} (h : isEdgeB P e = true) : e.length = 3 ∧ ∀ p, e.count p = if e.contains p = true then 1 else 0 := by
  unfold isEdgeB at h
  simp only [Bool.and_eq_true, decide_eq_true_eq] at h
  obtain ⟨⟨⟨⟨h1, h2⟩, h3⟩, h4⟩, h5⟩ := h
  refine ⟨h1, fun p => ?_⟩
  match e, h1 with
  | [a, b, c], _ =>
    have r0 : rd [a, b, c] 0 = a := rfl
    have r1 : rd [a, b, c] 1 = b := rfl
    have r2 : rd [a, b, c] 2 = c := rfl
    rw [r0] at h3
    rw [r1] at h3 h4
    rw [r2] at h4
    have hnd : [a, b, c].Nodup := by
      simp only [List.nodup_cons, List.mem_cons, List.not_mem_nil, or_false, not_false_eq_true, List.nodup_nil, and_true]
      omega
    rw [hnd.count]
    simp only [List.contains_iff_mem]
theorem flat_len {P : Int} : ∀ {E : Edges}, E.all (isEdgeB P) = true → E.flatten.length = 3 * E.length
  | [], _ => rfl
  | e :: E, h => by
    simp only [List.all_cons, Bool.and_eq_true] at h
    have := flat_len h.2
    simp only [List.flatten_cons, List.length_append, List.length_cons, (edge_form h.1).1, this]
    omega
theorem flat_count {P : Int} (p : Int) : ∀ {E : Edges}, E.all (isEdgeB P) = true → E.flatten.count p = E.countP (fun e => e.contains p)
  | [], _ => rfl
  | e :: E, h => by
    simp only [List.all_cons, Bool.and_eq_true] at h
    rw [List.flatten_cons, List.count_append, (edge_form h.1).2, flat_count p h.2, List.countP_cons]
    split <;> simp_all <;> omega
theorem at_l0 (p : Int) {x0 : List (List Int)} (hl : x0.length ≤ 1000) (hr : ∀ e ∈ x0, e.length ≤ 1000) : ∀ (t pre : List (List Int)) (acc : List Int), x0 = pre ++ t → acc.length ≤ pre.length →
    ∃ R, Ev (fun k => impl_EdgesAt.l0 k p acc x0 (x0.length : Int) (pre.length : Int)) (R, true) ∧ (R : List Int).length = acc.length + t.countP (fun e => e.contains p) := by
  intro t
  induction t with
  | nil =>
    intro pre acc h ha
    refine ⟨acc, ev_succ ?_, by simp⟩
    simp only [impl_EdgesAt.l0]
    exact ev_neg (by rw [h]; exact not_lt_end) (Ev.now _)
  | cons x t ih =>
    intro pre acc h ha
    have hm : ((pre.length : Nat) : Int) < (x0.length : Int) := by rw [h]; exact lt_mid
    have hg : rd_L2 x0 (pre.length : Int) = x := by rw [h]; exact rdll_mid
    have hx := hr x (by rw [h]; simp)
    have hc := slices_Contains_int_f x p (by omega)
    by_cases c : x.contains p = true
    · obtain ⟨R, hR, hl'⟩ := ih (pre ++ [x]) (acc ++ [(pre.length : Int)]) (by rw [h]; simp) (by simp; omega)
      rw [len_one] at hR
      refine ⟨R, ev_succ ?_, by rw [hl', List.countP_cons, if_pos c]; simp; omega⟩
      simp only [impl_EdgesAt.l0, hg]
      rw [winc (by omega)]
      exact ev_pos hm (ev_pos (by omega) (ev_pos hm (ev_bind _ hc (ev_pos c (ev_pos (by omega) hR)))))
    · obtain ⟨R, hR, hl'⟩ := ih (pre ++ [x]) acc (by rw [h]; simp) (by simp; omega)
      rw [len_one] at hR
      refine ⟨R, ev_succ ?_, by rw [hl', List.countP_cons, if_neg c]; omega⟩
      simp only [impl_EdgesAt.l0, hg]
      rw [winc (by omega)]
      exact ev_pos hm (ev_pos (by omega) (ev_pos hm (ev_bind _ hc (ev_neg c hR))))
theorem goodB_all {P : Int} {E : Edges} (h : goodB P E = true) : E.all (isEdgeB P) = true ∧ E.length ≤ 40 ∧ 1 ≤ P ∧ P ≤ 72 := by
  unfold goodB at h
  simp only [Bool.and_eq_true, decide_eq_true_eq] at h
  exact ⟨h.2, h.1.2, h.1.1⟩
theorem hyp_row3 {P : Int} {E : Edges} (h : goodB P E = true) : ∀ e ∈ E, e.length = 3 := fun e he => by
  have := (goodB_all h).1
  rw [List.all_eq_true] at this
  exact (edge_form (this e he)).1
theorem impl_EdgesAt_f {P : Int} {E : Edges} (h : goodB P E = true) {p : Int} (h0 : 0 ≤ p) (h1 : p < P) : ∃ R, Ev (fun k => impl_EdgesAt.f k P E p) (R, true) ∧ (R : List Int).length = E.flatten.count p := by
  obtain ⟨ha, hl, hP1, hP2⟩ := goodB_all h
  have e1 := impl_IsHyper_f P E (by omega)
  rw [h] at e1
  obtain ⟨R, hR, hlen⟩ := at_l0 p (x0 := E) (by omega) (fun e he => by have := hyp_row3 h e he; omega) E [] [] rfl (by simp)
  refine ⟨R, ?_, by rw [hlen, flat_count p ha]; simp⟩
  unfold impl_EdgesAt.f
  rw [impl_in, w64 (by omega) (by omega)]
  refine ev_bind _ e1 (ev_pos rfl (ev_bind _ (Ev.now _) (ev_succ ?_)))
  simp only [impl_EdgesAt.j0]
  rw [decide_eq_true (by omega)]
  exact ev_neg (by simp) hR
def sumC (ps : List Int) : Nat → Nat
  | 0 => 0
  | q + 1 => sumC ps q + ps.count (q : Int)
theorem sumC_nil : ∀ P, sumC [] P = 0
  | 0 => rfl
  | P + 1 => by simp [sumC, sumC_nil P]
theorem sumC_cons (x : Int) (ps : List Int) : ∀ P : Nat, sumC (x :: ps) P = sumC ps P + if 0 ≤ x ∧ x < (P : Int) then 1 else 0
  | 0 => by rw [if_neg (by omega)]; rfl
  | P + 1 => by
    simp only [sumC, sumC_cons x ps P, List.count_cons]
    by_cases c : x = (P : Int)
    · rw [if_neg (by omega), if_pos (by simpa using c), if_pos (by omega)]; omega
    · rw [if_neg (show ¬ (x == (P : Int)) = true by simpa using c)]
      by_cases d : 0 ≤ x ∧ x < (P : Int)
      · rw [if_pos d, if_pos (by omega)]; omega
      · rw [if_neg d, if_neg (by omega)]; omega
theorem sumC_all (P : Nat) : ∀ ps : List Int, (∀ x ∈ ps, 0 ≤ x ∧ x < (P : Int)) → sumC ps P = ps.length
  | [], _ => sumC_nil P
  | x :: ps, h => by
    rw [sumC_cons, if_pos (h x (by simp)), sumC_all P ps (fun y hy => h y (by simp [hy])), List.length_cons]
theorem sumC_le (ps : List Int) : ∀ P : Nat, sumC ps P ≤ P * ps.length
  | 0 => by simp [sumC]
  | P + 1 => by
    have := sumC_le ps P
    have := List.count_le_length (l := ps) (a := (P : Int))
    simp only [sumC, Nat.succ_mul]
    omega
theorem core_grows {P : Nat} {E : Edges} {e : List Int} (hg : goodE P E) : ∀ i ∈ coreE P E, i ∈ coreE P (E ++ [e]) := by
  have hsub := core_sub (P := P) (E := E)
  have hlt : ∀ i ∈ coreE P E, i < E.length := fun i hi => by have := hsub.subset hi; simpa [allE] using this
  have hedg : ∀ i, i < E.length → edg (E ++ [e]) i = edg E i := fun i hi => by
    unfold edg
    rw [List.getD_eq_getElem?_getD, List.getD_eq_getElem?_getD, List.getElem?_append_left hi]
  have hdeg : ∀ p, degOf (E ++ [e]) (coreE P E) p = degOf E (coreE P E) p := fun p => by
    unfold degOf
    congr 1
    apply List.map_congr_left
    intro i hi
    rw [hedg i (hlt i hi)]
  have hst : Stable (E ++ [e]) (coreE P E) := fun p => by rw [hdeg]; exact core_stable hg p
  have hall : (allE E).Sublist (allE (E ++ [e])) := by
    unfold allE
    rw [List.length_append, List.length_singleton, List.range_succ]
    exact List.sublist_append_left _ _
  exact fun i hi => (stable_core hst (hsub.trans hall)).subset hi
theorem impl_WithoutEdge_f {P : Int} {E : Edges} {e : List Int} (h : goodB P (E ++ [e]) = true) : Ev (fun k => impl_WithoutEdge.f k P (E ++ [e]) (E.length : Int)) (P, E, true) := by
  obtain ⟨_, hl, hP1, hP2⟩ := goodB_all h
  have hl' : E.length + 1 ≤ 40 := by simpa using hl
  have e1 := impl_IsHyper_f P (E ++ [e]) (by omega)
  rw [h] at e1
  have ed : slices_Delete_int_int.f (E ++ [e]) (E.length : Int) ((E.length : Int) + 1) = some E := by
    unfold slices_Delete_int_int.f
    rw [if_pos ⟨by omega, by simp; omega, rfl⟩, Int.toNat_natCast, List.eraseIdx_append_of_length_le (Nat.le_refl _)]
    simp
  unfold impl_WithoutEdge.f
  rw [impl_in, winc (by omega)]
  refine ev_bind _ e1 (ev_pos rfl (ev_bind true (ev_some ?_) (ev_pos rfl (ev_bind _ (impl_cloneHyper_f P (by omega) (fun x hx => by have := hyp_row3 h x hx; omega)) ?_))))
  · rw [w64 (by rw [List.length_append, List.length_singleton]; omega) (by rw [List.length_append, List.length_singleton]; omega)]; simp
  · rw [show (((E.length + 1 : Nat)) : Int) = (E.length : Int) + 1 by omega, ed]
    exact ev_bind _ (Ev.now _) (Ev.now _)
theorem equal_l0 (s : List Int) (p sd : Int) : ∀ (d : Nat) (E : Edges), E.length + d ≤ 100 → (∀ e ∈ E, e.length ≤ 5) →
    ∃ E' : Edges, Ev (fun k => spec_l1Cur_equal.l0 k (d : Int) E s p sd) (E', p, sd) ∧ E'.length ≤ 100 ∧ ∀ e ∈ E', e.length ≤ 5
  | 0, E, h, hr => ⟨E, ev_succ (by simp only [spec_l1Cur_equal.l0]; exact ev_neg (by omega) (Ev.now _)), by omega, hr⟩
  | d + 1, E, h, hr => by
    obtain ⟨E', e, h1, h2⟩ := equal_l0 s p sd d (E ++ [[0, 1, 2]]) (by simp; omega) (fun x hx => by
      rcases List.mem_append.1 hx with hx | hx
      · exact hr x hx
      · rw [List.mem_singleton.1 hx]; simp)
    refine ⟨E', ev_succ ?_, h1, h2⟩
    simp only [spec_l1Cur_equal.l0]
    rw [show wrap64 (((d + 1 : Nat) : Int) - 1) = (d : Int) by rw [w64 (by omega) (by omega)]; omega]
    exact ev_pos (by omega) (ev_pos (by omega) e)
theorem DrawWithEdge_ok {s : List Int} (hs : Bys s) : ∃ P E e, Ev (fun k => spec_DrawWithEdge.f k s) (P, E, e) ∧ (E : Edges).length ≤ 100 ∧ (∀ x ∈ E, x.length ≤ 5) ∧ (e : List Int).length ≤ 5 := by
  obtain ⟨P, E, p1, sd1, e1, ⟨hl, hr⟩, q0, q1⟩ := hyper_ok hs 0 (p := 0) (by omega) (by omega)
  obtain ⟨b, p2, sd2, e2, r0, r1⟩ := one_ok hs sd1 12 q0 (by omega)
  unfold spec_DrawWithEdge.f
  by_cases c : b = true
  · obtain ⟨v, p3, sd3, e3, hv, t0, t1⟩ := pick_ok hs sd2 (n := 2) r0 (by omega)
    obtain ⟨E', e4, h1, h2⟩ := equal_l0 s p3 sd3 (40 - v).toNat [] (by simp; omega) (by simp)
    rw [show (((40 - v).toNat : Nat) : Int) = 40 - v by omega] at e4
    refine ⟨3, E', [0, 1, 2], ev_bind _ e1 ?_, h1, h2, by simp⟩
    rw [e2]
    refine ev_bind _ (Ev.now _) (ev_pos c ?_)
    rw [e3]
    refine ev_bind _ (Ev.now _) (ev_bind (E', p3, sd3) ?_ (Ev.now _))
    unfold spec_l1Cur_equal.f
    rw [w64 (by simp only []; omega) (by simp only []; omega)]
    exact e4
  · obtain ⟨v, p3, sd3, e3, hv, t0, t1⟩ := pick_ok hs sd2 (n := 6) r0 (by omega)
    obtain ⟨e, p4, sd4, e4, he, u0, u1⟩ := edge_ok hs (wrap64 (P + wrap64 (Int.tdiv v 5))) sd3 t0 (by omega)
    refine ⟨P, E, e, ev_bind _ e1 ?_, hl, hr, he⟩
    rw [e2]
    refine ev_bind _ (Ev.now _) (ev_neg c ?_)
    rw [e3]
    exact ev_bind _ (Ev.now _) (ev_bind _ e4 (Ev.now _))
end Go.Proofs.YthkcgimnagpmaaaQ
namespace Go.Proofs.YthkcgimnagpmaaaQ
open Go Go.RowKit Go.Proofs.YthkcgimnagpmaaaW.PrintWords Go.Proofs.YthkcgimnagpmaaaGp Go.Proofs.Ythkcgimnagpmaaa.PT

end Go.Proofs.YthkcgimnagpmaaaQ
namespace Go.Proofs.YthkcgimnagpmaaaQ
open Go Go.RowKit Go.Proofs.YthkcgimnagpmaaaW.PrintWords Go.Proofs.YthkcgimnagpmaaaGp Go.Proofs.Ythkcgimnagpmaaa.PT

namespace LW
theorem has_l0 (x0 : List Int) (a : Int) (hl : (x0.length : Int) ≤ 9223372036854775806) : ∀ (t pre : List Int), x0 = pre ++ t →
    Ev (fun k => laws_pHas.l0 k a x0 (x0.length : Int) (pre.length : Int)) (t.contains a) := by
  intro t
  induction t with
  | nil =>
    intro pre h
    refine ev_succ ?_
    simp only [laws_pHas.l0]
    exact ev_neg (by rw [h]; exact not_lt_end) (ev_some (by simp))
  | cons x t ih =>
    intro pre h
    have hm : ((pre.length : Nat) : Int) < (x0.length : Int) := by rw [h]; exact lt_mid
    have hg : rd x0 (pre.length : Int) = x := by rw [h]; exact rd_mid
    refine ev_succ ?_
    simp only [laws_pHas.l0, hg]
    refine ev_pos hm (ev_pos (by omega) (ev_pos hm ?_))
    by_cases c : x = a
    · exact ev_pos c (ev_some (by simp [c]))
    · refine ev_neg c ?_
      rw [winc (by omega)]
      have := ih (pre ++ [x]) (by rw [h]; simp)
      rw [len_one] at this
      have e : (x :: t).contains a = t.contains a := by simp [Ne.symm c]
      rw [e]
      exact this
theorem has_f (l : List Int) (a : Int) (hl : (l.length : Int) ≤ 9223372036854775806) : Ev (fun k => laws_pHas.f k l a) (l.contains a) := by
  unfold laws_pHas.f
  exact has_l0 l a hl l [] rfl
theorem once_l0 {l : List Int} {n : Nat} (hn : n ≤ 1000) (hl : l.length ≤ 1000) (h : ∀ i : Nat, i < n → (i : Int) ∈ l) : ∀ (d i : Nat), i + d = n →
    Ev (fun k => laws_pAllOnce.l0 k l (n : Int) (i : Int)) true := by
  intro d
  induction d with
  | zero =>
    intro i hi
    refine ev_succ ?_
    simp only [laws_pAllOnce.l0]
    exact ev_neg (by omega) (Ev.now _)
  | succ d ih =>
    intro i hi
    refine ev_succ ?_
    simp only [laws_pAllOnce.l0]
    rw [winc (by omega)]
    exact ev_pos (by omega) (ev_bind _ (has_f l _ (by omega)) (ev_pos (by rw [List.contains_iff_mem]; exact h i (by omega)) (ih (i + 1) (by omega))))
theorem once_f {l : List Int} {n : Nat} (hn : n ≤ 1000) (hl : l.length = n) (h : ∀ i : Nat, i < n → (i : Int) ∈ l) : Ev (fun k => laws_pAllOnce.f k l (n : Int)) true := by
  unfold laws_pAllOnce.f
  exact ev_pos (by omega) (once_l0 hn (by omega) h n 0 (by omega))
theorem same_l0 (x0 y0 : List Int) (hl : (x0.length : Int) ≤ 9223372036854775806) (hy : y0.length = x0.length) : ∀ (t pre u pru : List Int), x0 = pre ++ t → y0 = pru ++ u → pru.length = pre.length →
    Ev (fun k => laws_pSameInts.l0 k x0 y0 (x0.length : Int) (pre.length : Int)) (decide (t = u)) := by
  intro t
  induction t with
  | nil =>
    intro pre u pru h h2 hp
    have : u = [] := by
      have e1 : y0.length = pru.length + u.length := by rw [h2]; simp
      have e2 : x0.length = pre.length := by rw [h]; simp
      exact List.length_eq_zero_iff.1 (by omega)
    subst this
    refine ev_succ ?_
    simp only [laws_pSameInts.l0]
    exact ev_neg (by rw [h]; exact not_lt_end) (ev_some (by simp))
  | cons x t ih =>
    intro pre u pru h h2 hp
    have hm : ((pre.length : Nat) : Int) < (x0.length : Int) := by rw [h]; exact lt_mid
    have hg : rd x0 (pre.length : Int) = x := by rw [h]; exact rd_mid
    cases u with
    | nil =>
      have e1 : y0.length = pru.length := by rw [h2]; simp
      omega
    | cons y u =>
      have hg2 : rd y0 (pre.length : Int) = y := by rw [h2, ← hp]; exact rd_mid
      refine ev_succ ?_
      simp only [laws_pSameInts.l0, hg, hg2]
      by_cases c : x = y
      · subst c
        have := ih (pre ++ [x]) u (pru ++ [x]) (by rw [h]; simp) (by rw [h2]; simp) (by simp [hp])
        rw [len_one] at this
        rw [show decide (x :: t = x :: u) = decide (t = u) from by simp, winc (by omega)]
        exact ev_pos hm (ev_pos (by omega) (ev_pos hm (ev_pos (by omega) (ev_pos rfl this))))
      · rw [decide_eq_false (fun e => c (List.cons.inj e).1)]
        exact ev_pos hm (ev_pos (by omega) (ev_pos hm (ev_pos (by omega) (ev_neg c (Ev.now _)))))
theorem same_f (l l' : List Int) (hl : (l.length : Int) ≤ 9223372036854775806) (h : l'.length = l.length) : Ev (fun k => laws_pSameInts.f k l l') (decide (l = l')) := by
  unfold laws_pSameInts.f
  exact ev_pos (by omega) (same_l0 l l' hl h l [] l' [] rfl rfl rfl)
theorem sameI_f (l l' : List Int) (hl : (l.length : Int) ≤ 9223372036854775806) : Ev (fun k => laws_pSameInts.f k l l') (decide (l = l')) := by
  by_cases h : l'.length = l.length
  · exact same_f l l' hl h
  · unfold laws_pSameInts.f
    exact ev_neg (by omega) (ev_some (decide_eq_false (fun e => h (by rw [e]))).symm)
end LW
end Go.Proofs.YthkcgimnagpmaaaQ
namespace Go.Proofs.Ythkcgimnagpmaaa.Pure
open Go Go.RowKit Go.Proofs.YthkcgimnagpmaaaW.PrintWords Go.Proofs.YthkcgimnagpmaaaW.PrintMore Go.Proofs.YthkcgimnagpmaaaGp Go.Proofs.Ythkcgimnagpmaaa.PT Go.Proofs.YthkcgimnagpmaaaQ

theorem core_f {P : Int} {E : Edges} (h : goodB P E = true) : Ev (fun k => impl_CoreOf.f k P E) (castL (coreE P.toNat E), true) := by
  obtain ⟨hG, hP, hl, _⟩ := goodB_ok h
  have hg := impl_IsHyper_f P E (by omega)
  rw [h] at hg
  have hp := impl_peel_f hG
  rw [hP] at hp
  unfold impl_CoreOf.f
  exact ev_bind _ hg (ev_pos rfl (ev_bind _ hp (Ev.now _)))
section
variable {P : Int} {E : Edges} {e : List Int}
theorem back_l3 (h : goodB P (E ++ [e]) = true) {A G : List Int} (hA : A = G) (hG : G.length = E.length + 1 ∧ ∀ j : Nat, j < E.length + 1 → (j : Int) ∈ G) : ∀ (d i : Nat), i + d = E.length →
    Ev (fun k => laws_FnEdgesAndDegrees.l3 k A E (E.length : Int) (i : Int) P (E ++ [e]) P E) true := by
  obtain ⟨_, hl, _, _⟩ := goodB_all h
  have hl' : E.length + 1 ≤ 40 := by simpa using hl
  intro d
  induction d with
  | zero =>
    intro i hi
    have ho := LW.once_f (l := G) (n := E.length + 1) (by omega) hG.1 hG.2
    refine ev_succ ?_
    simp only [laws_FnEdgesAndDegrees.l3]
    rw [hA, show (((E ++ [e]).length : Nat) : Int) = ((E.length + 1 : Nat) : Int) by simp]
    exact ev_neg (by omega) (ev_bind _ ho (Ev.now _))
  | succ d ih =>
    intro i hi
    have hi' : i < E.length := by omega
    have hr := hyp_row3 h E[i] (by simp)
    have es := LW.sameI_f E[i] E[i] (by omega)
    rw [decide_eq_true rfl] at es
    refine ev_succ ?_
    simp only [laws_FnEdgesAndDegrees.l3, rdll_get hi']
    rw [winc (by omega)]
    exact ev_pos (by omega) (ev_pos (by omega) (ev_pos (by omega) (ev_pos (by omega) (ev_bind _ es (ev_pos rfl (ih (i + 1) (by omega)))))))
theorem parts_l2 (h : goodB P (E ++ [e]) = true) {G : List (List Int)} (hG : Part (E ++ [e]).length G) {S : Int} (hS : S = 3 * ((E ++ [e]).length : Int)) : ∀ (t pre : List (List Int)), G = pre ++ t →
    Ev (fun k => laws_FnEdgesAndDegrees.l2 k S pre.flatten G (G.length : Int) (pre.length : Int) P E P (E ++ [e])) true := by
  obtain ⟨_, hl, _, _⟩ := goodB_all h
  have hl' : E.length + 1 ≤ 40 := by simpa using hl
  have hG' : G.flatten.length = E.length + 1 ∧ ∀ j : Nat, j < E.length + 1 → (j : Int) ∈ G.flatten := by
    exact ⟨by simpa using hG.1, fun j hj => hG.2.1 j (by simpa using hj)⟩
  have hw : wrap64 (3 * ((E ++ [e]).length : Int)) = 3 * ((E ++ [e]).length : Int) := w64 (by simp; omega) (by simp; omega)
  intro t
  induction t with
  | nil =>
    intro pre hp
    have hpg : pre = G := by rw [hp]; simp
    refine ev_succ ?_
    simp only [laws_FnEdgesAndDegrees.l2, hw]
    rw [hpg]
    refine ev_neg (by omega) (ev_bind _ (impl_WithoutEdge_f h) (ev_pos rfl (ev_pos rfl (ev_succ ?_))))
    simp only [laws_FnEdgesAndDegrees.j5]
    exact ev_neg (by simp [hS]) (back_l3 h rfl hG' E.length 0 (by omega))
  | cons x t ih =>
    intro pre hp
    have hm : ((pre.length : Nat) : Int) < (G.length : Int) := by rw [hp]; exact lt_mid
    have hg : rd_L2 G (pre.length : Int) = x := by rw [hp]; exact rdll_mid
    have hfl : pre.flatten.length + x.length ≤ G.flatten.length := by rw [hp, List.flatten_append, List.flatten_cons, List.length_append, List.length_append]; omega
    have next := ih (pre ++ [x]) (by rw [hp]; simp)
    rw [len_one] at next
    have hT : (pre ++ [x]).flatten = pre.flatten ++ x := by simp
    rw [hT] at next
    have hgl : G.length ≤ E.length + 1 := by simpa using hG.2.2
    refine ev_succ ?_
    simp only [laws_FnEdgesAndDegrees.l2, hg]
    rw [winc (by omega)]
    exact ev_pos hm (ev_pos (by omega) (ev_pos hm (ev_pos (by omega) next)))
theorem degs_l1 (h : goodB P (E ++ [e]) = true) {G : List (List Int)} (hG : Part (E ++ [e]).length G) : ∀ (d i : Nat), ((i + d : Nat) : Int) = P →
    Ev (fun k => laws_FnEdgesAndDegrees.l1 k G ((sumC (E ++ [e]).flatten i : Nat) : Int) (cntL (E ++ [e]).flatten P.toNat) ((cntL (E ++ [e]).flatten P.toNat).length : Int) (i : Int) P E P (E ++ [e])) true := by
  obtain ⟨ha, hl, hP1, hP2⟩ := goodB_all h
  obtain ⟨hGd, hPn, _, _⟩ := goodB_ok h
  have hfl := flat_len ha
  have hcl : (cntL (E ++ [e]).flatten P.toNat).length = P.toNat := cntL_len _ _
  have hrng : ∀ x ∈ (E ++ [e]).flatten, 0 ≤ x ∧ x < ((P.toNat : Nat) : Int) := fun x hx => by
    obtain ⟨y, hy, hxy⟩ := List.mem_flatten.1 hx
    exact hGd.rng y hy x hxy
  intro d
  induction d with
  | zero =>
    intro i hi
    have hs : ((sumC (E ++ [e]).flatten i : Nat) : Int) = 3 * ((E ++ [e]).length : Int) := by
      rw [show i = P.toNat by omega, sumC_all _ _ hrng, hfl]; omega
    refine ev_succ ?_
    simp only [laws_FnEdgesAndDegrees.l1]
    exact ev_neg (by omega) (parts_l2 h hG hs G [] rfl)
  | succ d ih =>
    intro i hi
    obtain ⟨R, hR, hlen⟩ := impl_EdgesAt_f h (p := (i : Int)) (by omega) (by omega)
    have hrd : rd (cntL (E ++ [e]).flatten P.toNat) (i : Int) = (((E ++ [e]).flatten.count (i : Int) : Nat) : Int) := cntL_rd _ (by omega) (by omega)
    have hsl := sumC_le (E ++ [e]).flatten (i + 1)
    have hb : (i + 1) * (E ++ [e]).flatten.length ≤ 73 * 120 := Nat.mul_le_mul (by omega) (by omega)
    have next := ih (i + 1) (by omega)
    simp only [sumC] at next hsl
    refine ev_succ ?_
    simp only [laws_FnEdgesAndDegrees.l1, hrd]
    rw [winc (by omega), w64 (x := ((sumC (E ++ [e]).flatten i : Nat) : Int) + _) (by omega) (by omega), show ((sumC (E ++ [e]).flatten i : Nat) : Int) + (((E ++ [e]).flatten.count (i : Int) : Nat) : Int) = ((sumC (E ++ [e]).flatten i + (E ++ [e]).flatten.count (i : Int) : Nat) : Int) by omega]
    exact ev_pos (by omega) (ev_pos (by omega) (ev_pos (by omega) (ev_bind _ hR (ev_pos rfl (ev_pos (by simp only []; omega) next)))))
theorem core_l0 (h : goodB P (E ++ [e]) = true) (h0 : goodB P E = true) {G : List (List Int)} (hG : Part (E ++ [e]).length G) : ∀ (t pre : List Int), castL (coreE P.toNat E) = pre ++ t →
    Ev (fun k => laws_FnEdgesAndDegrees.l0 k (castL (coreE P.toNat (E ++ [e]))) (cntL (E ++ [e]).flatten P.toNat) G (castL (coreE P.toNat E)) ((castL (coreE P.toNat E)).length : Int) (pre.length : Int) P E P (E ++ [e])) true := by
  obtain ⟨_, hl, hP1, hP2⟩ := goodB_all h
  obtain ⟨hGd, _, hl0, _⟩ := goodB_ok h0
  have hcl : (coreE P.toNat E).length ≤ E.length := by
    have := (core_sub (P := P.toNat) (E := E)).length_le
    simpa [allE] using this
  have hcl2 : (coreE P.toNat (E ++ [e])).length ≤ (E ++ [e]).length := by
    have := (core_sub (P := P.toNat) (E := E ++ [e])).length_le
    simpa [allE] using this
  intro t
  induction t with
  | nil =>
    intro pre hp
    refine ev_succ ?_
    simp only [laws_FnEdgesAndDegrees.l0]
    have := degs_l1 h hG P.toNat 0 (by omega)
    exact ev_neg (by rw [hp]; exact not_lt_end) this
  | cons x t ih =>
    intro pre hp
    have hm : ((pre.length : Nat) : Int) < ((castL (coreE P.toNat E)).length : Int) := by rw [hp]; exact lt_mid
    have hg : rd (castL (coreE P.toNat E)) (pre.length : Int) = x := by rw [hp]; exact rd_mid
    have hx : x ∈ castL (coreE P.toNat E) := by rw [hp]; simp
    obtain ⟨i, hi, rfl⟩ := List.mem_map.1 hx
    have hin : (castL (coreE P.toNat (E ++ [e]))).contains (Int.ofNat i) = true := by
      rw [List.contains_iff_mem]
      exact mem_castL.2 (core_grows hGd.rng i hi)
    have hh := LW.has_f (castL (coreE P.toNat (E ++ [e]))) (Int.ofNat i) (by rw [castL_len]; omega)
    rw [hin] at hh
    have next := ih (pre ++ [Int.ofNat i]) (by rw [hp]; simp)
    rw [len_one] at next
    rw [castL_len] at hm
    refine ev_succ ?_
    simp only [laws_FnEdgesAndDegrees.l0, hg]
    rw [winc (by omega)]
    exact ev_pos (by rw [castL_len]; omega) (ev_pos (by omega) (ev_pos (by rw [castL_len]; omega) (ev_bind _ hh (ev_pos rfl next))))
end
theorem FnEdgesAndDegrees : laws_FnEdgesAndDegrees.Pure := by
  intro l0 l1 h0 _ hw0 h1 _ _
  refine Ev.rounds (r := true) ?_
  unfold laws_FnEdgesAndDegrees.f
  obtain ⟨b, eb, hb⟩ := big_f h0 h1
  rw [eb]
  refine ev_bind _ (Ev.now _) ?_
  by_cases c : b = true
  · exact ev_pos c (Ev.now _)
  obtain ⟨g0, _⟩ := hb (by simpa using c)
  have hs := bys g0 hw0
  obtain ⟨P, E, e, ed, hl, hr, he⟩ := DrawWithEdge_ok hs
  refine ev_neg c (ev_bind _ ed (ev_bind _ (impl_WithEdge_f P hl hr he) (ev_bind _ (spec_WithEdge_f P hl hr he) (ev_neg (by simp) (ev_pos rfl (ev_succ ?_))))))
  simp only [laws_FnEdgesAndDegrees.j0]
  refine ev_neg (by simp) ?_
  by_cases ok : goodB P E = true ∧ goodB P (E ++ [e]) = true
  · have hv : addV P E e = (P, E ++ [e], true) := if_pos ok
    obtain ⟨k0, k1⟩ := ok
    obtain ⟨_, hl2, hP1, hP2⟩ := goodB_all k1
    obtain ⟨G, hG, hPart⟩ := impl_groups_f (L := E ++ [e]) (by omega) (fun x hx => by have := hyp_row3 k1 x hx; omega)
    have e1 := impl_IsHyper_f P (E ++ [e]) (by omega)
    rw [k1] at e1
    have hparts : Ev (fun k => impl_HyperParts.f k P (E ++ [e])) (G, true) := by
      unfold impl_HyperParts.f
      exact ev_bind _ e1 (ev_pos rfl (ev_bind _ hG (Ev.now _)))
    have hcl : (cntL (E ++ [e]).flatten P.toNat).length = P.toNat := cntL_len _ _
    rw [hv]
    refine ev_pos rfl (ev_bind _ (core_f k0) (ev_bind _ (core_f k1) (ev_bind _ (impl_HyperDegrees_f k1) (ev_bind _ hparts (ev_pos rfl (ev_pos rfl (ev_pos rfl (ev_pos rfl (ev_succ ?_)))))))))
    simp only [laws_FnEdgesAndDegrees.j1]
    exact ev_neg (by simp only [bne_iff_ne, ne_eq, Decidable.not_not]; omega) (core_l0 k1 k0 hPart _ [] rfl)
  · have hv : addV P E e = (0, [], false) := if_neg ok
    rw [hv]
    exact ev_neg (by simp) (Ev.now _)
end Go.Proofs.Ythkcgimnagpmaaa.Pure
