import Derived.Test.YtalfkfddpamnjaaGreatCA3
import Derived.Test.YtalfkfddpamnjaaGreatCA5
import Derived.Test.YtalfkfddpamnjaaGreatCA9
import Derived.Test.YtalfkfddpamnjaaGreatCA2
import Derived.Lib.Strings
import Derived.Test.YtalfkfddpamnjaaGreatCA4
import Derived.Test.YtalfkfddpamnjaaGreatCA6
import Derived.Test.YtalfkfddpamnjaaGreatCA7
import Derived.Test.YtalfkfddpamnjaaGreatCA8
namespace Go.Proofs.YtalfkfddpamnjaaGreatQ
open Go Go.RowKit Go.Proofs.YtalfkfddpamnjaaGreatW.PrintWords Go.Proofs.YtalfkfddpamnjaaGreatGp Go.Proofs.YtalfkfddpamnjaaGreat.PA

def mkS (b : List UInt8) : ByteArray := ⟨b.toArray⟩
theorem mkS_data (b : List UInt8) : (mkS b).data.toList = b := by simp [mkS]
theorem data_mkS (s : ByteArray) : mkS s.data.toList = s := by simp [mkS]
theorem bytesL_mk (l : List Str) : bytesL (l.map mkS) = l := by
  unfold bytesL; rw [List.map_map]
  exact (List.map_congr_left fun b _ => mkS_data b).trans (List.map_id _)
theorem mk_bytesL (l : List ByteArray) : (bytesL l).map mkS = l := by
  unfold bytesL; rw [List.map_map]
  exact (List.map_congr_left fun b _ => data_mkS b).trans (List.map_id _)
theorem bytesL_app (a b : List ByteArray) : bytesL (a ++ b) = bytesL a ++ bytesL b := by simp [bytesL]
theorem bytesL_len (a : List ByteArray) : (bytesL a).length = a.length := by simp [bytesL]
theorem bytesL_inj {a b : List ByteArray} (h : bytesL a = bytesL b) : a = b := by rw [← mk_bytesL a, h, mk_bytesL]
theorem ext0 (s : ByteArray) (n : Nat) : (s.extract 0 n).data.toList = s.data.toList.take n := by rw [Lib.extract_data]; simp
theorem ext0_mk (s : ByteArray) (n : Nat) : s.extract 0 n = mkS (s.data.toList.take n) := by rw [← ext0, data_mkS]
theorem beq_tl {a b : ByteArray} : (a.toList = b.toList) ↔ a.data.toList = b.data.toList := by rw [tl, tl]

theorem spec_trNodes_l1 (x0 : List ByteArray) (n : Nat) (h1 : 1 ≤ n) (h12 : n ≤ 12) (hl : x0.length ≤ 1000000) (r : List ByteArray) : ∀ (t pre out : List ByteArray), x0 = pre ++ t → out ≠ [] → out.length + t.length ≤ 8000000 →
    (∀ out', bytesL out' = bytesL out ++ lvl n ((bytesL out).getLastD []) (bytesL t) → Ev (fun k => spec_trNodes.l0 k x0 out' ((n + 1 : Nat) : Int)) r) →
    Ev (fun k => spec_trNodes.l1 k x0 out (n : Int) x0 (x0.length : Int) (pre.length : Int)) r := by
  intro t
  induction t with
  | nil =>
    intro pre out h hne hb hc
    refine ev_succ ?_
    simp only [spec_trNodes.l1]
    refine ev_neg (by rw [h]; exact not_lt_end) ?_
    rw [winc (by omega)]
    exact hc out (by simp [bytesL, lvl])
  | cons s t ih =>
    intro pre out h hne hb hc
    have hm : ((pre.length : Nat) : Int) < (x0.length : Int) := by rw [h]; exact lt_mid
    have hg : rdOf ByteArray.empty x0 (pre.length : Int) = s := by rw [h]; exact rdOf_mid
    have hpos : 0 < out.length := List.length_pos_iff.2 hne
    simp only [List.length_cons] at hb
    have hbs : bytesL (s :: t) = s.data.toList :: bytesL t := rfl
    have hlast : (rdOf ByteArray.empty out (wrap64 ((out.length : Int) - 1))).data.toList = (bytesL out).getLastD [] := by
      obtain ⟨q, p, rfl⟩ := last_split (pre := out) hpos
      have e : wrap64 (((q ++ [p]).length : Int) - 1) = (q.length : Int) := by
        rw [w64 (by omega) (by omega)]; simp
      rw [e, rdOf_mid, bytesL_app]
      simp [bytesL]
    have hw : wrap64 ((out.length : Int) - 1) = (out.length : Int) - 1 := w64 (by omega) (by omega)
    refine ev_succ ?_
    simp only [spec_trNodes.l1, hg, beq_tl, ext0, Int.toNat_natCast, hlast]
    refine ev_pos hm (ev_pos (by omega) (ev_pos hm ?_))
    rw [winc (i := pre.length) (by omega)]
    have next := fun out' hne' hb' hc' => ih (pre ++ [s]) out' (by rw [h]; simp) hne' hb' hc'
    rw [len_one] at next
    by_cases c : n ≤ s.data.toList.length
    · have c' := c
      rw [← size_len] at c'
      refine ev_pos (by omega) (ev_pos (by omega) (ev_pos (by omega) (ev_pos (by rw [hw]; omega) (ev_pos (by rw [hw]; omega) ?_))))
      by_cases e : s.data.toList.take n = (bytesL out).getLastD []
      · refine ev_pos e (next out hne (by omega) fun out' ho => hc out' ?_)
        rw [ho, hbs, lvl, if_neg (by rintro ⟨_, hh⟩; exact hh e)]
      · refine ev_neg e (ev_pos (by omega) (next _ (by simp) (by simp; omega) fun out' ho => hc out' ?_))
        rw [ho, hbs, lvl, if_pos ⟨c, e⟩, bytesL_app]
        simp [bytesL]
    · have c' := c
      rw [← size_len] at c'
      refine ev_neg (by omega) (next out hne (by omega) fun out' ho => hc out' ?_)
      rw [ho, hbs, lvl, if_neg (by rintro ⟨hh, _⟩; exact c hh)]
theorem lvl_len (n : Nat) : ∀ (t : List Str) (p : Str), (lvl n p t).length ≤ t.length
  | [], _ => by simp [lvl]
  | s :: t, p => by
    unfold lvl
    split
    · have := lvl_len n t (s.take n); simp; omega
    · have := lvl_len n t p; simp; omega
theorem spec_trNodes_l0 (x0 : List ByteArray) (hl : x0.length ≤ 100000) : ∀ (m n : Nat) (out : List ByteArray), n + m = 13 → 1 ≤ n → out ≠ [] → out.length ≤ 1 + n * 100000 →
    Ev (fun k => spec_trNodes.l0 k x0 out (n : Int)) ((levels (bytesL x0) m n (bytesL out)).map mkS) := by
  intro m
  induction m with
  | zero =>
    intro n out hn h1 hne hb
    refine ev_succ ?_
    simp only [spec_trNodes.l0]
    exact ev_neg (by omega) (ev_some (by rw [levels, mk_bytesL]))
  | succ m ih =>
    intro n out hn h1 hne hb
    refine ev_succ ?_
    simp only [spec_trNodes.l0]
    refine ev_pos (by omega) ?_
    refine spec_trNodes_l1 x0 n h1 (by omega) (by omega) _ x0 [] out rfl hne (by omega) fun out' ho => ?_
    have hlen := congrArg List.length ho
    rw [bytesL_len, List.length_append, bytesL_len] at hlen
    have := lvl_len n (bytesL x0) ((bytesL out).getLastD [])
    rw [bytesL_len] at this
    have hne' : out' ≠ [] := fun e => by
      rw [e] at hlen
      have := List.length_pos_iff.2 hne
      simp at hlen; omega
    have := ih (n + 1) out' (by omega) (by omega) hne' (by omega)
    rw [levels, ← ho]
    exact this
theorem spec_trNodes_f (l : List ByteArray) (hl : l.length ≤ 100000) : Ev (fun k => spec_trNodes.f k l) ((nodesL (bytesL l)).map mkS) := by
  unfold spec_trNodes.f
  have := spec_trNodes_l0 l hl 12 1 [(⟨#[]⟩ : ByteArray)] rfl (Nat.le_refl _) (by simp) (by simp)
  exact this

theorem llH_ll : llH = ll := rfl
theorem le_trans (a b c : Str) (h1 : (!ll b a) = true) (h2 : (!ll c b) = true) : (!ll c a) = true := by
  simp only [Bool.not_eq_true'] at *
  cases h : ll c a
  · rfl
  · rcases ll_tri b a with t | t | t
    · rw [t] at h1; cases h1
    · subst t; rw [h] at h2; cases h2
    · have := ll_trans h t
      rw [this] at h2; cases h2
theorem le_total (a b : Str) : (!ll b a || !ll a b) = true := by
  cases h : ll b a
  · rfl
  · rw [ll_asymm h]; rfl
theorem compact_sll (zs : List Str) (hs : zs.Pairwise fun a b => (!ll b a) = true) : ∀ m, m ≤ zs.length →
    SLL (Lib.compactUpTo zs.toArray m) ∧ ∀ x, x ∈ Lib.compactUpTo zs.toArray m ↔ ∃ j, j < m ∧ zs[j]? = some x
  | 0, _ => by simp [Lib.compactUpTo]
  | m + 1, h => by
    obtain ⟨h1, h2⟩ := compact_sll zs hs m (by omega)
    have hd : ∀ j, (hj : j < zs.length) → zs.toArray[j]! = zs[j] := fun j hj => by simp [hj]
    rw [Lib.compactUpTo_succ]
    by_cases c : m = 0 ∨ zs.toArray[m]! ≠ zs.toArray[m - 1]!
    · have hk : Lib.keeps zs.toArray m = true := by simpa [Lib.keeps] using c
      rw [hk, if_pos rfl, hd m (by omega)]
      refine ⟨List.pairwise_append.2 ⟨h1, by simp, fun a ha b hb => ?_⟩, fun x => ?_⟩
      · obtain rfl : b = zs[m] := by simpa using hb
        obtain ⟨j, hj, hja⟩ := (h2 a).1 ha
        rcases c with c | c
        · omega
        · rw [hd m (by omega), hd (m - 1) (by omega)] at c
          have hle : (!ll zs[m] zs[m - 1]) = true := List.pairwise_iff_getElem.1 hs (m - 1) m (by omega) (by omega) (by omega)
          have hlt : ll zs[m - 1] zs[m] = true := by
            rcases ll_tri zs[m - 1] zs[m] with t | t | t
            · exact t
            · exact absurd t.symm c
            · rw [t] at hle; cases hle
          rw [List.getElem?_eq_getElem (by omega)] at hja
          obtain rfl := Option.some.inj hja
          by_cases e : j = m - 1
          · subst e; exact hlt
          · have hle2 : (!ll zs[m - 1] zs[j]) = true := List.pairwise_iff_getElem.1 hs j (m - 1) (by omega) (by omega) (by omega)
            rcases ll_tri zs[j] zs[m - 1] with t | t | t
            · exact ll_trans t hlt
            · rw [t]; exact hlt
            · rw [t] at hle2; cases hle2
      · rw [List.mem_append, h2]
        constructor
        · rintro (⟨j, hj, hx⟩ | hx)
          · exact ⟨j, by omega, hx⟩
          · obtain rfl : x = zs[m] := by simpa using hx
            exact ⟨m, by omega, List.getElem?_eq_getElem (by omega)⟩
        · rintro ⟨j, hj, hx⟩
          by_cases e : j = m
          · subst e
            rw [List.getElem?_eq_getElem (by omega)] at hx
            exact .inr (by simpa using (Option.some.inj hx).symm)
          · exact .inl ⟨j, by omega, hx⟩
    · have hk : Lib.keeps zs.toArray m = false := by simpa [Lib.keeps] using c
      rw [hk, if_neg (by simp), List.append_nil]
      refine ⟨h1, fun x => ?_⟩
      rw [h2]
      constructor
      · rintro ⟨j, hj, hx⟩; exact ⟨j, by omega, hx⟩
      · rintro ⟨j, hj, hx⟩
        by_cases e : j = m
        · have c1 : ¬ m = 0 := fun e => c (.inl e)
          have c2 : zs.toArray[m]! = zs.toArray[m - 1]! := by
            by_cases hh : zs.toArray[m]! = zs.toArray[m - 1]!
            · exact hh
            · exact absurd (.inr hh) c
          rw [hd m (by omega), hd (m - 1) (by omega)] at c2
          subst e
          refine ⟨j - 1, by omega, ?_⟩
          rw [List.getElem?_eq_getElem (by omega)] at hx ⊢
          rw [← c2]; exact hx
        · exact ⟨j, by omega, hx⟩
theorem compact_sorted (zs : List Str) : SLL (Lib.compact (zs.mergeSort fun x y => !ll y x)) ∧ ∀ x, x ∈ Lib.compact (zs.mergeSort fun x y => !ll y x) ↔ x ∈ zs := by
  have hp := List.pairwise_mergeSort (le := fun x y => !ll y x) (fun a b c h1 h2 => le_trans a b c h1 h2) (fun a b => le_total a b) zs
  obtain ⟨h1, h2⟩ := compact_sll _ hp _ (Nat.le_refl _)
  refine ⟨h1, fun x => ?_⟩
  show x ∈ Lib.compactUpTo _ _ ↔ _
  rw [h2, ← List.mem_mergeSort (le := fun x y => !ll y x) (l := zs)]
  constructor
  · rintro ⟨j, _, hx⟩; exact List.mem_of_getElem? hx
  · intro hx
    obtain ⟨j, hj, e⟩ := List.getElem_of_mem hx
    exact ⟨j, hj, by rw [List.getElem?_eq_getElem hj, e]⟩
def begs (s : Str) : List Str := (List.range s.length).map fun i => s.take (i + 1)
theorem begs_mem {s x : Str} : x ∈ begs s ↔ x ≠ [] ∧ x <+: s := by
  simp only [begs, List.mem_map, List.mem_range]
  constructor
  · rintro ⟨i, hi, rfl⟩
    refine ⟨fun e => ?_, List.take_prefix _ _⟩
    have := congrArg List.length e
    rw [List.length_take, List.length_nil] at this; omega
  · rintro ⟨hne, hp⟩
    have := List.length_pos_iff.2 hne
    have := hp.length_le
    refine ⟨x.length - 1, by omega, ?_⟩
    rw [show x.length - 1 + 1 = x.length from by omega]
    exact take_of_prefix hp
theorem impl_nodesFor_l1 (x0 : List ByteArray) (s : ByteArray) (n10 : Nat) (r : List ByteArray) (hs : s.size ≤ 1000) : ∀ (d i : Nat) (out : List ByteArray), i + d = s.size → out.length + d ≤ 8000000 →
    (∀ out', bytesL out' = bytesL out ++ (begs s.data.toList).drop i → Ev (fun k => impl_nodesFor.l0 k out' x0 (x0.length : Int) (wrap64 ((n10 : Int) + 1))) r) →
    Ev (fun k => impl_nodesFor.l1 k out s x0 (x0.length : Int) (n10 : Int) (s.size : Int) (i : Int)) r := by
  intro d
  induction d with
  | zero =>
    intro i out hi hb hc
    refine ev_succ ?_
    simp only [impl_nodesFor.l1]
    exact ev_neg (by omega) (hc out (by rw [List.drop_of_length_le (by simp only [begs, List.length_map, List.length_range, ← size_len]; omega), List.append_nil]))
  | succ d ih =>
    intro i out hi hb hc
    refine ev_succ ?_
    simp only [impl_nodesFor.l1]
    rw [winc (i := i) (by omega)]
    refine ev_pos (by omega) (ev_pos (by omega) (ev_pos (by omega) (ev_pos (by omega) ?_)))
    rw [Int.toNat_natCast]
    refine ih (i + 1) _ (by omega) (by simp; omega) fun out' ho => hc out' ?_
    have hi2 : i < (begs s.data.toList).length := by simp only [begs, List.length_map, List.length_range, ← size_len]; omega
    have hg : (begs s.data.toList)[i] = s.data.toList.take (i + 1) := by simp [begs]
    have hone : bytesL [s.extract 0 (i + 1)] = [s.data.toList.take (i + 1)] := by simp [bytesL]
    rw [ho, bytesL_app, hone, List.drop_eq_getElem_cons hi2, hg, List.append_assoc]
    rfl
def nodesH (K : List Str) : List Str := Lib.compact ((([] : Str) :: K.flatMap begs).mergeSort fun x y => !ll y x)
theorem impl_nodesFor_l0 (x0 : List ByteArray) (hl : x0.length ≤ 1000) (hs : ∀ s ∈ x0, s.size ≤ 1000) : ∀ (t pre out : List ByteArray), x0 = pre ++ t → out.length ≤ 1 + pre.length * 1000 →
    bytesL out = [] :: (bytesL pre).flatMap begs →
    Ev (fun k => impl_nodesFor.l0 k out x0 (x0.length : Int) (pre.length : Int)) ((nodesH (bytesL x0)).map mkS) := by
  intro t
  induction t with
  | nil =>
    intro pre out h hb ho
    refine ev_succ ?_
    simp only [impl_nodesFor.l0]
    refine ev_neg (by rw [h]; exact not_lt_end) ?_
    rw [List.append_nil] at h
    have e : slices_SortFunc_string_string_at_impl_nodesFor_1.f out = some (sortN out) := by
      unfold slices_SortFunc_string_string_at_impl_nodesFor_1.f
      have : pre.length ≤ 1000 := by rw [← h]; exact hl
      rw [if_pos (by omega)]
    rw [e]
    refine ev_bind _ (Ev.now _) (ev_bind _ (Ev.now _) (ev_some ?_))
    unfold compactS sortN nodesH
    have eb : bytesL ((((bytesL out).mergeSort fun x y => !llH y x).map fun b => (⟨b.toArray⟩ : ByteArray))) = (bytesL out).mergeSort fun x y => !llH y x := bytesL_mk _
    rw [eb, llH_ll, ho, h]
    rfl
  | cons s t ih =>
    intro pre out h hb ho
    have hm : ((pre.length : Nat) : Int) < (x0.length : Int) := by rw [h]; exact lt_mid
    have hg : rdOf ByteArray.empty x0 (pre.length : Int) = s := by rw [h]; exact rdOf_mid
    have hz : s.size ≤ 1000 := hs s (by rw [h]; simp)
    have hpl : pre.length < x0.length := by omega
    refine ev_succ ?_
    simp only [impl_nodesFor.l0, hg]
    refine ev_pos hm (ev_pos (by omega) (ev_pos hm ?_))
    refine impl_nodesFor_l1 x0 s pre.length _ hz s.size 0 out (by omega) (by
      have : pre.length * 1000 ≤ 1000 * 1000 := Nat.mul_le_mul_right _ (by omega)
      omega) fun out' ho' => ?_
    rw [winc (by omega)]
    have hlen := congrArg List.length ho'
    rw [List.drop_zero, bytesL_len, List.length_append, bytesL_len] at hlen
    have hbl : (begs s.data.toList).length = s.size := by simp only [begs, List.length_map, List.length_range, size_len]
    have := ih (pre ++ [s]) out' (by rw [h]; simp) (by simp only [List.length_append, List.length_cons, List.length_nil]; omega) (by
      rw [ho', List.drop_zero, ho, bytesL_app, List.flatMap_append]
      simp [bytesL])
    rw [len_one] at this
    exact this
theorem nodesH_eq {K : List Str} (hK : SBL K) (h12 : ∀ s ∈ K, s.length ≤ 12) : nodesH K = nodesL K := by
  obtain ⟨h1, h2⟩ := compact_sorted (([] : Str) :: K.flatMap begs)
  obtain ⟨h3, h4⟩ := nodesL_ok hK
  refine sll_ext h1 h3 fun x => ?_
  unfold nodesH
  rw [h2, h4, List.mem_cons, List.mem_flatMap]
  constructor
  · rintro (h | ⟨s, hs, hx⟩)
    · exact .inl h
    · obtain ⟨_, hp⟩ := begs_mem.1 hx
      have := hp.length_le
      have := h12 s hs
      exact .inr ⟨by omega, s, hs, hp⟩
  · rintro (h | ⟨_, s, hs, hp⟩)
    · exact .inl h
    · by_cases e : x = []
      · exact .inl e
      · exact .inr ⟨s, hs, begs_mem.2 ⟨e, hp⟩⟩

theorem keys_sbl {l : List ByteArray} (h : areKeysB l = true) : SBL (bytesL l) := by
  have hf := areKeysB_from h
  have go : ∀ (p : Option ByteArray) (l : List ByteArray), keysFrom p l = true → SBL (bytesL l) := by
    intro p l
    induction l generalizing p with
    | nil => intro _; simp [bytesL]
    | cons x t ih =>
      intro hk
      simp only [keysFrom, Bool.and_eq_true] at hk
      refine List.pairwise_cons.2 ⟨fun y hy => ?_, ih _ hk.2⟩
      obtain ⟨s, hs, rfl⟩ := List.mem_map.1 hy
      have := keysFrom_less x t hk.2 s hs
      unfold lessS at this
      rw [tl, tl] at this
      exact this
  exact go none l hf
theorem keys_12 {l : List ByteArray} (h : areKeysB l = true) : ∀ s ∈ bytesL l, s.length ≤ 12 := by
  intro s hs
  obtain ⟨x, hx, rfl⟩ := List.mem_map.1 hs
  have := isKeyB_size (areKeysB_all h x hx)
  rw [← size_len]
  exact this.2
theorem impl_nodesFor_f (l : List ByteArray) (h : areKeysB l = true) : Ev (fun k => impl_nodesFor.f k l) ((nodesL (bytesL l)).map mkS) := by
  unfold impl_nodesFor.f
  have hl := areKeysB_len h
  have := impl_nodesFor_l0 l (by omega) (fun s hs => by have := isKeyB_size (areKeysB_all h s hs); omega) l [] [(⟨#[]⟩ : ByteArray)] rfl (by simp) (by simp [bytesL])
  rw [nodesH_eq (keys_sbl h) (keys_12 h)] at this
  exact this
end Go.Proofs.YtalfkfddpamnjaaGreatQ
namespace Go.Proofs.YtalfkfddpamnjaaGreatQ
open Go Go.RowKit Go.Proofs.YtalfkfddpamnjaaGreatW.PrintWords Go.Proofs.YtalfkfddpamnjaaGreatW.PrintMore Go.Proofs.YtalfkfddpamnjaaGreatGp Go.Proofs.YtalfkfddpamnjaaGreat.PA

theorem pre_eq (a b : Str) : ((a.take b.length) == b) = b.isPrefixOf a := by
  rw [Bool.eq_iff_iff, beq_iff_eq, List.isPrefixOf_iff_prefix, List.prefix_iff_eq_take]
  exact eq_comm
theorem not_pre {a b : ByteArray} (c : ¬ (a.size : Int) ≥ (b.size : Int)) : b.data.toList.isPrefixOf a.data.toList = false := by
  rw [← Bool.not_eq_true, List.isPrefixOf_iff_prefix]
  intro h
  have := h.length_le
  rw [← size_len, ← size_len] at this
  omega
theorem spec_trBegins_f (a b : ByteArray) : spec_trBegins.f a b = some (b.data.toList.isPrefixOf a.data.toList) := by
  unfold spec_trBegins.f
  by_cases c : (a.size : Int) ≥ (b.size : Int)
  · rw [if_pos c, if_pos (by omega), if_pos c, Int.toNat_natCast, tl, tl, ext0, ← pre_eq, ← size_len b]
  · rw [if_neg c, not_pre c]
theorem strings_HasPrefix_f (a b : ByteArray) : strings_HasPrefix.f a b = some (b.data.toList.isPrefixOf a.data.toList) := by
  unfold strings_HasPrefix.f stringslite_HasPrefix.f
  by_cases c : (a.size : Int) ≥ (b.size : Int)
  · rw [if_pos c, if_pos (by omega), if_pos c, Int.toNat_natCast, tl, tl, ext0, ← pre_eq, ← size_len b]
    rfl
  · rw [if_neg c, not_pre c]
    rfl
def childB (s c : ByteArray) : Bool := isChild s.data.toList c.data.toList
theorem childB_yes {s c : ByteArray} (hs : s.size ≤ 1000000) (h : (c.size : Int) = wrap64 ((s.size : Int) + 1)) : childB s c = s.data.toList.isPrefixOf c.data.toList := by
  rw [winc (by omega)] at h
  have e : c.data.toList.length = s.data.toList.length + 1 := by rw [← size_len, ← size_len]; omega
  unfold childB isChild
  rw [decide_eq_true e, Bool.true_and]
theorem childB_no {s c : ByteArray} (hs : s.size ≤ 1000000) (h : ¬ (c.size : Int) = wrap64 ((s.size : Int) + 1)) : childB s c = false := by
  rw [winc (by omega)] at h
  have e : ¬ c.data.toList.length = s.data.toList.length + 1 := by rw [← size_len, ← size_len]; omega
  unfold childB isChild
  rw [decide_eq_false e, Bool.false_and]

theorem spec_trOf_l1 (x0 x3 x13 y : List ByteArray) (x5 : List Bool) (x6 : List Int) (x7 x14 x15 : Int) (s : ByteArray) (r : Int × List Int × Int × List Int × ByteArray) (hs : s.size ≤ 1000000) (hy : y.length ≤ 1000000) : ∀ (t pre : List ByteArray) (x4 : List Bool), y = pre ++ t → x4.length + t.length ≤ 8000000 →
    Ev (fun k => spec_trOf.l1 k x0 x3 (x4 ++ List.replicate (t.filter (childB s)).length true) x5 x6 x7 s x13 x14 x15 y (y.length : Int) (y.length : Int)) r →
    Ev (fun k => spec_trOf.l1 k x0 x3 x4 x5 x6 x7 s x13 x14 x15 y (y.length : Int) (pre.length : Int)) r := by
  intro t
  induction t with
  | nil =>
    intro pre x4 h _ hc
    rw [List.append_nil] at h
    subst h
    simpa using hc
  | cons c t ih =>
    intro pre x4 h hb hc
    have hm : ((pre.length : Nat) : Int) < (y.length : Int) := by rw [h]; exact lt_mid
    have hg : rdOf ByteArray.empty y (pre.length : Int) = c := by rw [h]; exact rdOf_mid
    have hle : pre.length < y.length := by omega
    simp only [List.length_cons] at hb
    have next := fun x4' hb' hc' => ih (pre ++ [c]) x4' (by rw [h]; simp) hb' hc'
    rw [len_one] at next
    refine ev_succ ?_
    simp only [spec_trOf.l1, hg]
    refine ev_pos hm (ev_pos (by omega) (ev_pos hm ?_))
    rw [winc (i := pre.length) (by omega)]
    by_cases e : (c.size : Int) = wrap64 ((s.size : Int) + 1)
    · refine ev_pos e ?_
      rw [spec_trBegins_f]
      refine ev_bind _ (Ev.now _) ?_
      rw [← childB_yes hs e]
      by_cases d : childB s c = true
      · refine ev_pos d (ev_pos (by omega) (next _ (by simp; omega) ?_))
        rw [List.filter_cons_of_pos d] at hc
        simpa [List.replicate_succ] using hc
      · refine ev_neg d (next _ (by omega) ?_)
        rw [List.filter_cons_of_neg d] at hc
        exact hc
    · refine ev_neg e (next _ (by omega) ?_)
      rw [List.filter_cons_of_neg (by rw [childB_no hs e]; simp)] at hc
      exact hc
theorem encB_app (N : List Str) : ∀ (a b : List Str), encB N (a ++ b) = encB N a ++ encB N b
  | [], _ => rfl
  | s :: a, b => by simp [encB, encB_app N a b]
theorem encB_len (N : List Str) : ∀ (a : List Str), (encB N a).length = (a.flatMap (kids N)).length + a.length
  | [] => rfl
  | s :: a => by
    simp only [encB, List.length_append, List.length_replicate, List.length_cons, encB_len N a, List.flatMap_cons]
    omega
theorem filter_mk (s : Str) (l : List Str) : ((l.map mkS).filter (childB (mkS s))).length = (l.filter (isChild s)).length := by
  rw [List.filter_map, List.length_map]
  have : (childB (mkS s) ∘ mkS) = isChild s := by funext x; simp [childB, mkS_data]
  rw [this]
theorem kids_later {N T : List Str} (h : Tree N T) (pre post : List Str) (s : Str) (hN : N = pre ++ s :: post) : kids N s = post.filter (isChild s) := by
  have hp := h.sll
  rw [hN] at hp
  obtain ⟨_, _, h3⟩ := List.pairwise_append.1 hp
  have no : ∀ x, x.length ≤ s.length → isChild s x = false := fun x hx => by
    unfold isChild
    rw [decide_eq_false (by omega), Bool.false_and]
  unfold kids
  rw [hN, List.filter_append, List.filter_cons_of_neg (by rw [no s (Nat.le_refl _)]; simp)]
  rw [List.filter_eq_nil_iff.2 (fun x hx => by
    rw [no x]; · simp
    have := h3 x hx s (by simp)
    rw [ll_iff] at this
    omega)]
  rfl
theorem drop_mid {α : Type} (x : α) (b : List α) : ∀ (a : List α), (a ++ x :: b).drop (a.length + 1) = b
  | [] => rfl
  | _ :: a => drop_mid x b a
def lab1 (N : List Str) : List Int := (N.drop 1).map fun s => ((lastB s).toNat : Int)
def endB (K : List ByteArray) (N : List Str) : List Bool := N.map fun s => hasS K (mkS s)
theorem lab1_app (N : List Str) (s : Str) (h : 0 < N.length) : lab1 (N ++ [s]) = lab1 N ++ [((lastB s).toNat : Int)] := by
  cases N with
  | nil => simp at h
  | cons a N => simp [lab1]
theorem last_bt (s : Str) (h : s ≠ []) (hs : s.length ≤ 1000000) : 0 ≤ wrap64 (((mkS s).size : Int) - 1) ∧ wrap64 (((mkS s).size : Int) - 1) < ((mkS s).size : Int) ∧ bt (mkS s) (wrap64 (((mkS s).size : Int) - 1)) = ((lastB s).toNat : Int) := by
  have hl := List.length_pos_iff.2 h
  have hz : (mkS s).size = s.length := by rw [size_len, mkS_data]
  have hw : wrap64 (((mkS s).size : Int) - 1) = ((s.length - 1 : Nat) : Int) := by rw [hz, w64 (by omega) (by omega)]; omega
  rw [hw, hz]
  refine ⟨by omega, by omega, ?_⟩
  rw [bt_get (by rw [mkS_data]; omega)]
  simp only [mkS_data]
  unfold lastB
  rw [List.getLastD_eq_getLast?, List.getLast?_eq_getElem?, List.getElem?_eq_getElem (by omega)]
  rfl
def trieR (K : List ByteArray) (N : List Str) : Int × List Int × Int × List Int × ByteArray :=
  (((encB N N).length : Int), packB (encB N N), ((endB K N).length : Int), packB (endB K N), strOfNums (lab1 N))
theorem spec_trOf_l0 (K : List ByteArray) {N T : List Str} (hT : Tree N T) (hK : (K.length : Int) ≤ 9223372036854775806) (hN : N.length ≤ 100000) (hs : ∀ s ∈ N, s.length ≤ 1000000) : ∀ (post pre : List Str), N = pre ++ post →
    Ev (fun k => spec_trOf.l0 k K (N.map mkS) (encB N pre) (endB K pre) (lab1 pre) (N.map mkS) ((N.map mkS).length : Int) (pre.length : Int)) (trieR K N) := by
  have hE : (encB N N).length ≤ 200000 := by
    rw [encB_len, kids_all hT]
    have : N.length = T.length + 1 := by rw [hT.hd]; simp
    omega
  intro post
  induction post with
  | nil =>
    intro pre h
    rw [List.append_nil] at h
    subst h
    refine ev_succ ?_
    simp only [spec_trOf.l0]
    refine ev_neg (by simp) (ev_bind _ (spec_biSome_f _ (by omega)) (ev_bind _ (spec_biSome_f _ (by simp [endB]; omega)) (ev_some rfl)))
  | cons s post ih =>
    intro pre h
    have hm : ((pre.length : Nat) : Int) < ((N.map mkS).length : Int) := by rw [List.length_map, h]; exact lt_mid
    have hg : rdOf ByteArray.empty (N.map mkS) (pre.length : Int) = mkS s := by
      rw [h, List.map_append, List.map_cons]
      have := rdOf_mid (d := ByteArray.empty) (pre := pre.map mkS) (s := mkS s) (t := post.map mkS)
      rw [List.length_map] at this
      exact this
    have hml : (N.map mkS).length = N.length := List.length_map ..
    have hle : pre.length < N.length := by omega
    have hsz : (mkS s).size ≤ 1000000 := by rw [size_len, mkS_data]; exact hs s (by rw [h]; simp)
    have hd : (N.map mkS).drop (pre.length + 1) = post.map mkS := by
      rw [h, List.map_append, List.map_cons]
      have := drop_mid (mkS s) (post.map mkS) (pre.map mkS)
      rw [List.length_map] at this
      exact this
    have hEn : (encB N pre).length + (kids N s).length + (encB N post).length + 1 ≤ 200000 := by
      have e := hE
      have hx : encB N N = encB N (pre ++ s :: post) := congrArg (encB N) h
      rw [hx, encB_app] at e
      simp only [encB, List.length_append, List.length_replicate, List.length_cons] at e
      omega
    refine ev_succ ?_
    simp only [spec_trOf.l0, hg]
    refine ev_pos hm (ev_pos (by omega) (ev_pos hm ?_))
    rw [winc (i := pre.length) (by omega)]
    refine ev_pos (by omega) (ev_pos (by omega) ?_)
    rw [Int.toNat_natCast, hd]
    refine ev_bind _ (Ev.now _) ?_
    have hpl : (post.map mkS).length = post.length := List.length_map ..
    have hpN : post.length ≤ N.length := by rw [h]; simp; omega
    refine spec_trOf_l1 K _ _ (post.map mkS) _ _ _ _ _ (mkS s) _ hsz (by omega) (post.map mkS) [] _ rfl (by omega) ?_
    rw [filter_mk, ← kids_later hT pre post s h]
    refine ev_succ ?_
    simp only [spec_trOf.l1]
    refine ev_neg (by omega) (ev_pos (by rw [List.length_append, List.length_replicate]; omega) (ev_bind _ (Ev.now _) (ev_bind _ (spec_l1HasS_f K (mkS s) hK) (ev_pos (by simp [endB]; omega) (ev_bind _ (Ev.now _) ?_)))))
    rw [winc (i := pre.length) (by omega)]
    have e1 : encB N (pre ++ [s]) = encB N pre ++ List.replicate (kids N s).length true ++ [false] := by
      rw [encB_app]; simp [encB]
    have e2 : endB K (pre ++ [s]) = endB K pre ++ [hasS K (mkS s)] := by simp [endB]
    have nx := ih (pre ++ [s]) (by rw [h]; simp)
    rw [len_one, e1, e2] at nx
    by_cases c : ((pre.length : Nat) : Int) > 0
    · have hne : s ≠ [] := by
        refine hT.ne ?_
        cases hp : pre with
        | nil => rw [hp] at c; simp at c
        | cons p q =>
          have := hT.hd
          rw [h, hp] at this
          simp only [List.cons_append, List.cons.injEq] at this
          rw [← this.2]; simp
      obtain ⟨b1, b2, b3⟩ := last_bt s hne (hs s (by rw [h]; simp))
      refine ev_pos c (ev_pos b1 (ev_pos b2 (ev_pos (by simp [lab1]; omega) ?_)))
      rw [b3]
      rw [lab1_app pre s (by omega)] at nx
      exact nx
    · refine ev_neg c ?_
      have : pre = [] := List.length_eq_zero_iff.1 (by omega)
      subst this
      exact nx

theorem impl_childrenOf_l0 (s : ByteArray) (y : List ByteArray) (hs : s.size ≤ 1000000) (hy : y.length ≤ 1000000) : ∀ (t pre : List ByteArray) (c : Nat), y = pre ++ t → c + t.length ≤ 1000000 →
    Ev (fun k => impl_childrenOf.l0 k s (c : Int) y (y.length : Int) (pre.length : Int)) (((c + (t.filter (childB s)).length : Nat) : Int)) := by
  intro t
  induction t with
  | nil =>
    intro pre c h _
    refine ev_succ ?_
    simp only [impl_childrenOf.l0]
    exact ev_neg (by rw [h]; exact not_lt_end) (ev_some rfl)
  | cons x t ih =>
    intro pre c h hb
    have hm : ((pre.length : Nat) : Int) < (y.length : Int) := by rw [h]; exact lt_mid
    have hg : rdOf ByteArray.empty y (pre.length : Int) = x := by rw [h]; exact rdOf_mid
    have hle : pre.length < y.length := by omega
    simp only [List.length_cons] at hb
    have next := fun c' hb' => ih (pre ++ [x]) c' (by rw [h]; simp) hb'
    rw [len_one] at next
    refine ev_succ ?_
    simp only [impl_childrenOf.l0, hg]
    refine ev_pos hm (ev_pos (by omega) (ev_pos hm ?_))
    rw [winc (i := pre.length) (by omega)]
    by_cases e : (x.size : Int) = wrap64 ((s.size : Int) + 1)
    · refine ev_pos e ?_
      rw [strings_HasPrefix_f]
      refine ev_bind _ (Ev.now _) ?_
      rw [← childB_yes hs e]
      by_cases d : childB s x = true
      · refine ev_pos d ?_
        rw [winc (by omega), List.filter_cons_of_pos d]
        have := next (c + 1) (by omega)
        rw [show c + 1 + (t.filter (childB s)).length = c + (x :: t.filter (childB s)).length from by simp; omega] at this
        exact this
      · refine ev_neg d ?_
        rw [List.filter_cons_of_neg d]
        exact next c (by omega)
    · refine ev_neg e ?_
      rw [List.filter_cons_of_neg (by rw [childB_no hs e]; simp)]
      exact next c (by omega)
theorem impl_childrenOf_f (N : List Str) (s : Str) (hs : s.length ≤ 1000000) (hy : N.length ≤ 1000000) : Ev (fun k => impl_childrenOf.f k (N.map mkS) (mkS s)) (((kids N s).length : Nat) : Int) := by
  have := impl_childrenOf_l0 (mkS s) (N.map mkS) (by rw [size_len, mkS_data]; exact hs) (by simpa using hy) (N.map mkS) [] 0 rfl (by simpa using hy)
  rw [filter_mk, Nat.zero_add] at this
  exact this
theorem zero_after {l : List Int} (hl : okW l) {p : Nat} (h : p / 16 < l.length) (hz : ∀ q, p ≤ q → bitN l q = false) (b : Bool) : ∀ q, p + 1 ≤ q → bitN (if b = true then setV l (p : Int) else l) q = false := by
  intro q hq
  by_cases c : b = true
  · rw [if_pos c, bit_setV hl h, hz q (by omega), decide_eq_false (by omega)]; rfl
  · rw [if_neg c]; exact hz q (by omega)
theorem ok_after {l : List Int} (hl : okW l) {p : Nat} (h : p / 16 < l.length) (b : Bool) : okW (if b = true then setV l (p : Int) else l) := by
  by_cases c : b = true
  · rw [if_pos c]; exact okW_setV hl h
  · rw [if_neg c]; exact hl
theorem len_after (l : List Int) (p : Int) (b : Bool) : (if b = true then setV l p else l).length = l.length := by
  by_cases c : b = true
  · rw [if_pos c, setV_len]
  · rw [if_neg c]
theorem made_1_l0 (B : List Bool) (n : Int) (hB : B.length ≤ 1000000) : ∀ (t pre : List Bool) (l : List Int), B = pre ++ t → B.length ≤ 16 * l.length → okW l → (∀ q, pre.length ≤ q → bitN l q = false) →
    Ev (fun k => impl_madeBits_at_impl_trie_1.l0 k (B.length : Int) (pre.length : Int) B n l) (n, packFrom t pre.length l) := by
  intro t
  induction t with
  | nil =>
    intro pre l h _ _ _
    refine ev_succ ?_
    simp only [impl_madeBits_at_impl_trie_1.l0]
    exact ev_neg (by rw [h]; exact not_lt_end) (ev_some rfl)
  | cons b t ih =>
    intro pre l h hl hok hz
    have hm : ((pre.length : Nat) : Int) < (B.length : Int) := by rw [h]; exact lt_mid
    have hg : rdOf false B (pre.length : Int) = b := by rw [h]; exact rdOf_mid
    have hle : pre.length < B.length := by omega
    refine ev_succ ?_
    simp only [impl_madeBits_at_impl_trie_1.l0]
    have e : impl_trie_1.f (pre.length : Int) B = some b := by
      unfold impl_trie_1.f
      rw [if_pos (by omega), if_pos hm, hg]
    rw [e]
    refine ev_pos hm (ev_bind _ (Ev.now _) ?_)
    rw [impl_Bits_set_any n hok (by omega) (by omega) (hz _ (Nat.le_refl _)) b]
    refine ev_bind _ (Ev.now _) ?_
    rw [winc (by omega)]
    have := ih (pre ++ [b]) _ (by rw [h]; simp) (by rw [len_after l (pre.length : Int) b]; exact hl) (ok_after hok (by omega) b) (by
      have := zero_after hok (p := pre.length) (by omega) hz b
      simpa using this)
    rw [len_one] at this
    simpa [packFrom] using this
theorem made_1_f (B : List Bool) (hB : B.length ≤ 1000000) : Ev (fun k => impl_madeBits_at_impl_trie_1.f k (B.length : Int) B) ((B.length : Int), packB B) := by
  unfold impl_madeBits_at_impl_trie_1.f
  rw [impl_blank_f _ hB]
  refine ev_bind _ (Ev.now _) ?_
  exact made_1_l0 B (B.length : Int) hB B [] (blankW B.length) rfl (by simp [blankW]; omega) (okW_blank _) fun q _ => bit_blank _ q
theorem made_2_l0 (K : List ByteArray) (M : List ByteArray) (n : Int) (hK : (K.length : Int) ≤ 9223372036854775806) (hB : M.length ≤ 1000000) : ∀ (t pre : List ByteArray) (l : List Int), M = pre ++ t → M.length ≤ 16 * l.length → okW l → (∀ q, pre.length ≤ q → bitN l q = false) →
    Ev (fun k => impl_madeBits_at_impl_trie_2.l0 k (M.length : Int) (pre.length : Int) K M n l) (n, packFrom (t.map (hasS K)) pre.length l) := by
  intro t
  induction t with
  | nil =>
    intro pre l h _ _ _
    refine ev_succ ?_
    simp only [impl_madeBits_at_impl_trie_2.l0]
    exact ev_neg (by rw [h]; exact not_lt_end) (ev_some rfl)
  | cons b t ih =>
    intro pre l h hl hok hz
    have hm : ((pre.length : Nat) : Int) < (M.length : Int) := by rw [h]; exact lt_mid
    have hg : rdOf ByteArray.empty M (pre.length : Int) = b := by rw [h]; exact rdOf_mid
    have hle : pre.length < M.length := by omega
    refine ev_succ ?_
    simp only [impl_madeBits_at_impl_trie_2.l0]
    have e : Ev (fun k => impl_trie_2.f k (pre.length : Int) K M) (hasS K b) := by
      unfold impl_trie_2.f
      refine ev_pos (by omega) (ev_pos hm (ev_bind _ ?_ (ev_some rfl)))
      rw [hg]
      exact slices_Contains_string_string_f K b hK
    refine ev_pos hm (ev_bind _ e ?_)
    rw [impl_Bits_set_any n hok (by omega) (by omega) (hz _ (Nat.le_refl _)) (hasS K b)]
    refine ev_bind _ (Ev.now _) ?_
    rw [winc (by omega)]
    have := ih (pre ++ [b]) _ (by rw [h]; simp) (by rw [len_after l (pre.length : Int) (hasS K b)]; exact hl) (ok_after hok (by omega) _) (by
      have := zero_after hok (p := pre.length) (by omega) hz (hasS K b)
      simpa using this)
    rw [len_one] at this
    simpa [packFrom] using this
theorem made_2_f (K M : List ByteArray) (hK : (K.length : Int) ≤ 9223372036854775806) (hB : M.length ≤ 1000000) : Ev (fun k => impl_madeBits_at_impl_trie_2.f k (M.length : Int) K M) ((M.length : Int), packB (M.map (hasS K))) := by
  unfold impl_madeBits_at_impl_trie_2.f
  rw [impl_blank_f _ hB]
  refine ev_bind _ (Ev.now _) ?_
  have := made_2_l0 K M (M.length : Int) hK hB M [] (blankW M.length) rfl (by simp [blankW]; omega) (okW_blank _) fun q _ => bit_blank _ q
  unfold packB
  rw [List.length_map]
  exact this
theorem impl_trie_l0 (K : List ByteArray) {N T : List Str} (hT : Tree N T) (hK : (K.length : Int) ≤ 9223372036854775806) (hN : N.length ≤ 100000) (hs : ∀ s ∈ N, s.length ≤ 1000000) : ∀ (post pre : List Str), N = pre ++ post →
    Ev (fun k => impl_trie.l0 k (lab1 pre) (N.map mkS) ((N.map mkS).length : Int) (pre.length : Int) K (N.map mkS) (encB N pre)) (trieR K N) := by
  have hE : (encB N N).length ≤ 200000 := by
    rw [encB_len, kids_all hT]
    have : N.length = T.length + 1 := by rw [hT.hd]; simp
    omega
  intro post
  induction post with
  | nil =>
    intro pre h
    rw [List.append_nil] at h
    subst h
    refine ev_succ ?_
    simp only [impl_trie.l0]
    refine ev_neg (by simp) (ev_bind _ (made_1_f _ (by omega)) (ev_bind _ (made_2_f K _ hK (by simp; omega)) (ev_some ?_)))
    unfold trieR
    have : (N.map mkS).map (hasS K) = endB K N := by simp [endB, List.map_map, Function.comp_def]
    rw [this]
    simp [endB]
  | cons s post ih =>
    intro pre h
    have hm : ((pre.length : Nat) : Int) < ((N.map mkS).length : Int) := by rw [List.length_map, h]; exact lt_mid
    have hg : rdOf ByteArray.empty (N.map mkS) (pre.length : Int) = mkS s := by
      rw [h, List.map_append, List.map_cons]
      have := rdOf_mid (d := ByteArray.empty) (pre := pre.map mkS) (s := mkS s) (t := post.map mkS)
      rw [List.length_map] at this
      exact this
    have hml : (N.map mkS).length = N.length := List.length_map ..
    have hle : pre.length < N.length := by omega
    have hEn : (encB N pre).length + (kids N s).length + (encB N post).length + 1 ≤ 200000 := by
      have e := hE
      have hx : encB N N = encB N (pre ++ s :: post) := congrArg (encB N) h
      rw [hx, encB_app] at e
      simp only [encB, List.length_append, List.length_replicate, List.length_cons] at e
      omega
    refine ev_succ ?_
    simp only [impl_trie.l0, hg]
    refine ev_pos hm (ev_pos (by omega) (ev_pos hm (ev_bind _ (impl_childrenOf_f N s (hs s (by rw [h]; simp)) (by omega)) ?_)))
    have hr : slices_Repeat_bool_bool.f [true] (((kids N s).length : Nat) : Int) = some (List.replicate (kids N s).length true) := by
      unfold slices_Repeat_bool_bool.f
      rw [if_pos rfl, if_pos (by omega), if_pos (by omega), Int.toNat_natCast]
    rw [hr]
    refine ev_bind _ (Ev.now _) (ev_pos (by rw [List.length_replicate]; omega) (ev_bind _ (Ev.now _) (ev_bind _ (Ev.now _) (ev_pos (by simp only [List.length_append, List.length_replicate, List.length_cons, List.length_nil]; omega) (ev_bind _ (Ev.now _) ?_)))))
    rw [winc (i := pre.length) (by omega)]
    have e1 : encB N (pre ++ [s]) = encB N pre ++ List.replicate (kids N s).length true ++ [false] := by
      rw [encB_app]; simp [encB]
    have nx := ih (pre ++ [s]) (by rw [h]; simp)
    rw [len_one, e1] at nx
    by_cases c : ((pre.length : Nat) : Int) > 0
    · have hne : s ≠ [] := by
        refine hT.ne ?_
        cases hp : pre with
        | nil => rw [hp] at c; simp at c
        | cons p q =>
          have := hT.hd
          rw [h, hp] at this
          simp only [List.cons_append, List.cons.injEq] at this
          rw [← this.2]; simp
      obtain ⟨b1, b2, b3⟩ := last_bt s hne (hs s (by rw [h]; simp))
      refine ev_pos c (ev_pos b1 (ev_pos b2 ?_))
      rw [b3]
      refine ev_bind _ (Ev.now _) (ev_pos (by simp [lab1]; omega) ?_)
      rw [lab1_app pre s (by omega)] at nx
      exact nx
    · refine ev_neg c ?_
      have : pre = [] := List.length_eq_zero_iff.1 (by omega)
      subst this
      exact nx

theorem levels_len (K : List Str) : ∀ (m n : Nat) (out : List Str), (levels K m n out).length ≤ out.length + m * K.length
  | 0, _, out => by simp [levels]
  | m + 1, n, out => by
    rw [levels]
    have h1 := levels_len K m (n + 1) (out ++ lvl n (out.getLastD []) K)
    have h2 := lvl_len n K (out.getLastD [])
    rw [List.length_append] at h1
    rw [Nat.succ_mul]
    omega
theorem nodesL_len (K : List Str) : (nodesL K).length ≤ 1 + 12 * K.length := by
  have := levels_len K 12 1 [[]]
  simpa [nodesL] using this
theorem nodesL_short {K : List Str} (hK : SBL K) {x : Str} (h : x ∈ nodesL K) : x.length ≤ 12 := by
  rcases ((nodesL_ok hK).2 x).1 h with rfl | ⟨h, _⟩
  · simp
  · omega
def trieV (K : List ByteArray) : Int × List Int × Int × List Int × ByteArray := trieR K (nodesL (bytesL K))
theorem spec_trOf_f (K : List ByteArray) (h : areKeysB K = true) : Ev (fun k => spec_trOf.f k K) (trieV K) := by
  unfold spec_trOf.f
  have hl := areKeysB_len h
  obtain ⟨T, hT⟩ := nodesL_tree (keys_sbl h)
  have hb := nodesL_len (bytesL K)
  rw [bytesL_len] at hb
  refine ev_bind _ (spec_trNodes_f K (by omega)) ?_
  exact spec_trOf_l0 K hT (by omega) (by omega) (fun s hs => by have := nodesL_short (keys_sbl h) hs; omega) (nodesL (bytesL K)) [] rfl
theorem impl_trie_f (K : List ByteArray) (h : areKeysB K = true) : Ev (fun k => impl_trie.f k K) (trieV K) := by
  unfold impl_trie.f
  have hl := areKeysB_len h
  obtain ⟨T, hT⟩ := nodesL_tree (keys_sbl h)
  have hb := nodesL_len (bytesL K)
  rw [bytesL_len] at hb
  refine ev_bind _ (impl_nodesFor_f K h) ?_
  exact impl_trie_l0 K hT (by omega) (by omega) (fun s hs => by have := nodesL_short (keys_sbl h) hs; omega) (nodesL (bytesL K)) [] rfl
end Go.Proofs.YtalfkfddpamnjaaGreatQ
namespace Go.Proofs.YtalfkfddpamnjaaGreatQ
open Go Go.RowKit Go.Proofs.YtalfkfddpamnjaaGreatW.PrintWords Go.Proofs.YtalfkfddpamnjaaGreatW.PrintMore Go.Proofs.YtalfkfddpamnjaaGreatGp Go.Proofs.YtalfkfddpamnjaaGreat.PA

theorem ext_of {α : Type} (r : α → α → Prop) (irr : ∀ a, ¬ r a a) (tr : ∀ a b c, r a b → r b c → r a c) : ∀ {l m : List α}, l.Pairwise r → m.Pairwise r → (∀ x, x ∈ l ↔ x ∈ m) → l = m
  | [], [], _, _, _ => rfl
  | [], b :: m, _, _, h => by have := (h b).2 (by simp); simp at this
  | a :: l, [], _, _, h => by have := (h a).1 (by simp); simp at this
  | a :: l, b :: m, hl, hm, h => by
    obtain ⟨ha, hl'⟩ := List.pairwise_cons.1 hl
    obtain ⟨hb, hm'⟩ := List.pairwise_cons.1 hm
    have e : a = b := by
      rcases List.mem_cons.1 ((h a).1 (by simp)) with e | ia
      · exact e
      · rcases List.mem_cons.1 ((h b).2 (by simp)) with e | ib
        · exact e.symm
        · exact absurd (tr _ _ _ (ha b ib) (hb a ia)) (irr a)
    subst e
    refine congrArg (a :: ·) (ext_of r irr tr hl' hm' fun x => ?_)
    constructor
    · intro hx
      rcases List.mem_cons.1 ((h x).1 (by simp [hx])) with e | i
      · subst e; exact absurd (ha x hx) (irr x)
      · exact i
    · intro hx
      rcases List.mem_cons.1 ((h x).2 (by simp [hx])) with e | i
      · subst e; exact absurd (hb x hx) (irr x)
      · exact i
theorem bl_lt : ∀ a b : Str, Op.bytesLess a b = true ↔ a < b
  | [], [] => by simp [Op.bytesLess]
  | [], _ :: _ => by simp [Op.bytesLess]
  | _ :: _, [] => by simp [Op.bytesLess]
  | a :: l, b :: m => by
    rw [List.cons_lt_cons_iff]
    simp only [Op.bytesLess, Bool.or_eq_true, Bool.and_eq_true, decide_eq_true_eq, beq_iff_eq, bl_lt l m]
theorem le_bl {a b : Str} : decide (a ≤ b) = true ↔ Op.bytesLess b a = false := by
  rw [decide_eq_true_eq, ← Bool.not_eq_true, bl_lt, List.not_lt]

def marked (lE : List Int) : Nat → List ByteArray → List ByteArray
  | _, [] => []
  | i, p :: t => if atV lE (i : Int) = true then p :: marked lE (i + 1) t else marked lE (i + 1) t
theorem marked_len (lE : List Int) : ∀ (t : List ByteArray) (i : Nat), (marked lE i t).length ≤ t.length
  | [], _ => Nat.le_refl _
  | p :: t, i => by
    have := marked_len lE t (i + 1)
    unfold marked
    split
    · simp; exact this
    · simp; omega
theorem marked_mem (lE : List Int) : ∀ (t : List ByteArray) (i : Nat) (x : ByteArray), x ∈ marked lE i t → x ∈ t
  | [], _, _, h => by simp [marked] at h
  | p :: t, i, x, h => by
    unfold marked at h
    split at h
    · rcases List.mem_cons.1 h with e | h
      · simp [e]
      · exact List.mem_cons_of_mem _ (marked_mem lE t _ x h)
    · exact List.mem_cons_of_mem _ (marked_mem lE t _ x h)
theorem atV_pack {B : List Bool} {i : Nat} (h : i < B.length) : atV (packB B) (i : Int) = B.getD i false := by
  obtain ⟨ok, bits⟩ := packB_ok B
  rw [atV_bit ok (by rw [packB_len]; omega), bits]
theorem marked_pack (K : List ByteArray) (N : List Str) : ∀ (t pre : List Str), N = pre ++ t → marked (packB (endB K N)) pre.length (t.map mkS) = (t.map mkS).filter (hasS K)
  | [], _, _ => rfl
  | s :: t, pre, h => by
    have e : atV (packB (endB K N)) (pre.length : Int) = hasS K (mkS s) := by
      rw [atV_pack (by simp [endB, h])]
      simp [endB, h]
    have ih := marked_pack K N t (pre ++ [s]) (by rw [h]; simp)
    rw [List.length_append] at ih
    rw [List.map_cons, marked, e]
    by_cases c : hasS K (mkS s) = true
    · rw [if_pos c, List.filter_cons_of_pos c]
      exact congrArg _ ih
    · rw [if_neg c, List.filter_cons_of_neg c]
      exact ih
def insK (x : ByteArray) : List ByteArray → List ByteArray
  | [] => [x]
  | y :: t => if lessS y x = true then y :: insK x t else if y = x then y :: t else x :: y :: t
theorem insK_mem {x y : ByteArray} : ∀ {l : List ByteArray}, y ∈ insK x l ↔ y = x ∨ y ∈ l
  | [] => by simp [insK]
  | z :: t => by
    unfold insK
    split
    · rw [List.mem_cons, insK_mem, List.mem_cons]
      constructor
      · rintro (h | h | h)
        · exact .inr (.inl h)
        · exact .inl h
        · exact .inr (.inr h)
      · rintro (h | h | h)
        · exact .inr (.inl h)
        · exact .inl h
        · exact .inr (.inr h)
    · split
      · rename_i e
        rw [List.mem_cons]
        constructor
        · intro h; exact .inr h
        · rintro (h | h)
          · exact .inl (h.trans e.symm)
          · exact h
      · simp [List.mem_cons]
abbrev SK (l : List ByteArray) : Prop := l.Pairwise fun a b => lessS a b = true
theorem insK_sorted {x : ByteArray} : ∀ {l : List ByteArray}, SK l → SK (insK x l)
  | [], _ => by simp [insK]
  | z :: t, h => by
    obtain ⟨h1, h2⟩ := List.pairwise_cons.1 h
    unfold insK
    split
    · rename_i c
      refine List.pairwise_cons.2 ⟨fun y hy => ?_, insK_sorted h2⟩
      rcases insK_mem.1 hy with rfl | hy
      · exact c
      · exact h1 y hy
    · split
      · exact h
      · rename_i c e
        have hx : lessS x z = true := by
          rcases lessS_total z x (by simpa using c) with t | t
          · exact t
          · exact absurd t e
        refine List.pairwise_cons.2 ⟨fun y hy => ?_, h⟩
        rcases List.mem_cons.1 hy with rfl | hy
        · exact hx
        · exact lessS_trans hx (h1 y hy)
theorem insK_len {x : ByteArray} : ∀ {l : List ByteArray}, (insK x l).length ≤ l.length + 1
  | [] => by simp [insK]
  | z :: t => by
    have := insK_len (x := x) (l := t)
    unfold insK
    split
    · simp; exact this
    · split
      · simp
      · simp
def setK (M : List ByteArray) (acc : List ByteArray) : List ByteArray := M.foldl (fun a x => insK x a) acc
theorem setK_ok : ∀ (M acc : List ByteArray), SK acc → SK (setK M acc) ∧ ∀ x, x ∈ setK M acc ↔ x ∈ acc ∨ x ∈ M
  | [], acc, h => ⟨h, fun x => by simp [setK]⟩
  | m :: M, acc, h => by
    obtain ⟨h1, h2⟩ := setK_ok M (insK m acc) (insK_sorted h)
    refine ⟨h1, fun x => ?_⟩
    show x ∈ setK M (insK m acc) ↔ _
    rw [h2, insK_mem, List.mem_cons]
    constructor
    · rintro ((h | h) | h)
      · exact .inr (.inl h)
      · exact .inl h
      · exact .inr (.inr h)
    · rintro (h | h | h)
      · exact .inl (.inr h)
      · exact .inl (.inl h)
      · exact .inr h
theorem keys_sk {K : List ByteArray} (h : areKeysB K = true) : SK K := by
  have hf := areKeysB_from h
  have go : ∀ (p : Option ByteArray) (l : List ByteArray), keysFrom p l = true → SK l := by
    intro p l
    induction l generalizing p with
    | nil => intro _; exact List.Pairwise.nil
    | cons x t ih =>
      intro hk
      simp only [keysFrom, Bool.and_eq_true] at hk
      exact List.pairwise_cons.2 ⟨fun y hy => keysFrom_less x t hk.2 y hy, ih _ hk.2⟩
  exact go none K hf
theorem sk_ext {a b : List ByteArray} (h1 : SK a) (h2 : SK b) (h : ∀ x, x ∈ a ↔ x ∈ b) : a = b :=
  ext_of (fun a b => lessS a b = true) (fun a => by rw [lessS_irrefl]; simp) (fun _ _ _ h k => lessS_trans h k) h1 h2 h
theorem ends_mem {K : List ByteArray} (h : areKeysB K = true) (x : ByteArray) : x ∈ ((nodesL (bytesL K)).map mkS).filter (hasS K) ↔ x ∈ K := by
  rw [List.mem_filter, hasS_iff]
  constructor
  · exact fun h => h.2
  · intro hx
    refine ⟨?_, hx⟩
    have hm : x.data.toList ∈ bytesL K := List.mem_map.2 ⟨x, hx, rfl⟩
    refine List.mem_map.2 ⟨x.data.toList, ?_, data_mkS x⟩
    rw [(nodesL_ok (keys_sbl h)).2]
    exact .inr ⟨by have := keys_12 h _ hm; omega, _, hm, List.prefix_refl _⟩
theorem mkS_inj {a b : Str} (h : mkS a = mkS b) : a = b := by rw [← mkS_data a, h, mkS_data]
theorem ends_nodup {K : List ByteArray} (h : areKeysB K = true) : (((nodesL (bytesL K)).map mkS).filter (hasS K)).Nodup := by
  refine List.Pairwise.filter _ ?_
  have := sll_nodup (nodesL_ok (keys_sbl h)).1
  exact List.pairwise_map.2 (this.imp fun hne e => hne (mkS_inj e))
theorem setK_ends {K : List ByteArray} (h : areKeysB K = true) : setK (((nodesL (bytesL K)).map mkS).filter (hasS K)) [] = K := by
  obtain ⟨h1, h2⟩ := setK_ok (((nodesL (bytesL K)).map mkS).filter (hasS K)) [] List.Pairwise.nil
  refine sk_ext h1 (keys_sk h) fun x => ?_
  rw [h2, ends_mem h]
  simp
theorem bytes_le_trans (a b c : Str) (h1 : decide (a ≤ b) = true) (h2 : decide (b ≤ c) = true) : decide (a ≤ c) = true := by
  rw [le_bl] at *
  cases h : Op.bytesLess c a
  · rfl
  · rcases bl_tri a b with t | t | t
    · rw [bl_trans _ _ _ h t] at h2; cases h2
    · subst t; rw [h] at h2; cases h2
    · rw [t] at h1; cases h1
theorem bytes_le_total (a b : Str) : (decide (a ≤ b) || decide (b ≤ a)) = true := by
  rw [Bool.or_eq_true, le_bl, le_bl]
  cases h : Op.bytesLess b a
  · exact .inl rfl
  · exact .inr (bl_asymm h)
theorem sortS_ends {K : List ByteArray} (h : areKeysB K = true) : sortS (((nodesL (bytesL K)).map mkS).filter (hasS K)) = K := by
  let M := ((nodesL (bytesL K)).map mkS).filter (hasS K)
  have hp := List.pairwise_mergeSort (le := fun x y : Str => decide (x ≤ y)) (fun a b c => bytes_le_trans a b c) (fun a b => bytes_le_total a b) (bytesL M)
  have hperm := List.mergeSort_perm (bytesL M) (fun x y : Str => decide (x ≤ y))
  have hn : (bytesL M).Nodup := List.pairwise_map.2 ((ends_nodup h).imp fun {a b} hne e => hne (by rw [← data_mkS a, e, data_mkS]))
  have hn2 := hperm.nodup_iff.2 hn
  have e : (bytesL M).mergeSort (fun x y : Str => decide (x ≤ y)) = bytesL K := by
    refine ext_of (fun a b : Str => Op.bytesLess a b = true) (fun a => by rw [bl_irrefl]; simp) (fun a b c h k => bl_trans a b c h k) ?_ (keys_sbl h) fun x => ?_
    · refine (hp.and hn2).imp fun {a b} hab => ?_
      rcases bl_tri a b with t | t | t
      · exact t
      · exact absurd t hab.2
      · have := le_bl.1 hab.1
        rw [t] at this; cases this
    · rw [hperm.mem_iff]
      unfold bytesL
      rw [List.mem_map, List.mem_map]
      constructor
      · rintro ⟨y, hy, rfl⟩; exact ⟨y, (ends_mem h y).1 hy, rfl⟩
      · rintro ⟨y, hy, rfl⟩; exact ⟨y, (ends_mem h y).2 hy, rfl⟩
  show ((bytesL M).mergeSort _).map _ = K
  rw [e]
  exact mk_bytesL K

theorem bitsB_pack (B : List Bool) (h : B.length ≤ 4096) : bitsB (B.length : Int) (packB B) = true := by
  obtain ⟨ok, bits⟩ := packB_ok B
  have hl := packB_len B
  unfold bitsB
  have ha : all16 (packB B) = true := by
    unfold all16
    rw [List.all_eq_true]
    intro x hx
    have := ok x hx
    simpa using this
  rw [decide_eq_true (by omega), decide_eq_true (by rw [hl]; omega), ha]
  simp only [Bool.true_and, Bool.or_eq_true, decide_eq_true_eq, beq_iff_eq]
  by_cases c : (B.length : Int) % 16 = 0
  · exact .inl c
  · right
    have hi : B.length / 16 < (packB B).length := by rw [hl]; omega
    obtain ⟨w, hw, hw2⟩ := okW_get ok hi
    have e : ((packB B).length : Int) - 1 = ((B.length : Nat) : Int) / 16 := by rw [hl]; omega
    have e2 : ((B.length : Int) % 16) = ((B.length % 16 : Nat) : Int) := by omega
    rw [e, rdN hi, hw, e2, shrN (by omega)]
    have : w < 2 ^ (B.length % 16) := by
      apply Nat.lt_pow_two_of_testBit
      intro j hj
      by_cases cj : j < 16
      · have := bits (16 * (B.length / 16) + j)
        unfold bitN at this
        rw [show (16 * (B.length / 16) + j) / 16 = B.length / 16 from by omega, show (16 * (B.length / 16) + j) % 16 = j from by omega, hw, Int.toNat_natCast, List.getD_eq_getElem?_getD, List.getElem?_eq_none (by omega)] at this
        simpa using this
      · exact Nat.testBit_lt_two_pow (Nat.lt_of_lt_of_le hw2 (by rw [show 65536 = 2 ^ 16 from rfl]; exact Nat.pow_le_pow_right (by omega) (by omega)))
    rw [Nat.div_eq_of_lt this]
    rfl

abbrev Tr : Type := Int × List Int × Int × List Int × ByteArray
def shapeB (t : Tr) : Bool := bitsB t.1 t.2.1 && (bitsB t.2.2.1 t.2.2.2.1 && (decide (t.2.2.1 ≠ 0) && (decide (t.1 = 2 * t.2.2.1 - 1) && decide ((t.2.2.2.2.size : Int) = t.2.2.1 - 1))))
def readT (lim : Bool) (t : Tr) : Option (List Str) := dec lim t.2.2.2.2.data.toList (bitsL t.1 t.2.1) 0 [[]]
def keysOf (t : Tr) (P : List Str) : List ByteArray := setK (marked t.2.2.2.1 0 (P.map mkS)) []
def endsOf (t : Tr) (P : List Str) : List ByteArray := sortS (marked t.2.2.2.1 0 (P.map mkS))
def specK (t : Tr) : List ByteArray × Bool :=
  if shapeB t = true then
    match readT false t with
    | none => ([], false)
    | some P => if (P.length : Int) = t.2.2.1 then (if areKeysB (keysOf t P) = true then (keysOf t P, decide (trieV (keysOf t P) = t)) else ([], false)) else ([], false)
  else ([], false)
def implN (t : Tr) : List ByteArray :=
  if shapeB t = true then
    match readT true t with
    | none => []
    | some P => if (P.length : Int) = t.2.2.1 ∧ areKeysB (endsOf t P) = true ∧ trieV (endsOf t P) = t then P.map mkS else []
  else []
theorem lab1_str (N : List Str) : (strOfNums (lab1 N)).data.toList = (N.drop 1).map lastB := by
  simp [strOfNums, lab1, Function.comp_def]
theorem trie_shape {K : List ByteArray} (h : areKeysB K = true) : shapeB (trieV K) = true := by
  obtain ⟨T, hT⟩ := nodesL_tree (keys_sbl h)
  have hb := nodesL_len (bytesL K)
  have hk := areKeysB_len h
  rw [bytesL_len] at hb
  have hN : (nodesL (bytesL K)).length = T.length + 1 := by rw [hT.hd]; simp
  have hE : (encB (nodesL (bytesL K)) (nodesL (bytesL K))).length = T.length + (nodesL (bytesL K)).length := by rw [encB_len, kids_all hT]
  have hF : (endB K (nodesL (bytesL K))).length = (nodesL (bytesL K)).length := by simp [endB]
  have hL : (strOfNums (lab1 (nodesL (bytesL K)))).size = (nodesL (bytesL K)).length - 1 := by
    rw [size_len, lab1_str]; simp
  unfold shapeB trieV trieR
  simp only []
  rw [bitsB_pack _ (by omega), bitsB_pack _ (by omega), decide_eq_true (by omega), decide_eq_true (by omega), decide_eq_true (by omega)]
  rfl
theorem trie_read {K : List ByteArray} (h : areKeysB K = true) (lim : Bool) : readT lim (trieV K) = some (nodesL (bytesL K)) := by
  obtain ⟨T, hT⟩ := nodesL_tree (keys_sbl h)
  unfold readT trieV trieR
  simp only []
  rw [bitsL_pack, lab1_str]
  have : (nodesL (bytesL K)).drop 1 = T := by rw [hT.hd]; rfl
  rw [this]
  exact dec_nodes hT fun _ x hx => nodesL_short (keys_sbl h) hx
theorem trie_len (K : List ByteArray) : (((nodesL (bytesL K)).length : Nat) : Int) = (trieV K).2.2.1 := by
  simp [trieV, trieR, endB]
theorem trie_marked (K : List ByteArray) : marked (trieV K).2.2.2.1 0 ((nodesL (bytesL K)).map mkS) = ((nodesL (bytesL K)).map mkS).filter (hasS K) :=
  marked_pack K (nodesL (bytesL K)) (nodesL (bytesL K)) [] rfl
theorem specK_trie {K : List ByteArray} (h : areKeysB K = true) : specK (trieV K) = (K, true) := by
  have e : keysOf (trieV K) (nodesL (bytesL K)) = K := by unfold keysOf; rw [trie_marked, setK_ends h]
  unfold specK
  rw [if_pos (trie_shape h), trie_read h]
  simp only []
  rw [if_pos (trie_len K), e, if_pos h, decide_eq_true rfl]
theorem implN_trie {K : List ByteArray} (h : areKeysB K = true) : implN (trieV K) = (nodesL (bytesL K)).map mkS := by
  have e : endsOf (trieV K) (nodesL (bytesL K)) = K := by unfold endsOf; rw [trie_marked, sortS_ends h]
  unfold implN
  rw [if_pos (trie_shape h), trie_read h]
  simp only []
  rw [e, if_pos ⟨trie_len K, h, rfl⟩]
theorem specK_yes {t : Tr} (h : (specK t).2 = true) : areKeysB (specK t).1 = true ∧ trieV (specK t).1 = t := by
  unfold specK at h ⊢
  by_cases c : shapeB t = true
  · rw [if_pos c] at h ⊢
    cases hr : readT false t with
    | none => rw [hr] at h; simp at h
    | some P =>
      rw [hr] at h
      simp only [] at h ⊢
      by_cases c2 : (P.length : Int) = t.2.2.1
      · rw [if_pos c2] at h ⊢
        by_cases c3 : areKeysB (keysOf t P) = true
        · rw [if_pos c3] at h ⊢
          exact ⟨c3, by simpa using h⟩
        · rw [if_neg c3] at h; simp at h
      · rw [if_neg c2] at h; simp at h
  · rw [if_neg c] at h; simp at h
theorem implN_yes {t : Tr} (h : implN t ≠ []) : ∃ K, areKeysB K = true ∧ trieV K = t := by
  unfold implN at h
  by_cases c : shapeB t = true
  · rw [if_pos c] at h
    cases hr : readT true t with
    | none => rw [hr] at h; simp at h
    | some P =>
      rw [hr] at h
      simp only [] at h
      by_cases c2 : (P.length : Int) = t.2.2.1 ∧ areKeysB (endsOf t P) = true ∧ trieV (endsOf t P) = t
      · exact ⟨_, c2.2⟩
      · rw [if_neg c2] at h; simp at h
  · rw [if_neg c] at h; simp at h
theorem nodesL_ne (K : List Str) (h : SBL K) : nodesL K ≠ [] := by
  obtain ⟨T, hT⟩ := nodesL_tree h
  rw [hT.hd]; simp
theorem trie_cases (t : Tr) : (∃ K, areKeysB K = true ∧ trieV K = t ∧ specK t = (K, true) ∧ implN t = (nodesL (bytesL K)).map mkS) ∨ ((specK t).2 = false ∧ implN t = []) := by
  by_cases h : (specK t).2 = true
  · obtain ⟨h1, h2⟩ := specK_yes h
    refine .inl ⟨_, h1, h2, ?_, ?_⟩
    · conv => lhs; rw [← h2]
      exact specK_trie h1
    · conv => lhs; rw [← h2]
      exact implN_trie h1
  · by_cases h2 : implN t = []
    · exact .inr ⟨by simpa using h, h2⟩
    · obtain ⟨K, h3, rfl⟩ := implN_yes h2
      rw [specK_trie h3] at h
      simp at h
end Go.Proofs.YtalfkfddpamnjaaGreatQ
namespace Go.Proofs.YtalfkfddpamnjaaGreatQ
open Go Go.RowKit Go.Proofs.YtalfkfddpamnjaaGreatW.PrintWords Go.Proofs.YtalfkfddpamnjaaGreatW.PrintMore Go.Proofs.YtalfkfddpamnjaaGreatGp Go.Proofs.YtalfkfddpamnjaaGreat.PA

theorem eqBits_f (a b : Int) (x y : List Int) (hl : (x.length : Int) ≤ 9223372036854775806) : Ev (fun k => laws_eqBits.f k a x b y) (decide (a = b ∧ x = y)) := by
  unfold laws_eqBits.f
  by_cases c : a = b
  · refine ev_pos c (ev_bind _ (eqIntS_f x y hl) ?_)
    by_cases d : x = y
    · exact ev_pos (decide_eq_true d) (ev_some (by simp [c, d]))
    · exact ev_neg (by simpa using d) (ev_some (by simp [c, d]))
  · exact ev_neg c (ev_some (by simp [c]))
theorem eqTrie_f (t u : Tr) (h1 : (t.2.1.length : Int) ≤ 9223372036854775806) (h2 : (t.2.2.2.1.length : Int) ≤ 9223372036854775806) : Ev (fun k => laws_eqTrie.f k t.1 t.2.1 t.2.2.1 t.2.2.2.1 t.2.2.2.2 u.1 u.2.1 u.2.2.1 u.2.2.2.1 u.2.2.2.2) (decide (t = u)) := by
  obtain ⟨t1, t2, t3, t4, t5⟩ := t
  obtain ⟨u1, u2, u3, u4, u5⟩ := u
  unfold laws_eqTrie.f
  simp only [Prod.mk.injEq] at h1 h2 ⊢
  refine ev_bind _ (eqBits_f _ _ _ _ h1) ?_
  by_cases c : t1 = u1 ∧ t2 = u2
  · refine ev_pos (decide_eq_true c) (ev_bind _ (eqBits_f _ _ _ _ h2) ?_)
    by_cases d : t3 = u3 ∧ t4 = u4
    · refine ev_pos (decide_eq_true d) ?_
      by_cases e : t5 = u5
      · exact ev_pos (tl_inj.2 e) (ev_some (by simp [c, d, e]))
      · exact ev_neg (fun h => e (tl_inj.1 h)) (ev_some (by simp [e]))
    · exact ev_neg (by simpa using d) (ev_some (by rw [decide_eq_false]; rintro ⟨_, _, h3, h4, _⟩; exact d ⟨h3, h4⟩))
  · exact ev_neg (by simpa using c) (ev_some (by rw [decide_eq_false]; rintro ⟨h3, h4, _⟩; exact c ⟨h3, h4⟩))
theorem eqTrie_same (nB : Int) (lB : List Int) (nE : Int) (lE : List Int) (lab : ByteArray) (hB : (lB.length : Int) ≤ 1048576) (hE : (lE.length : Int) ≤ 1048576) : Ev (fun k => laws_eqTrie.f k nB lB nE lE lab nB lB nE lE lab) true := by
  have := eqTrie_f (nB, lB, nE, lE, lab) (nB, lB, nE, lE, lab) (by simp only []; omega) (by simp only []; omega)
  rw [decide_eq_true rfl] at this
  exact this
end Go.Proofs.YtalfkfddpamnjaaGreatQ
namespace Go.Proofs.YtalfkfddpamnjaaGreatQ
open Go Go.RowKit Go.Proofs.YtalfkfddpamnjaaGreatW.PrintWords Go.Proofs.YtalfkfddpamnjaaGreatGp Go.Proofs.YtalfkfddpamnjaaGreat.PA

def leftI (a : Int) (l : List Int) : Int := if a - (l.length : Int) < 0 then -1 else a - (l.length : Int)
theorem szIntS_f (l : List Int) (a : Int) (hl : l.length ≤ maxLen) (h0 : 0 ≤ a) (h1 : a ≤ 1048576) : laws_szIntS.f l a = some (leftI a l) := by
  have := maxLen_eq
  unfold laws_szIntS.f leftI
  rw [w64 (by omega) (by omega)]
  split <;> rfl
theorem leftI_ok {a : Int} {l : List Int} (h : ¬ leftI a l < 0) : leftI a l = a - (l.length : Int) ∧ (l.length : Int) ≤ a := by
  unfold leftI at *
  split at h <;> omega
end Go.Proofs.YtalfkfddpamnjaaGreatQ
namespace Go.Proofs.YtalfkfddpamnjaaGreatQ
open Go Go.RowKit Go.Proofs.YtalfkfddpamnjaaGreatW.PrintWords Go.Proofs.YtalfkfddpamnjaaGreatW.PrintMore Go.Proofs.YtalfkfddpamnjaaGreatGp Go.Proofs.YtalfkfddpamnjaaGreat.PA

theorem spec_biAt_f (n : Int) (l : List Int) {p : Int} (h0 : 0 ≤ p) (h1 : p ≤ 1000000) (h2 : p / 16 < (l.length : Int)) : spec_biAt.f n l p = some (atV l p) := by
  unfold spec_biAt.f
  rw [(div16' h0 h1).1, (div16' h0 h1).2, if_pos (by omega), if_pos h2, if_pos (by omega)]
  rfl
theorem impl_Bits_at_f (n : Int) (l : List Int) {p : Int} (h0 : 0 ≤ p) (h1 : p ≤ 1000000) (h2 : p / 16 < (l.length : Int)) : impl_Bits_at.f n l p = some (atV l p) := by
  unfold impl_Bits_at.f
  rw [(div16' h0 h1).1, (div16' h0 h1).2, if_pos (by omega), if_pos h2, if_pos (by omega)]
  rfl
theorem spec_l1All_l0 (x0 : List Int) (hl : (x0.length : Int) ≤ 9223372036854775806) : ∀ (t pre : List Int), x0 = pre ++ t →
    Ev (fun k => spec_l1All.l0 k 0 65535 x0 (x0.length : Int) (pre.length : Int)) (all16 t) := by
  intro t
  induction t with
  | nil =>
    intro pre h
    refine ev_succ ?_
    simp only [spec_l1All.l0]
    exact ev_neg (by rw [h]; exact not_lt_end) (ev_some (by simp [all16]))
  | cons s t ih =>
    intro pre h
    have hm : ((pre.length : Nat) : Int) < (x0.length : Int) := by rw [h]; exact lt_mid
    have hg : rd x0 (pre.length : Int) = s := by rw [h]; exact rd_mid
    refine ev_succ ?_
    simp only [spec_l1All.l0, hg, spec_in]
    refine ev_pos hm (ev_pos (by omega) (ev_pos hm (ev_bind _ (Ev.now _) ?_)))
    by_cases c : 0 ≤ s ∧ s ≤ 65535
    · refine ev_pos (by simpa using c) ?_
      rw [winc (by omega)]
      have := ih (pre ++ [s]) (by rw [h]; simp)
      rw [len_one] at this
      rw [show all16 (s :: t) = all16 t from by simp [all16, c]]
      exact this
    · refine ev_neg (by simpa using c) (ev_some ?_)
      have : decide (0 ≤ s ∧ s ≤ 65535) = false := decide_eq_false c
      simp only [all16, List.all_cons, this, Bool.false_and]
theorem spec_l1All_f (l : List Int) (hl : (l.length : Int) ≤ 9223372036854775806) : Ev (fun k => spec_l1All.f k l 0 65535) (all16 l) := by
  unfold spec_l1All.f
  exact spec_l1All_l0 l hl l [] rfl
theorem words_up {n : Int} (h0 : 0 ≤ n) (h1 : n ≤ 4096) : wrap64 (Int.tdiv (wrap64 (n + 15)) 16) = (n + 15) / 16 := by
  rw [w64 (x := n + 15) (by omega) (by omega), Int.tdiv_eq_ediv_of_nonneg (by omega), w64 (by omega) (by omega)]
theorem spec_biGood_f (n : Int) (l : List Int) (hl : (l.length : Int) ≤ 9223372036854775806) : Ev (fun k => spec_biGood.f k n l) (bitsB n l) := by
  unfold spec_biGood.f
  simp only [spec_in]
  refine ev_bind _ (Ev.now _) ?_
  by_cases c : 0 ≤ n ∧ n ≤ 4096
  · refine ev_pos (by simpa using c) ?_
    rw [words_up c.1 c.2]
    by_cases c2 : (l.length : Int) = (n + 15) / 16
    · refine ev_pos c2 (ev_bind _ (spec_l1All_f l hl) ?_)
      by_cases c3 : all16 l = true
      · refine ev_pos c3 ?_
        rw [Int.tmod_eq_emod_of_nonneg c.1]
        by_cases c4 : n % 16 = 0
        · exact ev_pos c4 (ev_some (by simp [bitsB, c, c2, c3, c4]))
        · refine ev_neg c4 ?_
          rw [w64 (x := (l.length : Int) - 1) (by omega) (by omega)]
          refine ev_pos (by omega) (ev_pos (by omega) (ev_pos (by omega) (ev_some ?_)))
          simp [bitsB, c, c2, c3, c4]
      · exact ev_neg c3 (ev_some (by simp [bitsB, c3]))
    · exact ev_neg c2 (ev_some (by simp [bitsB, c2]))
  · refine ev_neg (by simpa using c) (ev_some ?_)
    have : decide (0 ≤ n ∧ n ≤ 4096) = false := decide_eq_false c
    simp only [bitsB, this, Bool.false_and]
theorem impl_IsBits_l0 (n : Int) (x20 : List Int) (c : 0 ≤ n ∧ n ≤ 4096) (c2 : (x20.length : Int) = (n + 15) / 16) : ∀ (t pre : List Int), x20 = pre ++ t →
    Ev (fun k => impl_IsBits.l0 k x20 (x20.length : Int) (pre.length : Int) n x20) (all16 t && (decide (n % 16 = 0) || (shr .i64 (rd x20 ((x20.length : Int) - 1)) (n % 16) == 0))) := by
  intro t
  induction t with
  | nil =>
    intro pre h
    refine ev_succ ?_
    simp only [impl_IsBits.l0]
    refine ev_neg (by rw [h]; exact not_lt_end) ?_
    rw [Int.tmod_eq_emod_of_nonneg c.1]
    by_cases c4 : n % 16 = 0
    · exact ev_pos c4 (ev_some (by simp [all16, c4]))
    · refine ev_neg c4 ?_
      rw [w64 (x := (x20.length : Int) - 1) (by omega) (by omega)]
      refine ev_pos (by omega) (ev_pos (by omega) (ev_pos (by omega) (ev_some ?_)))
      simp [all16, c4]
  | cons s t ih =>
    intro pre h
    have hm : ((pre.length : Nat) : Int) < (x20.length : Int) := by rw [h]; exact lt_mid
    have hg : rd x20 (pre.length : Int) = s := by rw [h]; exact rd_mid
    refine ev_succ ?_
    simp only [impl_IsBits.l0, hg, impl_in]
    refine ev_pos hm (ev_pos (by omega) (ev_pos hm (ev_bind _ (Ev.now _) ?_)))
    by_cases c5 : 0 ≤ s ∧ s ≤ 65535
    · refine ev_pos (by simpa using c5) ?_
      rw [winc (by omega)]
      have := ih (pre ++ [s]) (by rw [h]; simp)
      rw [len_one] at this
      rw [show all16 (s :: t) = all16 t from by simp [all16, c5]]
      exact this
    · refine ev_neg (by simpa using c5) (ev_some ?_)
      have : decide (0 ≤ s ∧ s ≤ 65535) = false := decide_eq_false c5
      simp only [all16, List.all_cons, this, Bool.false_and]
theorem impl_words_f {n : Int} (h0 : 0 ≤ n) (h1 : n ≤ 4096) : impl_words.f n = some ((n + 15) / 16) := by
  unfold impl_words.f
  rw [w64 (x := n + 16) (by omega) (by omega), w64 (x := n + 16 - 1) (by omega) (by omega), Int.tdiv_eq_ediv_of_nonneg (by omega), w64 (by omega) (by omega), show n + 16 - 1 = n + 15 from by omega]
theorem impl_IsBits_f (n : Int) (l : List Int) : Ev (fun k => impl_IsBits.f k n l) (bitsB n l) := by
  unfold impl_IsBits.f
  simp only [impl_in]
  refine ev_bind _ (Ev.now _) ?_
  by_cases c : 0 ≤ n ∧ n ≤ 4096
  · refine ev_pos (by simpa using c) ?_
    rw [impl_words_f c.1 c.2]
    simp only [Option.bind_some]
    refine ev_succ ?_
    simp only [impl_IsBits.j0]
    by_cases c2 : (l.length : Int) = (n + 15) / 16
    · refine ev_neg (by simp [c2]) ?_
      have := impl_IsBits_l0 n l c c2 l [] rfl
      rw [show bitsB n l = (all16 l && (decide (n % 16 = 0) || (shr .i64 (rd l ((l.length : Int) - 1)) (n % 16) == 0))) from by simp [bitsB, c, c2]]
      exact this
    · exact ev_pos (by simpa using c2) (ev_some (by simp [bitsB, c2]))
  · refine ev_neg (by simpa using c) (ev_succ ?_)
    simp only [impl_IsBits.j0]
    refine ev_pos (by trivial) (ev_some ?_)
    have : decide (0 ≤ n ∧ n ≤ 4096) = false := decide_eq_false c
    simp only [bitsB, this, Bool.false_and]
end Go.Proofs.YtalfkfddpamnjaaGreatQ
namespace Go.Proofs.YtalfkfddpamnjaaGreatQ
open Go Go.RowKit Go.Proofs.YtalfkfddpamnjaaGreatW.PrintWords Go.Proofs.YtalfkfddpamnjaaGreatW.PrintMore Go.Proofs.YtalfkfddpamnjaaGreatGp Go.Proofs.YtalfkfddpamnjaaGreat.PA

theorem l1Same_l0 (x0 x1 : List Int) (hl : (x0.length : Int) ≤ 9223372036854775806) : ∀ (t u pre pre' : List Int), x0 = pre ++ t → x1 = pre' ++ u → pre.length = pre'.length → t.length = u.length →
    Ev (fun k => spec_l1Same.l0 k x0 x1 (x0.length : Int) (pre.length : Int)) (decide (t = u)) := by
  intro t
  induction t with
  | nil =>
    intro u pre pre' h h' hp hu
    obtain rfl := List.length_eq_zero_iff.1 hu.symm
    refine ev_succ ?_
    simp only [spec_l1Same.l0]
    exact ev_neg (by rw [h]; exact not_lt_end) (ev_some (by simp))
  | cons s t ih =>
    intro u pre pre' h h' hp hu
    cases u with
    | nil => simp at hu
    | cons q u =>
      have hm : ((pre.length : Nat) : Int) < (x0.length : Int) := by rw [h]; exact lt_mid
      have hm' : ((pre.length : Nat) : Int) < (x1.length : Int) := by rw [h', hp]; exact lt_mid
      have hg : rd x0 (pre.length : Int) = s := by rw [h]; exact rd_mid
      have hg' : rd x1 (pre.length : Int) = q := by rw [h', hp]; exact rd_mid
      refine ev_succ ?_
      simp only [spec_l1Same.l0, hg, hg']
      refine ev_pos hm (ev_pos (by omega) (ev_pos hm (ev_pos hm' ?_)))
      by_cases c : s = q
      · refine ev_pos c ?_
        rw [winc (by omega)]
        have := ih u (pre ++ [s]) (pre' ++ [q]) (by rw [h]; simp) (by rw [h']; simp) (by simp [hp]) (by simpa using hu)
        rw [len_one] at this
        rw [show decide (s :: t = q :: u) = decide (t = u) from by simp [c]]
        exact this
      · exact ev_neg c (ev_some (by simp [c]))
theorem l1Same_f (a b : List Int) (hl : (a.length : Int) ≤ 9223372036854775806) : Ev (fun k => spec_l1Same.f k a b) (decide (a = b)) := by
  unfold spec_l1Same.f
  by_cases c : a.length = b.length
  · refine ev_pos (by omega) ?_
    exact l1Same_l0 a b hl a b [] [] rfl rfl rfl c
  · exact ev_neg (by omega) (ev_some (by
      have : ¬ a = b := fun e => c (by rw [e])
      simp [this]))
theorem sEqual_l0 (x0 x1 : List Int) (hl : (x0.length : Int) ≤ 9223372036854775806) : ∀ (t u pre pre' : List Int), x0 = pre ++ t → x1 = pre' ++ u → pre.length = pre'.length → t.length = u.length →
    Ev (fun k => slices_Equal_int_int.l0 k x0 x1 (x0.length : Int) (pre.length : Int)) (decide (t = u)) := by
  intro t
  induction t with
  | nil =>
    intro u pre pre' h h' hp hu
    obtain rfl := List.length_eq_zero_iff.1 hu.symm
    refine ev_succ ?_
    simp only [slices_Equal_int_int.l0]
    exact ev_neg (by rw [h]; exact not_lt_end) (ev_some (by simp))
  | cons s t ih =>
    intro u pre pre' h h' hp hu
    cases u with
    | nil => simp at hu
    | cons q u =>
      have hm : ((pre.length : Nat) : Int) < (x0.length : Int) := by rw [h]; exact lt_mid
      have hm' : ((pre.length : Nat) : Int) < (x1.length : Int) := by rw [h', hp]; exact lt_mid
      have hg : rd x0 (pre.length : Int) = s := by rw [h]; exact rd_mid
      have hg' : rd x1 (pre.length : Int) = q := by rw [h', hp]; exact rd_mid
      refine ev_succ ?_
      simp only [slices_Equal_int_int.l0, hg, hg']
      refine ev_pos hm (ev_pos (by omega) (ev_pos hm (ev_pos hm' ?_)))
      by_cases c : s = q
      · refine ev_pos c ?_
        rw [winc (by omega)]
        have := ih u (pre ++ [s]) (pre' ++ [q]) (by rw [h]; simp) (by rw [h']; simp) (by simp [hp]) (by simpa using hu)
        rw [len_one] at this
        rw [show decide (s :: t = q :: u) = decide (t = u) from by simp [c]]
        exact this
      · exact ev_neg c (ev_some (by simp [c]))
theorem sEqual_f (a b : List Int) (hl : (a.length : Int) ≤ 9223372036854775806) : Ev (fun k => slices_Equal_int_int.f k a b) (decide (a = b)) := by
  unfold slices_Equal_int_int.f
  by_cases c : a.length = b.length
  · refine ev_pos (by omega) ?_
    exact sEqual_l0 a b hl a b [] [] rfl rfl rfl c
  · exact ev_neg (by omega) (ev_some (by
      have : ¬ a = b := fun e => c (by rw [e])
      simp [this]))

theorem spec_biSame_f (a b : Int) (x y : List Int) (hl : (x.length : Int) ≤ 9223372036854775806) : Ev (fun k => spec_biSame.f k a x b y) (decide (a = b ∧ x = y)) := by
  unfold spec_biSame.f
  by_cases c : a = b
  · refine ev_pos c (ev_bind _ (l1Same_f x y hl) (ev_some ?_))
    by_cases d : x = y <;> simp [c, d]
  · exact ev_neg c (ev_some (by simp [c]))
theorem impl_sameBits_f (a b : Int) (x y : List Int) (hl : (x.length : Int) ≤ 9223372036854775806) : Ev (fun k => impl_sameBits.f k a x b y) (decide (a = b ∧ x = y)) := by
  unfold impl_sameBits.f
  by_cases c : a = b
  · refine ev_pos c (ev_bind _ (sEqual_f x y hl) (ev_some ?_))
    by_cases d : x = y <;> simp [c, d]
  · exact ev_neg c (ev_some (by simp [c]))

theorem dec_bound {lim : Bool} {lab : Str} : ∀ (t : List Bool) (idx : Nat) (out P : List Str) (m : Nat), dec lim lab t idx out = some P → (∀ x ∈ out, x.length ≤ m) → out.length ≤ lab.length + 1 → (∀ x ∈ P, x.length ≤ m + t.length) ∧ P.length ≤ lab.length + 1
  | [], idx, out, P, m, h, hm, hl => by
    simp only [dec, Option.some.injEq] at h
    subst h
    exact ⟨fun x hx => by have := hm x hx; simp; exact this, hl⟩
  | b :: t, idx, out, P, m, h, hm, hl => by
    unfold dec at h
    by_cases c : idx < out.length
    · rw [if_pos c] at h
      by_cases d : b = true
      · rw [if_pos d] at h
        by_cases e : out.length ≤ lab.length ∧ ¬ (lim = true ∧ (out.getD idx []).length = 12)
        · rw [if_pos e] at h
          have hg : (out.getD idx []).length ≤ m := by
            rw [List.getD_eq_getElem?_getD, List.getElem?_eq_getElem c]
            exact hm _ (List.getElem_mem c)
          obtain ⟨h1, h2⟩ := dec_bound t idx _ P (m + 1) h (fun x hx => by
            rcases List.mem_append.1 hx with hx | hx
            · have := hm x hx; omega
            · obtain rfl := List.mem_singleton.1 hx
              simp only [List.length_append, List.length_cons, List.length_nil]; omega) (by simp; omega)
          exact ⟨fun x hx => by have := h1 x hx; simp; omega, h2⟩
        · rw [if_neg e] at h; simp at h
      · rw [if_neg d] at h
        obtain ⟨h1, h2⟩ := dec_bound t (idx + 1) out P m h hm hl
        exact ⟨fun x hx => by have := h1 x hx; simp; omega, h2⟩
    · rw [if_neg c] at h; simp at h
theorem bitsL_at {n : Int} {l : List Int} {pre t : List Bool} {b : Bool} (h : bitsL n l = pre ++ b :: t) : (pre.length : Int) < n ∧ atV l (pre.length : Int) = b := by
  have e : (bitsL n l)[pre.length]? = some b := by rw [h]; simp
  have hl : pre.length < n.toNat := by
    have := congrArg List.length h
    rw [bitsL_len] at this
    simp at this; omega
  unfold bitsL at e
  rw [List.getElem?_map, List.getElem?_range hl] at e
  simp only [Option.map_some, Option.some.injEq] at e
  exact ⟨by omega, e⟩
theorem bitsL_end {n : Int} {l : List Int} {pre : List Bool} (h0 : 0 ≤ n) (h : bitsL n l = pre ++ []) : (pre.length : Int) = n := by
  have := congrArg List.length h
  rw [bitsL_len] at this
  simp at this; omega
theorem grow_bytes (p lab : ByteArray) (n : Nat) (h0 : 1 ≤ n) (h : n ≤ lab.size) : (p ++ lab.extract (n - 1) n).data.toList = p.data.toList ++ [lab.data.toList.getD (n - 1) 0] := by
  have hl : n - 1 < lab.data.toList.length := by rw [← size_len]; omega
  have : (lab.extract (n - 1) n).data.toList = [lab.data.toList.getD (n - 1) 0] := by
    rw [Lib.extract_data, List.drop_eq_getElem_cons hl, show n - (n - 1) = 1 from by omega, List.getD_eq_getElem?_getD, List.getElem?_eq_getElem hl]
    rfl
  rw [← this]
  simp
structure Shape (nB : Int) (lB : List Int) (nE : Int) (lE : List Int) (lab : ByteArray) : Prop where
  b0 : 0 ≤ nB
  b1 : nB ≤ 4096
  bl : (lB.length : Int) = (nB + 15) / 16
  e0 : 1 ≤ nE
  e1 : nE ≤ 4096
  el : (lE.length : Int) = (nE + 15) / 16
  ls : (lab.size : Int) = nE - 1
def pathsOut (nE : Int) : Option (List Str) → List ByteArray × Bool
  | none => ([], false)
  | some P => (P.map mkS, ((P.length : Int) == nE))
theorem getB {out : List ByteArray} {i : Nat} (h : i < out.length) : (rdOf ByteArray.empty out (i : Int)).data.toList = (bytesL out).getD i [] := by
  rw [rdOf_get h, List.getD_eq_getElem?_getD]
  simp [bytesL, h]
theorem spec_trPaths_l0 {nB : Int} {lB : List Int} {nE : Int} {lE : List Int} {lab : ByteArray} (S : Shape nB lB nE lE lab) : ∀ (t pre : List Bool) (out : List ByteArray) (idx : Nat), bitsL nB lB = pre ++ t → idx ≤ out.length → 1 ≤ out.length → (out.length : Int) ≤ nE → (∀ x ∈ out, x.size ≤ pre.length) →
    Ev (fun k => spec_trPaths.l0 k nE out (idx : Int) (pre.length : Int) nB lB nE lE lab) (pathsOut nE (dec false lab.data.toList t idx (bytesL out))) := by
  intro t
  induction t with
  | nil =>
    intro pre out idx h _ _ _ _
    have := bitsL_end S.b0 h
    refine ev_succ ?_
    simp only [spec_trPaths.l0]
    refine ev_neg (by omega) (ev_some ?_)
    simp only [dec, pathsOut, bytesL_len, mk_bytesL]
  | cons b t ih =>
    intro pre out idx h hi h1 hn hs
    obtain ⟨hp, hb⟩ := bitsL_at h
    have B1 := S.b1
    have BL := S.bl
    have E1 := S.e1
    have LS := S.ls
    have e := spec_biAt_f nB lB (p := (pre.length : Int)) (by omega) (by omega) (by omega)
    rw [hb] at e
    have ll := size_len lab
    refine ev_succ ?_
    simp only [spec_trPaths.l0, e]
    refine ev_pos hp ?_
    rw [winc (i := pre.length) (by omega)]
    have next := fun out' idx' hi' h1' hn' hs' => ih (pre ++ [b]) out' idx' (by rw [h]; simp) hi' h1' hn' hs'
    rw [len_one] at next
    unfold dec
    rw [bytesL_len]
    by_cases c : idx = out.length
    · refine ev_pos (by omega) (ev_some ?_)
      rw [if_neg (by omega)]; rfl
    · refine ev_neg (by omega) (ev_bind _ (Ev.now _) ?_)
      rw [if_pos (by omega)]
      by_cases d : b = true
      · refine ev_pos d ?_
        rw [if_pos d]
        by_cases f : (out.length : Int) = nE
        · refine ev_pos f (ev_some ?_)
          rw [if_neg (by rintro ⟨h, _⟩; omega)]; rfl
        · have w : wrap64 ((out.length : Int) - 1) = ((out.length - 1 : Nat) : Int) := by rw [w64 (by omega) (by omega)]; omega
          rw [w, if_pos (by refine ⟨by omega, by simp⟩)]
          have hg := rdOf_get (d := ByteArray.empty) (xs := out) (i := idx) (by omega)
          have hz := hs _ (List.getElem_mem (show idx < out.length by omega))
          have hx : (lab.extract ((out.length - 1 : Nat) : Int).toNat ((out.length : Int)).toNat).size ≤ 1000000 := by
            rw [size_len, Lib.extract_data]
            simp only [List.length_take, List.length_drop]
            omega
          have hgb := getB (out := out) (i := idx) (by omega)
          refine ev_neg f (ev_pos (by omega) (ev_pos (by omega) (ev_pos (by omega) (ev_pos (by omega) (ev_pos (by omega) (ev_pos (by rw [hg]; omega) (ev_pos (by omega) ?_)))))))
          have gb := grow_bytes (rdOf ByteArray.empty out (idx : Int)) lab out.length h1 (by omega)
          have nx := next (out ++ [rdOf ByteArray.empty out (idx : Int) ++ lab.extract (out.length - 1) out.length]) idx (by simp; omega) (by simp) (by simp; omega) (by
            intro x hx2
            rw [List.length_append]
            rcases List.mem_append.1 hx2 with hx2 | hx2
            · have := hs x hx2; simp; omega
            · obtain rfl := List.mem_singleton.1 hx2
              rw [size_len, gb, List.length_append, ← size_len, hg]
              simp; exact hz)
          rw [bytesL_app] at nx
          have one : bytesL [rdOf ByteArray.empty out (idx : Int) ++ lab.extract (out.length - 1) out.length] = [(bytesL out).getD idx [] ++ [lab.data.toList.getD (out.length - 1) 0]] := by
            have e1 : ∀ a : ByteArray, bytesL [a] = [a.data.toList] := fun _ => rfl
            rw [e1, gb, hgb]
          rw [one] at nx
          simpa using nx
      · refine ev_neg d ?_
        rw [if_neg d, winc (by omega)]
        exact next out (idx + 1) (by omega) h1 hn (fun x hx => by have := hs x hx; rw [List.length_append]; omega)

theorem impl_Trie_ends_l0 {nB : Int} {lB : List Int} {nE : Int} {lE : List Int} {lab : ByteArray} (S : Shape nB lB nE lE lab) (P : List ByteArray) (hP : (P.length : Int) ≤ nE) : ∀ (t pre acc : List ByteArray), P = pre ++ t → acc.length + t.length ≤ 1000000 →
    Ev (fun k => impl_Trie_ends.l0 k acc P (P.length : Int) (pre.length : Int) nB lB nE lE lab) (sortS (acc ++ marked lE pre.length t)) := by
  intro t
  induction t with
  | nil =>
    intro pre acc h hb
    refine ev_succ ?_
    simp only [impl_Trie_ends.l0]
    have e : slices_Sort_string_string.f acc = some (sortS acc) := by
      unfold slices_Sort_string_string.f
      rw [if_pos (by omega)]
    rw [e]
    refine ev_neg (by rw [h]; exact not_lt_end) (ev_bind _ (Ev.now _) (ev_some ?_))
    simp [marked]
  | cons s t ih =>
    intro pre acc h hb
    have hm : ((pre.length : Nat) : Int) < (P.length : Int) := by rw [h]; exact lt_mid
    have hg : rdOf ByteArray.empty P (pre.length : Int) = s := by rw [h]; exact rdOf_mid
    have E1 := S.e1
    have EL := S.el
    have e := impl_Bits_at_f nE lE (p := (pre.length : Int)) (by omega) (by omega) (by omega)
    simp only [List.length_cons] at hb
    refine ev_succ ?_
    simp only [impl_Trie_ends.l0, hg, e]
    refine ev_pos hm (ev_pos (by omega) (ev_pos hm (ev_pos (by omega) (ev_bind _ (Ev.now _) ?_))))
    rw [winc (i := pre.length) (by omega)]
    have next := fun acc' hb' => ih (pre ++ [s]) acc' (by rw [h]; simp) hb'
    rw [len_one, List.length_append] at next
    unfold marked
    by_cases c : atV lE (pre.length : Int) = true
    · refine ev_pos c (ev_pos (by omega) ?_)
      rw [if_pos c]
      have := next (acc ++ [s]) (by simp; omega)
      simpa using this
    · refine ev_neg c ?_
      rw [if_neg c]
      exact next acc (by omega)
theorem impl_Trie_ends_f {nB : Int} {lB : List Int} {nE : Int} {lE : List Int} {lab : ByteArray} (S : Shape nB lB nE lE lab) (P : List ByteArray) (hP : (P.length : Int) ≤ nE) : Ev (fun k => impl_Trie_ends.f k nB lB nE lE lab P) (sortS (marked lE 0 P)) := by
  unfold impl_Trie_ends.f
  have E1 := S.e1
  have := impl_Trie_ends_l0 S P hP P [] [] rfl (by simp; omega)
  simpa using this
theorem spec_l1PutS_l0 (x0 : List ByteArray) (s : ByteArray) (hx : x0.length ≤ 1000000) : ∀ (t pre : List ByteArray), x0 = pre ++ t →
    Ev (fun k => spec_l1PutS.l0 k x0 s (pre.length : Int)) (pre ++ insK s t) := by
  intro t
  induction t with
  | nil =>
    intro pre h
    have hp : x0 = pre := by rw [h, List.append_nil]
    subst hp
    refine ev_succ ?_
    simp only [spec_l1PutS.l0]
    refine ev_neg (by omega) (ev_bind _ (Ev.now _) (ev_pos (by omega) (ev_pos (by omega) (ev_bind _ (Ev.now _) ?_))))
    rw [Int.toNat_natCast, List.take_length, List.nil_append]
    refine ev_pos (by simp; omega) (ev_bind _ (Ev.now _) (ev_pos (by omega) (ev_bind _ (Ev.now _) (ev_bind _ (Ev.now _) (ev_pos (by simp; omega) (ev_some ?_))))))
    simp [insK]
  | cons q t ih =>
    intro pre h
    have hm : ((pre.length : Nat) : Int) < (x0.length : Int) := by rw [h]; exact lt_mid
    have hg : rdOf ByteArray.empty x0 (pre.length : Int) = q := by rw [h]; exact rdOf_mid
    refine ev_succ ?_
    simp only [spec_l1PutS.l0, hg]
    refine ev_pos hm (ev_pos (by omega) ?_)
    unfold insK
    by_cases c : lessS q s = true
    · refine ev_pos c ?_
      rw [winc (by omega), if_pos c]
      have := ih (pre ++ [q]) (by rw [h]; simp)
      rw [len_one] at this
      simpa using this
    · refine ev_neg c ?_
      rw [if_neg c]
      by_cases d : q = s
      · refine ev_pos (tl_inj.2 d) (ev_some ?_)
        rw [if_pos d, h]
      · refine ev_neg (fun e => d (tl_inj.1 e)) (ev_bind _ (Ev.now _) (ev_pos (by omega) (ev_bind _ (Ev.now _) ?_)))
        have et : x0.take pre.length = pre := by rw [h]; simp
        have ed : x0.drop pre.length = q :: t := by rw [h]; simp
        have hl : x0.length = pre.length + (t.length + 1) := by rw [h]; simp
        rw [Int.toNat_natCast, et, ed, List.nil_append, if_neg d]
        refine ev_pos (by simp; omega) (ev_bind _ (Ev.now _) (ev_pos (by omega) (ev_bind _ (Ev.now _) (ev_bind _ (Ev.now _) (ev_pos (by simp; omega) (ev_some ?_))))))
        simp
theorem spec_l1PutS_f (l : List ByteArray) (s : ByteArray) (h : l.length ≤ 1000000) : Ev (fun k => spec_l1PutS.f k l s) (insK s l) := spec_l1PutS_l0 l s h l [] rfl
theorem setK_len : ∀ (M acc : List ByteArray), (setK M acc).length ≤ acc.length + M.length
  | [], acc => by simp [setK]
  | m :: M, acc => by
    have h1 := setK_len M (insK m acc)
    have h2 := insK_len (x := m) (l := acc)
    show (setK M (insK m acc)).length ≤ _
    simp; omega
theorem setK_from : ∀ (M acc : List ByteArray) (x : ByteArray), x ∈ setK M acc → x ∈ acc ∨ x ∈ M
  | [], acc, x, h => .inl h
  | m :: M, acc, x, h => by
    rcases setK_from M (insK m acc) x h with h | h
    · rcases insK_mem.1 h with rfl | h
      · exact .inr (by simp)
      · exact .inl h
    · exact .inr (by simp [h])
def specEnd (t : Tr) (KS : List ByteArray) : List ByteArray × Bool := if areKeysB KS = true then (KS, decide (trieV KS = t)) else ([], false)
theorem spec_trKeys_end {nB : Int} {lB : List Int} {nE : Int} {lE : List Int} {lab : ByteArray} (S : Shape nB lB nE lE lab) (KS : List ByteArray) (hk : KS.length ≤ 1000000) (hz : ∀ s ∈ KS, s.size ≤ 1000000) :
    Ev (fun k => (spec_biKeys.f k KS).bind fun t242 => (if t242 = true then ((spec_trOf.f k KS).bind fun bt243 => ((spec_biSame.f k nB lB bt243.1 bt243.2.1).bind fun t253 => (if t253 = true then ((spec_biSame.f k nE lE bt243.2.2.1 bt243.2.2.2.1).bind fun t254 => (if t254 = true then (some (KS, (lab.toList == bt243.2.2.2.2.toList))) else (some (KS, false)))) else (some (KS, false))))) else (some (([] : List ByteArray), false)))) (specEnd (nB, lB, nE, lE, lab) KS) := by
  have b0 := S.b0
  have b1 := S.b1
  have bl := S.bl
  have e0 := S.e0
  have e1 := S.e1
  have el := S.el
  refine ev_bind _ (spec_biKeys_f KS (by omega) (fun s hs => by have := hz s hs; omega)) ?_
  unfold specEnd
  by_cases c : areKeysB KS = true
  · rw [if_pos c]
    refine ev_pos c (ev_bind _ (spec_trOf_f KS c) (ev_bind _ (spec_biSame_f _ _ _ _ (by omega)) ?_))
    generalize trieV KS = v
    obtain ⟨v1, v2, v3, v4, v5⟩ := v
    simp only [Prod.mk.injEq]
    by_cases d : nB = v1 ∧ lB = v2
    · refine ev_pos (decide_eq_true d) (ev_bind _ (spec_biSame_f _ _ _ _ (by omega)) ?_)
      by_cases e : nE = v3 ∧ lE = v4
      · refine ev_pos (decide_eq_true e) (ev_some ?_)
        rw [Prod.mk.injEq]
        refine ⟨rfl, ?_⟩
        rw [Bool.eq_iff_iff, beq_iff_eq, tl_inj, decide_eq_true_eq]
        constructor
        · intro h; exact ⟨d.1.symm, d.2.symm, e.1.symm, e.2.symm, h.symm⟩
        · intro h; exact h.2.2.2.2.symm
      · refine ev_neg (by simpa using e) (ev_some ?_)
        rw [decide_eq_false (by rintro ⟨_, _, h3, h4, _⟩; exact e ⟨h3.symm, h4.symm⟩)]
    · refine ev_neg (by simpa using d) (ev_some ?_)
      rw [decide_eq_false (by rintro ⟨h3, h4, _⟩; exact d ⟨h3.symm, h4.symm⟩)]
  · rw [if_neg c]
    exact ev_neg c (Ev.now _)
theorem spec_trKeys_l0 {nB : Int} {lB : List Int} {nE : Int} {lE : List Int} {lab : ByteArray} (S : Shape nB lB nE lE lab) (P : List ByteArray) (hP : (P.length : Int) ≤ nE) (hz : ∀ s ∈ P, s.size ≤ 1000000) : ∀ (t pre acc : List ByteArray), P = pre ++ t → acc.length + t.length ≤ 1000000 → (∀ s ∈ acc, s.size ≤ 1000000) →
    Ev (fun k => spec_trKeys.l0 k acc P (P.length : Int) (pre.length : Int) nB lB nE lE lab) (specEnd (nB, lB, nE, lE, lab) (setK (marked lE pre.length t) acc)) := by
  intro t
  induction t with
  | nil =>
    intro pre acc h hb ha
    refine ev_succ ?_
    simp only [spec_trKeys.l0]
    refine ev_neg (by rw [h]; exact not_lt_end) ?_
    exact spec_trKeys_end S acc (by omega) ha
  | cons s t ih =>
    intro pre acc h hb ha
    have hm : ((pre.length : Nat) : Int) < (P.length : Int) := by rw [h]; exact lt_mid
    have hg : rdOf ByteArray.empty P (pre.length : Int) = s := by rw [h]; exact rdOf_mid
    have E1 := S.e1
    have EL := S.el
    have e := spec_biAt_f nE lE (p := (pre.length : Int)) (by omega) (by omega) (by omega)
    simp only [List.length_cons] at hb
    refine ev_succ ?_
    simp only [spec_trKeys.l0, hg, e]
    refine ev_pos hm (ev_pos (by omega) (ev_pos hm (ev_bind _ (Ev.now _) ?_)))
    rw [winc (i := pre.length) (by omega)]
    have next := fun acc' hb' ha' => ih (pre ++ [s]) acc' (by rw [h]; simp) hb' ha'
    rw [len_one, List.length_append] at next
    unfold marked
    by_cases c : atV lE (pre.length : Int) = true
    · refine ev_pos c (ev_bind _ (spec_l1PutS_f acc s (by omega)) ?_)
      rw [if_pos c]
      have hl := insK_len (x := s) (l := acc)
      exact next (insK s acc) (by omega) (fun x hx => by
        rcases insK_mem.1 hx with rfl | hx
        · exact hz x (by rw [h]; simp)
        · exact ha x hx)
    · refine ev_neg c ?_
      rw [if_neg c]
      exact next acc (by omega) ha
end Go.Proofs.YtalfkfddpamnjaaGreatQ
namespace Go.Proofs.YtalfkfddpamnjaaGreatQ
open Go Go.RowKit Go.Proofs.YtalfkfddpamnjaaGreatW.PrintWords Go.Proofs.YtalfkfddpamnjaaGreatW.PrintMore Go.Proofs.YtalfkfddpamnjaaGreatGp Go.Proofs.YtalfkfddpamnjaaGreat.PA

def okS (nB nE : Int) (lab : ByteArray) : Bool := decide (nE ≠ 0) && (decide (nB = 2 * nE - 1) && decide ((lab.size : Int) = nE - 1))
theorem shape_of {nB : Int} {lB : List Int} {nE : Int} {lE : List Int} {lab : ByteArray} (hb : bitsB nB lB = true) (he : bitsB nE lE = true) (h : okS nB nE lab = true) : Shape nB lB nE lE lab := by
  obtain ⟨b0, b1, bl⟩ := bitsB_len hb
  obtain ⟨e0, e1, el⟩ := bitsB_len he
  simp only [okS, Bool.and_eq_true, decide_eq_true_eq] at h
  exact ⟨b0, b1, bl, by omega, e1, el, h.2.2⟩
theorem bitsL_le {n : Int} {l : List Int} (h : n ≤ 4096) : (bitsL n l).length ≤ 4096 := by rw [bitsL_len]; omega
theorem spec_trPaths_f {nB : Int} {lB : List Int} {nE : Int} {lE : List Int} {lab : ByteArray} (hb : bitsB nB lB = true) (he : bitsB nE lE = true) :
    Ev (fun k => spec_trPaths.f k nB lB nE lE lab) (if okS nB nE lab = true then pathsOut nE (readT false (nB, lB, nE, lE, lab)) else ([], false)) := by
  obtain ⟨e0, e1, el⟩ := bitsB_len he
  have w1 : wrap64 (wrap64 (2 * nE) - 1) = 2 * nE - 1 := by rw [w64 (x := 2 * nE) (by omega) (by omega), w64 (by omega) (by omega)]
  have w2 : wrap64 (nE - 1) = nE - 1 := w64 (by omega) (by omega)
  have bad : Ev (fun k => spec_trPaths.j0 k nE true nB lB nE lE lab) (([] : List ByteArray), false) := by
    refine ev_succ ?_
    simp only [spec_trPaths.j0]
    exact ev_pos trivial (Ev.now _)
  unfold spec_trPaths.f
  rw [w1, w2]
  by_cases c1 : nE = 0
  · rw [if_neg (by simp [okS, c1])]
    exact ev_pos c1 bad
  · refine ev_neg c1 ?_
    by_cases c2 : nB = 2 * nE - 1
    · refine ev_pos c2 ?_
      by_cases c3 : (lab.size : Int) = nE - 1
      · have ok : okS nB nE lab = true := by simp only [okS, Bool.and_eq_true, decide_eq_true_eq]; exact ⟨c1, c2, c3⟩
        rw [if_pos ok]
        refine ev_succ ?_
        simp only [spec_trPaths.j0]
        refine ev_neg (by simp [c3]) ?_
        exact spec_trPaths_l0 (shape_of hb he ok) (bitsL nB lB) [] [(⟨#[]⟩ : ByteArray)] 0 rfl (by simp) (by simp) (by simp; omega) (fun x hx => by obtain rfl := List.mem_singleton.1 hx; exact Nat.zero_le _)
      · rw [if_neg (by simp [okS, c3])]
        have : ((lab.size : Int) != nE - 1) = true := by simpa using c3
        rw [this]
        exact bad
    · rw [if_neg (by simp [okS, c2])]
      exact ev_neg c2 bad
def keysOut (t : Tr) : Option (List Str) → List ByteArray × Bool
  | none => ([], false)
  | some P => if (P.length : Int) = t.2.2.1 then specEnd t (keysOf t P) else ([], false)
theorem specK_eq (t : Tr) : specK t = if shapeB t = true then keysOut t (readT false t) else ([], false) := by
  unfold specK
  split
  · cases readT false t with
    | none => rfl
    | some P => rfl
  · rfl
theorem shapeB_eq (nB : Int) (lB : List Int) (nE : Int) (lE : List Int) (lab : ByteArray) : shapeB (nB, lB, nE, lE, lab) = (bitsB nB lB && (bitsB nE lE && okS nB nE lab)) := rfl
theorem spec_trKeys_f (nB : Int) (lB : List Int) (nE : Int) (lE : List Int) (lab : ByteArray) (hB : (lB.length : Int) ≤ 1048576) (hE : (lE.length : Int) ≤ 1048576) : Ev (fun k => spec_trKeys.f k nB lB nE lE lab) (specK (nB, lB, nE, lE, lab)) := by
  have bad : Ev (fun k => spec_trKeys.j0 k true nB lB nE lE lab) (([] : List ByteArray), false) := by
    refine ev_succ ?_
    simp only [spec_trKeys.j0]
    exact ev_pos trivial (Ev.now _)
  unfold spec_trKeys.f
  rw [specK_eq, shapeB_eq]
  refine ev_bind _ (spec_biGood_f nB lB (by omega)) ?_
  cases hb : bitsB nB lB
  · simpa using bad
  refine ev_pos rfl (ev_bind _ (spec_biGood_f nE lE (by omega)) ?_)
  cases he : bitsB nE lE
  · simpa using bad
  simp only [Bool.true_and]
  refine ev_succ ?_
  simp only [spec_trKeys.j0]
  refine ev_neg (by simp) (ev_bind _ (spec_trPaths_f hb he) ?_)
  by_cases ok : okS nB nE lab = true
  · rw [if_pos ok, if_pos ok]
    have S := shape_of hb he ok
    cases hr : readT false (nB, lB, nE, lE, lab) with
    | none => exact ev_neg (by simp [pathsOut]) (Ev.now _)
    | some P =>
      obtain ⟨p1, p2⟩ := dec_bound _ _ _ _ 0 hr (by simp) (by simp)
      have hbl : (bitsL nB lB).length ≤ 4096 := bitsL_le S.b1
      have hlab := S.ls
      have e1 := S.e1
      rw [size_len] at hlab
      simp only [pathsOut, keysOut]
      by_cases c : (P.length : Int) = nE
      · refine ev_pos (by simpa using c) ?_
        rw [if_pos c]
        have := spec_trKeys_l0 S (P.map mkS) (by rw [List.length_map]; omega) (fun s hs => by
          obtain ⟨b, hb2, rfl⟩ := List.mem_map.1 hs
          rw [size_len, mkS_data]
          have := p1 b hb2
          simp only [] at this
          omega) (P.map mkS) [] [] rfl (by simp; omega) (by simp)
        exact this
      · refine ev_neg (by simpa using c) ?_
        rw [if_neg c]
        exact Ev.now _
  · rw [if_neg ok, if_neg ok]
    exact ev_neg (by simp) (Ev.now _)

theorem sortS_mem {l : List ByteArray} {x : ByteArray} : x ∈ sortS l ↔ x ∈ l := by
  have hperm := List.mergeSort_perm (bytesL l) (fun x y : Str => decide (x ≤ y))
  constructor
  · intro h
    obtain ⟨b, hb, rfl⟩ := List.mem_map.1 h
    rw [hperm.mem_iff] at hb
    obtain ⟨y, hy, rfl⟩ := List.mem_map.1 hb
    exact (data_mkS y) ▸ hy
  · intro h
    exact List.mem_map.2 ⟨x.data.toList, hperm.mem_iff.2 (List.mem_map.2 ⟨x, h, rfl⟩), data_mkS x⟩
theorem sortS_len (l : List ByteArray) : (sortS l).length = l.length := by
  have hperm := List.mergeSort_perm (bytesL l) (fun x y : Str => decide (x ≤ y))
  unfold sortS
  rw [List.length_map, hperm.length_eq, bytesL_len]
def implEnd (t : Tr) : Option (List Str) → List ByteArray
  | none => []
  | some P => if (P.length : Int) = t.2.2.1 ∧ areKeysB (endsOf t P) = true ∧ trieV (endsOf t P) = t then P.map mkS else []
theorem implN_eq (t : Tr) : implN t = if shapeB t = true then implEnd t (readT true t) else [] := by
  unfold implN
  split
  · cases readT true t with
    | none => rfl
    | some P => rfl
  · rfl
theorem impl_j2_bad (x3 x6 : List ByteArray) (nB : Int) (lB : List Int) (nE : Int) (lE : List Int) (lab : ByteArray) : Ev (fun k => impl_Trie_nodes.j2 k x3 x6 true nB lB nE lE lab) ([] : List ByteArray) := by
  refine ev_succ ?_
  simp only [impl_Trie_nodes.j2]
  exact ev_pos trivial (Ev.now _)
theorem impl_nodes_end {nB : Int} {lB : List Int} {nE : Int} {lE : List Int} {lab : ByteArray} (S : Shape nB lB nE lE lab) (out : List ByteArray) (h1 : 1 ≤ out.length) (hn : (out.length : Int) ≤ nE) (hz : ∀ s ∈ out, s.size ≤ 1000000) :
    Ev (fun k => (impl_Trie_ends.f k nB lB nE lE lab out).bind fun t412 => (if (out.length : Int) = nE then ((impl_AreKeys.f k t412).bind fun t415 => (impl_Trie_nodes.j2 k out t412 (!t415) nB lB nE lE lab)) else (impl_Trie_nodes.j2 k out t412 true nB lB nE lE lab))) (implEnd (nB, lB, nE, lE, lab) (some (bytesL out))) := by
  have e1 := S.e1
  have b1 := S.b1
  have bl := S.bl
  have el := S.el
  refine ev_bind _ (impl_Trie_ends_f S out hn) ?_
  have hends : endsOf (nB, lB, nE, lE, lab) (bytesL out) = sortS (marked lE 0 out) := by
    unfold endsOf
    rw [mk_bytesL]
  simp only [implEnd, hends, bytesL_len, mk_bytesL]
  have hml := marked_len lE out 0
  have hmm := marked_mem lE out 0
  generalize hE : sortS (marked lE 0 out) = E
  have hl : E.length ≤ 4096 := by rw [← hE, sortS_len]; omega
  have hs : ∀ s ∈ E, s.size ≤ 1000000 := fun s h => by rw [← hE, sortS_mem] at h; exact hz s (hmm s h)
  by_cases c : (out.length : Int) = nE
  · refine ev_pos c (ev_bind _ (impl_AreKeys_f E (by omega) (fun s h => by have := hs s h; omega)) ?_)
    cases ck : areKeysB E
    · rw [if_neg (by simp)]
      exact impl_j2_bad _ _ _ _ _ _ _
    · refine ev_succ ?_
      simp only [impl_Trie_nodes.j2]
      refine ev_neg (by simp) (ev_bind _ (impl_trie_f E ck) ?_)
      have hT := trie_shape ck
      generalize trieV E = v at hT ⊢
      obtain ⟨v1, v2, v3, v4, v5⟩ := v
      rw [shapeB_eq, Bool.and_eq_true, Bool.and_eq_true] at hT
      obtain ⟨_, q1, q2⟩ := bitsB_len hT.1
      obtain ⟨_, q3, q4⟩ := bitsB_len hT.2.1
      refine ev_bind _ (impl_sameBits_f v1 nB v2 lB (by omega)) ?_
      simp only [Prod.mk.injEq]
      by_cases d : v1 = nB ∧ v2 = lB
      · refine ev_pos (decide_eq_true d) (ev_bind _ (impl_sameBits_f v3 nE v4 lE (by omega)) ?_)
        by_cases e : v3 = nE ∧ v4 = lE
        · refine ev_pos (decide_eq_true e) ?_
          by_cases f : v5 = lab
          · refine ev_pos (tl_inj.2 f) (ev_pos (by omega) (ev_some ?_))
            rw [if_pos ⟨c, trivial, d.1, d.2, e.1, e.2, f⟩]
          · refine ev_neg (fun h => f (tl_inj.1 h)) (ev_some ?_)
            rw [if_neg (by rintro ⟨_, _, _, _, _, _, h⟩; exact f h)]
        · refine ev_neg (by simpa using e) (ev_some ?_)
          rw [if_neg (by rintro ⟨_, _, _, _, h3, h4, _⟩; exact e ⟨h3, h4⟩)]
      · refine ev_neg (by simpa using d) (ev_some ?_)
        rw [if_neg (by rintro ⟨_, _, h3, h4, _⟩; exact d ⟨h3, h4⟩)]
  · refine ev_neg c ?_
    rw [if_neg (by rintro ⟨h, _⟩; exact c h)]
    exact impl_j2_bad _ _ _ _ _ _ _
theorem impl_nodes_l0 {nB : Int} {lB : List Int} {nE : Int} {lE : List Int} {lab : ByteArray} (S : Shape nB lB nE lE lab) : ∀ (t pre : List Bool) (out : List ByteArray) (idx : Nat), bitsL nB lB = pre ++ t → idx ≤ out.length → 1 ≤ out.length → (out.length : Int) ≤ nE → (∀ x ∈ out, x.size ≤ pre.length) →
    Ev (fun k => impl_Trie_nodes.l0 k out (idx : Int) nB (pre.length : Int) nB lB nE lE lab) (implEnd (nB, lB, nE, lE, lab) (dec true lab.data.toList t idx (bytesL out))) := by
  intro t
  induction t with
  | nil =>
    intro pre out idx h _ h1 hn hs
    have := bitsL_end S.b0 h
    have B1 := S.b1
    refine ev_succ ?_
    simp only [impl_Trie_nodes.l0]
    refine ev_neg (by omega) ?_
    simp only [dec]
    exact impl_nodes_end S out h1 hn (fun s hs2 => by have := hs s hs2; omega)
  | cons b t ih =>
    intro pre out idx h hi h1 hn hs
    obtain ⟨hp, hb⟩ := bitsL_at h
    have B1 := S.b1
    have BL := S.bl
    have E1 := S.e1
    have LS := S.ls
    have e := impl_Bits_at_f nB lB (p := (pre.length : Int)) (by omega) (by omega) (by omega)
    rw [hb] at e
    have ll := size_len lab
    refine ev_succ ?_
    simp only [impl_Trie_nodes.l0, e]
    refine ev_pos hp ?_
    rw [winc (i := pre.length) (by omega)]
    have next := fun out' idx' hi' h1' hn' hs' => ih (pre ++ [b]) out' idx' (by rw [h]; simp) hi' h1' hn' hs'
    rw [len_one] at next
    unfold dec
    rw [bytesL_len]
    by_cases c : idx = out.length
    · refine ev_pos (by omega) (ev_some ?_)
      rw [if_neg (by omega)]; rfl
    · refine ev_neg (by omega) (ev_bind _ (Ev.now _) ?_)
      rw [if_pos (by omega)]
      by_cases d : b = true
      · refine ev_pos d ?_
        rw [if_pos d]
        by_cases f : (out.length : Int) > (lab.size : Int)
        · refine ev_pos f (ev_some ?_)
          rw [if_neg (by rintro ⟨h, _⟩; omega)]; rfl
        · have w : wrap64 ((out.length : Int) - 1) = ((out.length - 1 : Nat) : Int) := by rw [w64 (by omega) (by omega)]; omega
          have hg := rdOf_get (d := ByteArray.empty) (xs := out) (i := idx) (by omega)
          have hz := hs _ (List.getElem_mem (show idx < out.length by omega))
          have hgb := getB (out := out) (i := idx) (by omega)
          have hsz : (rdOf ByteArray.empty out (idx : Int)).size = ((bytesL out).getD idx []).length := by rw [← hgb, size_len]
          refine ev_neg f (ev_pos (by omega) (ev_pos (by omega) ?_))
          by_cases g : ((rdOf ByteArray.empty out (idx : Int)).size : Int) = 12
          · refine ev_pos g (ev_some ?_)
            rw [if_neg (by rintro ⟨_, h⟩; exact h ⟨rfl, by omega⟩)]; rfl
          · rw [w, if_pos (by refine ⟨by omega, ?_⟩; rintro ⟨_, h⟩; omega)]
            have hx : (lab.extract ((out.length - 1 : Nat) : Int).toNat ((out.length : Int)).toNat).size ≤ 1000000 := by
              rw [size_len, Lib.extract_data]
              simp only [List.length_take, List.length_drop]
              omega
            refine ev_neg g (ev_pos (by omega) (ev_pos (by omega) (ev_pos (by omega) (ev_pos (by rw [hg]; omega) (ev_pos (by omega) ?_)))))
            have gb := grow_bytes (rdOf ByteArray.empty out (idx : Int)) lab out.length h1 (by omega)
            have nx := next (out ++ [rdOf ByteArray.empty out (idx : Int) ++ lab.extract (out.length - 1) out.length]) idx (by simp; omega) (by simp) (by simp; omega) (by
              intro x hx2
              rw [List.length_append]
              rcases List.mem_append.1 hx2 with hx2 | hx2
              · have := hs x hx2; simp; omega
              · obtain rfl := List.mem_singleton.1 hx2
                rw [size_len, gb, List.length_append, ← size_len, hg]
                simp; exact hz)
            rw [bytesL_app] at nx
            have one : bytesL [rdOf ByteArray.empty out (idx : Int) ++ lab.extract (out.length - 1) out.length] = [(bytesL out).getD idx [] ++ [lab.data.toList.getD (out.length - 1) 0]] := by
              have e1 : ∀ a : ByteArray, bytesL [a] = [a.data.toList] := fun _ => rfl
              rw [e1, gb, hgb]
            rw [one] at nx
            simpa using nx
      · refine ev_neg d ?_
        rw [if_neg d, winc (by omega)]
        exact next out (idx + 1) (by omega) h1 hn (fun x hx => by have := hs x hx; rw [List.length_append]; omega)
theorem impl_nodes_f (nB : Int) (lB : List Int) (nE : Int) (lE : List Int) (lab : ByteArray) : Ev (fun k => impl_Trie_nodes.f k nB lB nE lE lab) (implN (nB, lB, nE, lE, lab)) := by
  have bad : Ev (fun k => impl_Trie_nodes.j0 k true nB lB nE lE lab) ([] : List ByteArray) := by
    refine ev_succ ?_
    simp only [impl_Trie_nodes.j0]
    exact ev_pos trivial (Ev.now _)
  unfold impl_Trie_nodes.f
  rw [implN_eq, shapeB_eq]
  refine ev_bind _ (impl_IsBits_f nB lB) ?_
  cases hb : bitsB nB lB
  · simpa using bad
  refine ev_pos rfl (ev_bind _ (impl_IsBits_f nE lE) ?_)
  cases he : bitsB nE lE
  · simpa using bad
  refine ev_pos rfl ?_
  obtain ⟨b0, _, _⟩ := bitsB_len hb
  obtain ⟨e0, e1, el⟩ := bitsB_len he
  have w1 : wrap64 (wrap64 (2 * nE) - 1) = 2 * nE - 1 := by rw [w64 (x := 2 * nE) (by omega) (by omega), w64 (by omega) (by omega)]
  have w2 : wrap64 (nE - 1) = nE - 1 := w64 (by omega) (by omega)
  rw [w1, w2]
  simp only [Bool.true_and]
  by_cases c2 : nB = 2 * nE - 1
  · refine ev_pos c2 ?_
    by_cases c3 : (lab.size : Int) = nE - 1
    · have ok : okS nB nE lab = true := by simp only [okS, Bool.and_eq_true, decide_eq_true_eq]; exact ⟨by omega, c2, c3⟩
      rw [if_pos ok]
      refine ev_succ ?_
      simp only [impl_Trie_nodes.j0]
      refine ev_neg (by simp [c3]) ?_
      exact impl_nodes_l0 (shape_of hb he ok) (bitsL nB lB) [] [(⟨#[]⟩ : ByteArray)] 0 rfl (by simp) (by simp) (by simp; omega) (fun x hx => by obtain rfl := List.mem_singleton.1 hx; exact Nat.zero_le _)
    · rw [if_neg (by simp [okS, c3])]
      have : ((lab.size : Int) != nE - 1) = true := by simpa using c3
      rw [this]
      exact bad
  · rw [if_neg (by simp [okS, c2])]
    exact ev_neg c2 bad
end Go.Proofs.YtalfkfddpamnjaaGreatQ
namespace Go.Proofs.YtalfkfddpamnjaaGreatQ
open Go Go.RowKit Go.Proofs.YtalfkfddpamnjaaGreatW.PrintWords Go.Proofs.YtalfkfddpamnjaaGreatW.PrintMore Go.Proofs.YtalfkfddpamnjaaGreatGp Go.Proofs.YtalfkfddpamnjaaGreat.PA

theorem szBits_f (n : Int) (l : List Int) (a : Int) (hl : l.length ≤ maxLen) (h0 : 0 ≤ a) (h1 : a ≤ 1048576) : ∃ v, laws_szBits.f n l a = some v ∧ (¬ v < 0 → 0 ≤ v ∧ v ≤ 1048576 ∧ (l.length : Int) ≤ 1048576) := by
  unfold laws_szBits.f
  rw [szIntS_f l a hl h0 h1]
  simp only [Option.bind_some]
  by_cases c : leftI a l < 0
  · exact ⟨-1, if_pos c, fun h => absurd (by omega) h⟩
  · obtain ⟨h2, h3⟩ := leftI_ok c
    exact ⟨_, if_neg c, fun _ => ⟨by omega, by omega, by omega⟩⟩
theorem szTrie_f (nB : Int) (lB : List Int) (nE : Int) (lE : List Int) (lab : ByteArray) (hB : lB.length ≤ maxLen) (hE : lE.length ≤ maxLen) (hL : lab.size ≤ maxLen) : ∃ v, laws_szTrie.f nB lB nE lE lab 1048576 = some v ∧ (¬ v < 0 → (lB.length : Int) ≤ 1048576 ∧ (lE.length : Int) ≤ 1048576 ∧ (lab.size : Int) ≤ 1048576) := by
  obtain ⟨v, e, h⟩ := szBits_f nB lB 1048576 hB (by omega) (by omega)
  unfold laws_szTrie.f
  rw [e]
  simp only [Option.bind_some]
  by_cases c : v < 0
  · exact ⟨-1, if_pos c, fun h => absurd (by omega) h⟩
  · obtain ⟨v0, v1, v2⟩ := h c
    obtain ⟨u, e2, h2⟩ := szBits_f nE lE v hE v0 v1
    rw [if_neg c, e2]
    simp only [Option.bind_some]
    by_cases d : u < 0
    · exact ⟨-1, if_pos d, fun h => absurd (by omega) h⟩
    · obtain ⟨u0, u1, u2⟩ := h2 d
      rw [if_neg d]
      rw [maxLen_eq] at hL
      rw [w64 (x := u - (lab.size : Int)) (by omega) (by omega)]
      by_cases f : u - (lab.size : Int) < 0
      · exact ⟨-1, if_pos f, fun h => absurd (by omega) h⟩
      · exact ⟨_, if_neg f, fun _ => ⟨v2, u2, by omega⟩⟩
theorem toTrie_f (nB : Int) (lB : List Int) (nE : Int) (lE : List Int) (lab : ByteArray) (hB : (lB.length : Int) ≤ 1048576) (hE : (lE.length : Int) ≤ 1048576) : Ev (fun k => laws_toTrie.f k nB lB nE lE lab) (nB, lB, nE, lE, lab) := by
  unfold laws_toTrie.f laws_toBits.f
  exact ev_bind _ (ev_bind _ (toIntS_f lB hB) (Ev.now _)) (ev_bind _ (ev_bind _ (toIntS_f lE hE) (Ev.now _)) (Ev.now _))
theorem kept_f (nB : Int) (lB : List Int) (nE : Int) (lE : List Int) (lab : ByteArray) (hB : (lB.length : Int) ≤ 1048576) (hE : (lE.length : Int) ≤ 1048576) :
    Ev (fun k => (laws_toTrie.f k nB lB nE lE lab).bind fun bt => ((laws_eqTrie.f k nB lB nE lE lab bt.1 bt.2.1 bt.2.2.1 bt.2.2.2.1 bt.2.2.2.2).bind fun t => (if t = true then (some true) else (some false)))) true :=
  ev_bind _ (toTrie_f nB lB nE lE lab hB hE) (ev_bind _ (eqTrie_same nB lB nE lE lab hB hE) (ev_pos rfl (Ev.now _)))

structure Yes (K : List ByteArray) (nB : Int) (lB : List Int) (nE : Int) (lE : List Int) (lab : ByteArray) : Prop where
  keys : areKeysB K = true
  val : trieV K = (nB, lB, nE, lE, lab)
  sK : Ev (fun k => spec_trKeys.f k nB lB nE lE lab) (K, true)
  sO : Ev (fun k => spec_trOk.f k nB lB nE lE lab) ((nodesL (bytesL K)).map mkS, true)
  iN : Ev (fun k => impl_Trie_nodes.f k nB lB nE lE lab) ((nodesL (bytesL K)).map mkS)
structure No (KS : List ByteArray) (nB : Int) (lB : List Int) (nE : Int) (lE : List Int) (lab : ByteArray) : Prop where
  len : KS.length ≤ 1000000
  sK : Ev (fun k => spec_trKeys.f k nB lB nE lE lab) (KS, false)
  sO : Ev (fun k => spec_trOk.f k nB lB nE lE lab) (([] : List ByteArray), false)
  iN : Ev (fun k => impl_Trie_nodes.f k nB lB nE lE lab) ([] : List ByteArray)
theorem specK_len (t : Tr) : (specK t).1.length ≤ 1000000 := by
  unfold specK
  split
  · cases readT false t with
    | none => simp
    | some P =>
      simp only []
      split
      · split
        · rename_i h
          have := areKeysB_len h
          simp only []; omega
        · simp
      · simp
  · simp
theorem trie_both (nB : Int) (lB : List Int) (nE : Int) (lE : List Int) (lab : ByteArray) (hB : (lB.length : Int) ≤ 1048576) (hE : (lE.length : Int) ≤ 1048576) : (∃ K, Yes K nB lB nE lE lab) ∨ ∃ KS, No KS nB lB nE lE lab := by
  have hs := spec_trKeys_f nB lB nE lE lab hB hE
  have hi := impl_nodes_f nB lB nE lE lab
  have hlen := specK_len (nB, lB, nE, lE, lab)
  rcases trie_cases (nB, lB, nE, lE, lab) with ⟨K, hk, hv, e1, e2⟩ | ⟨e1, e2⟩
  · rw [e1] at hs
    rw [e2] at hi
    refine .inl ⟨K, hk, hv, hs, ?_, hi⟩
    · unfold spec_trOk.f
      have hl := areKeysB_len hk
      exact ev_bind _ hs (ev_pos rfl (ev_bind _ (spec_trNodes_f K (by omega)) (Ev.now _)))
  · refine .inr ⟨(specK (nB, lB, nE, lE, lab)).1, hlen, ?_, ?_, ?_⟩
    · have : specK (nB, lB, nE, lE, lab) = ((specK (nB, lB, nE, lE, lab)).1, false) := by rw [← e1]
      rw [← this]; exact hs
    · unfold spec_trOk.f
      exact ev_bind _ hs (ev_neg (by rw [e1]; simp) (Ev.now _))
    · rw [e2] at hi; exact hi
theorem nodes_len {K : List ByteArray} (h : areKeysB K = true) : 1 ≤ ((nodesL (bytesL K)).map mkS).length ∧ ((nodesL (bytesL K)).map mkS).length ≤ 481 := by
  have h1 := List.length_pos_iff.2 (nodesL_ne _ (keys_sbl h))
  have h2 := nodesL_len (bytesL K)
  rw [bytesL_len] at h2
  have := areKeysB_len h
  rw [List.length_map]
  omega
end Go.Proofs.YtalfkfddpamnjaaGreatQ
namespace Go.Proofs.YtalfkfddpamnjaaGreatQ
open Go Go.RowKit Go.Proofs.YtalfkfddpamnjaaGreatW.PrintWords Go.Proofs.YtalfkfddpamnjaaGreatW.PrintMore Go.Proofs.YtalfkfddpamnjaaGreatGp Go.Proofs.YtalfkfddpamnjaaGreat.PA

theorem spec_trFind_l0 (x0 : List ByteArray) (s : ByteArray) (hl : (x0.length : Int) ≤ 9223372036854775806) : ∀ (t pre : List ByteArray), x0 = pre ++ t →
    Ev (fun k => spec_trFind.l0 k s x0 (x0.length : Int) (pre.length : Int)) (idxS t s pre.length) := by
  intro t
  induction t with
  | nil =>
    intro pre h
    refine ev_succ ?_
    simp only [spec_trFind.l0]
    exact ev_neg (by rw [h]; exact not_lt_end) (ev_some (by simp [idxS]))
  | cons x t ih =>
    intro pre h
    have hm : ((pre.length : Nat) : Int) < (x0.length : Int) := by rw [h]; exact lt_mid
    have hg : rdOf ByteArray.empty x0 (pre.length : Int) = x := by rw [h]; exact rdOf_mid
    refine ev_succ ?_
    simp only [spec_trFind.l0, hg, tl_inj]
    refine ev_pos hm (ev_pos (by omega) (ev_pos hm ?_))
    by_cases c : x = s
    · exact ev_pos c (ev_some (by simp [idxS, c]))
    · refine ev_neg c ?_
      rw [winc (by omega)]
      have := ih (pre ++ [x]) (by rw [h]; simp)
      rw [len_one] at this
      have e : idxS (x :: t) s pre.length = idxS t s (pre ++ [x]).length := by simp [idxS, c]
      rw [e]
      exact this
theorem spec_trFind_f (l : List ByteArray) (s : ByteArray) (hl : (l.length : Int) ≤ 9223372036854775806) : Ev (fun k => spec_trFind.f k l s) (idxS l s 0) := by
  unfold spec_trFind.f
  exact spec_trFind_l0 l s hl l [] rfl
theorem idxS_ge : ∀ (l : List ByteArray) (s : ByteArray) (i : Nat), idxS l s i = -1 ∨ 0 ≤ idxS l s i
  | [], s, i => by simp [idxS]
  | x :: t, s, i => by
    simp only [idxS]
    split
    · right; omega
    · exact idxS_ge t s (i + 1)
end Go.Proofs.YtalfkfddpamnjaaGreatQ
namespace Go.Proofs.YtalfkfddpamnjaaGreat.Pure
open Go Go.RowKit Go.Proofs.YtalfkfddpamnjaaGreatW.PrintWords Go.Proofs.YtalfkfddpamnjaaGreatW.PrintMore Go.Proofs.YtalfkfddpamnjaaGreatGp Go.Proofs.YtalfkfddpamnjaaGreat.PA Go.Proofs.YtalfkfddpamnjaaGreatQ

theorem placedAt_f (l : List ByteArray) (s : ByteArray) (hl : (l.length : Int) ≤ 9223372036854775806) : Ev (fun k => impl_placedAt.f k l s) (mx (idxS l s 0) 0, decide (idxS l s 0 ≥ 0)) := by
  unfold impl_placedAt.f
  exact ev_bind _ (slices_Index_string_string_f l s hl) (Ev.now _)
theorem FnExactFindNode : laws_FnExactFindNode.Pure := by
  intro nB lB nE lE lab a1 hnB hlB hwB hnE hlE hwE hlab ha1
  refine Ev.rounds (r := true) ?_
  unfold laws_FnExactFindNode.f
  by_cases big : (a1.size : Int) > 1048576
  · exact ev_pos big (Ev.now _)
  obtain ⟨v, ev, hv⟩ := szTrie_f nB lB nE lE lab hlB hlE hlab
  rw [ev]
  refine ev_neg big (ev_bind _ (Ev.now _) ?_)
  by_cases c : v < 0
  · exact ev_pos c (Ev.now _)
  obtain ⟨hB, hE, hL⟩ := hv c
  have hT := toTrie_f nB lB nE lE lab hB hE
  have hK := kept_f nB lB nE lE lab hB hE
  refine ev_neg c (ev_bind _ hT ?_)
  have both : ∃ r, Ev (fun k => spec_FindNode.f k nB lB nE lE lab a1) r ∧ Ev (fun k => impl_FindNode.f k nB lB nE lE lab a1) r := by
    rcases trie_both nB lB nE lE lab hB hE with ⟨K, Y⟩ | ⟨KS, Y⟩
    · obtain ⟨n1, n2⟩ := nodes_len Y.keys
      have hF := spec_trFind_f ((nodesL (bytesL K)).map mkS) a1 (by omega)
      have hI := placedAt_f ((nodesL (bytesL K)).map mkS) a1 (by omega)
      rcases idxS_ge ((nodesL (bytesL K)).map mkS) a1 0 with e | e
      · rw [e] at hF hI
        refine ⟨(0, false), ?_, ?_⟩
        · unfold spec_FindNode.f
          exact ev_bind _ Y.sO (ev_pos rfl (ev_bind _ hF (ev_pos (by omega) (Ev.now _))))
        · unfold impl_FindNode.f
          exact ev_bind _ Y.iN (ev_bind _ hI (ev_some (by simp [mx])))
      · refine ⟨(idxS ((nodesL (bytesL K)).map mkS) a1 0, true), ?_, ?_⟩
        · unfold spec_FindNode.f
          exact ev_bind _ Y.sO (ev_pos rfl (ev_bind _ hF (ev_neg (by omega) (ev_bind _ hF (Ev.now _)))))
        · unfold impl_FindNode.f
          exact ev_bind _ Y.iN (ev_bind _ hI (ev_some (by simp [mx, e]; omega)))
    · refine ⟨(0, false), ?_, ?_⟩
      · unfold spec_FindNode.f
        exact ev_bind _ Y.sO (ev_neg (by simp) (Ev.now _))
      · unfold impl_FindNode.f
        exact ev_bind _ Y.iN (ev_bind _ (placedAt_f [] a1 (by simp)) (ev_some (by simp [mx, idxS])))
  obtain ⟨r, hS, hI⟩ := both
  refine ev_bind _ hS (ev_bind _ hT (ev_bind _ hI (ev_pos rfl (ev_succ ?_))))
  simp only [laws_FnExactFindNode.j0]
  exact ev_neg (by simp) hK
end Go.Proofs.YtalfkfddpamnjaaGreat.Pure
