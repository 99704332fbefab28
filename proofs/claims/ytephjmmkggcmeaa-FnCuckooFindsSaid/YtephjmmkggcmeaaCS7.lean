import Derived.Test.YtephjmmkggcmeaaCS3
import Derived.Test.YtephjmmkggcmeaaCS4
import Derived.Test.YtephjmmkggcmeaaCS5
import Derived.Test.YtephjmmkggcmeaaCS6
import Derived.Test.YtephjmmkggcmeaaCS2
import Derived.Test.YtephjmmkggcmeaaCS1
namespace Go.Proofs.YtephjmmkggcmeaaQ.KC
open Go Go.RowKit Go.Proofs.YtephjmmkggcmeaaW.PrintWords Go.Proofs.YtephjmmkggcmeaaW.PrintMore Go.Proofs.YtephjmmkggcmeaaGp Go.Proofs.Ytephjmmkggcmeaa.PG Go.Proofs.YtephjmmkggcmeaaQ

def SlotsOk (a n : Int) (S : List ByteArray) : Prop := ∀ i (h : i < S.length), S[i] ≠ emp → isKeyB S[i] = true ∧ cel a n S[i] (i : Int) = true
theorem slotsB_iff {a n : Int} : ∀ (t : List ByteArray) (i : Nat), slotsB a n t i = true ↔ ∀ j (h : j < t.length), t[j] ≠ emp → isKeyB t[j] = true ∧ cel a n t[j] ((i + j : Nat) : Int) = true
  | [], i => by simp [slotsB]
  | x :: t, i => by
    simp only [slotsB, Bool.and_eq_true, Bool.or_eq_true, decide_eq_true_eq]
    rw [slotsB_iff t (i + 1)]
    constructor
    · rintro ⟨h1, h2⟩ j hj hne
      cases j with
      | zero =>
        rcases h1 with c | c
        · exact absurd c hne
        · exact c
      | succ j =>
        have := h2 j (by simpa using hj) hne
        rwa [show i + 1 + j = i + (j + 1) by omega] at this
    · intro h
      refine ⟨?_, fun j hj hne => ?_⟩
      · by_cases c : x = emp
        · exact .inl c
        · exact .inr (h 0 (by simp) c)
      · have := h (j + 1) (by simpa using hj) hne
        rwa [show i + (j + 1) = i + 1 + j by omega] at this
structure Good (a : Int) (S T : List ByteArray) : Prop where
  sd : 0 ≤ a ∧ a ≤ 9999
  n : 1 ≤ S.length ∧ S.length ≤ 64
  t : T.length ≤ 4
  tk : areKeysB T = true
  sl : SlotsOk a (S.length : Int) S
  nd : (nz S ++ T).Nodup
  le : (nz S ++ T).length ≤ 40
section
variable {a : Int} {S T : List ByteArray}
theorem slots_keys {n : Int} (h : SlotsOk a n S) : ∀ s ∈ nz S, isKeyB s = true := by
  intro s hs
  obtain ⟨h1, h2⟩ := nz_mem.1 hs
  obtain ⟨i, hi, rfl⟩ := List.getElem_of_mem h1
  exact (h i hi h2).1
theorem all_keys {n : Int} (h : SlotsOk a n S) (hT : areKeysB T = true) : ∀ s ∈ nz S ++ T, isKeyB s = true := by
  intro s hs
  rcases List.mem_append.1 hs with hs | hs
  · exact slots_keys h s hs
  · exact areKeysB_all hT s hs
theorem good_iff : goodB a S T = true ↔ Good a S T := by
  unfold goodB
  simp only [Bool.and_eq_true, decide_eq_true_eq]
  constructor
  · rintro ⟨h1, h2, h3, h4, h5, h6⟩
    obtain ⟨_, h7, h8⟩ := keysFrom_none.1 h6
    refine ⟨h1, by omega, by omega, h4, fun i hi hne => ?_, h7, h8⟩
    have := (slotsB_iff S 0).1 h5 i hi hne
    rwa [Nat.zero_add] at this
  · intro h
    refine ⟨h.sd, by have := h.n; omega, by have := h.t; omega, h.tk, (slotsB_iff S 0).2 fun i hi hne => ?_, keysFrom_none.2 ⟨all_keys h.sl h.tk, h.nd, h.le⟩⟩
    rw [Nat.zero_add]
    exact h.sl i hi hne
theorem Good.keys (h : Good a S T) : ∀ s ∈ nz S ++ T, isKeyB s = true := all_keys h.sl h.tk
theorem Good.tab (h : Good a S T) : Tab S T := by
  refine ⟨by have := h.n; omega, by have := h.t; omega, fun x hx => ?_, fun x hx => ?_⟩
  · by_cases c : x = emp
    · rw [c]; simp [ByteArray.size]
    · have := (isKeyB_size (slots_keys h.sl x (nz_mem.2 ⟨hx, c⟩))).2; omega
  · have := (isKeyB_size (areKeysB_all h.tk x hx)).2; omega
theorem mem_all {key : ByteArray} (hk : key ≠ emp) : key ∈ S ++ T ↔ key ∈ nz S ++ T := by
  rw [List.mem_append, List.mem_append, nz_mem]
  constructor
  · rintro (c | c)
    · exact .inl ⟨c, hk⟩
    · exact .inr c
  · rintro (c | c)
    · exact .inl c.1
    · exact .inr c
theorem idxS_no {x s : ByteArray} (c : ¬ x = s) (t : List ByteArray) (i : Nat) : idxS (x :: t) s i = idxS t s (i + 1) := by simp only [idxS, if_neg c]
theorem idxS_yes (s : ByteArray) (t : List ByteArray) (i : Nat) : idxS (s :: t) s i = (i : Int) := by simp only [idxS, if_pos]
theorem idxS_add : ∀ (l : List ByteArray) (s : ByteArray) (i : Nat), idxS l s i = if 0 ≤ idxS l s 0 then (i : Int) + idxS l s 0 else -1
  | [], s, i => by simp [idxS]
  | x :: t, s, i => by
    have h1 := idxS_add t s (i + 1)
    have h2 := idxS_add t s (0 + 1)
    by_cases c : x = s
    · subst c
      rw [idxS_yes, idxS_yes, if_pos (by omega)]
      omega
    · rw [idxS_no c, idxS_no c, h1, h2]
      by_cases d : 0 ≤ idxS t s 0
      · rw [if_pos d, if_pos d, if_pos (by omega)]
        omega
      · rw [if_neg d, if_neg d, if_neg (by omega)]
theorem idxS_app (l m : List ByteArray) (s : ByteArray) (i : Nat) : idxS (l ++ m) s i = if 0 ≤ idxS l s i then idxS l s i else idxS m s (i + l.length) := by
  induction l generalizing i with
  | nil => simp [idxS]
  | cons x t ih =>
    rw [List.cons_append]
    by_cases c : x = s
    · subst c
      rw [idxS_yes, idxS_yes, if_pos (by omega)]
    · rw [idxS_no c, idxS_no c, ih (i + 1), List.length_cons, show i + 1 + t.length = i + (t.length + 1) by omega]
theorem idxS_get : ∀ (l : List ByteArray) (s : ByteArray), s ∈ l → ∃ j, ∃ h : j < l.length, idxS l s 0 = (j : Int) ∧ l[j] = s
  | x :: t, s, h => by
    by_cases c : x = s
    · exact ⟨0, by simp, by rw [c, idxS_yes], c⟩
    · rcases List.mem_cons.1 h with e | h
      · exact absurd e.symm c
      · obtain ⟨j, hj, h1, h2⟩ := idxS_get t s h
        refine ⟨j + 1, by simpa using hj, ?_, h2⟩
        rw [idxS_no c, idxS_add, h1, if_pos (by omega)]
        omega
theorem idxS_neg {l : List ByteArray} {s : ByteArray} (h : s ∉ l) : idxS l s 0 = -1 := by
  rw [idxS_add]
  rw [if_neg (fun c => h ((idxS_mem l s 0).1 c))]
theorem idxS_range (l : List ByteArray) (s : ByteArray) : -1 ≤ idxS l s 0 ∧ idxS l s 0 < (l.length : Int) + 0 ∨ idxS l s 0 = -1 := by
  by_cases h : s ∈ l
  · obtain ⟨j, hj, h1, _⟩ := idxS_get l s h
    exact .inl (by omega)
  · exact .inr (idxS_neg h)
theorem impl_find_f (a : Int) (h : Tab S T) (key : ByteArray) : Ev (fun k => impl_Cuckoo_find.f k a S T key) (idxS (S ++ T) key 0) := by
  have h1 := h.s
  have h2 := h.t
  unfold impl_Cuckoo_find.f
  refine ev_bind _ (slices_Index_string_string_f S key (by omega)) ?_
  rw [idxS_app]
  by_cases c : 0 ≤ idxS S key 0
  · rw [if_pos c]
    exact ev_pos c (Ev.now _)
  · rw [if_neg c, idxS_add T key (0 + S.length)]
    refine ev_neg c (ev_bind _ (slices_Index_string_string_f T key (by omega)) ?_)
    by_cases d : 0 ≤ idxS T key 0
    · have := idxS_range T key
      refine ev_pos d ?_
      rw [if_pos d, w64 (by omega) (by omega)]
      exact ev_some (by omega)
    · refine ev_neg d ?_
      rw [if_neg d]
      exact Ev.now _
theorem spec_cuFind_l0 (X : List ByteArray) (key : ByteArray) (hX : X.length ≤ 2000) : ∀ (t pre : List ByteArray), X = pre ++ t →
    Ev (fun k => spec_cuFind.l0 k key X (X.length : Int) (pre.length : Int)) (idxS t key pre.length) := by
  intro t
  induction t with
  | nil =>
    intro pre e
    refine ev_succ ?_
    simp only [spec_cuFind.l0]
    exact ev_neg (by rw [e]; exact not_lt_end) (ev_some (by simp [idxS]))
  | cons x t ih =>
    intro pre e
    have hm : ((pre.length : Nat) : Int) < (X.length : Int) := by rw [e]; exact lt_mid
    have hg : rdOf ByteArray.empty X (pre.length : Int) = x := by rw [e]; exact rdOf_mid
    have IH := ih (pre ++ [x]) (by rw [e]; simp)
    rw [len_one] at IH
    refine ev_succ ?_
    simp only [spec_cuFind.l0, hg, tl_inj]
    rw [winc (by omega)]
    refine ev_pos hm (ev_pos (by omega) (ev_pos hm ?_))
    by_cases c : x = key
    · exact ev_pos c (ev_some (by simp [idxS, c]))
    · refine ev_neg c ?_
      have e2 : idxS (x :: t) key pre.length = idxS t key (pre ++ [x]).length := by simp [idxS, c]
      rw [e2]
      exact IH
theorem spec_cuFind_f (a : Int) (h : Tab S T) (key : ByteArray) : Ev (fun k => spec_cuFind.f k a S T key) (idxS (S ++ T) key 0) := by
  have h1 := h.s
  have h2 := h.t
  unfold spec_cuFind.f
  rw [own_S h.s]
  simp only [Option.bind_some]
  exact ev_pos (by omega) (spec_cuFind_l0 (S ++ T) key (by rw [List.length_append]; omega) (S ++ T) [] rfl)
def fndV (a : Int) (S T : List ByteArray) (key : ByteArray) : Int × Bool := if goodB a S T = true then (if isKeyB key = true then (if idxS (S ++ T) key 0 < 0 then (0, false) else (idxS (S ++ T) key 0, true)) else (0, false)) else (0, false)
theorem impl_CuckooFind_f (a : Int) (h : Tab S T) (key : ByteArray) (hk : key.size ≤ 1000) : Ev (fun k => impl_CuckooFind.f k a S T key) (fndV a S T key) := by
  unfold impl_CuckooFind.f fndV
  refine ev_bind _ (impl_IsCuckoo_f h) ?_
  split
  · refine ev_bind _ (impl_IsKey_f key (by omega)) ?_
    split
    · refine ev_bind _ (impl_find_f a h key) ?_
      split
      · exact Ev.now _
      · exact ev_bind _ (impl_find_f a h key) (Ev.now _)
    · exact Ev.now _
  · exact Ev.now _
theorem spec_CuckooFind_f (a : Int) (h : Tab S T) (key : ByteArray) (hk : key.size ≤ 1000) : Ev (fun k => spec_CuckooFind.f k a S T key) (fndV a S T key) := by
  unfold spec_CuckooFind.f fndV
  refine ev_bind _ (spec_cuGood_f h) ?_
  split
  · refine ev_bind _ (spec_IsKey_f key (by omega)) ?_
    split
    · refine ev_bind _ (spec_cuFind_f a h key) ?_
      split
      · exact Ev.now _
      · exact ev_bind _ (spec_cuFind_f a h key) (Ev.now _)
    · exact Ev.now _
  · exact Ev.now _
theorem fndV_yes {key : ByteArray} (h : (fndV a S T key).2 = true) : Good a S T ∧ isKeyB key = true ∧ key ∈ S ++ T ∧ (fndV a S T key).1 = idxS (S ++ T) key 0 := by
  unfold fndV at h ⊢
  split at h
  · rename_i c1
    split at h
    · rename_i c2
      split at h
      · cases h
      · rename_i c3
        rw [if_pos c1, if_pos c2, if_neg c3]
        exact ⟨good_iff.1 c1, c2, (idxS_mem _ _ 0).1 (by omega), rfl⟩
    · cases h
  · cases h
theorem fndV_not {key : ByteArray} (hm : key ∉ S ++ T) : fndV a S T key = (0, false) := by
  unfold fndV
  rw [idxS_neg hm]
  split
  · split
    · rfl
    · rfl
  · rfl
theorem impl_CuckooKeys_f (h : Tab S T) : Ev (fun k => impl_CuckooKeys.f k a S T) (if goodB a S T = true then (sortS (nz S ++ T), true) else ([], false)) := by
  unfold impl_CuckooKeys.f
  refine ev_bind _ (impl_IsCuckoo_f h) ?_
  by_cases c : goodB a S T = true
  · have g := good_iff.1 c
    have := g.le
    rw [impl_all_f a h (by have := g.n; omega)]
    refine ev_pos c ?_
    rw [if_pos c]
    unfold slices_Sort_string_string.f
    simp only [Option.bind_some]
    rw [if_pos (by omega)]
    exact Ev.now _
  · refine ev_neg c ?_
    rw [if_neg c]
    exact Ev.now _
def remS (S : List ByteArray) (key : ByteArray) : List ByteArray := S.map fun s => if s = key then emp else s
def remT (T : List ByteArray) (key : ByteArray) : List ByteArray := T.filter fun s => decide (s ≠ key)
def remV (a : Int) (S T : List ByteArray) (key : ByteArray) : Int × List ByteArray × List ByteArray × Bool := if (fndV a S T key).2 = true then (a, remS S key, remT T key, true) else (0, [], [], false)
theorem uniq (h : (nz S).Nodup) {i j : Nat} (hi : i < S.length) (hj : j < S.length) (e : S[i] = S[j]) (hne : S[i] ≠ emp) : i = j := by
  have h2 : S.Pairwise fun x y => decide (x ≠ emp) = true → decide (y ≠ emp) = true → x ≠ y := List.pairwise_filter.1 h
  rw [List.pairwise_iff_getElem] at h2
  rcases Nat.lt_trichotomy i j with c | c | c
  · exact absurd e (h2 i j hi hj c (by simpa using hne) (by rw [← e]; simpa using hne))
  · exact c
  · exact absurd e.symm (h2 j i hj hi c (by rw [← e]; simpa using hne) (by simpa using hne))
theorem remS_set (h : (nz S).Nodup) {key : ByteArray} (hk : key ≠ emp) {j : Nat} (hj : j < S.length) (e : S[j] = key) : S.set j emp = remS S key := by
  refine List.ext_getElem (by simp [remS]) fun i h1 h2 => ?_
  rw [List.length_set] at h1
  simp only [remS, List.getElem_map, List.getElem_set]
  by_cases c : j = i
  · subst c; rw [if_pos rfl, if_pos e]
  · rw [if_neg c, if_neg]
    intro e2
    exact c (uniq h hj h1 (e.trans e2.symm) (by rw [e]; exact hk))
theorem remS_id {key : ByteArray} (h : key ∉ S) : remS S key = S := by
  unfold remS
  refine (List.map_congr_left fun s hs => ?_).trans (List.map_id S)
  have hne : ¬ s = key := fun e => h (e ▸ hs)
  rw [if_neg hne]
  rfl
theorem remT_id {key : ByteArray} (h : key ∉ T) : remT T key = T := by
  unfold remT
  rw [List.filter_eq_self]
  intro s hs
  simp only [decide_eq_true_eq]
  exact fun e => h (e ▸ hs)
theorem remT_erase {key : ByteArray} : ∀ {T : List ByteArray} (j : Nat), T.Nodup → idxS T key 0 = (j : Int) → T.eraseIdx j = remT T key
  | [], j, _, h => by simp [idxS] at h
  | x :: t, j, hn, h => by
    obtain ⟨h1, h2⟩ := List.nodup_cons.1 hn
    by_cases c : x = key
    · subst c
      rw [idxS_yes] at h
      obtain rfl : j = 0 := by omega
      have := remT_id h1
      unfold remT at this ⊢
      rw [List.filter_cons, if_neg (by simp), this]
      rfl
    · rw [idxS_no c, idxS_add] at h
      by_cases d : 0 ≤ idxS t key 0
      · rw [if_pos d] at h
        obtain ⟨j, rfl⟩ : ∃ q, j = q + 1 := ⟨j - 1, by omega⟩
        have := remT_erase (key := key) j h2 (by omega)
        unfold remT at this ⊢
        rw [List.filter_cons, if_pos (by simpa using c), List.eraseIdx_cons_succ, this]
      · rw [if_neg d] at h; omega
theorem nz_remS (key : ByteArray) : ∀ S : List ByteArray, nz (remS S key) = (nz S).filter fun s => decide (s ≠ key)
  | [] => rfl
  | x :: t => by
    have ih := nz_remS key t
    unfold remS at ih ⊢
    rw [List.map_cons]
    by_cases c : x = key
    · rw [if_pos c, nz_cons_emp, ih]
      by_cases d : x = emp
      · rw [d, nz_cons_emp]
      · rw [nz_cons d, List.filter_cons, if_neg (by simp [c])]
    · rw [if_neg c]
      by_cases d : x = emp
      · rw [d, nz_cons_emp, nz_cons_emp, ih]
      · rw [nz_cons d, nz_cons d, List.filter_cons, if_pos (by simpa using c), ih]
theorem rem_all (key : ByteArray) : nz (remS S key) ++ remT T key = (nz S ++ T).filter fun s => decide (s ≠ key) := by
  rw [nz_remS, List.filter_append]
  rfl
theorem Good.rem (h : Good a S T) (key : ByteArray) : Good a (remS S key) (remT T key) := by
  have hl : (remS S key).length = S.length := by simp [remS]
  have ht : (remT T key).length ≤ T.length := List.length_filter_le _ _
  obtain ⟨k1, k2, k3⟩ := areKeys_iff.1 h.tk
  refine ⟨h.sd, by rw [hl]; exact h.n, by have := h.t; omega, areKeys_iff.2 ⟨fun s hs => k1 s (List.mem_filter.1 hs).1, List.Pairwise.filter _ k2, by omega⟩, fun i hi hne => ?_, ?_, ?_⟩
  · have hi2 : i < S.length := by rw [hl] at hi; exact hi
    rw [hl]
    simp only [remS, List.getElem_map] at hne ⊢
    by_cases c : S[i] = key
    · rw [if_pos c] at hne; exact absurd rfl hne
    · rw [if_neg c] at hne ⊢; exact h.sl i hi2 hne
  · rw [rem_all]; exact List.Pairwise.filter _ h.nd
  · rw [rem_all]; exact Nat.le_trans (List.length_filter_le _ _) h.le
theorem rem_not {key : ByteArray} (hk : key ≠ emp) : key ∉ remS S key ++ remT T key := by
  intro h
  rcases List.mem_append.1 h with h | h
  · obtain ⟨s, _, e⟩ := List.mem_map.1 h
    by_cases c : s = key
    · rw [if_pos c] at e; exact hk e.symm
    · rw [if_neg c] at e; exact c e
  · have := (List.mem_filter.1 h).2
    simp at this
theorem clone_f (a : Int) (h : Tab S T) : impl_cloneCuckoo.f a S T = some (a, S, T) := by
  unfold impl_cloneCuckoo.f
  rw [clone_S h.s, clone_S h.t]
  rfl
theorem impl_CuckooRemove_f (a : Int) (h : Tab S T) (key : ByteArray) (hz : key.size ≤ 1000) : Ev (fun k => impl_CuckooRemove.f k a S T key) (remV a S T key) := by
  unfold impl_CuckooRemove.f remV
  refine ev_bind _ (impl_CuckooFind_f a h key hz) ?_
  by_cases c : (fndV a S T key).2 = true
  · rw [clone_f a h]
    refine ev_pos c ?_
    rw [if_pos c]
    simp only [Option.bind_some]
    obtain ⟨g, hk, hm, e⟩ := fndV_yes c
    have hS := h.s
    have hT := h.t
    rw [e]
    obtain ⟨nd1, nd2, nd3⟩ := List.nodup_append.1 g.nd
    by_cases d : key ∈ S
    · obtain ⟨j, hj, h1, h2⟩ := idxS_get S key d
      have ei : idxS (S ++ T) key 0 = (j : Int) := by rw [idxS_app, h1, if_pos (by omega)]
      rw [ei, if_pos (by omega), if_pos (by omega), if_pos (by omega), Int.toNat_natCast, remS_set nd1 (key_ne hk) hj h2,
        remT_id (fun q => nd3 key (nz_mem.2 ⟨d, key_ne hk⟩) key q rfl)]
      exact Ev.now _
    · obtain ⟨j, hj, h1, h2⟩ := idxS_get T key (by rcases List.mem_append.1 hm with q | q; exact absurd q d; exact q)
      have ei : idxS (S ++ T) key 0 = ((S.length + j : Nat) : Int) := by
        rw [idxS_app, idxS_neg d, if_neg (by omega), idxS_add, h1, if_pos (by omega)]
        omega
      rw [ei, if_neg (by omega), w64 (x := ((S.length + j : Nat) : Int) - (S.length : Int)) (by omega) (by omega), show ((S.length + j : Nat) : Int) - (S.length : Int) = (j : Int) by omega, winc (by omega)]
      unfold slices_Delete_string_string.f
      rw [if_pos (by omega), Int.toNat_natCast, remT_erase j nd2 h1, remS_id d]
      exact Ev.now _
  · refine ev_neg c ?_
    rw [if_neg c]
    exact Ev.now _
theorem spec_rem_l1 (key : ByteArray) (X : List ByteArray) (hX : X.length ≤ 1000) (a : Int) (S' : List ByteArray) : ∀ (t pre : List ByteArray), X = pre ++ t →
    Ev (fun k => spec_CuckooRemove.l1 k key X (X.length : Int) (pre.length : Int) a S' (remT pre key)) (a, S', remT X key, true) := by
  intro t
  induction t with
  | nil =>
    intro pre e
    obtain rfl : X = pre := by rw [e, List.append_nil]
    refine ev_succ ?_
    simp only [spec_CuckooRemove.l1]
    exact ev_neg (by omega) (Ev.now _)
  | cons x t ih =>
    intro pre e
    have hp : (remT pre key).length ≤ 1000 := by
      have h2 : (remT pre key).length ≤ pre.length := List.length_filter_le _ _
      rw [e, List.length_append] at hX; omega
    have hm : ((pre.length : Nat) : Int) < (X.length : Int) := by rw [e]; exact lt_mid
    have hg : rdOf ByteArray.empty X (pre.length : Int) = x := by rw [e]; exact rdOf_mid
    have IH := ih (pre ++ [x]) (by rw [e]; simp)
    rw [len_one] at IH
    refine ev_succ ?_
    simp only [spec_CuckooRemove.l1, hg, tl_inj]
    rw [winc (by omega)]
    refine ev_pos hm (ev_pos (by omega) (ev_pos hm ?_))
    by_cases c : x = key
    · refine ev_pos c ?_
      have e2 : remT (pre ++ [x]) key = remT pre key := by simp [remT, c]
      rw [e2] at IH
      exact IH
    · refine ev_neg c (ev_pos (by omega) ?_)
      have e2 : remT (pre ++ [x]) key = remT pre key ++ [x] := by simp [remT, c]
      rw [e2] at IH
      exact IH
theorem spec_rem_l0 (key : ByteArray) (a : Int) (h : Tab S T) : ∀ (t pre : List ByteArray), S = pre ++ t →
    Ev (fun k => spec_CuckooRemove.l0 k key S (S.length : Int) (pre.length : Int) a S T a (remS pre key ++ t)) (a, remS S key, remT T key, true) := by
  have hS := h.s
  intro t
  induction t with
  | nil =>
    intro pre e
    obtain rfl : S = pre := by rw [e, List.append_nil]
    refine ev_succ ?_
    simp only [spec_CuckooRemove.l0, List.append_nil]
    exact ev_neg (by omega) (spec_rem_l1 key T h.t a _ T [] rfl)
  | cons x t ih =>
    intro pre e
    have hm : ((pre.length : Nat) : Int) < (S.length : Int) := by rw [e]; exact lt_mid
    have hg : rdOf ByteArray.empty S (pre.length : Int) = x := by rw [e]; exact rdOf_mid
    have IH := ih (pre ++ [x]) (by rw [e]; simp)
    rw [len_one] at IH
    have hl : (remS pre key).length = pre.length := by simp [remS]
    refine ev_succ ?_
    simp only [spec_CuckooRemove.l0, hg, tl_inj]
    rw [winc (by omega)]
    refine ev_pos hm (ev_pos (by omega) (ev_pos hm ?_))
    by_cases c : x = key
    · refine ev_pos c (ev_pos (by rw [List.length_append, hl, ← List.length_append, ← e]; exact hm) ?_)
      have e2 : remS (pre ++ [x]) key ++ t = (remS pre key ++ x :: t).set (pre.length : Int).toNat emp := by
        rw [← hl, set_mid]
        simp [remS, c]
      rw [e2] at IH
      exact IH
    · refine ev_neg c ?_
      have e2 : remS (pre ++ [x]) key ++ t = remS pre key ++ x :: t := by simp [remS, c]
      rw [e2] at IH
      exact IH
theorem spec_CuckooRemove_f (a : Int) (h : Tab S T) (key : ByteArray) (hz : key.size ≤ 1000) : Ev (fun k => spec_CuckooRemove.f k a S T key) (remV a S T key) := by
  have jt : Ev (fun k => spec_CuckooRemove.j0 k key true a S T) (0, [], [], false) := ev_succ (by simp only [spec_CuckooRemove.j0]; exact ev_pos (by trivial) (Ev.now _))
  unfold spec_CuckooRemove.f remV fndV
  refine ev_bind _ (spec_cuGood_f h) ?_
  by_cases c1 : goodB a S T = true
  · rw [if_pos c1]
    refine ev_pos c1 (ev_bind _ (spec_IsKey_f key (by omega)) ?_)
    by_cases c2 : isKeyB key = true
    · rw [if_pos c2]
      refine ev_pos c2 (ev_bind _ (spec_cuFind_f a h key) ?_)
      by_cases c3 : idxS (S ++ T) key 0 < 0
      · rw [if_pos c3, if_neg (by simp), decide_eq_true c3]
        exact jt
      · rw [if_neg c3, if_pos rfl, decide_eq_false c3]
        refine ev_succ ?_
        simp only [spec_CuckooRemove.j0]
        rw [own_S h.s]
        simp only [Option.bind_some]
        exact ev_neg (by simp) (spec_rem_l0 key a h S [] rfl)
    · rw [if_neg c2, if_neg (by simp)]
      exact ev_neg c2 jt
  · rw [if_neg c1, if_neg (by simp)]
    exact ev_neg c1 jt
end
end Go.Proofs.YtephjmmkggcmeaaQ.KC
namespace Go.Proofs.YtephjmmkggcmeaaQ.KC
open Go Go.RowKit Go.Proofs.YtephjmmkggcmeaaW.PrintWords Go.Proofs.YtephjmmkggcmeaaW.PrintMore Go.Proofs.YtephjmmkggcmeaaGp Go.Proofs.Ytephjmmkggcmeaa.PG Go.Proofs.YtephjmmkggcmeaaQ

structure Sz (a : Int) (S : List ByteArray) : Prop where
  sd : 0 ≤ a ∧ a ≤ 9999
  n : 1 ≤ S.length ∧ S.length ≤ 64
abbrev plc (a c : Int) (x : ByteArray) (S : List ByteArray) : Int := placeV a c x (S.length : Int)
def settleV (a : Int) (S : List ByteArray) (x : ByteArray) : List ByteArray × Bool :=
  if rdOf ByteArray.empty S (plc a 0 x S) = emp then (S.set (plc a 0 x S).toNat x, true)
  else if rdOf ByteArray.empty S (plc a 1 x S) = emp then (S.set (plc a 1 x S).toNat x, true) else (S, false)
def Plc (a n : Int) (S : List ByteArray) : Prop := ∀ i (h : i < S.length), S[i] ≠ emp → cel a n S[i] (i : Int) = true
section
variable {a : Int} {S T : List ByteArray}
theorem plc_lt (h : Sz a S) (c : Int) (x : ByteArray) : 0 ≤ plc a c x S ∧ plc a c x S < (S.length : Int) := by
  have := h.n
  exact placeV_range a c x (by omega) (by omega)
theorem Good.sz (h : Good a S T) : Sz a S := ⟨h.sd, h.n⟩
theorem Good.plc (h : Good a S T) : Plc a (S.length : Int) S := fun i hi hne => (h.sl i hi hne).2
theorem slots_of {n : Int} (h : Plc a n S) (hk : ∀ s ∈ nz S, isKeyB s = true) : SlotsOk a n S := fun i hi hne => ⟨hk _ (nz_mem.2 ⟨List.getElem_mem hi, hne⟩), h i hi hne⟩
theorem Plc.set {n : Int} (h : Plc a n S) {x : ByteArray} {i : Nat} (hc : cel a n x (i : Int) = true) : Plc a n (S.set i x) := by
  intro j hj hne
  rw [List.length_set] at hj
  rw [List.getElem_set] at hne ⊢
  by_cases e : i = j
  · subst e; rw [if_pos rfl]; exact hc
  · rw [if_neg e] at hne ⊢; exact h j hj hne
theorem cel_0 (a : Int) (n : Int) (x : ByteArray) : cel a n x (placeV a 0 x n) = true := by simp [cel]
theorem cel_1 (a : Int) (n : Int) (x : ByteArray) : cel a n x (placeV a 1 x n) = true := by simp [cel]
theorem impl_settle_f (h : Sz a S) {x : ByteArray} (hx : x.size ≤ 1000) : Ev (fun k => impl_Cuckoo_settle.f k a S x) (settleV a S x) := by
  have h0 := plc_lt h 0 x
  have h1 := plc_lt h 1 x
  unfold impl_Cuckoo_settle.f settleV
  refine ev_bind _ (impl_cellsOf_f h.sd.1 h.sd.2 x hx) ?_
  by_cases c : rdOf ByteArray.empty S (plc a 0 x S) = emp
  · rw [if_pos c]
    exact ev_pos h0.1 (ev_pos h0.2 (ev_pos (tl_emp.2 c) (Ev.now _)))
  · rw [if_neg c]
    refine ev_pos h0.1 (ev_pos h0.2 (ev_neg (fun q => c (tl_emp.1 q)) (ev_pos h1.1 (ev_pos h1.2 ?_))))
    by_cases d : rdOf ByteArray.empty S (plc a 1 x S) = emp
    · rw [if_pos d]
      exact ev_pos (tl_emp.2 d) (Ev.now _)
    · rw [if_neg d]
      exact ev_neg (fun q => d (tl_emp.1 q)) (Ev.now _)
def emptyV (a : Int) (S : List ByteArray) (x : ByteArray) : Int :=
  if rdOf ByteArray.empty S (plc a 0 x S) = emp then plc a 0 x S else if rdOf ByteArray.empty S (plc a 1 x S) = emp then plc a 1 x S else -1
theorem spec_cuEmpty_f (T : List ByteArray) (h : Sz a S) {x : ByteArray} (hx : x.size ≤ 1000) : Ev (fun k => spec_cuEmpty.f k a S T x) (emptyV a S x) := by
  have h0 := plc_lt h 0 x
  have h1 := plc_lt h 1 x
  have r0 : rd [plc a 0 x S, plc a 1 x S] 0 = plc a 0 x S := by simp [rd]
  have r1 : rd [plc a 0 x S, plc a 1 x S] 1 = plc a 1 x S := by simp [rd]
  unfold spec_cuEmpty.f emptyV
  refine ev_bind _ (spec_cuCells_f h.sd.1 h.sd.2 x hx) (ev_succ ?_)
  simp only [spec_cuEmpty.l0]
  rw [show rd [placeV a 0 x (S.length : Int), placeV a 1 x (S.length : Int)] 0 = plc a 0 x S from r0, w64 (x := 0 + 1) (by omega) (by omega)]
  refine ev_pos (by simp) (ev_pos (by omega) (ev_pos (by simp) (ev_pos h0.1 (ev_pos h0.2 ?_))))
  by_cases c : rdOf ByteArray.empty S (plc a 0 x S) = emp
  · rw [if_pos c]
    exact ev_pos (tl_emp.2 c) (Ev.now _)
  · rw [if_neg c]
    refine ev_neg (fun q => c (tl_emp.1 q)) (ev_succ ?_)
    simp only [spec_cuEmpty.l0]
    rw [show rd [placeV a 0 x (S.length : Int), placeV a 1 x (S.length : Int)] (0 + 1) = plc a 1 x S from r1, w64 (x := 0 + 1 + 1) (by omega) (by omega)]
    refine ev_pos (by simp) (ev_pos (by omega) (ev_pos (by simp) (ev_pos h1.1 (ev_pos h1.2 ?_))))
    by_cases d : rdOf ByteArray.empty S (plc a 1 x S) = emp
    · rw [if_pos d]
      exact ev_pos (tl_emp.2 d) (Ev.now _)
    · rw [if_neg d]
      refine ev_neg (fun q => d (tl_emp.1 q)) (ev_succ ?_)
      simp only [spec_cuEmpty.l0]
      exact ev_neg (by simp) (Ev.now _)
theorem settle_cases (h : Sz a S) (x : ByteArray) : (settleV a S x = (S, false) ∧ emptyV a S x = -1 ∧ rdOf ByteArray.empty S (plc a 0 x S) ≠ emp) ∨ ∃ i : Nat, ∃ hi : i < S.length, S[i] = emp ∧ cel a (S.length : Int) x (i : Int) = true ∧ settleV a S x = (S.set i x, true) ∧ emptyV a S x = (i : Int) := by
  have h0 := plc_lt h 0 x
  have h1 := plc_lt h 1 x
  unfold settleV emptyV
  by_cases c : rdOf ByteArray.empty S (plc a 0 x S) = emp
  · refine .inr ⟨(plc a 0 x S).toNat, by omega, ?_, ?_, by rw [if_pos c], by rw [if_pos c]; omega⟩
    · rw [show plc a 0 x S = (((plc a 0 x S).toNat : Nat) : Int) by omega, rdOf_get (by omega)] at c
      exact c
    · rw [show (((plc a 0 x S).toNat : Nat) : Int) = plc a 0 x S by omega]
      exact cel_0 _ _ _
  · by_cases d : rdOf ByteArray.empty S (plc a 1 x S) = emp
    · refine .inr ⟨(plc a 1 x S).toNat, by omega, ?_, ?_, by rw [if_neg c, if_pos d], by rw [if_neg c, if_pos d]; omega⟩
      · rw [show plc a 1 x S = (((plc a 1 x S).toNat : Nat) : Int) by omega, rdOf_get (by omega)] at d
        exact d
      · rw [show (((plc a 1 x S).toNat : Nat) : Int) = plc a 1 x S by omega]
        exact cel_1 _ _ _
    · exact .inl ⟨by rw [if_neg c, if_neg d], by rw [if_neg c, if_neg d], c⟩
theorem settle_len (a : Int) (S : List ByteArray) (x : ByteArray) : (settleV a S x).1.length = S.length := by
  unfold settleV
  split
  · simp
  · split
    · simp
    · rfl
def unstV (a : Int) : List ByteArray → List ByteArray → List ByteArray × List ByteArray
  | S, [] => (S, [])
  | S, x :: t => ((unstV a (settleV a S x).1 t).1, if (settleV a S x).2 = true then (unstV a (settleV a S x).1 t).2 else x :: (unstV a (settleV a S x).1 t).2)
theorem Sz.of {S' : List ByteArray} (h : Sz a S) (e : S'.length = S.length) : Sz a S' := ⟨h.sd, by rw [e]; exact h.n⟩
theorem unst_f : ∀ (t S : List ByteArray), Sz a S → (∀ x ∈ t, x.size ≤ 1000) → Ev (fun k => unst k a S t) (unstV a S t)
  | [], S, _, _ => by unfold unst unstV; exact Ev.now _
  | x :: t, S, h, hz => by
    unfold unst unstV
    refine ev_bind _ (impl_settle_f h (hz x (by simp))) (ev_bind _ (unst_f t _ (h.of (settle_len _ _ _)) (fun y hy => hz y (by simp [hy]))) ?_)
    exact Ev.now _
theorem spec_unst_l0 (X : List ByteArray) (hX : X.length ≤ 1000) (hz : ∀ x ∈ X, x.size ≤ 1000) : ∀ (t pre S acc : List ByteArray), X = pre ++ t → acc.length ≤ pre.length → Sz a S →
    Ev (fun k => spec_CuckooUnstash.l0 k X (X.length : Int) (pre.length : Int) a S acc) (a, (unstV a S t).1, acc ++ (unstV a S t).2, true) := by
  intro t
  induction t with
  | nil =>
    intro pre S acc e _ _
    refine ev_succ ?_
    simp only [spec_CuckooUnstash.l0, unstV, List.append_nil]
    exact ev_neg (by rw [e]; exact not_lt_end) (Ev.now _)
  | cons x t ih =>
    intro pre S acc e ha h
    have hp : pre.length ≤ 1000 := by rw [e, List.length_append] at hX; omega
    have hm : ((pre.length : Nat) : Int) < (X.length : Int) := by rw [e]; exact lt_mid
    have hg : rdOf ByteArray.empty X (pre.length : Int) = x := by rw [e]; exact rdOf_mid
    refine ev_succ ?_
    simp only [spec_CuckooUnstash.l0, hg, unstV]
    rw [winc (by omega)]
    refine ev_pos hm (ev_pos (by omega) (ev_pos hm (ev_bind _ (spec_cuEmpty_f acc h (hz x (by rw [e]; simp))) ?_)))
    rcases settle_cases h x with ⟨s1, s2, _⟩ | ⟨i, hi, s0, s1, s2, s3⟩
    · have IH := ih (pre ++ [x]) S (acc ++ [x]) (by rw [e]; simp) (by simp; omega) h
      rw [len_one] at IH
      rw [List.append_assoc] at IH
      rw [s1, s2, if_neg (by simp)]
      exact ev_neg (by omega) (ev_pos (by omega) IH)
    · have IH := ih (pre ++ [x]) (S.set i x) acc (by rw [e]; simp) (by simp; omega) (h.of (by simp))
      rw [len_one] at IH
      rw [s2, s3, if_pos rfl]
      refine ev_pos (by omega) (ev_pos (by omega) (ev_pos (by omega) ?_))
      rw [Int.toNat_natCast]
      exact IH
theorem impl_CuckooUnstash_f (h : Tab S T) : Ev (fun k => impl_CuckooUnstash.f k a S T) (if goodB a S T = true then (a, (unstV a S T).1, (unstV a S T).2, true) else (0, [], [], false)) := by
  have hT := h.t
  unfold impl_CuckooUnstash.f
  refine ev_bind _ (impl_IsCuckoo_f h) ?_
  by_cases c : goodB a S T = true
  · rw [clone_f a h]
    refine ev_pos c ?_
    rw [if_pos c]
    simp only [Option.bind_some]
    exact ev_pos (by omega) (ev_bind _ (unst_f T S (good_iff.1 c).sz h.zt) (Ev.now _))
  · refine ev_neg c ?_
    rw [if_neg c]
    exact Ev.now _
theorem spec_CuckooUnstash_f (h : Tab S T) : Ev (fun k => spec_CuckooUnstash.f k a S T) (if goodB a S T = true then (a, (unstV a S T).1, (unstV a S T).2, true) else (0, [], [], false)) := by
  unfold spec_CuckooUnstash.f
  refine ev_bind _ (spec_cuGood_f h) ?_
  by_cases c : goodB a S T = true
  · rw [own_S h.s]
    refine ev_pos c ?_
    rw [if_pos c]
    simp only [Option.bind_some]
    exact spec_unst_l0 T h.t h.zt T [] S [] rfl (Nat.le_refl _) (good_iff.1 c).sz
  · refine ev_neg c ?_
    rw [if_neg c]
    exact Ev.now _
theorem unst_ok : ∀ (t S : List ByteArray), Sz a S → Plc a (S.length : Int) S → (∀ x ∈ t, x ≠ emp) →
    (unstV a S t).1.length = S.length ∧ Plc a (S.length : Int) (unstV a S t).1 ∧ (nz (unstV a S t).1 ++ (unstV a S t).2).Perm (nz S ++ t) ∧ (unstV a S t).2.Sublist t
  | [], S, _, hp, _ => ⟨rfl, hp, List.Perm.refl _, List.Sublist.refl _⟩
  | x :: t, S, h, hp, hk => by
    simp only [unstV]
    rcases settle_cases h x with ⟨s1, _, _⟩ | ⟨i, hi, s0, s1, s2, _⟩
    · rw [s1, if_neg (by simp)]
      obtain ⟨i1, i2, i3, i4⟩ := unst_ok t S h hp (fun y hy => hk y (by simp [hy]))
      exact ⟨i1, i2, List.perm_middle.trans ((i3.cons x).trans List.perm_middle.symm), i4.cons_cons x⟩
    · rw [s2, if_pos rfl]
      have hl : (S.set i x).length = S.length := by simp
      obtain ⟨i1, i2, i3, i4⟩ := unst_ok t (S.set i x) (h.of hl) (by rw [hl]; exact hp.set s1) (fun y hy => hk y (by simp [hy]))
      rw [hl] at i1 i2
      exact ⟨i1, i2, i3.trans (((set_in hi (hk x (by simp)) s0).append_right t).trans List.perm_middle.symm), i4.cons x⟩
theorem Good.unst (h : Good a S T) : Good a (unstV a S T).1 (unstV a S T).2 ∧ (nz (unstV a S T).1 ++ (unstV a S T).2).Perm (nz S ++ T) ∧ (unstV a S T).2.length ≤ T.length := by
  obtain ⟨k1, k2, k3⟩ := areKeys_iff.1 h.tk
  obtain ⟨i1, i2, i3, i4⟩ := unst_ok T S h.sz h.plc (fun x hx => key_ne (k1 x hx))
  have hl := i4.length_le
  refine ⟨⟨h.sd, by rw [i1]; exact h.n, by have := h.t; omega, areKeys_iff.2 ⟨fun s hs => k1 s (i4.subset hs), k2.sublist i4, by omega⟩, ?_, i3.nodup_iff.2 h.nd, by rw [i3.length_eq]; exact h.le⟩, i3, hl⟩
  rw [i1]
  exact slots_of i2 fun s hs => h.keys s (i3.mem_iff.1 (List.mem_append_left _ hs))
end
end Go.Proofs.YtephjmmkggcmeaaQ.KC
namespace Go.Proofs.YtephjmmkggcmeaaQ
open Go Go.RowKit Go.Proofs.YtephjmmkggcmeaaW.PrintWords Go.Proofs.YtephjmmkggcmeaaGp Go.Proofs.Ytephjmmkggcmeaa.PG

end Go.Proofs.YtephjmmkggcmeaaQ
namespace Go.Proofs.YtephjmmkggcmeaaQ.KC
open Go Go.RowKit Go.Proofs.YtephjmmkggcmeaaW.PrintWords Go.Proofs.YtephjmmkggcmeaaW.PrintMore Go.Proofs.YtephjmmkggcmeaaGp Go.Proofs.Ytephjmmkggcmeaa.PG Go.Proofs.YtephjmmkggcmeaaQ

def oth (a : Int) (y : ByteArray) (n c : Int) : Int := placeV a 0 y n + placeV a 1 y n - c
def pushV (a : Int) : Nat → ByteArray → Int → Int → List ByteArray → List ByteArray × Option ByteArray × Int
  | 0, x, c, th, S => if rdOf ByteArray.empty S c = emp then (S.set c.toNat x, none, th) else (S, some x, th)
  | m + 1, x, c, th, S => if rdOf ByteArray.empty S c = emp then (S.set c.toNat x, none, th) else pushV a m (rdOf ByteArray.empty S c) (oth a (rdOf ByteArray.empty S c) (S.length : Int) c) (th + 1) (S.set c.toNat x)
def spcPush (a : Int) (T : List ByteArray) : List ByteArray × Option ByteArray × Int → Int × List ByteArray × List ByteArray × Int × Bool
  | (S', none, th) => (a, S', T, th, true)
  | (S', some y, th) => if (T.length : Int) = 4 then (0, [], [], 0, false) else (a, S', insK y T, th, true)
section
variable {a : Int} {S T : List ByteArray}
theorem rd_cell {c : Int} (h0 : 0 ≤ c) (h1 : c < (S.length : Int)) : rdOf ByteArray.empty S c = S[c.toNat]'(by omega) := by
  have h : c.toNat < S.length := by omega
  rw [← rdOf_get h, show ((c.toNat : Nat) : Int) = c by omega]
theorem oth_ok (h : Sz a S) {y : ByteArray} {c : Int} (hc : cel a (S.length : Int) y c = true) : cel a (S.length : Int) y (oth a y (S.length : Int) c) = true ∧ 0 ≤ oth a y (S.length : Int) c ∧ oth a y (S.length : Int) c < (S.length : Int) := by
  have h0 : 0 ≤ placeV a 0 y (S.length : Int) ∧ placeV a 0 y (S.length : Int) < (S.length : Int) := plc_lt h 0 y
  have h1 : 0 ≤ placeV a 1 y (S.length : Int) ∧ placeV a 1 y (S.length : Int) < (S.length : Int) := plc_lt h 1 y
  unfold cel at hc
  rw [Bool.or_eq_true, decide_eq_true_eq, decide_eq_true_eq] at hc
  unfold oth
  rcases hc with hc | hc
  · rw [show placeV a 0 y (S.length : Int) + placeV a 1 y (S.length : Int) - c = placeV a 1 y (S.length : Int) by omega]
    exact ⟨cel_1 _ _ _, h1⟩
  · rw [show placeV a 0 y (S.length : Int) + placeV a 1 y (S.length : Int) - c = placeV a 0 y (S.length : Int) by omega]
    exact ⟨cel_0 _ _ _, h0⟩
structure At (a : Int) (S : List ByteArray) (x : ByteArray) (c : Int) : Prop where
  sz : Sz a S
  pl : Plc a (S.length : Int) S
  ce : cel a (S.length : Int) x c = true
  c0 : 0 ≤ c
  c1 : c < (S.length : Int)
theorem At.next {x : ByteArray} {c : Int} (h : At a S x c) (hne : rdOf ByteArray.empty S c ≠ emp) :
    At a (S.set c.toNat x) (rdOf ByteArray.empty S c) (oth a (rdOf ByteArray.empty S c) (S.length : Int) c) := by
  have hl : (S.set c.toNat x).length = S.length := by simp
  have h0 := h.c0
  have h1 := h.c1
  have e := rd_cell h0 h1
  have hce : cel a (S.length : Int) (rdOf ByteArray.empty S c) c = true := by
    rw [e] at hne ⊢
    have := h.pl c.toNat (by omega) hne
    rwa [show ((c.toNat : Nat) : Int) = c by omega] at this
  obtain ⟨o1, o2, o3⟩ := oth_ok h.sz hce
  refine ⟨h.sz.of hl, ?_, ?_, o2, ?_⟩
  · rw [hl]
    refine h.pl.set ?_
    rw [show ((c.toNat : Nat) : Int) = c by omega]
    exact h.ce
  · rw [hl]; exact o1
  · rw [hl]; exact o3
theorem push_ok : ∀ (m : Nat) (x : ByteArray) (c th : Int) (S : List ByteArray), At a S x c →
    (pushV a m x c th S).1.length = S.length ∧ Plc a (S.length : Int) (pushV a m x c th S).1 ∧ (th ≤ (pushV a m x c th S).2.2 ∧ (pushV a m x c th S).2.2 ≤ th + (m : Int)) ∧
    (∀ s, s ∈ (pushV a m x c th S).1 ∨ (pushV a m x c th S).2.1 = some s → s = x ∨ s ∈ S) ∧
    (x ≠ emp → ((pushV a m x c th S).2.1.toList ++ nz (pushV a m x c th S).1).Perm (x :: nz S) ∧ (pushV a m x c th S).2.1 ≠ some emp) := by
  intro m
  induction m with
  | zero =>
    intro x c th S h
    have h0 := h.c0
    have h1 := h.c1
    have e := rd_cell h0 h1
    unfold pushV
    by_cases d : rdOf ByteArray.empty S c = emp
    · rw [if_pos d]
      refine ⟨by simp, h.pl.set (by rw [show ((c.toNat : Nat) : Int) = c by omega]; exact h.ce), ⟨by simp, by simp⟩, fun s hs => ?_, fun hx => ⟨?_, by simp⟩⟩
      · rcases hs with hs | hs
        · rcases List.mem_or_eq_of_mem_set hs with q | q
          · exact .inr q
          · exact .inl q
        · cases hs
      · exact set_in (by omega) hx (by rw [← e]; exact d)
    · rw [if_neg d]
      refine ⟨rfl, h.pl, ⟨by simp, by simp⟩, fun s hs => ?_, fun hx => ⟨List.Perm.refl _, by simpa using hx⟩⟩
      rcases hs with hs | hs
      · exact .inr hs
      · exact .inl (Option.some.inj hs).symm
  | succ m ih =>
    intro x c th S h
    have h0 := h.c0
    have h1 := h.c1
    have e := rd_cell h0 h1
    unfold pushV
    by_cases d : rdOf ByteArray.empty S c = emp
    · rw [if_pos d]
      refine ⟨by simp, h.pl.set (by rw [show ((c.toNat : Nat) : Int) = c by omega]; exact h.ce), ⟨by simp, by simp; omega⟩, fun s hs => ?_, fun hx => ⟨?_, by simp⟩⟩
      · rcases hs with hs | hs
        · rcases List.mem_or_eq_of_mem_set hs with q | q
          · exact .inr q
          · exact .inl q
        · cases hs
      · exact set_in (by omega) hx (by rw [← e]; exact d)
    · rw [if_neg d]
      obtain ⟨i1, i2, i3, i4, i5⟩ := ih (rdOf ByteArray.empty S c) (oth a (rdOf ByteArray.empty S c) (S.length : Int) c) (th + 1) (S.set c.toNat x) (h.next d)
      have hl : (S.set c.toNat x).length = S.length := by simp
      rw [hl] at i1 i2
      refine ⟨i1, i2, ⟨by omega, by omega⟩, fun s hs => ?_, fun hx => ?_⟩
      · rcases i4 s hs with q | q
        · exact .inr (by rw [q, e]; exact List.getElem_mem _)
        · rcases List.mem_or_eq_of_mem_set q with q | q
          · exact .inr q
          · exact .inl q
      · obtain ⟨j1, j2⟩ := i5 d
        refine ⟨j1.trans ?_, j2⟩
        rw [e] at d ⊢
        exact set_swap (by omega) hx d
end
end Go.Proofs.YtephjmmkggcmeaaQ.KC
namespace Go.Proofs.YtephjmmkggcmeaaQ.KC
open Go Go.RowKit Go.Proofs.YtephjmmkggcmeaaW.PrintWords Go.Proofs.YtephjmmkggcmeaaW.PrintMore Go.Proofs.YtephjmmkggcmeaaGp Go.Proofs.Ytephjmmkggcmeaa.PG Go.Proofs.YtephjmmkggcmeaaQ

def insV (a : Int) (S T : List ByteArray) (x : ByteArray) (m : Nat) : Int × List ByteArray × List ByteArray × Int × Bool :=
  if (settleV a S x).2 = true then (a, (settleV a S x).1, T, 0, true) else spcPush a T (pushV a m x (plc a 0 x S) 0 S)
section
variable {a : Int} {S T : List ByteArray}
theorem spec_push_l0 (hl : T.length ≤ 1000) {mv : Int} (hv : mv ≤ 1000) : ∀ (m : Nat) (x : ByteArray) (c th : Int) (S : List ByteArray), At a S x c → (∀ s ∈ S, s.size ≤ 1000) → x.size ≤ 1000 → th + (m : Int) = mv → 0 ≤ th →
    Ev (fun k => spec_cuInsert.l0 k x mv c th a S T) (spcPush a T (pushV a m x c th S)) := by
  intro m
  induction m with
  | zero =>
    intro x c th S h hz hxz ht h0
    refine ev_succ ?_
    simp only [spec_cuInsert.l0, pushV]
    refine ev_pos h.c0 (ev_pos h.c1 ?_)
    by_cases d : rdOf ByteArray.empty S c = emp
    · rw [if_pos d]
      exact ev_pos (tl_emp.2 d) (Ev.now _)
    · rw [if_neg d]
      refine ev_neg (fun q => d (tl_emp.1 q)) (ev_pos (by omega) ?_)
      unfold spcPush
      by_cases e : (T.length : Int) = 4
      · refine ev_pos e ?_
        simp only [if_pos e]
        exact Ev.now _
      · refine ev_neg e ?_
        simp only [if_neg e]
        exact ev_bind _ (putS_f T x (by omega)) (Ev.now _)
  | succ m ih =>
    intro x c th S h hz hxz ht h0
    have c0 := h.c0
    have c1 := h.c1
    have hn := h.sz.n
    have e := rd_cell c0 c1
    refine ev_succ ?_
    simp only [spec_cuInsert.l0, pushV]
    refine ev_pos h.c0 (ev_pos h.c1 ?_)
    by_cases d : rdOf ByteArray.empty S c = emp
    · rw [if_pos d]
      exact ev_pos (tl_emp.2 d) (Ev.now _)
    · rw [if_neg d]
      have hyz : (rdOf ByteArray.empty S c).size ≤ 1000 := by rw [e]; exact hz _ (List.getElem_mem _)
      have hsl : (S.set c.toNat x).length = S.length := by simp
      have g0 : 0 ≤ placeV a 0 (rdOf ByteArray.empty S c) (S.length : Int) ∧ placeV a 0 (rdOf ByteArray.empty S c) (S.length : Int) < (S.length : Int) := plc_lt h.sz 0 _
      have g1 : 0 ≤ placeV a 1 (rdOf ByteArray.empty S c) (S.length : Int) ∧ placeV a 1 (rdOf ByteArray.empty S c) (S.length : Int) < (S.length : Int) := plc_lt h.sz 1 _
      have ho : Ev (fun k => spec_cuOther.f k a (S.set c.toNat x) T (rdOf ByteArray.empty S c) c) (oth a (rdOf ByteArray.empty S c) (S.length : Int) c) := by
        unfold spec_cuOther.f
        rw [hsl]
        refine ev_bind _ (spec_cuCells_f h.sz.sd.1 h.sz.sd.2 _ hyz) (ev_pos (by simp) (ev_pos (by simp) (ev_some ?_)))
        have r0 : rd [placeV a 0 (rdOf ByteArray.empty S c) (S.length : Int), placeV a 1 (rdOf ByteArray.empty S c) (S.length : Int)] 0 = placeV a 0 (rdOf ByteArray.empty S c) (S.length : Int) := by simp [rd]
        have r1 : rd [placeV a 0 (rdOf ByteArray.empty S c) (S.length : Int), placeV a 1 (rdOf ByteArray.empty S c) (S.length : Int)] 1 = placeV a 1 (rdOf ByteArray.empty S c) (S.length : Int) := by simp [rd]
        rw [r0, r1, w64 (x := placeV a 0 (rdOf ByteArray.empty S c) (S.length : Int) + placeV a 1 (rdOf ByteArray.empty S c) (S.length : Int)) (by omega) (by omega), w64 (x := placeV a 0 (rdOf ByteArray.empty S c) (S.length : Int) + placeV a 1 (rdOf ByteArray.empty S c) (S.length : Int) - c) (by omega) (by omega)]
        rfl
      refine ev_neg (fun q => d (tl_emp.1 q)) (ev_neg (by omega) ?_)
      simp only [Option.bind_some]
      refine ev_bind _ ho ?_
      rw [w64 (x := th + 1) (by omega) (by omega)]
      refine ih _ _ _ _ (h.next d) (fun s hs => ?_) hyz (by omega) (by omega)
      rcases List.mem_or_eq_of_mem_set hs with q | q
      · exact hz s q
      · rw [q]; exact hxz
theorem start_at (h : Sz a S) (hp : Plc a (S.length : Int) S) (x : ByteArray) : At a S x (plc a 0 x S) := ⟨h, hp, cel_0 _ _ _, (plc_lt h 0 x).1, (plc_lt h 0 x).2⟩
theorem spec_cuInsert_f (h : Sz a S) (hp : Plc a (S.length : Int) S) (ht : Tab S T) {x : ByteArray} (hx : x.size ≤ 1000) {m : Nat} (hm : m ≤ 1000) : Ev (fun k => spec_cuInsert.f k a S T x (m : Int)) (insV a S T x m) := by
  unfold spec_cuInsert.f insV
  refine ev_bind _ (spec_cuEmpty_f T h hx) ?_
  rcases settle_cases h x with ⟨s1, s2, s3⟩ | ⟨i, hi, s0, s1, s2, s3⟩
  · rw [s1, s2, if_neg (by simp)]
    refine ev_neg (by omega) (ev_bind _ (spec_cuCells_f h.sd.1 h.sd.2 x hx) (ev_pos (by simp) ?_))
    have r0 : rd [placeV a 0 x (S.length : Int), placeV a 1 x (S.length : Int)] 0 = plc a 0 x S := by simp [rd, plc]
    rw [r0]
    exact spec_push_l0 ht.t (by omega) m x _ 0 S (start_at h hp x) ht.zs hx (by omega) (by omega)
  · rw [s2, s3, if_pos rfl]
    refine ev_pos (by omega) (ev_pos (by omega) (ev_pos (by omega) ?_))
    rw [Int.toNat_natCast]
    exact Ev.now _
theorem ins_ok (h : Sz a S) (hp : Plc a (S.length : Int) S) (hT : T.length ≤ 4) {x : ByteArray} {m : Nat} (hy : (insV a S T x m).2.2.2.2 = true) :
    (insV a S T x m).1 = a ∧ (insV a S T x m).2.1.length = S.length ∧ Plc a (S.length : Int) (insV a S T x m).2.1 ∧ (insV a S T x m).2.2.1.length ≤ 4 ∧
    (0 ≤ (insV a S T x m).2.2.2.1 ∧ (insV a S T x m).2.2.2.1 ≤ (m : Int)) ∧ (∀ s, s ∈ (insV a S T x m).2.1 ∨ s ∈ (insV a S T x m).2.2.1 → s = x ∨ s ∈ S ∨ s ∈ T) ∧
    (x ≠ emp → SK T → (x :: (nz S ++ T)).Nodup → SK (insV a S T x m).2.2.1 ∧ (nz (insV a S T x m).2.1 ++ (insV a S T x m).2.2.1).Perm (x :: (nz S ++ T))) := by
  unfold insV at hy ⊢
  rcases settle_cases h x with ⟨s1, s2, s3⟩ | ⟨i, hi, s0, s1, s2, s3⟩
  · rw [s1, if_neg (by simp)] at hy ⊢
    obtain ⟨p1, p2, p3, p4, p5⟩ := push_ok m x (plc a 0 x S) 0 S (start_at h hp x)
    generalize pushV a m x (plc a 0 x S) 0 S = r at hy p1 p2 p3 p4 p5 ⊢
    obtain ⟨S', o, th⟩ := r
    cases o with
    | none =>
      refine ⟨rfl, p1, p2, hT, ⟨p3.1, by have := p3.2; simp only at this; show th ≤ _; omega⟩, fun s hs => ?_, fun hx hs hn => ⟨hs, ?_⟩⟩
      · rcases hs with q | q
        · rcases p4 s (.inl q) with e | e
          · exact .inl e
          · exact .inr (.inl e)
        · exact .inr (.inr q)
      · exact ((p5 hx).1.append_right T)
    | some y =>
      unfold spcPush at hy ⊢
      by_cases c : (T.length : Int) = 4
      · simp only [if_pos c] at hy; cases hy
      · simp only [if_neg c] at hy ⊢
        have hl := insK_len y T
        refine ⟨trivial, p1, p2, by omega, ⟨p3.1, by have := p3.2; simp only at this; omega⟩, fun s hs => ?_, fun hx hs hn => ⟨insK_sorted hs, ?_⟩⟩
        · rcases hs with q | q
          · rcases p4 s (.inl q) with e | e
            · exact .inl e
            · exact .inr (.inl e)
          · rcases insK_mem.1 q with e | e
            · subst e
              rcases p4 s (.inr rfl) with e | e
              · exact .inl e
              · exact .inr (.inl e)
            · exact .inr (.inr e)
        · have hq : (y :: nz S').Perm (x :: nz S) := (p5 hx).1
          have hN : (y :: (nz S' ++ T)).Nodup := (hq.append_right T).nodup_iff.2 hn
          have hyT : y ∉ T := fun q => (List.nodup_cons.1 hN).1 (List.mem_append_right _ q)
          exact ((insK_perm y hs hyT).append_left (nz S')).trans (List.perm_middle.trans (hq.append_right T))
  · rw [s2, if_pos rfl]
    refine ⟨rfl, by simp, hp.set s1, hT, ⟨Int.le_refl _, by simp⟩, fun s hs => ?_, fun hx hs hn => ⟨hs, ?_⟩⟩
    · rcases hs with q | q
      · rcases List.mem_or_eq_of_mem_set q with e | e
        · exact .inr (.inl e)
        · exact .inl e
      · exact .inr (.inr q)
    · exact (set_in hi hx s0).append_right T
theorem Good.ins (g : Good a S T) {x : ByteArray} (hk : isKeyB x = true) (hf : x ∉ nz S ++ T) (h40 : (nz S ++ T).length < 40) {m : Nat} (hy : (insV a S T x m).2.2.2.2 = true) :
    Good (insV a S T x m).1 (insV a S T x m).2.1 (insV a S T x m).2.2.1 ∧ (nz (insV a S T x m).2.1 ++ (insV a S T x m).2.2.1).Perm (x :: (nz S ++ T)) := by
  obtain ⟨_, hsk, _⟩ := areKeys_iff.1 g.tk
  obtain ⟨q1, q2, q3, q4, q5, q6, q7⟩ := ins_ok g.sz g.plc g.t hy
  have hN : (x :: (nz S ++ T)).Nodup := List.nodup_cons.2 ⟨hf, g.nd⟩
  obtain ⟨r1, r2⟩ := q7 (key_ne hk) hsk hN
  have hkeys : ∀ s ∈ nz (insV a S T x m).2.1 ++ (insV a S T x m).2.2.1, isKeyB s = true := fun s hs => by
    rcases List.mem_cons.1 (r2.mem_iff.1 hs) with e | e
    · rw [e]; exact hk
    · exact g.keys s e
  refine ⟨⟨by rw [q1]; exact g.sd, by rw [q2]; exact g.n, q4, areKeys_iff.2 ⟨fun s hs => hkeys s (List.mem_append_right _ hs), r1, by omega⟩, ?_, r2.nodup_iff.2 hN, by rw [r2.length_eq, List.length_cons]; omega⟩, r2⟩
  rw [q1, q2]
  exact slots_of q3 fun s hs => hkeys s (List.mem_append_left _ hs)
end
end Go.Proofs.YtephjmmkggcmeaaQ.KC
namespace Go.Proofs.YtephjmmkggcmeaaQ.KC
open Go Go.RowKit Go.Proofs.YtephjmmkggcmeaaW.PrintWords Go.Proofs.YtephjmmkggcmeaaW.PrintMore Go.Proofs.YtephjmmkggcmeaaGp Go.Proofs.Ytephjmmkggcmeaa.PG Go.Proofs.YtephjmmkggcmeaaQ

def ofV (a : Int) (m : Nat) : List ByteArray → List ByteArray → List ByteArray → Int × List ByteArray × List ByteArray × Bool
  | [], S, T => (a, S, T, true)
  | x :: t, S, T => if (insV a S T x m).2.2.2.2 = true then ofV a m t (insV a S T x m).2.1 (insV a S T x m).2.2.1 else (0, [], [], false)
structure Rm (a : Int) (S T : List ByteArray) (b : Nat) : Prop where
  sz : Sz a S
  pl : Plc a (S.length : Int) S
  t : T.length ≤ 4
  zs : ∀ x ∈ S, x.size ≤ b
  zt : ∀ x ∈ T, x.size ≤ b
section
variable {a : Int} {S T : List ByteArray} {b : Nat}
theorem Rm.tab (h : Rm a S T b) (hb : b ≤ 1000) : Tab S T := ⟨by have := h.sz.n; omega, by have := h.t; omega, fun x hx => Nat.le_trans (h.zs x hx) hb, fun x hx => Nat.le_trans (h.zt x hx) hb⟩
theorem Rm.ins (h : Rm a S T b) {x : ByteArray} (hx : x.size ≤ b) {m : Nat} (hy : (insV a S T x m).2.2.2.2 = true) : (insV a S T x m).1 = a ∧ (insV a S T x m).2.1.length = S.length ∧ Rm a (insV a S T x m).2.1 (insV a S T x m).2.2.1 b := by
  obtain ⟨q1, q2, q3, q4, q5, q6, _⟩ := ins_ok h.sz h.pl h.t hy
  have hz : ∀ s, s ∈ (insV a S T x m).2.1 ∨ s ∈ (insV a S T x m).2.2.1 → s.size ≤ b := fun s hs => by
    rcases q6 s hs with e | e | e
    · rw [e]; exact hx
    · exact h.zs s e
    · exact h.zt s e
  exact ⟨q1, q2, h.sz.of q2, by rw [q2]; exact q3, q4, fun s hs => hz s (.inl hs), fun s hs => hz s (.inr hs)⟩
theorem Rm.ofV : ∀ (t S T : List ByteArray), Rm a S T b → (∀ x ∈ t, x.size ≤ b) → ∀ m, (ofV a m t S T).2.2.2 = true → (ofV a m t S T).1 = a ∧ (ofV a m t S T).2.1.length = S.length ∧ Rm a (ofV a m t S T).2.1 (ofV a m t S T).2.2.1 b
  | [], S, T, h, _, m, _ => ⟨rfl, rfl, h⟩
  | x :: t, S, T, h, hz, m, hy => by
    simp only [KC.ofV] at hy ⊢
    by_cases c : (insV a S T x m).2.2.2.2 = true
    · rw [if_pos c] at hy ⊢
      obtain ⟨_, i2, i3⟩ := h.ins (hz x (by simp)) c
      obtain ⟨j1, j2, j3⟩ := Rm.ofV t _ _ i3 (fun y hy => hz y (by simp [hy])) m hy
      exact ⟨j1, by rw [j2, i2], j3⟩
    · rw [if_neg c] at hy; cases hy
theorem spec_cuOf_l0 (hb : b ≤ 1000) (X : List ByteArray) (hX : X.length ≤ 1000) (hz : ∀ x ∈ X, x.size ≤ b) {m : Nat} (hm : m ≤ 1000) : ∀ (t pre S T : List ByteArray), X = pre ++ t → Rm a S T b →
    Ev (fun k => spec_cuOf.l0 k (m : Int) X (X.length : Int) (pre.length : Int) a S T) (ofV a m t S T) := by
  intro t
  induction t with
  | nil =>
    intro pre S T e _
    refine ev_succ ?_
    simp only [spec_cuOf.l0, ofV]
    exact ev_neg (by rw [e]; exact not_lt_end) (Ev.now _)
  | cons x t ih =>
    intro pre S T e h
    have hp : pre.length ≤ 1000 := by rw [e, List.length_append] at hX; omega
    have hl : ((pre.length : Nat) : Int) < (X.length : Int) := by rw [e]; exact lt_mid
    have hg : rdOf ByteArray.empty X (pre.length : Int) = x := by rw [e]; exact rdOf_mid
    have hx : x.size ≤ b := hz x (by rw [e]; simp)
    refine ev_succ ?_
    simp only [spec_cuOf.l0, hg, ofV]
    rw [winc (by omega)]
    refine ev_pos hl (ev_pos (by omega) (ev_pos hl (ev_bind _ (spec_cuInsert_f h.sz h.pl (h.tab hb) (by omega) hm) ?_)))
    by_cases c : (insV a S T x m).2.2.2.2 = true
    · obtain ⟨i1, i2, i3⟩ := h.ins hx c
      have IH := ih (pre ++ [x]) _ _ (by rw [e]; simp) i3
      rw [len_one] at IH
      refine ev_pos c ?_
      rw [if_pos c, i1]
      exact IH
    · refine ev_neg c ?_
      rw [if_neg c]
      exact Ev.now _
theorem rm_new (a : Int) (ha : 0 ≤ a ∧ a ≤ 9999) {n : Nat} (h1 : 1 ≤ n) (h2 : n ≤ 64) (b : Nat) : Rm a (List.replicate n emp) [] b := by
  refine ⟨⟨ha, by simp; omega⟩, fun i hi hne => absurd (by simp) hne, by simp, fun x hx => ?_, by simp⟩
  rw [List.eq_of_mem_replicate hx]
  simp [ByteArray.size]
theorem spec_cuOf_f (ha : 0 ≤ a ∧ a ≤ 9999) (hb : b ≤ 1000) {X : List ByteArray} (hX : X.length ≤ 1000) (hz : ∀ x ∈ X, x.size ≤ b) {n m : Nat} (h1 : 1 ≤ n) (h2 : n ≤ 64) (hm : m ≤ 1000) :
    Ev (fun k => spec_cuOf.f k a X (n : Int) (m : Int)) (ofV a m X (List.replicate n emp) []) := by
  unfold spec_cuOf.f
  refine ev_pos (by omega) (ev_pos (by omega) ?_)
  rw [Int.toNat_natCast]
  exact spec_cuOf_l0 hb X hX hz hm X [] _ _ rfl (rm_new a ha h1 h2 b)
end
structure Dt (S T : List ByteArray) : Prop where
  s : 1 ≤ S.length ∧ S.length ≤ 64
  t : T.length ≤ 5
  zs : ∀ x ∈ S, x.size ≤ 13
  zt : ∀ x ∈ T, x.size ≤ 13
theorem Dt.tab {S T : List ByteArray} (h : Dt S T) : Tab S T := ⟨by have := h.s; omega, by have := h.t; omega, fun x hx => by have := h.zs x hx; omega, fun x hx => by have := h.zt x hx; omega⟩
theorem Dt.set {S T : List ByteArray} (h : Dt S T) (i : Nat) {x : ByteArray} (hx : x.size ≤ 13) : Dt (S.set i x) T := by
  refine ⟨by simp; exact h.s, h.t, fun y hy => ?_, h.zt⟩
  rcases List.mem_or_eq_of_mem_set hy with e | e
  · exact h.zs y e
  · rw [e]; exact hx
section
variable {s : List Int} (hs : Bys s)
include hs
theorem ck_j2 {p : Int} (sd : Int) (h0 : 0 ≤ p) (h1 : p ≤ 100000000000000000) (a : Int) (S T : List ByteArray) :
    ∃ a' p' sd', Ev (fun k => spec_l1Cur_cuckoo.j2 k s p sd a S T) (a', S, T, p', sd') ∧ 0 ≤ p' ∧ p' ≤ p + 10 := by
  obtain ⟨v, p1, sd1, e1, q0, q1⟩ := one_ok hs sd 30 h0 (by omega)
  by_cases c : v = true
  · obtain ⟨u, p2, sd2, e2, _, r0, r1⟩ := seed9_ok hs sd1 q0 (by omega)
    refine ⟨u, p2, sd2, ev_succ ?_, r0, by omega⟩
    simp only [spec_l1Cur_cuckoo.j2, e1, e2, Option.bind_some]
    exact ev_pos c (Ev.now _)
  · refine ⟨a, p1, sd1, ev_succ ?_, q0, by omega⟩
    simp only [spec_l1Cur_cuckoo.j2, e1, Option.bind_some]
    exact ev_neg c (Ev.now _)
theorem ck_j1 {p : Int} (sd : Int) (h0 : 0 ≤ p) (h1 : p ≤ 90000000000000000) (a : Int) {S T : List ByteArray} (h : Dt S T) :
    ∃ a' S' p' sd', Ev (fun k => spec_l1Cur_cuckoo.j1 k s p sd a S T) (a', S', T, p', sd') ∧ Dt S' T ∧ 0 ≤ p' ∧ p' ≤ p + 40 := by
  have hl := h.s
  obtain ⟨v, p1, sd1, e1, q0, q1⟩ := one_ok hs sd 12 h0 (by omega)
  by_cases c : v = true
  · obtain ⟨i, p2, sd2, e2, hi, r0, r1⟩ := pick_ok hs sd1 (n := (S.length : Int)) q0 (by omega)
    obtain ⟨x, p3, sd3, e3, hx, t0, t1⟩ := text_ok hs sd2 r0 (by omega)
    have h' := h.set i.toNat hx
    obtain ⟨a', p', sd', e4, u0, u1⟩ := ck_j2 hs sd3 t0 (by omega) a _ _
    refine ⟨a', _, p', sd', ev_succ ?_, h', u0, by omega⟩
    simp only [spec_l1Cur_cuckoo.j1, e1, e2, Option.bind_some]
    exact ev_pos c (ev_bind _ e3 (ev_pos (by omega) (ev_pos (by omega) e4)))
  · obtain ⟨a', p', sd', e4, u0, u1⟩ := ck_j2 hs sd1 q0 (by omega) a _ _
    refine ⟨a', _, p', sd', ev_succ ?_, h, u0, by omega⟩
    simp only [spec_l1Cur_cuckoo.j1, e1, Option.bind_some]
    exact ev_neg c e4
theorem ck_j0 {p : Int} (sd : Int) (h0 : 0 ≤ p) (h1 : p ≤ 80000000000000000) (a : Int) {S T : List ByteArray} (h : Dt S T) (hT : T.length ≤ 4) :
    ∃ a' S' T' p' sd', Ev (fun k => spec_l1Cur_cuckoo.j0 k s p sd a S T) (a', S', T', p', sd') ∧ Dt S' T' ∧ 0 ≤ p' ∧ p' ≤ p + 80 := by
  obtain ⟨v, p1, sd1, e1, q0, q1⟩ := one_ok hs sd 12 h0 (by omega)
  by_cases c : v = true
  · obtain ⟨x, p3, sd3, e3, hx, t0, t1⟩ := text_ok hs sd1 q0 (by omega)
    have h' : Dt S (T ++ [x]) := ⟨h.s, by simp; omega, h.zs, fun y hy => by
      rcases List.mem_append.1 hy with e | e
      · exact h.zt y e
      · rw [List.mem_singleton.1 e]; exact hx⟩
    obtain ⟨a', S', p', sd', e4, h4, u0, u1⟩ := ck_j1 hs sd3 t0 (by omega) a h'
    refine ⟨a', _, _, p', sd', ev_succ ?_, h4, u0, by omega⟩
    simp only [spec_l1Cur_cuckoo.j0, e1, Option.bind_some]
    exact ev_pos c (ev_bind _ e3 (ev_pos (by omega) e4))
  · obtain ⟨a', S', p', sd', e4, h4, u0, u1⟩ := ck_j1 hs sd1 q0 (by omega) a h
    refine ⟨a', _, _, p', sd', ev_succ ?_, h4, u0, by omega⟩
    simp only [spec_l1Cur_cuckoo.j0, e1, Option.bind_some]
    exact ev_neg c e4
theorem cuckoo_ok {p : Int} (sd : Int) (h0 : 0 ≤ p) (h1 : p ≤ 10000000000000000) :
    ∃ a S T p' sd', Ev (fun k => spec_l1Cur_cuckoo.f k s p sd) (a, S, T, p', sd') ∧ Dt S T ∧ 0 ≤ p' ∧ p' ≤ p + 400 := by
  obtain ⟨a, p1, sd1, e1, ha, q0, q1⟩ := pick_ok hs sd (n := 20) h0 (by omega)
  obtain ⟨v, p2, sd2, e2, hv, r0, r1⟩ := among_ok hs sd1 (l := [4, 8, 12]) (by simp) q0 (by omega)
  simp only [List.mem_cons, List.not_mem_nil, or_false] at hv
  obtain ⟨l, p3, sd3, e3, hl, s0, s1⟩ := keys_ok hs sd2 (n := v.toNat) (by omega) r0 (by omega)
  rw [Int.toNat_of_nonneg (by omega)] at e3 s1
  have hl1 := hl.1
  obtain ⟨c, p4, sd4, e4, hc, t0, t1⟩ := pick_ok hs sd3 (n := wrap64 ((l.length : Int) + 6)) s0 (by omega)
  rw [w64 (by omega) (by omega)] at hc
  obtain ⟨m, p5, sd5, e5, hm, u0, u1⟩ := pick_ok hs sd4 (n := 12) t0 (by omega)
  have hof := spec_cuOf_f (a := a) (b := 13) (by omega) (by omega) (X := l) (by omega) hl.2 (n := (1 + c).toNat) (m := m.toNat) (by omega) (by omega) (by omega)
  have hrm := Rm.ofV (b := 13) l _ _ (rm_new a (by omega) (n := (1 + c).toNat) (by omega) (by omega) 13) hl.2 m.toNat
  rw [Int.toNat_of_nonneg (by omega), Int.toNat_of_nonneg (by omega)] at hof
  by_cases y : (ofV a m.toNat l (List.replicate (1 + c).toNat emp) []).2.2.2 = true
  · obtain ⟨o1, o2, o3⟩ := hrm y
    have hd : Dt (ofV a m.toNat l (List.replicate (1 + c).toNat emp) []).2.1 (ofV a m.toNat l (List.replicate (1 + c).toNat emp) []).2.2.1 := ⟨o3.sz.n, by have := o3.t; omega, o3.zs, o3.zt⟩
    obtain ⟨a', S', T', p', sd', e6, h6, v0, v1⟩ := ck_j0 hs sd5 u0 (by omega) (ofV a m.toNat l (List.replicate (1 + c).toNat emp) []).1 hd o3.t
    refine ⟨a', S', T', p', sd', ?_, h6, v0, by omega⟩
    unfold spec_l1Cur_cuckoo.f
    simp only [e1, e2, Option.bind_some]
    refine ev_bind _ e3 ?_
    simp only [e4, e5, Option.bind_some]
    rw [w64 (x := 1 + c) (by omega) (by omega)]
    exact ev_bind _ hof (ev_pos y e6)
  · obtain ⟨g, p6, sd6, e6, hg, w0, w1⟩ := pick_ok hs sd5 (n := 9) u0 (by omega)
    have hd := (rm_new a (by omega) (n := (1 + g).toNat) (by omega) (by omega) 13)
    obtain ⟨a', S', T', p', sd', e7, h7, v0, v1⟩ := ck_j0 hs sd6 w0 (by omega) a (S := List.replicate (1 + g).toNat emp) (T := []) ⟨hd.sz.n, by simp, hd.zs, hd.zt⟩ (by simp)
    refine ⟨a', S', T', p', sd', ?_, h7, v0, by omega⟩
    unfold spec_l1Cur_cuckoo.f
    simp only [e1, e2, Option.bind_some]
    refine ev_bind _ e3 ?_
    simp only [e4, e5, Option.bind_some]
    rw [w64 (x := 1 + c) (by omega) (by omega)]
    refine ev_bind _ hof (ev_neg y ?_)
    simp only [e6, Option.bind_some]
    rw [w64 (x := 1 + g) (by omega) (by omega)]
    exact ev_pos (by omega) (ev_pos (by omega) e7)
theorem draw_find : ∃ a S T key, Ev (fun k => spec_DrawCuckooFind.f k s) (a, S, T, key) ∧ Dt S T ∧ key.size ≤ 13 := by
  obtain ⟨a, S, T, p, sd, e, h, q0, q1⟩ := cuckoo_ok hs (p := 0) 0 (by omega) (by omega)
  have hc := spec_cuAll_f a h.tab
  obtain ⟨_, hm⟩ := setK_ok (nz (S ++ T)) [] List.Pairwise.nil
  generalize setK (nz (S ++ T)) [] = M at hc hm
  have text : ∀ (p sd : Int), 0 ≤ p → p ≤ 10000 → ∃ key, Ev (fun k => spec_DrawCuckooFind.j0 k M false s p sd a S T) (a, S, T, key) ∧ key.size ≤ 13 := by
    intro p sd h0 h1
    obtain ⟨x, p3, sd3, e3, hx, t0, t1⟩ := text_ok hs sd h0 (by omega)
    refine ⟨x, ev_succ ?_, hx⟩
    simp only [spec_DrawCuckooFind.j0]
    exact ev_neg (by simp) (ev_bind _ e3 (Ev.now _))
  unfold spec_DrawCuckooFind.f
  by_cases c : (M.length : Int) > 0
  · obtain ⟨v, p1, sd1, e1, r0, r1⟩ := one_ok hs sd 2 q0 (by omega)
    cases v with
    | false =>
      obtain ⟨key, e2, hk⟩ := text p1 sd1 r0 (by omega)
      refine ⟨a, S, T, key, ev_bind _ e (ev_bind _ hc (ev_pos c ?_)), h, hk⟩
      simp only [e1, Option.bind_some]
      exact e2
    | true =>
      obtain ⟨x, p2, sd2, e2, hx, t0, t1⟩ := of_ok hs sd1 (l := M) (by omega) r0 (by omega)
      refine ⟨a, S, T, x, ev_bind _ e (ev_bind _ hc (ev_pos c ?_)), h, ?_⟩
      · simp only [e1, Option.bind_some]
        refine ev_succ ?_
        simp only [spec_DrawCuckooFind.j0, e2, Option.bind_some]
        exact ev_pos (by trivial) (Ev.now _)
      · rcases (hm x).1 hx with q | q
        · cases q
        · rcases List.mem_append.1 (nz_mem.1 q).1 with q | q
          · exact h.zs x q
          · exact h.zt x q
  · obtain ⟨key, e2, hk⟩ := text p sd q0 (by omega)
    exact ⟨a, S, T, key, ev_bind _ e (ev_bind _ hc (ev_neg c e2)), h, hk⟩
theorem draw_unst_l0 : ∀ (n : Nat) (p sd a : Int) (S T : List ByteArray), Dt S T → 0 ≤ p → p + 2 * (n : Int) ≤ 100000 →
    ∃ S', Ev (fun k => spec_DrawCuckooUnstash.l0 k (n : Int) s p sd a S T) (a, S', T) ∧ Dt S' T := by
  intro n
  induction n with
  | zero =>
    intro p sd a S T h _ _
    refine ⟨S, ev_succ ?_, h⟩
    simp only [spec_DrawCuckooUnstash.l0]
    exact ev_neg (by omega) (Ev.now _)
  | succ n ih =>
    intro p sd a S T h h0 h1
    have hl := h.s
    obtain ⟨i, p2, sd2, e2, hi, r0, r1⟩ := pick_ok hs sd (n := (S.length : Int)) h0 (by omega)
    obtain ⟨S', e3, h3⟩ := ih p2 sd2 a (S.set i.toNat emp) T (h.set i.toNat (by simp [ByteArray.size])) r0 (by omega)
    refine ⟨S', ev_succ ?_, h3⟩
    simp only [spec_DrawCuckooUnstash.l0, e2, Option.bind_some]
    rw [wdec (by omega)]
    exact ev_pos (by omega) (ev_pos (by omega) (ev_pos (by omega) e3))
theorem draw_unst : ∃ a S T, Ev (fun k => spec_DrawCuckooUnstash.f k s) (a, S, T) ∧ Dt S T := by
  obtain ⟨a, S, T, p, sd, e, h, q0, q1⟩ := cuckoo_ok hs (p := 0) 0 (by omega) (by omega)
  obtain ⟨n, p2, sd2, e2, hn, r0, r1⟩ := pick_ok hs sd (n := 6) q0 (by omega)
  obtain ⟨S', e3, h3⟩ := draw_unst_l0 hs n.toNat p2 sd2 a S T h r0 (by omega)
  rw [Int.toNat_of_nonneg (by omega)] at e3
  refine ⟨a, S', T, ?_, h3⟩
  unfold spec_DrawCuckooUnstash.f
  refine ev_bind _ e ?_
  simp only [e2, Option.bind_some]
  exact e3
end
end Go.Proofs.YtephjmmkggcmeaaQ.KC
namespace Go.Proofs.YtephjmmkggcmeaaQ
open Go Go.RowKit Go.Proofs.YtephjmmkggcmeaaW.PrintWords Go.Proofs.YtephjmmkggcmeaaGp Go.Proofs.Ytephjmmkggcmeaa.PG

namespace LW
theorem hasT_l0 (x0 : List ByteArray) (a : ByteArray) (hl : (x0.length : Int) ≤ 9223372036854775806) : ∀ (t pre : List ByteArray), x0 = pre ++ t →
    Ev (fun k => laws_rHasText.l0 k a x0 (x0.length : Int) (pre.length : Int)) (hasS t a) := by
  intro t
  induction t with
  | nil =>
    intro pre h
    refine ev_succ ?_
    simp only [laws_rHasText.l0]
    exact ev_neg (by rw [h]; exact not_lt_end) (ev_some (by simp [hasS]))
  | cons x t ih =>
    intro pre h
    have hm : ((pre.length : Nat) : Int) < (x0.length : Int) := by rw [h]; exact lt_mid
    have hg : rdOf ByteArray.empty x0 (pre.length : Int) = x := by rw [h]; exact rdOf_mid
    refine ev_succ ?_
    simp only [laws_rHasText.l0, hg, tl_inj]
    refine ev_pos hm (ev_pos (by omega) (ev_pos hm ?_))
    by_cases c : x = a
    · exact ev_pos c (ev_some (by simp [hasS, c]))
    · refine ev_neg c ?_
      rw [winc (by omega)]
      have := ih (pre ++ [x]) (by rw [h]; simp)
      rw [len_one] at this
      have e : hasS (x :: t) a = hasS t a := by simp [hasS, c]
      rw [e]
      exact this
theorem hasT_f (l : List ByteArray) (a : ByteArray) (hl : (l.length : Int) ≤ 9223372036854775806) : Ev (fun k => laws_rHasText.f k l a) (hasS l a) := by
  unfold laws_rHasText.f
  exact hasT_l0 l a hl l [] rfl
theorem sameT_l0 (x0 y0 : List ByteArray) (hl : (x0.length : Int) ≤ 9223372036854775806) (hy : y0.length = x0.length) : ∀ (t pre u pru : List ByteArray), x0 = pre ++ t → y0 = pru ++ u → pru.length = pre.length →
    Ev (fun k => laws_pSameTexts.l0 k x0 y0 (x0.length : Int) (pre.length : Int)) (decide (t = u)) := by
  intro t
  induction t with
  | nil =>
    intro pre u pru h h2 hp
    have : u = [] := by
      have e1 : y0.length = pru.length + u.length := by rw [h2]; simp
      have e2 : x0.length = pre.length := by rw [h]; simp
      exact List.length_eq_zero_iff.1 (by omega)
    subst this
    refine ev_succ ?_
    simp only [laws_pSameTexts.l0]
    exact ev_neg (by rw [h]; exact not_lt_end) (ev_some (by simp))
  | cons x t ih =>
    intro pre u pru h h2 hp
    have hm : ((pre.length : Nat) : Int) < (x0.length : Int) := by rw [h]; exact lt_mid
    have hg : rdOf ByteArray.empty x0 (pre.length : Int) = x := by rw [h]; exact rdOf_mid
    cases u with
    | nil =>
      have e1 : y0.length = pru.length := by rw [h2]; simp
      omega
    | cons y u =>
      have hg2 : rdOf ByteArray.empty y0 (pre.length : Int) = y := by rw [h2, ← hp]; exact rdOf_mid
      refine ev_succ ?_
      simp only [laws_pSameTexts.l0, hg, hg2, tl_inj]
      by_cases c : x = y
      · subst c
        have := ih (pre ++ [x]) u (pru ++ [x]) (by rw [h]; simp) (by rw [h2]; simp) (by simp [hp])
        rw [len_one] at this
        rw [show decide (x :: t = x :: u) = decide (t = u) from by simp, winc (by omega)]
        exact ev_pos hm (ev_pos (by omega) (ev_pos hm (ev_pos (by omega) (ev_pos rfl this))))
      · rw [decide_eq_false (fun e => c (List.cons.inj e).1)]
        exact ev_pos hm (ev_pos (by omega) (ev_pos hm (ev_pos (by omega) (ev_neg c (Ev.now _)))))
theorem sameT_f (l l' : List ByteArray) (hl : (l.length : Int) ≤ 9223372036854775806) : Ev (fun k => laws_pSameTexts.f k l l') (decide (l = l')) := by
  unfold laws_pSameTexts.f
  by_cases h : l'.length = l.length
  · exact ev_pos (by omega) (sameT_l0 l l' hl h l [] l' [] rfl rfl rfl)
  · exact ev_neg (by omega) (ev_some (decide_eq_false (fun e => h (by rw [e]))).symm)
end LW
end Go.Proofs.YtephjmmkggcmeaaQ
namespace Go.Proofs.YtephjmmkggcmeaaQ.KC
open Go Go.RowKit Go.Proofs.YtephjmmkggcmeaaW.PrintWords Go.Proofs.YtephjmmkggcmeaaW.PrintMore Go.Proofs.YtephjmmkggcmeaaGp Go.Proofs.Ytephjmmkggcmeaa.PG Go.Proofs.YtephjmmkggcmeaaQ

theorem rSameCk (a : Int) {S T : List ByteArray} (h : Tab S T) : Ev (fun k => laws_rSameCuckoo.f k a S T a S T) true := by
  have h1 := h.s
  have h2 := h.t
  have e1 := LW.sameT_f S S (by omega)
  have e2 := LW.sameT_f T T (by omega)
  rw [decide_eq_true rfl] at e1 e2
  unfold laws_rSameCuckoo.f
  exact ev_pos rfl (ev_bind _ e1 (ev_pos rfl (ev_bind _ e2 (Ev.now _))))
theorem tab_nil : Tab [] [] := ⟨by simp, by simp, by simp, by simp⟩
section
variable {a : Int} {S T : List ByteArray}
theorem keys_good (g : Good a S T) : Ev (fun k => impl_CuckooKeys.f k a S T) (sortS (nz S ++ T), true) := by
  have := impl_CuckooKeys_f (a := a) g.tab
  rwa [if_pos (good_iff.2 g)] at this
theorem is_good (g : Good a S T) : Ev (fun k => impl_IsCuckoo.f k a S T) true := by
  have := impl_IsCuckoo_f (a := a) g.tab
  rwa [good_iff.2 g] at this
theorem sorted_len (g : Good a S T) : (sortS (nz S ++ T)).length ≤ 40 := by
  rw [(sortS_perm _).length_eq]; exact g.le
theorem has_sorted (g : Good a S T) {s : ByteArray} (h : s ∈ nz S ++ T) : Ev (fun k => laws_rHasText.f k (sortS (nz S ++ T)) s) true := by
  have hl := sorted_len g
  have := LW.hasT_f (sortS (nz S ++ T)) s (by omega)
  rwa [hasS_iff.2 ((sortS_perm _).mem_iff.2 h)] at this
theorem same_texts {l m : List ByteArray} (hl : l.length ≤ 1000) (h : l = m) : Ev (fun k => laws_pSameTexts.f k l m) true := by
  have := LW.sameT_f l m (by omega)
  rwa [decide_eq_true h] at this
end
end Go.Proofs.YtephjmmkggcmeaaQ.KC
namespace Go.Proofs.Ytephjmmkggcmeaa.Pure
open Go Go.RowKit Go.Proofs.YtephjmmkggcmeaaW.PrintWords Go.Proofs.YtephjmmkggcmeaaW.PrintMore Go.Proofs.YtephjmmkggcmeaaGp Go.Proofs.Ytephjmmkggcmeaa.PG Go.Proofs.YtephjmmkggcmeaaQ Go.Proofs.YtephjmmkggcmeaaQ.KC

theorem cf_j1 {l1 : List Int} (hs : Bys l1) : Ev (fun k => laws_FnCuckooFinds.j1 k l1) true := by
  obtain ⟨a, S, T, e, h⟩ := draw_unst hs
  have ht := h.tab
  refine ev_succ ?_
  simp only [laws_FnCuckooFinds.j1]
  refine ev_bind _ e (ev_bind _ (impl_CuckooUnstash_f ht) (ev_bind _ (spec_CuckooUnstash_f ht) (ev_neg (by simp) ?_)))
  by_cases c : goodB a S T = true
  · have g := good_iff.1 c
    obtain ⟨g1, g2, g3⟩ := g.unst
    simp only [if_pos c]
    refine ev_bind _ (rSameCk a g1.tab) (ev_succ ?_)
    simp only [laws_FnCuckooFinds.j2]
    have hl := sorted_len g
    exact ev_neg (by simp) (ev_pos (by trivial) (ev_bind _ (keys_good g) (ev_bind _ (keys_good g1) (ev_pos rfl (ev_pos rfl (ev_bind _ (same_texts (by show (sortS (nz S ++ T)).length ≤ 1000; omega) (sortS_eq g2.symm g.nd)) (ev_pos rfl (ev_pos (by omega) (ev_bind _ (is_good g1) (Ev.now _))))))))))
  · simp only [if_neg c]
    refine ev_bind _ (rSameCk 0 tab_nil) (ev_succ ?_)
    simp only [laws_FnCuckooFinds.j2]
    exact ev_neg (by simp) (ev_neg (by simp) (Ev.now _))
theorem FnCuckooFinds : laws_FnCuckooFinds.Pure := by
  intro l0 l1 a0 a1 a2 b0 b1 b2
  refine Ev.rounds (r := true) ?_
  unfold laws_FnCuckooFinds.f
  obtain ⟨bg, eb, hb⟩ := big_f a0 b0
  rw [eb]
  simp only [Option.bind_some]
  by_cases c : bg = true
  · exact ev_pos c (Ev.now _)
  have hbb := hb (by simpa using c)
  have hs := bys hbb.1 a2
  have hs1 := bys hbb.2 b2
  obtain ⟨a, S, T, key, e, h, hk⟩ := draw_find hs
  have ht := h.tab
  have f1 := impl_CuckooFind_f a ht key (by omega)
  have f2 := spec_CuckooFind_f a ht key (by omega)
  have r1 := impl_CuckooRemove_f a ht key (by omega)
  have r2 := spec_CuckooRemove_f a ht key (by omega)
  refine ev_neg c (ev_bind _ e (ev_bind _ f1 (ev_bind _ f2 (ev_bind _ r1 (ev_bind _ r2 (ev_neg (by simp) (ev_pos rfl (ev_neg (by simp) ?_))))))))
  unfold remV
  by_cases d : (fndV a S T key).2 = true
  · obtain ⟨g, hkey, hm, _⟩ := fndV_yes d
    have g1 := g.rem key
    have hf := impl_CuckooFind_f a g1.tab key (by omega)
    rw [fndV_not (rem_not (key_ne hkey))] at hf
    simp only [if_pos d]
    refine ev_bind _ (rSameCk a g1.tab) (ev_pos rfl (ev_succ ?_))
    simp only [laws_FnCuckooFinds.j0, d]
    exact ev_neg (by simp) (ev_pos (by trivial) (ev_bind _ (keys_good g) (ev_bind _ hf (ev_pos rfl (ev_neg (by simp) (ev_bind _ (has_sorted g ((mem_all (key_ne hkey)).1 hm)) (ev_pos rfl (cf_j1 hs1))))))))
  · simp only [if_neg d]
    refine ev_bind _ (rSameCk 0 tab_nil) (ev_pos rfl (ev_succ ?_))
    simp only [laws_FnCuckooFinds.j0, Bool.eq_false_iff.2 d]
    exact ev_neg (by simp) (ev_neg (by simp) (cf_j1 hs1))
end Go.Proofs.Ytephjmmkggcmeaa.Pure
