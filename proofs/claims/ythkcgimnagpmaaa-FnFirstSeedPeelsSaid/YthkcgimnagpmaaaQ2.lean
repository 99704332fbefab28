/- Keys: what IsKey and AreKeys come to, in the program and in the reference. -/
import Derived.Test.YthkcgimnagpmaaaPAx2
import Derived.Test.YthkcgimnagpmaaaPAx9
import Derived.Test.YthkcgimnagpmaaaQ0
namespace Go.Proofs.YthkcgimnagpmaaaQ
open Go Go.RowKit Go.Proofs.YthkcgimnagpmaaaW.PrintWords Go.Proofs.YthkcgimnagpmaaaGp Go.Proofs.Ythkcgimnagpmaaa.PA

theorem spec_in (n a b : Int) : spec_l1In.f n a b = some (decide (a ≤ n ∧ n ≤ b)) := by
  unfold spec_l1In.f
  by_cases h : a ≤ n <;> by_cases h' : n ≤ b <;> simp [h, h']
theorem impl_in (n a b : Int) : impl_in.f n a b = some (decide (a ≤ n ∧ n ≤ b)) := by
  unfold impl_in.f
  by_cases h : a ≤ n <;> by_cases h' : n ≤ b <;> simp [h, h']

/-! ### one key -/
def byteOk (c : UInt8) : Bool := decide (33 ≤ (c.toNat : Int) ∧ (c.toNat : Int) ≤ 125)
def isKeyB (s : ByteArray) : Bool := s.data.toList.all byteOk && decide (1 ≤ (s.size : Int) ∧ (s.size : Int) ≤ 12)
theorem spec_IsKey_l0 (x0 : ByteArray) (hz : (x0.size : Int) ≤ 9223372036854775806) : ∀ (t pre : List UInt8), x0.data.toList = pre ++ t →
    Ev (fun k => spec_IsKey.l0 k x0 (pre.length : Int)) (t.all byteOk && decide (1 ≤ (x0.size : Int) ∧ (x0.size : Int) ≤ 12)) := by
  intro t
  induction t with
  | nil =>
    intro pre h
    refine ev_succ ?_
    simp only [spec_IsKey.l0, spec_in, Option.bind_some]
    exact ev_neg (not_lt_size h) (ev_some (by simp))
  | cons c t ih =>
    intro pre h
    have hm := lt_size h
    refine ev_succ ?_
    simp only [spec_IsKey.l0, bt_mid h]
    refine ev_pos hm (ev_pos (by omega) ?_)
    by_cases c1 : (c.toNat : Int) < 33
    · exact ev_pos c1 (ev_some (by simp [byteOk]; omega))
    · refine ev_neg c1 ?_
      by_cases c2 : (c.toNat : Int) > 125
      · exact ev_pos c2 (ev_some (by simp [byteOk]; omega))
      · refine ev_neg c2 ?_
        rw [winc (by omega)]
        have := ih (pre ++ [c]) (by rw [h]; simp)
        rw [len_one] at this
        have hb : byteOk c = true := by simp [byteOk]; omega
        simpa [hb] using this
theorem spec_IsKey_f (s : ByteArray) (hz : (s.size : Int) ≤ 9223372036854775806) : Ev (fun k => spec_IsKey.f k s) (isKeyB s) := by
  unfold spec_IsKey.f
  exact spec_IsKey_l0 s hz s.data.toList [] rfl
theorem impl_IsKey_l0 (x0 : ByteArray) (hz : (x0.size : Int) ≤ 9223372036854775806) : ∀ (t pre : List UInt8), x0.data.toList = pre ++ t →
    Ev (fun k => impl_IsKey.l0 k x0 (x0.size : Int) (pre.length : Int)) (t.all byteOk && decide (1 ≤ (x0.size : Int) ∧ (x0.size : Int) ≤ 12)) := by
  intro t
  induction t with
  | nil =>
    intro pre h
    refine ev_succ ?_
    simp only [impl_IsKey.l0, impl_in, Option.bind_some]
    exact ev_neg (not_lt_size h) (ev_some (by simp))
  | cons c t ih =>
    intro pre h
    have hm := lt_size h
    refine ev_succ ?_
    simp only [impl_IsKey.l0, bt_mid h]
    refine ev_pos hm (ev_pos (by omega) (ev_pos hm ?_))
    by_cases c1 : (c.toNat : Int) < 33
    · exact ev_pos c1 (ev_some (by simp [byteOk]; omega))
    · refine ev_neg c1 ?_
      by_cases c2 : (c.toNat : Int) > 125
      · exact ev_pos c2 (ev_some (by simp [byteOk]; omega))
      · refine ev_neg c2 ?_
        rw [winc (by omega)]
        have := ih (pre ++ [c]) (by rw [h]; simp)
        rw [len_one] at this
        have hb : byteOk c = true := by simp [byteOk]; omega
        simpa [hb] using this
theorem impl_IsKey_f (s : ByteArray) (hz : (s.size : Int) ≤ 9223372036854775806) : Ev (fun k => impl_IsKey.f k s) (isKeyB s) := by
  unfold impl_IsKey.f
  exact impl_IsKey_l0 s hz s.data.toList [] rfl
theorem isKeyB_size {s : ByteArray} (h : isKeyB s = true) : 1 ≤ s.size ∧ s.size ≤ 12 := by
  simp [isKeyB] at h
  omega

/-! ### lists of keys -/
/-- The rest of a list of keys behind the last one of those before. -/
def keysFrom : Option ByteArray → List ByteArray → Bool
  | _, [] => true
  | p, s :: t => isKeyB s && (match p with | none => true | some q => lessS q s) && keysFrom (some s) t
def areKeysB (l : List ByteArray) : Bool := keysFrom none l && decide ((l.length : Int) ≤ 40)
/-- The last one of a list. -/
def lastOf (pre : List ByteArray) : Option ByteArray := pre.getLast?
theorem lastOf_one (pre : List ByteArray) (s : ByteArray) : lastOf (pre ++ [s]) = some s := by simp [lastOf]
theorem lastOf_nil : lastOf [] = none := rfl
theorem last_split {pre : List ByteArray} (h : 0 < pre.length) : ∃ q p, pre = q ++ [p] := by
  obtain ⟨x, hx⟩ : ∃ x, pre.getLast? = some x := by
    cases hp : pre.getLast? with
    | none => rw [List.getLast?_eq_none_iff] at hp; subst hp; simp at h
    | some x => exact ⟨x, rfl⟩
  obtain ⟨q, hq⟩ := List.getLast?_eq_some_iff.1 hx
  exact ⟨q, x, hq⟩

theorem spec_biKeys_l0 (x0 : List ByteArray) (hl : (x0.length : Int) ≤ 9223372036854775806) : ∀ (t pre : List ByteArray), x0 = pre ++ t → (∀ s ∈ t, (s.size : Int) ≤ 9223372036854775806) →
    Ev (fun k => spec_biKeys.l0 k x0 x0 (x0.length : Int) (pre.length : Int)) (keysFrom (lastOf pre) t && decide ((x0.length : Int) ≤ 40)) := by
  intro t
  induction t with
  | nil =>
    intro pre h hs
    refine ev_succ ?_
    simp only [spec_biKeys.l0]
    exact ev_neg (by rw [h]; exact not_lt_end) (ev_some (by simp [keysFrom]))
  | cons s t ih =>
    intro pre h hs
    have hm : ((pre.length : Nat) : Int) < (x0.length : Int) := by rw [h]; exact lt_mid
    have hg : rdOf ByteArray.empty x0 (pre.length : Int) = s := by rw [h]; exact rdOf_mid
    have next := ih (pre ++ [s]) (by rw [h]; simp) (fun x hx => hs x (by simp [hx]))
    rw [len_one, lastOf_one] at next
    refine ev_succ ?_
    simp only [spec_biKeys.l0, hg]
    refine ev_pos hm (ev_pos (by omega) (ev_pos hm (ev_bind _ (spec_IsKey_f s (hs s (by simp))) ?_)))
    cases hk : isKeyB s with
    | false => exact ev_neg (by simp) (ev_some (by simp [keysFrom, hk]))
    | true =>
      refine ev_pos rfl ?_
      by_cases c : 0 < pre.length
      · obtain ⟨q, p, rfl⟩ := last_split c
        have hp : rdOf ByteArray.empty x0 ((q.length : Nat) : Int) = p := by rw [h]; exact rdOf_last
        have hw : wrap64 (((q ++ [p]).length : Int) - 1) = (q.length : Int) := by rw [len_one]; exact wdec (by simp at hm; omega)
        simp only [hw, hp, lastOf_one, keysFrom, hk, Bool.true_and]
        refine ev_pos (by omega) (ev_pos (by omega) (ev_pos (by simp at hm; omega) ?_))
        by_cases c2 : lessS p s = true
        · refine ev_pos c2 ?_
          rw [winc (by omega), c2, Bool.true_and]
          exact next
        · refine ev_neg c2 (ev_some ?_)
          simp only [Bool.not_eq_true] at c2
          simp [c2]
      · obtain rfl := List.length_eq_zero_iff.1 (show pre.length = 0 by omega)
        refine ev_neg (by simp) ?_
        rw [winc (by omega)]
        simp only [lastOf_nil, keysFrom, hk, Bool.true_and]
        exact next
theorem spec_biKeys_f (l : List ByteArray) (hl : (l.length : Int) ≤ 9223372036854775806) (hs : ∀ s ∈ l, (s.size : Int) ≤ 9223372036854775806) : Ev (fun k => spec_biKeys.f k l) (areKeysB l) := by
  unfold spec_biKeys.f
  exact spec_biKeys_l0 l hl l [] rfl hs
theorem impl_AreKeys_l0 (x0 : List ByteArray) (hl : (x0.length : Int) ≤ 9223372036854775806) : ∀ (t pre : List ByteArray), x0 = pre ++ t → (∀ s ∈ t, (s.size : Int) ≤ 9223372036854775806) →
    Ev (fun k => impl_AreKeys.l0 k x0 x0 (x0.length : Int) (pre.length : Int)) (keysFrom (lastOf pre) t && decide ((x0.length : Int) ≤ 40)) := by
  intro t
  induction t with
  | nil =>
    intro pre h hs
    refine ev_succ ?_
    simp only [impl_AreKeys.l0]
    exact ev_neg (by rw [h]; exact not_lt_end) (ev_some (by simp [keysFrom]))
  | cons s t ih =>
    intro pre h hs
    have hm : ((pre.length : Nat) : Int) < (x0.length : Int) := by rw [h]; exact lt_mid
    have hg : rdOf ByteArray.empty x0 (pre.length : Int) = s := by rw [h]; exact rdOf_mid
    have next := ih (pre ++ [s]) (by rw [h]; simp) (fun x hx => hs x (by simp [hx]))
    rw [len_one, lastOf_one] at next
    refine ev_succ ?_
    simp only [impl_AreKeys.l0, hg]
    refine ev_pos hm (ev_pos (by omega) (ev_pos hm (ev_bind _ (impl_IsKey_f s (hs s (by simp))) ?_)))
    cases hk : isKeyB s with
    | false => exact ev_neg (by simp) (ev_some (by simp [keysFrom, hk]))
    | true =>
      refine ev_pos rfl ?_
      by_cases c : 0 < pre.length
      · obtain ⟨q, p, rfl⟩ := last_split c
        have hp : rdOf ByteArray.empty x0 ((q.length : Nat) : Int) = p := by rw [h]; exact rdOf_last
        have hw : wrap64 (((q ++ [p]).length : Int) - 1) = (q.length : Int) := by rw [len_one]; exact wdec (by simp at hm; omega)
        simp only [hw, hp, lastOf_one, keysFrom, hk, Bool.true_and]
        refine ev_pos (by omega) (ev_pos (by omega) (ev_pos (by simp at hm; omega) ?_))
        by_cases c2 : lessS p s = true
        · refine ev_pos c2 ?_
          rw [winc (by omega), c2, Bool.true_and]
          exact next
        · refine ev_neg c2 (ev_some ?_)
          simp only [Bool.not_eq_true] at c2
          simp [c2]
      · obtain rfl := List.length_eq_zero_iff.1 (show pre.length = 0 by omega)
        refine ev_neg (by simp) ?_
        rw [winc (by omega)]
        simp only [lastOf_nil, keysFrom, hk, Bool.true_and]
        exact next
theorem impl_AreKeys_f (l : List ByteArray) (hl : (l.length : Int) ≤ 9223372036854775806) (hs : ∀ s ∈ l, (s.size : Int) ≤ 9223372036854775806) : Ev (fun k => impl_AreKeys.f k l) (areKeysB l) := by
  unfold impl_AreKeys.f
  exact impl_AreKeys_l0 l hl l [] rfl hs
theorem areKeysB_len {l : List ByteArray} (h : areKeysB l = true) : l.length ≤ 40 := by
  simp [areKeysB] at h
  omega
theorem keysFrom_all : ∀ (p : Option ByteArray) (l : List ByteArray), keysFrom p l = true → ∀ s ∈ l, isKeyB s = true
  | _, [], _, s, h => by simp at h
  | p, x :: t, hk, s, h => by
    simp only [keysFrom, Bool.and_eq_true] at hk
    rcases List.mem_cons.1 h with rfl | h
    · exact hk.1.1
    · exact keysFrom_all _ t hk.2 s h
theorem areKeysB_all {l : List ByteArray} (h : areKeysB l = true) : ∀ s ∈ l, isKeyB s = true := by
  simp only [areKeysB, Bool.and_eq_true] at h
  exact keysFrom_all _ _ h.1
theorem areKeysB_from {l : List ByteArray} (h : areKeysB l = true) : keysFrom none l = true := by
  simp only [areKeysB, Bool.and_eq_true] at h
  exact h.1
/-- All behind a key are greater. -/
theorem keysFrom_less : ∀ (q : ByteArray) (l : List ByteArray), keysFrom (some q) l = true → ∀ s ∈ l, lessS q s = true
  | _, [], _, s, h => by simp at h
  | q, x :: t, hk, s, h => by
    simp only [keysFrom, Bool.and_eq_true] at hk
    rcases List.mem_cons.1 h with rfl | h
    · exact hk.1.2
    · exact lessS_trans hk.1.2 (keysFrom_less x t hk.2 s h)
end Go.Proofs.YthkcgimnagpmaaaQ
