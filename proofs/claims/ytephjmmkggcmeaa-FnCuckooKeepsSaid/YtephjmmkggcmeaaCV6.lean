import Derived.Test.YtephjmmkggcmeaaCV0
import Derived.Test.YtephjmmkggcmeaaCV1
import Derived.Lib.Bytes
import Derived.Test.YtephjmmkggcmeaaCV2
import Derived.Test.YtephjmmkggcmeaaCV3
import Derived.Test.YtephjmmkggcmeaaCV5
import Derived.Test.YtephjmmkggcmeaaCV4
namespace Go.Proofs.YtephjmmkggcmeaaQ
open Go Go.RowKit Go.Proofs.YtephjmmkggcmeaaW.PrintWords Go.Proofs.YtephjmmkggcmeaaGp

theorem ev_succ {α : Type} {g : Nat → Option α} {r : α} (h : Ev (fun k => g (k + 1)) r) : Ev g r := Ev.step (f := fun k => g (k + 1)) (fun _ => rfl) h
theorem ev_some {α : Type} {a r : α} (h : a = r) : Ev (fun _ => some a) r := h ▸ Ev.now a
theorem ev_pos {α : Type} {c : Prop} [Decidable c] {f g : Nat → Option α} {r : α} (h : c) (k : Ev f r) : Ev (fun n => if c then f n else g n) r := by simpa only [if_pos h] using k
theorem ev_neg {α : Type} {c : Prop} [Decidable c] {f g : Nat → Option α} {r : α} (h : ¬ c) (k : Ev g r) : Ev (fun n => if c then f n else g n) r := by simpa only [if_neg h] using k
theorem ev_bind {α β : Type} {g : Nat → Option α} {f : Nat → α → Option β} {r : β} (a : α) (h : Ev g a) (k : Ev (fun n => f n a) r) : Ev (fun n => (g n).bind (f n)) r := Ev.bind h k
theorem w64 {x : Int} (h0 : -9223372036854775808 ≤ x) (h1 : x ≤ 9223372036854775807) : wrap64 x = x := by unfold wrap64; omega
theorem winc {i : Nat} (h : (i : Int) < 9223372036854775807) : wrap64 ((i : Int) + 1) = ((i + 1 : Nat) : Int) := by unfold wrap64; omega
theorem wdec {i : Nat} (h : (i : Int) < 9223372036854775807) : wrap64 (((i + 1 : Nat) : Int) - 1) = (i : Int) := by unfold wrap64; omega
theorem maxLen_eq : maxLen = 9223372036854775807 := by unfold maxLen; rfl
section
variable {α : Type} {d : α} {pre t : List α} {s : α}
theorem rdOf_mid : rdOf d (pre ++ s :: t) ((pre.length : Nat) : Int) = s := by simp [rdOf]
theorem rdOf_last {p : α} : rdOf d ((pre ++ [p]) ++ s :: t) ((pre.length : Nat) : Int) = p := by simp [rdOf]
theorem rdOf_get {xs : List α} {i : Nat} (h : i < xs.length) : rdOf d xs (i : Int) = xs[i] := by simp [rdOf, h]
theorem lt_mid : ((pre.length : Nat) : Int) < ((pre ++ s :: t).length : Int) := by simp; omega
theorem not_lt_end : ¬ ((pre.length : Nat) : Int) < ((pre ++ ([] : List α)).length : Int) := by simp
theorem len_one : ((pre ++ [s]).length : Int) = ((pre.length + 1 : Nat) : Int) := by simp
end
theorem tl (s : ByteArray) : s.toList = s.data.toList := Lib.toList_data s
theorem tl_inj {x y : ByteArray} : x.toList = y.toList ↔ x = y := by
  rw [tl, tl]
  exact ⟨fun h => ByteArray.ext (Array.toList_inj.1 h), fun h => h ▸ rfl⟩
theorem size_len (s : ByteArray) : s.size = s.data.toList.length := (data_length s).symm
theorem bt_mid {s : ByteArray} {pre t : List UInt8} {c : UInt8} (h : s.data.toList = pre ++ c :: t) : bt s ((pre.length : Nat) : Int) = (c.toNat : Int) := by
  have hs : pre.length < s.size := by rw [size_len, h]; simp
  have hg : s[pre.length]'hs = c := by
    have : s.data.toList[pre.length]'(by rw [h]; simp) = c := by simp [h]
    rw [← this]; rfl
  unfold bt
  rw [dif_pos (by simpa using hs)]
  simp only [Int.toNat_natCast, hg]
theorem lt_size {s : ByteArray} {pre t : List UInt8} {c : UInt8} (h : s.data.toList = pre ++ c :: t) : ((pre.length : Nat) : Int) < (s.size : Int) := by rw [size_len, h]; simp; omega
theorem not_lt_size {s : ByteArray} {pre : List UInt8} (h : s.data.toList = pre ++ []) : ¬ ((pre.length : Nat) : Int) < (s.size : Int) := by rw [size_len, h]; simp
def lessS (a b : ByteArray) : Bool := Op.bytesLess a.toList b.toList
theorem lessS_irrefl (a : ByteArray) : lessS a a = false := bl_irrefl _
theorem bl_trans : ∀ a b c : List UInt8, Op.bytesLess a b = true → Op.bytesLess b c = true → Op.bytesLess a c = true
  | [], _, [], _, h => by cases ‹List UInt8› <;> simp [Op.bytesLess] at h
  | [], _, _ :: _, _, _ => by simp [Op.bytesLess]
  | _ :: _, [], _, h, _ => by simp [Op.bytesLess] at h
  | _ :: _, _ :: _, [], _, h => by simp [Op.bytesLess] at h
  | a :: l, b :: m, c :: n, h1, h2 => by
    have ih := bl_trans l m n
    simp only [Op.bytesLess, Bool.or_eq_true, Bool.and_eq_true, decide_eq_true_eq, beq_iff_eq, UInt8.lt_iff_toNat_lt] at h1 h2 ⊢
    rcases h1 with h1 | ⟨rfl, h1⟩
    · rcases h2 with h2 | ⟨rfl, h2⟩
      · exact .inl (by omega)
      · exact .inl h1
    · rcases h2 with h2 | ⟨rfl, h2⟩
      · exact .inl h2
      · exact .inr ⟨rfl, ih h1 h2⟩
theorem lessS_trans {a b c : ByteArray} (h1 : lessS a b = true) (h2 : lessS b c = true) : lessS a c = true := bl_trans _ _ _ h1 h2
theorem lessS_total (a b : ByteArray) (h : lessS a b = false) : lessS b a = true ∨ a = b := by
  have t := bl_total a.toList b.toList
  unfold lessS at h ⊢
  rw [h] at t
  by_cases e : a = b
  · exact .inr e
  · left
    have : (a.toList == b.toList) = false := by simpa [tl_inj] using e
    rw [this] at t
    have t2 := bl_total b.toList a.toList
    cases hb : Op.bytesLess b.toList a.toList
    · rw [hb, h] at t2
      simp only [Bool.false_or, Bool.not_false] at t2
      exact absurd (tl_inj.1 (by simpa using t2)) (fun e' => e e'.symm)
    · rfl
end Go.Proofs.YtephjmmkggcmeaaQ
namespace Go.Proofs.YtephjmmkggcmeaaQ
open Go Go.RowKit Go.Proofs.YtephjmmkggcmeaaW.PrintWords Go.Proofs.YtephjmmkggcmeaaGp Go.Proofs.Ytephjmmkggcmeaa.PG

theorem spec_in (n a b : Int) : spec_l1In.f n a b = some (decide (a ≤ n ∧ n ≤ b)) := by
  unfold spec_l1In.f
  by_cases h : a ≤ n <;> by_cases h' : n ≤ b <;> simp [h, h']
theorem impl_in (n a b : Int) : impl_in.f n a b = some (decide (a ≤ n ∧ n ≤ b)) := by
  unfold impl_in.f
  by_cases h : a ≤ n <;> by_cases h' : n ≤ b <;> simp [h, h']

def byteOk (c : UInt8) : Bool := decide (33 ≤ (c.toNat : Int) ∧ (c.toNat : Int) ≤ 125)
def isKeyB (s : ByteArray) : Bool := s.data.toList.all byteOk && decide (1 ≤ (s.size : Int) ∧ (s.size : Int) ≤ 12)
theorem spec_IsKey_l0 (x0 : ByteArray) (hz : (x0.size : Int) ≤ 9223372036854775806) : ∀ (t pre : List UInt8), x0.data.toList = pre ++ t →
    Ev (fun k => spec_IsKey.l0 k x0 (pre.length : Int)) (t.all byteOk && decide (1 ≤ (x0.size : Int) ∧ (x0.size : Int) ≤ 12)) := by
  intro t
  induction t with
  | nil =>
    intro pre h
    refine ev_succ ?_
    simp only [spec_IsKey.l0, spec_in, Option.bind_some]
    exact ev_neg (not_lt_size h) (ev_some (by simp))
  | cons c t ih =>
    intro pre h
    have hm := lt_size h
    refine ev_succ ?_
    simp only [spec_IsKey.l0, bt_mid h]
    refine ev_pos hm (ev_pos (by omega) ?_)
    by_cases c1 : (c.toNat : Int) < 33
    · exact ev_pos c1 (ev_some (by simp [byteOk]; omega))
    · refine ev_neg c1 ?_
      by_cases c2 : (c.toNat : Int) > 125
      · exact ev_pos c2 (ev_some (by simp [byteOk]; omega))
      · refine ev_neg c2 ?_
        rw [winc (by omega)]
        have := ih (pre ++ [c]) (by rw [h]; simp)
        rw [len_one] at this
        have hb : byteOk c = true := by simp [byteOk]; omega
        simpa [hb] using this
theorem spec_IsKey_f (s : ByteArray) (hz : (s.size : Int) ≤ 9223372036854775806) : Ev (fun k => spec_IsKey.f k s) (isKeyB s) := by
  unfold spec_IsKey.f
  exact spec_IsKey_l0 s hz s.data.toList [] rfl
theorem impl_IsKey_l0 (x0 : ByteArray) (hz : (x0.size : Int) ≤ 9223372036854775806) : ∀ (t pre : List UInt8), x0.data.toList = pre ++ t →
    Ev (fun k => impl_IsKey.l0 k x0 (x0.size : Int) (pre.length : Int)) (t.all byteOk && decide (1 ≤ (x0.size : Int) ∧ (x0.size : Int) ≤ 12)) := by
  intro t
  induction t with
  | nil =>
    intro pre h
    refine ev_succ ?_
    simp only [impl_IsKey.l0, impl_in, Option.bind_some]
    exact ev_neg (not_lt_size h) (ev_some (by simp))
  | cons c t ih =>
    intro pre h
    have hm := lt_size h
    refine ev_succ ?_
    simp only [impl_IsKey.l0, bt_mid h]
    refine ev_pos hm (ev_pos (by omega) (ev_pos hm ?_))
    by_cases c1 : (c.toNat : Int) < 33
    · exact ev_pos c1 (ev_some (by simp [byteOk]; omega))
    · refine ev_neg c1 ?_
      by_cases c2 : (c.toNat : Int) > 125
      · exact ev_pos c2 (ev_some (by simp [byteOk]; omega))
      · refine ev_neg c2 ?_
        rw [winc (by omega)]
        have := ih (pre ++ [c]) (by rw [h]; simp)
        rw [len_one] at this
        have hb : byteOk c = true := by simp [byteOk]; omega
        simpa [hb] using this
theorem impl_IsKey_f (s : ByteArray) (hz : (s.size : Int) ≤ 9223372036854775806) : Ev (fun k => impl_IsKey.f k s) (isKeyB s) := by
  unfold impl_IsKey.f
  exact impl_IsKey_l0 s hz s.data.toList [] rfl
theorem isKeyB_size {s : ByteArray} (h : isKeyB s = true) : 1 ≤ s.size ∧ s.size ≤ 12 := by
  simp [isKeyB] at h
  omega

def keysFrom : Option ByteArray → List ByteArray → Bool
  | _, [] => true
  | p, s :: t => isKeyB s && (match p with | none => true | some q => lessS q s) && keysFrom (some s) t
def areKeysB (l : List ByteArray) : Bool := keysFrom none l && decide ((l.length : Int) ≤ 40)
def lastOf (pre : List ByteArray) : Option ByteArray := pre.getLast?
theorem lastOf_one (pre : List ByteArray) (s : ByteArray) : lastOf (pre ++ [s]) = some s := by simp [lastOf]
theorem lastOf_nil : lastOf [] = none := rfl
theorem last_split {pre : List ByteArray} (h : 0 < pre.length) : ∃ q p, pre = q ++ [p] := by
  obtain ⟨x, hx⟩ : ∃ x, pre.getLast? = some x := by
    cases hp : pre.getLast? with
    | none => rw [List.getLast?_eq_none_iff] at hp; subst hp; simp at h
    | some x => exact ⟨x, rfl⟩
  obtain ⟨q, hq⟩ := List.getLast?_eq_some_iff.1 hx
  exact ⟨q, x, hq⟩

theorem spec_biKeys_l0 (x0 : List ByteArray) (hl : (x0.length : Int) ≤ 9223372036854775806) : ∀ (t pre : List ByteArray), x0 = pre ++ t → (∀ s ∈ t, (s.size : Int) ≤ 9223372036854775806) →
    Ev (fun k => spec_biKeys.l0 k x0 x0 (x0.length : Int) (pre.length : Int)) (keysFrom (lastOf pre) t && decide ((x0.length : Int) ≤ 40)) := by
  intro t
  induction t with
  | nil =>
    intro pre h hs
    refine ev_succ ?_
    simp only [spec_biKeys.l0]
    exact ev_neg (by rw [h]; exact not_lt_end) (ev_some (by simp [keysFrom]))
  | cons s t ih =>
    intro pre h hs
    have hm : ((pre.length : Nat) : Int) < (x0.length : Int) := by rw [h]; exact lt_mid
    have hg : rdOf ByteArray.empty x0 (pre.length : Int) = s := by rw [h]; exact rdOf_mid
    have next := ih (pre ++ [s]) (by rw [h]; simp) (fun x hx => hs x (by simp [hx]))
    rw [len_one, lastOf_one] at next
    refine ev_succ ?_
    simp only [spec_biKeys.l0, hg]
    refine ev_pos hm (ev_pos (by omega) (ev_pos hm (ev_bind _ (spec_IsKey_f s (hs s (by simp))) ?_)))
    cases hk : isKeyB s with
    | false => exact ev_neg (by simp) (ev_some (by simp [keysFrom, hk]))
    | true =>
      refine ev_pos rfl ?_
      by_cases c : 0 < pre.length
      · obtain ⟨q, p, rfl⟩ := last_split c
        have hp : rdOf ByteArray.empty x0 ((q.length : Nat) : Int) = p := by rw [h]; exact rdOf_last
        have hw : wrap64 (((q ++ [p]).length : Int) - 1) = (q.length : Int) := by rw [len_one]; exact wdec (by simp at hm; omega)
        simp only [hw, hp, lastOf_one, keysFrom, hk, Bool.true_and]
        refine ev_pos (by omega) (ev_pos (by omega) (ev_pos (by simp at hm; omega) ?_))
        by_cases c2 : lessS p s = true
        · refine ev_pos c2 ?_
          rw [winc (by omega), c2, Bool.true_and]
          exact next
        · refine ev_neg c2 (ev_some ?_)
          simp only [Bool.not_eq_true] at c2
          simp [c2]
      · obtain rfl := List.length_eq_zero_iff.1 (show pre.length = 0 by omega)
        refine ev_neg (by simp) ?_
        rw [winc (by omega)]
        simp only [lastOf_nil, keysFrom, hk, Bool.true_and]
        exact next
theorem spec_biKeys_f (l : List ByteArray) (hl : (l.length : Int) ≤ 9223372036854775806) (hs : ∀ s ∈ l, (s.size : Int) ≤ 9223372036854775806) : Ev (fun k => spec_biKeys.f k l) (areKeysB l) := by
  unfold spec_biKeys.f
  exact spec_biKeys_l0 l hl l [] rfl hs
theorem impl_AreKeys_l0 (x0 : List ByteArray) (hl : (x0.length : Int) ≤ 9223372036854775806) : ∀ (t pre : List ByteArray), x0 = pre ++ t → (∀ s ∈ t, (s.size : Int) ≤ 9223372036854775806) →
    Ev (fun k => impl_AreKeys.l0 k x0 x0 (x0.length : Int) (pre.length : Int)) (keysFrom (lastOf pre) t && decide ((x0.length : Int) ≤ 40)) := by
  intro t
  induction t with
  | nil =>
    intro pre h hs
    refine ev_succ ?_
    simp only [impl_AreKeys.l0]
    exact ev_neg (by rw [h]; exact not_lt_end) (ev_some (by simp [keysFrom]))
  | cons s t ih =>
    intro pre h hs
    have hm : ((pre.length : Nat) : Int) < (x0.length : Int) := by rw [h]; exact lt_mid
    have hg : rdOf ByteArray.empty x0 (pre.length : Int) = s := by rw [h]; exact rdOf_mid
    have next := ih (pre ++ [s]) (by rw [h]; simp) (fun x hx => hs x (by simp [hx]))
    rw [len_one, lastOf_one] at next
    refine ev_succ ?_
    simp only [impl_AreKeys.l0, hg]
    refine ev_pos hm (ev_pos (by omega) (ev_pos hm (ev_bind _ (impl_IsKey_f s (hs s (by simp))) ?_)))
    cases hk : isKeyB s with
    | false => exact ev_neg (by simp) (ev_some (by simp [keysFrom, hk]))
    | true =>
      refine ev_pos rfl ?_
      by_cases c : 0 < pre.length
      · obtain ⟨q, p, rfl⟩ := last_split c
        have hp : rdOf ByteArray.empty x0 ((q.length : Nat) : Int) = p := by rw [h]; exact rdOf_last
        have hw : wrap64 (((q ++ [p]).length : Int) - 1) = (q.length : Int) := by rw [len_one]; exact wdec (by simp at hm; omega)
        simp only [hw, hp, lastOf_one, keysFrom, hk, Bool.true_and]
        refine ev_pos (by omega) (ev_pos (by omega) (ev_pos (by simp at hm; omega) ?_))
        by_cases c2 : lessS p s = true
        · refine ev_pos c2 ?_
          rw [winc (by omega), c2, Bool.true_and]
          exact next
        · refine ev_neg c2 (ev_some ?_)
          simp only [Bool.not_eq_true] at c2
          simp [c2]
      · obtain rfl := List.length_eq_zero_iff.1 (show pre.length = 0 by omega)
        refine ev_neg (by simp) ?_
        rw [winc (by omega)]
        simp only [lastOf_nil, keysFrom, hk, Bool.true_and]
        exact next
theorem impl_AreKeys_f (l : List ByteArray) (hl : (l.length : Int) ≤ 9223372036854775806) (hs : ∀ s ∈ l, (s.size : Int) ≤ 9223372036854775806) : Ev (fun k => impl_AreKeys.f k l) (areKeysB l) := by
  unfold impl_AreKeys.f
  exact impl_AreKeys_l0 l hl l [] rfl hs
theorem keysFrom_all : ∀ (p : Option ByteArray) (l : List ByteArray), keysFrom p l = true → ∀ s ∈ l, isKeyB s = true
  | _, [], _, s, h => by simp at h
  | p, x :: t, hk, s, h => by
    simp only [keysFrom, Bool.and_eq_true] at hk
    rcases List.mem_cons.1 h with rfl | h
    · exact hk.1.1
    · exact keysFrom_all _ t hk.2 s h
theorem areKeysB_all {l : List ByteArray} (h : areKeysB l = true) : ∀ s ∈ l, isKeyB s = true := by
  simp only [areKeysB, Bool.and_eq_true] at h
  exact keysFrom_all _ _ h.1
end Go.Proofs.YtephjmmkggcmeaaQ
namespace Go.Proofs.YtephjmmkggcmeaaQ
open Go Go.RowKit Go.Proofs.YtephjmmkggcmeaaW.PrintWords Go.Proofs.YtephjmmkggcmeaaGp Go.Proofs.Ytephjmmkggcmeaa.PG

def hasS (l : List ByteArray) (s : ByteArray) : Bool := l.any fun x => decide (x = s)
theorem hasS_iff {l : List ByteArray} {s : ByteArray} : hasS l s = true ↔ s ∈ l := by simp [hasS]
def idxS : List ByteArray → ByteArray → Nat → Int
  | [], _, _ => -1
  | x :: t, s, i => if x = s then (i : Int) else idxS t s (i + 1)
theorem idxS_mem : ∀ (l : List ByteArray) (s : ByteArray) (i : Nat), 0 ≤ idxS l s i ↔ s ∈ l
  | [], s, i => by simp [idxS]
  | x :: t, s, i => by
    simp only [idxS]
    split
    · rename_i c; simp [c]
    · rename_i c; rw [idxS_mem t s (i + 1)]; simp [Ne.symm c]
theorem slices_Index_string_string_l0 (x0 : List ByteArray) (s : ByteArray) (hl : (x0.length : Int) ≤ 9223372036854775806) : ∀ (t pre : List ByteArray), x0 = pre ++ t →
    Ev (fun k => slices_Index_string_string.l0 k x0 s (x0.length : Int) (pre.length : Int)) (idxS t s pre.length) := by
  intro t
  induction t with
  | nil =>
    intro pre h
    refine ev_succ ?_
    simp only [slices_Index_string_string.l0]
    exact ev_neg (by rw [h]; exact not_lt_end) (ev_some (by simp [idxS]))
  | cons x t ih =>
    intro pre h
    have hm : ((pre.length : Nat) : Int) < (x0.length : Int) := by rw [h]; exact lt_mid
    have hg : rdOf ByteArray.empty x0 (pre.length : Int) = x := by rw [h]; exact rdOf_mid
    refine ev_succ ?_
    simp only [slices_Index_string_string.l0, hg, tl_inj]
    refine ev_pos hm (ev_pos (by omega) (ev_pos hm ?_))
    by_cases c : s = x
    · exact ev_pos c (ev_some (by simp [idxS, c]))
    · refine ev_neg c ?_
      rw [winc (by omega)]
      have := ih (pre ++ [x]) (by rw [h]; simp)
      rw [len_one] at this
      have e : idxS (x :: t) s pre.length = idxS t s (pre ++ [x]).length := by simp [idxS, Ne.symm c]
      rw [e]
      exact this
theorem slices_Index_string_string_f (l : List ByteArray) (s : ByteArray) (hl : (l.length : Int) ≤ 9223372036854775806) : Ev (fun k => slices_Index_string_string.f k l s) (idxS l s 0) := by
  unfold slices_Index_string_string.f
  exact slices_Index_string_string_l0 l s hl l [] rfl
end Go.Proofs.YtephjmmkggcmeaaQ
namespace Go.Proofs.YtephjmmkggcmeaaQ
open Go Go.RowKit Go.Proofs.YtephjmmkggcmeaaW.PrintWords Go.Proofs.YtephjmmkggcmeaaGp Go.Proofs.Ytephjmmkggcmeaa.PG

def mm (x y : Int) : Int := Int.tmod (wrap64 (x * y)) 65521
theorem mul_range {x y : Int} (hx : 0 ≤ x) (hx1 : x ≤ 65520) (hy : 0 ≤ y) (hy1 : y ≤ 65520) : 0 ≤ x * y ∧ x * y ≤ 4292870400 :=
  ⟨Int.mul_nonneg hx hy, by have := Int.mul_le_mul hx1 hy1 hy (by omega); omega⟩
theorem emod_range (x : Int) : 0 ≤ x % 65521 ∧ x % 65521 ≤ 65520 := by omega
theorem mm_eq {x y : Int} (hx : 0 ≤ x) (hx1 : x ≤ 65520) (hy : 0 ≤ y) (hy1 : y ≤ 65520) : mm x y = x * y % 65521 := by
  obtain ⟨h0, h1⟩ := mul_range hx hx1 hy hy1
  unfold mm
  rw [w64 (by omega) (by omega)]
  exact Int.tmod_eq_emod_of_nonneg h0
theorem mm_mod (a b : Int) : mm (a % 65521) (b % 65521) = a * b % 65521 := by
  rw [mm_eq (emod_range a).1 (emod_range a).2 (emod_range b).1 (emod_range b).2]
  exact (Int.mul_emod a b 65521).symm
def pw (h : Int) : Nat → Int
  | 0 => 1
  | n + 1 => pw h n * h
theorem self_mod {h : Int} (h0 : 0 ≤ h) (h1 : h ≤ 65520) : h = h % 65521 := by omega
theorem mm11 {h : Int} (h0 : 0 ≤ h) (h1 : h ≤ 65520) : mm (mm (mm (mm (mm h h) (mm h h)) h) (mm (mm (mm h h) (mm h h)) h)) h = pw h 11 % 65521 := by
  have e := self_mod h0 h1
  have a2 : mm h h = h * h % 65521 := mm_eq h0 h1 h0 h1
  have a4 : mm (mm h h) (mm h h) = (h * h) * (h * h) % 65521 := by rw [a2, mm_mod]
  have a5 : mm (mm (mm h h) (mm h h)) h = (h * h) * (h * h) * h % 65521 := by
    rw [a4]; conv => lhs; arg 2; rw [e]
    rw [mm_mod]
  rw [a5, mm_mod]
  conv => lhs; arg 2; rw [e]
  rw [mm_mod]
  congr 1
  simp only [pw, Int.one_mul, Int.mul_assoc]
theorem mm_pw {h : Int} (h0 : 0 ≤ h) (h1 : h ≤ 65520) (n : Nat) : mm (pw h n % 65521) h = pw h (n + 1) % 65521 := by
  conv => lhs; arg 2; rw [self_mod h0 h1]
  rw [mm_mod]
  rfl

def hstep (h : Int) (c : UInt8) : Int := Int.tmod (wrap64 ((wrap64 (263 * h)) + (wrap64 (c.toNat : Int)))) 65521
def hfold (h : Int) (l : List UInt8) : Int := l.foldl hstep h
theorem hstep_range {h : Int} {c : UInt8} (h0 : 0 ≤ h) (h1 : h ≤ 65520) : 0 ≤ hstep h c ∧ hstep h c ≤ 65520 := by
  have hc : c.toNat < 256 := c.toNat_lt
  unfold hstep
  rw [w64 (x := 263 * h) (by omega) (by omega), w64 (x := (c.toNat : Int)) (by omega) (by omega), w64 (by omega) (by omega), Int.tmod_eq_emod_of_nonneg (by omega)]
  omega
def hstart (a0 a1 : Int) : Int := Int.tmod (wrap64 ((wrap64 ((wrap64 (31 * a0)) + (wrap64 (977 * a1)))) + 7)) 65521
theorem hstart_range {a0 a1 : Int} (h0 : 0 ≤ a0) (h0' : a0 ≤ 1000000) (h1 : 0 ≤ a1) (h1' : a1 ≤ 1000000) : 0 ≤ hstart a0 a1 ∧ hstart a0 a1 ≤ 65520 := by
  unfold hstart
  rw [w64 (x := 31 * a0) (by omega) (by omega), w64 (x := 977 * a1) (by omega) (by omega), w64 (x := 31 * a0 + 977 * a1) (by omega) (by omega), w64 (by omega) (by omega), Int.tmod_eq_emod_of_nonneg (by omega)]
  omega
def hashV (a0 a1 : Int) (s : ByteArray) : Int := pw (hfold (hstart a0 a1) s.data.toList) 11 % 65521
theorem hashV_range (a0 a1 : Int) (s : ByteArray) : 0 ≤ hashV a0 a1 s ∧ hashV a0 a1 s ≤ 65520 := emod_range _
theorem spec_biHash_l0 (x2 : ByteArray) (hz : (x2.size : Int) ≤ 9223372036854775806) : ∀ (t pre : List UInt8) (h : Int), x2.data.toList = pre ++ t → 0 ≤ h → h ≤ 65520 →
    Ev (fun k => spec_biHash.l0 k x2 h (pre.length : Int)) (pw (hfold h t) 11 % 65521) := by
  intro t
  induction t with
  | nil =>
    intro pre h e h0 h1
    refine ev_succ ?_
    simp only [spec_biHash.l0]
    refine ev_neg (not_lt_size e) (ev_some ?_)
    exact mm11 h0 h1
  | cons c t ih =>
    intro pre h e h0 h1
    have hm := lt_size e
    refine ev_succ ?_
    simp only [spec_biHash.l0, bt_mid e]
    refine ev_pos hm (ev_pos (by omega) ?_)
    rw [winc (by omega)]
    have := ih (pre ++ [c]) (hstep h c) (by rw [e]; simp) (hstep_range h0 h1).1 (hstep_range h0 h1).2
    rw [len_one] at this
    exact this
theorem spec_biHash_f (a0 a1 : Int) (s : ByteArray) (hz : (s.size : Int) ≤ 9223372036854775806) (h0 : 0 ≤ a0) (h0' : a0 ≤ 1000000) (h1 : 0 ≤ a1) (h1' : a1 ≤ 1000000) :
    Ev (fun k => spec_biHash.f k a0 a1 s) (hashV a0 a1 s) := by
  unfold spec_biHash.f
  exact spec_biHash_l0 s hz s.data.toList [] _ rfl (hstart_range h0 h0' h1 h1').1 (hstart_range h0 h0' h1 h1').2
theorem impl_hash_l1 {h : Int} (h0 : 0 ≤ h) (h1 : h ≤ 65520) : ∀ (m i : Nat), i + m = 11 → Ev (fun k => impl_hash.l1 k h (pw h i % 65521) (i : Int)) (pw h 11 % 65521) := by
  intro m
  induction m with
  | zero =>
    intro i e
    obtain rfl : i = 11 := by omega
    refine ev_succ ?_
    simp only [impl_hash.l1]
    exact ev_neg (by omega) (ev_some rfl)
  | succ m ih =>
    intro i e
    refine ev_succ ?_
    simp only [impl_hash.l1]
    refine ev_pos (by omega) ?_
    rw [winc (by omega)]
    have := ih (i + 1) (by omega)
    rw [← mm_pw h0 h1 i] at this
    exact this
theorem impl_hash_l0 (x2 : ByteArray) (hz : (x2.size : Int) ≤ 9223372036854775806) : ∀ (t pre : List UInt8) (h : Int), x2.data.toList = pre ++ t → 0 ≤ h → h ≤ 65520 →
    Ev (fun k => impl_hash.l0 k x2 h (x2.size : Int) (pre.length : Int)) (pw (hfold h t) 11 % 65521) := by
  intro t
  induction t with
  | nil =>
    intro pre h e h0 h1
    refine ev_succ ?_
    simp only [impl_hash.l0]
    exact ev_neg (not_lt_size e) (impl_hash_l1 h0 h1 11 0 rfl)
  | cons c t ih =>
    intro pre h e h0 h1
    have hm := lt_size e
    refine ev_succ ?_
    simp only [impl_hash.l0, bt_mid e]
    refine ev_pos hm (ev_pos (by omega) (ev_pos hm ?_))
    rw [winc (by omega)]
    have := ih (pre ++ [c]) (hstep h c) (by rw [e]; simp) (hstep_range h0 h1).1 (hstep_range h0 h1).2
    rw [len_one] at this
    exact this
theorem impl_hash_f (a0 a1 : Int) (s : ByteArray) (hz : (s.size : Int) ≤ 9223372036854775806) (h0 : 0 ≤ a0) (h0' : a0 ≤ 1000000) (h1 : 0 ≤ a1) (h1' : a1 ≤ 1000000) :
    Ev (fun k => impl_hash.f k a0 a1 s) (hashV a0 a1 s) := by
  unfold impl_hash.f
  exact impl_hash_l0 s hz s.data.toList [] _ rfl (hstart_range h0 h0' h1 h1').1 (hstart_range h0 h0' h1 h1').2

def placeV (a0 a1 : Int) (s : ByteArray) (n : Int) : Int := wrap64 (Int.tdiv (wrap64 (hashV a0 a1 s * n)) 65521)
theorem placeV_range (a0 a1 : Int) (s : ByteArray) {n : Int} (h0 : 1 ≤ n) (h1 : n ≤ 1000000) : 0 ≤ placeV a0 a1 s n ∧ placeV a0 a1 s n < n := by
  obtain ⟨a, b⟩ := hashV_range a0 a1 s
  have c := Int.mul_nonneg a (show (0 : Int) ≤ n by omega)
  have d := Int.mul_le_mul_of_nonneg_right b (show (0 : Int) ≤ n by omega)
  unfold placeV
  generalize hashV a0 a1 s * n = y at *
  rw [w64 (x := y) (by omega) (by omega), Int.tdiv_eq_ediv_of_nonneg (by omega), w64 (by omega) (by omega)]
  omega
theorem spec_biPlace_f (a0 a1 : Int) (s : ByteArray) (n : Int) (hz : (s.size : Int) ≤ 9223372036854775806) (h0 : 0 ≤ a0) (h0' : a0 ≤ 1000000) (h1 : 0 ≤ a1) (h1' : a1 ≤ 1000000) :
    Ev (fun k => spec_biPlace.f k a0 a1 s n) (placeV a0 a1 s n) := by
  unfold spec_biPlace.f
  exact ev_bind _ (spec_biHash_f a0 a1 s hz h0 h0' h1 h1') (Ev.now _)
theorem impl_place_f (a0 a1 : Int) (s : ByteArray) (n : Int) (hz : (s.size : Int) ≤ 9223372036854775806) (h0 : 0 ≤ a0) (h0' : a0 ≤ 1000000) (h1 : 0 ≤ a1) (h1' : a1 ≤ 1000000) :
    Ev (fun k => impl_place.f k a0 a1 s n) (placeV a0 a1 s n) := by
  unfold impl_place.f
  exact ev_bind _ (impl_hash_f a0 a1 s hz h0 h0' h1 h1') (Ev.now _)
end Go.Proofs.YtephjmmkggcmeaaQ
namespace Go.Proofs.YtephjmmkggcmeaaQ
open Go Go.RowKit Go.Proofs.YtephjmmkggcmeaaW.PrintWords Go.Proofs.YtephjmmkggcmeaaGp Go.Proofs.Ytephjmmkggcmeaa.PG

structure Bys (s : List Int) : Prop where
  len : (s.length : Int) ≤ 1048576
  all : ∀ x ∈ s, 0 ≤ x ∧ x ≤ 255
theorem and255 (x : Int) : 0 ≤ Go.bits .and .u64 x 255 ∧ Go.bits .and .u64 x 255 ≤ 255 := by
  have e : Go.bits .and .u64 x 255 = IntKind.u64.wrap (((BitVec.ofInt 64 x &&& BitVec.ofInt 64 255 : BitVec 64)).toNat : Int) := by unfold Go.bits; rfl
  have h : ((BitVec.ofInt 64 x &&& BitVec.ofInt 64 255 : BitVec 64)).toNat ≤ 255 := by
    rw [BitVec.toNat_and]
    exact Nat.and_le_right
  rw [e]
  unfold IntKind.wrap
  simp only [IntKind.bits, IntKind.signed]
  generalize (BitVec.ofInt 64 x &&& BitVec.ofInt 64 255 : BitVec 64).toNat = m at h
  simp
  omega
theorem rd_by {s : List Int} (hs : Bys s) (i : Int) : 0 ≤ rd s i ∧ rd s i ≤ 255 := by
  unfold rd
  by_cases c : i.toNat < s.length
  · rw [List.getD_eq_getElem?_getD, List.getElem?_eq_getElem c]
    exact hs.all _ (List.getElem_mem c)
  · rw [List.getD_eq_getElem?_getD, List.getElem?_eq_none (by omega)]
    simp
theorem next_ok {s : List Int} (hs : Bys s) {p : Int} (sd : Int) (h0 : 0 ≤ p) (h1 : p ≤ 4000000000000000000) :
    ∃ v p' sd', spec_l1Cur_next.f s p sd = some (v, p', sd') ∧ (0 ≤ v ∧ v ≤ 255) ∧ 0 ≤ p' ∧ p' ≤ p + 1 := by
  have hb := rd_by hs p
  have w1 : wrap64 (p + 1) = p + 1 := w64 (by omega) (by omega)
  have w2 : wrap64 (rd s p) = rd s p := w64 (by omega) (by omega)
  unfold spec_l1Cur_next.f
  rw [w1, w2]
  by_cases c : p < (s.length : Int)
  · rw [if_pos c, if_pos h0]
    split
    · exact ⟨_, _, _, rfl, hb, by omega, by omega⟩
    · omega
  · rw [if_neg c, if_neg (by omega)]
    refine ⟨_, _, _, rfl, ?_, by omega, by omega⟩
    have := and255 ((IntKind.u64.wrap ((IntKind.u64.wrap (IntKind.u64.wrap (sd * 6364136223846793005))) + 1442695040888963407)) / 1099511627776)
    rw [w64 (by omega) (by omega)]
    exact this
theorem pick_ok {s : List Int} (hs : Bys s) {p : Int} (sd : Int) {n : Int} (h0 : 0 ≤ p) (h1 : p ≤ 3000000000000000000) :
    ∃ v p' sd', spec_l1Cur_pick.f s p sd n = some (v, p', sd') ∧ (0 ≤ v ∧ (v < n ∨ v = 0)) ∧ 0 ≤ p' ∧ p' ≤ p + 2 := by
  unfold spec_l1Cur_pick.f
  by_cases c : n ≤ 1
  · rw [if_pos c]; exact ⟨_, _, _, rfl, ⟨by omega, .inr rfl⟩, h0, by omega⟩
  obtain ⟨v, p', sd', e, hv, q0, q1⟩ := next_ok hs sd h0 (by omega)
  have hn : ¬ n = 0 := by omega
  rw [if_neg c, e]
  simp only [Option.bind_some, if_neg hn]
  by_cases d : n > 200
  · obtain ⟨u, p2, sd2, e2, hu, r0, r1⟩ := next_ok hs sd' q0 (by omega)
    rw [if_pos d, e2]
    simp only [Option.bind_some]
    refine ⟨_, _, _, rfl, ?_, r0, by omega⟩
    rw [w64 (x := v * 256) (by omega) (by omega), w64 (x := v * 256 + u) (by omega) (by omega), Int.tmod_eq_emod_of_nonneg (by omega)]
    exact ⟨Int.emod_nonneg _ hn, .inl (Int.emod_lt_of_pos _ (by omega))⟩
  · rw [if_neg d]
    refine ⟨_, _, _, rfl, ?_, q0, by omega⟩
    rw [Int.tmod_eq_emod_of_nonneg hv.1]
    exact ⟨Int.emod_nonneg _ hn, .inl (Int.emod_lt_of_pos _ (by omega))⟩
theorem one_ok {s : List Int} (hs : Bys s) {p : Int} (sd : Int) (n : Int) (h0 : 0 ≤ p) (h1 : p ≤ 3000000000000000000) :
    ∃ v p' sd', spec_l1Cur_one.f s p sd n = some (v, p', sd') ∧ 0 ≤ p' ∧ p' ≤ p + 2 := by
  obtain ⟨v, p', sd', e, _, q0, q1⟩ := pick_ok hs sd (n := n) h0 h1
  unfold spec_l1Cur_one.f
  rw [e]
  exact ⟨_, _, _, rfl, q0, q1⟩
theorem among_ok {s : List Int} (hs : Bys s) {p : Int} (sd : Int) {l : List Int} (hl : 0 < l.length) (h0 : 0 ≤ p) (h1 : p ≤ 3000000000000000000) :
    ∃ v p' sd', spec_l1Cur_among.f s p sd l = some (v, p', sd') ∧ v ∈ l ∧ 0 ≤ p' ∧ p' ≤ p + 2 := by
  obtain ⟨v, p', sd', e, hv, q0, q1⟩ := pick_ok hs sd (n := (l.length : Int)) h0 h1
  have hm : rd l v ∈ l := by
    unfold rd
    have : v.toNat < l.length := by omega
    rw [List.getD_eq_getElem?_getD, List.getElem?_eq_getElem this]
    exact List.getElem_mem this
  unfold spec_l1Cur_among.f
  rw [e]
  simp only [Option.bind_some]
  rw [if_pos (by omega), if_pos (by omega)]
  exact ⟨_, _, _, rfl, hm, q0, q1⟩
theorem strOf_size (l : List Int) : (strOfNums l).size = l.length := by simp [strOfNums, ByteArray.size]

def Dr {α : Type} (g : Nat → Option (α × Int × Int)) (p c : Int) (P : α → Prop) : Prop := ∃ v p' sd', Ev g (v, p', sd') ∧ P v ∧ 0 ≤ p' ∧ p' ≤ p + c
theorem key_l1 (s : List Int) (p sd : Int) : ∀ (d : Nat) (x : List Int), 12 - x.length ≤ d → x.length ≤ 12 →
    ∃ v, Ev (fun k => spec_l1Cur_key.l1 k x s p sd) (v, p, sd) ∧ v.size ≤ 12 := by
  intro d
  induction d with
  | zero =>
    intro x h1 h2
    refine ⟨strOfNums x, ev_succ ?_, by rw [strOf_size]; omega⟩
    simp only [spec_l1Cur_key.l1]
    exact ev_neg (by omega) (Ev.now _)
  | succ d ih =>
    intro x h1 h2
    by_cases c : (x.length : Int) < 12
    · obtain ⟨v, e, hv⟩ := ih (x ++ [97]) (by simp; omega) (by simp; omega)
      refine ⟨v, ev_succ ?_, hv⟩
      simp only [spec_l1Cur_key.l1]
      exact ev_pos c (ev_pos (by omega) e)
    · refine ⟨strOfNums x, ev_succ ?_, by rw [strOf_size]; omega⟩
      simp only [spec_l1Cur_key.l1]
      exact ev_neg c (Ev.now _)
theorem key_l0 {s : List Int} (hs : Bys s) : ∀ (n : Nat) (x : List Int) (p sd : Int), x.length + n ≤ 12 → 0 ≤ p → p + 2 * (n : Int) ≤ 2000000000000000000 →
    Dr (fun k => spec_l1Cur_key.l0 k x (n : Int) s p sd) p (2 * (n : Int) + 2) (fun v => v.size ≤ 12) := by
  intro n
  induction n with
  | zero =>
    intro x p sd hx h0 h1
    obtain ⟨v, p', sd', e, q0, q1⟩ := one_ok hs sd 12 h0 (by omega)
    by_cases c : v = true
    · obtain ⟨u, eu, hu⟩ := key_l1 s p' sd' 12 x (by omega) (by omega)
      refine ⟨u, p', sd', ev_succ ?_, hu, q0, by omega⟩
      simp only [spec_l1Cur_key.l0, e]
      exact ev_neg (by omega) (ev_bind _ (Ev.now _) (ev_pos c eu))
    · refine ⟨strOfNums x, p', sd', ev_succ ?_, (by rw [strOf_size]; omega : (strOfNums x).size ≤ 12), q0, by omega⟩
      simp only [spec_l1Cur_key.l0, e]
      exact ev_neg (by omega) (ev_bind _ (Ev.now _) (ev_neg c (Ev.now _)))
  | succ n ih =>
    intro x p sd hx h0 h1
    obtain ⟨v, p', sd', e, hv, q0, q1⟩ := pick_ok hs sd (n := 11) h0 (by omega)
    obtain ⟨u, p2, sd2, eu, hu, r0, r1⟩ := ih (x ++ [bt (⟨#[97, 97, 98, 98, 99, 120, 121, 122, 33, 125, 48]⟩ : ByteArray) v]) p' sd' (by simp; omega) q0 (by omega)
    refine ⟨u, p2, sd2, ev_succ ?_, hu, r0, by omega⟩
    simp only [spec_l1Cur_key.l0, e]
    refine ev_pos (by omega) (ev_bind _ (Ev.now _) (ev_pos hv.1 (ev_pos (by omega) (ev_pos (by omega) ?_))))
    rw [wdec (by omega)]
    exact eu
theorem key_ok {s : List Int} (hs : Bys s) {p : Int} (sd : Int) (h0 : 0 ≤ p) (h1 : p ≤ 1000000000000000000) : Dr (fun k => spec_l1Cur_key.f k s p sd) p 12 (fun v => v.size ≤ 12) := by
  obtain ⟨v, p', sd', e, hv, q0, q1⟩ := pick_ok hs sd (n := 4) h0 (by omega)
  obtain ⟨u, p2, sd2, eu, hu, r0, r1⟩ := key_l0 hs (v.toNat + 1) [] p' sd' (by simp; omega) q0 (by omega)
  refine ⟨u, p2, sd2, ?_, hu, r0, by omega⟩
  unfold spec_l1Cur_key.f
  rw [e]
  refine ev_bind _ (Ev.now _) ?_
  rw [w64 (by omega) (by omega), show 1 + v = ((v.toNat + 1 : Nat) : Int) from by omega]
  exact eu
def insK (s : ByteArray) : List ByteArray → List ByteArray
  | [] => [s]
  | q :: t => if lessS q s = true then q :: insK s t else if q = s then q :: t else s :: q :: t
theorem insK_len (s : ByteArray) : ∀ l, (insK s l).length ≤ l.length + 1
  | [] => by simp [insK]
  | q :: t => by
    have := insK_len s t
    unfold insK
    split
    · simp; omega
    · split <;> simp
theorem insK_mem (s : ByteArray) : ∀ l, ∀ x ∈ insK s l, x = s ∨ x ∈ l
  | [], x, h => by simp [insK] at h; exact .inl h
  | q :: t, x, h => by
    unfold insK at h
    split at h
    · rcases List.mem_cons.1 h with e | e
      · exact .inr (by simp [e])
      · rcases insK_mem s t x e with e | e
        · exact .inl e
        · exact .inr (by simp [e])
    · split at h
      · exact .inr h
      · rcases List.mem_cons.1 h with e | e
        · exact .inl e
        · exact .inr e
theorem putS_l0 (x0 : List ByteArray) (s : ByteArray) (hx : x0.length ≤ 1000000) : ∀ (t pre : List ByteArray), x0 = pre ++ t →
    Ev (fun k => spec_l1PutS.l0 k x0 s (pre.length : Int)) (pre ++ insK s t) := by
  intro t
  induction t with
  | nil =>
    intro pre h
    have hp : x0 = pre := by rw [h, List.append_nil]
    subst hp
    refine ev_succ ?_
    simp only [spec_l1PutS.l0]
    refine ev_neg (by omega) (ev_bind _ (Ev.now _) (ev_pos (by omega) (ev_pos (by omega) (ev_bind _ (Ev.now _) ?_))))
    rw [Int.toNat_natCast, List.take_length, List.nil_append]
    refine ev_pos (by simp; omega) (ev_bind _ (Ev.now _) (ev_pos (by omega) (ev_bind _ (Ev.now _) (ev_bind _ (Ev.now _) (ev_pos (by simp; omega) (ev_some ?_))))))
    simp [insK]
  | cons q t ih =>
    intro pre h
    have hm : ((pre.length : Nat) : Int) < (x0.length : Int) := by rw [h]; exact lt_mid
    have hg : rdOf ByteArray.empty x0 (pre.length : Int) = q := by rw [h]; exact rdOf_mid
    refine ev_succ ?_
    simp only [spec_l1PutS.l0, hg]
    refine ev_pos hm (ev_pos (by omega) ?_)
    unfold insK
    by_cases c : lessS q s = true
    · refine ev_pos c ?_
      rw [winc (by omega), if_pos c]
      have := ih (pre ++ [q]) (by rw [h]; simp)
      rw [len_one] at this
      simpa using this
    · refine ev_neg c ?_
      rw [if_neg c]
      by_cases d : q = s
      · refine ev_pos (tl_inj.2 d) (ev_some ?_)
        rw [if_pos d, h]
      · refine ev_neg (fun e => d (tl_inj.1 e)) (ev_bind _ (Ev.now _) (ev_pos (by omega) (ev_bind _ (Ev.now _) ?_)))
        have et : x0.take pre.length = pre := by rw [h]; simp
        have ed : x0.drop pre.length = q :: t := by rw [h]; simp
        have hl : x0.length = pre.length + (t.length + 1) := by rw [h]; simp
        rw [Int.toNat_natCast, et, ed, List.nil_append, if_neg d]
        refine ev_pos (by simp; omega) (ev_bind _ (Ev.now _) (ev_pos (by omega) (ev_bind _ (Ev.now _) (ev_bind _ (Ev.now _) (ev_pos (by simp; omega) (ev_some ?_))))))
        simp
theorem putS_f (l : List ByteArray) (s : ByteArray) (h : l.length ≤ 1000000) : Ev (fun k => spec_l1PutS.f k l s) (insK s l) := putS_l0 l s h l [] rfl
def Kys (m : Nat) (l : List ByteArray) : Prop := l.length ≤ m ∧ ∀ s ∈ l, s.size ≤ 13
theorem Kys.ins {m : Nat} {l : List ByteArray} (h : Kys m l) {s : ByteArray} (hs : s.size ≤ 13) : Kys (m + 1) (insK s l) :=
  ⟨by have := insK_len s l; have := h.1; omega, fun x hx => by exact (insK_mem s l x hx).elim (fun e => e ▸ hs) (h.2 x)⟩
theorem Kys.one {m : Nat} {l : List ByteArray} (h : Kys m l) {s : ByteArray} (hs : s.size ≤ 13) : Kys (m + 1) (l ++ [s]) :=
  ⟨by have := h.1; simp; omega, fun x hx => by exact (List.mem_append.1 hx).elim (h.2 x) (fun e => List.mem_singleton.1 e ▸ hs)⟩
theorem Kys.mono {m m' : Nat} {l : List ByteArray} (h : Kys m l) (hm : m ≤ m') : Kys m' l := ⟨Nat.le_trans h.1 hm, h.2⟩
theorem keys_l0 {s : List Int} (hs : Bys s) : ∀ (n m : Nat) (x : List ByteArray) (p sd : Int), Kys m x → m + n ≤ 1000 → 0 ≤ p → p + 12 * (n : Int) ≤ 500000000000000000 →
    Dr (fun k => spec_l1Cur_keys.l0 k x (n : Int) s p sd) p (12 * (n : Int)) (Kys (m + n)) := by
  intro n
  induction n with
  | zero =>
    intro m x p sd hx hm h0 h1
    refine ⟨x, p, sd, ev_succ ?_, hx, h0, by omega⟩
    simp only [spec_l1Cur_keys.l0]
    exact ev_neg (by omega) (Ev.now _)
  | succ n ih =>
    intro m x p sd hx hm h0 h1
    obtain ⟨v, p', sd', e, hv, q0, q1⟩ := key_ok hs sd h0 (by omega)
    have hl := hx.1
    obtain ⟨u, p2, sd2, eu, hu, r0, r1⟩ := ih (m + 1) (insK v x) p' sd' (hx.ins (by omega)) (by omega) q0 (by omega)
    refine ⟨u, p2, sd2, ev_succ ?_, hu.mono (by omega), r0, by omega⟩
    simp only [spec_l1Cur_keys.l0]
    refine ev_pos (by omega) (ev_bind _ e (ev_bind _ (putS_f x v (by omega)) ?_))
    rw [wdec (by omega)]
    exact eu
theorem keys_ok {s : List Int} (hs : Bys s) {p : Int} (sd : Int) {n : Nat} (hn : n ≤ 100) (h0 : 0 ≤ p) (h1 : p ≤ 400000000000000000) : Dr (fun k => spec_l1Cur_keys.f k s p sd (n : Int)) p (12 * (n : Int) + 2) (Kys n) := by
  obtain ⟨v, p', sd', e, hv, q0, q1⟩ := pick_ok hs sd (n := (n : Int) + 1) h0 (by omega)
  obtain ⟨u, p2, sd2, eu, hu, r0, r1⟩ := keys_l0 hs v.toNat 0 [] p' sd' ⟨by simp, by simp⟩ (by omega) q0 (by omega)
  refine ⟨u, p2, sd2, ?_, hu.mono (by omega), r0, by omega⟩
  unfold spec_l1Cur_keys.f
  rw [w64 (x := (n : Int) + 1) (by omega) (by omega), e]
  refine ev_bind _ (Ev.now _) ?_
  rw [show ((v.toNat : Nat) : Int) = v from by omega] at eu
  exact eu
end Go.Proofs.YtephjmmkggcmeaaQ
namespace Go.Proofs.YtephjmmkggcmeaaQ
open Go Go.RowKit Go.Proofs.YtephjmmkggcmeaaW.PrintWords Go.Proofs.YtephjmmkggcmeaaGp Go.Proofs.Ytephjmmkggcmeaa.PG

theorem Dr.mono {α : Type} {g : Nat → Option (α × Int × Int)} {p c c' : Int} {P P' : α → Prop} (h : Dr g p c P) (hc : c ≤ c') (hP : ∀ x, P x → P' x) : Dr g p c' P' := by
  obtain ⟨v, p', sd', e, hv, q0, q1⟩ := h
  exact ⟨v, p', sd', e, hP v hv, q0, by omega⟩
theorem seed9_ok {s : List Int} (hs : Bys s) {p : Int} (sd : Int) (h0 : 0 ≤ p) (h1 : p ≤ 1000000000000000000) :
    ∃ v p' sd', spec_l1Cur_seed9.f s p sd = some (v, p', sd') ∧ (-1 ≤ v ∧ v ≤ 10000) ∧ 0 ≤ p' ∧ p' ≤ p + 4 := by
  obtain ⟨v, p', sd', e, hv, q0, q1⟩ := pick_ok hs sd (n := 12) h0 (by omega)
  unfold spec_l1Cur_seed9.f
  rw [e]
  simp only [Option.bind_some]
  by_cases c : v = 0
  · obtain ⟨u, p2, sd2, eu, hu, r0, r1⟩ := among_ok hs sd' (l := [(-1), 9999, 10000]) (by simp) q0 (by omega)
    rw [if_pos c, eu]
    refine ⟨u, p2, sd2, rfl, ?_, r0, by omega⟩
    simp only [List.mem_cons, List.not_mem_nil, or_false] at hu
    omega
  · rw [if_neg c]
    by_cases d : v = 1
    · obtain ⟨u, p2, sd2, eu, hu, r0, r1⟩ := pick_ok hs sd' (n := 10000) q0 (by omega)
      rw [if_pos d, eu]
      exact ⟨u, p2, sd2, rfl, by omega, r0, by omega⟩
    · obtain ⟨u, p2, sd2, eu, hu, r0, r1⟩ := pick_ok hs sd' (n := 20) q0 (by omega)
      rw [if_neg d, eu]
      exact ⟨u, p2, sd2, rfl, by omega, r0, by omega⟩
theorem of_ok {s : List Int} (hs : Bys s) {p : Int} (sd : Int) {l : List ByteArray} (hl : 0 < l.length) (h0 : 0 ≤ p) (h1 : p ≤ 3000000000000000000) :
    ∃ v p' sd', spec_l1Cur_of.f s p sd l = some (v, p', sd') ∧ v ∈ l ∧ 0 ≤ p' ∧ p' ≤ p + 2 := by
  obtain ⟨v, p', sd', e, hv, q0, q1⟩ := pick_ok hs sd (n := (l.length : Int)) h0 h1
  have hm : rdOf ByteArray.empty l v ∈ l := by
    unfold rdOf
    have : v.toNat < l.length := by omega
    rw [List.getD_eq_getElem?_getD, List.getElem?_eq_getElem this]
    exact List.getElem_mem this
  unfold spec_l1Cur_of.f
  rw [e]
  simp only [Option.bind_some]
  rw [if_pos (by omega), if_pos (by omega)]
  exact ⟨_, _, _, rfl, hm, q0, q1⟩
theorem text_ok {s : List Int} (hs : Bys s) {p : Int} (sd : Int) (h0 : 0 ≤ p) (h1 : p ≤ 500000000000000000) : Dr (fun k => spec_l1Cur_text.f k s p sd) p 14 (fun v => v.size ≤ 13) := by
  obtain ⟨v, p', sd', e, hv, q0, q1⟩ := pick_ok hs sd (n := 16) h0 (by omega)
  obtain ⟨u, p2, sd2, eu, hu, r0, r1⟩ := key_ok hs sd' q0 (by omega)
  unfold spec_l1Cur_text.f
  rw [e]
  simp only [Option.bind_some]
  by_cases c0 : v = 0
  · exact ⟨_, p', sd', ev_pos c0 (Ev.now _), by decide, q0, by omega⟩
  · by_cases c1 : v = 1
    · have h1 : (⟨#[32]⟩ : ByteArray).size = 1 := rfl
      refine ⟨u ++ ⟨#[32]⟩, p2, sd2, ev_neg c0 (ev_pos c1 (ev_bind _ eu (ev_pos (by simp only []; omega) (Ev.now _)))), ?_, r0, by omega⟩
      show (u ++ ⟨#[32]⟩ : ByteArray).size ≤ 13
      rw [ByteArray.size_append]
      omega
    · by_cases c2 : v = 2
      · exact ⟨_, p', sd', ev_neg c0 (ev_neg c1 (ev_pos c2 (Ev.now _))), by decide, q0, by omega⟩
      · by_cases c3 : v = 3
        · obtain ⟨x, p3, sd3, ex, hx, t0, t1⟩ := of_ok hs sd' (l := [(⟨#[126]⟩ : ByteArray), (⟨#[125]⟩ : ByteArray), (⟨#[97, 126]⟩ : ByteArray), (⟨#[127]⟩ : ByteArray)]) (by simp) q0 (by omega)
          refine ⟨x, p3, sd3, ev_neg c0 (ev_neg c1 (ev_neg c2 (ev_pos c3 ?_))), ?_, t0, by omega⟩
          · rw [ex]; exact ev_bind _ (Ev.now _) (Ev.now _)
          · simp only [List.mem_cons, List.not_mem_nil, or_false] at hx
            rcases hx with rfl | rfl | rfl | rfl <;> decide
        · exact ⟨u, p2, sd2, ev_neg c0 (ev_neg c1 (ev_neg c2 (ev_neg c3 (ev_bind _ eu (Ev.now _))))), by omega, r0, by omega⟩
theorem big_f {l0 l1 : List Int} (h0 : l0.length ≤ maxLen) (h1 : l1.length ≤ maxLen) : ∃ b, laws_big.f l0 l1 = some b ∧ (b = false → (l0.length : Int) ≤ 1048576 ∧ (l1.length : Int) ≤ 1048576) := by
  rw [maxLen_eq] at h0 h1
  unfold laws_big.f
  by_cases c : (l0.length : Int) > 1048576
  · exact ⟨true, if_pos c, by simp⟩
  · refine ⟨_, if_neg c, fun h => ?_⟩
    rw [decide_eq_false_iff_not, w64 (by omega) (by omega)] at h
    omega
theorem bys {l : List Int} (h : (l.length : Int) ≤ 1048576) (hw : ∀ x ∈ l, (Lit.int .u8 x).wf = true) : Bys l := by
  refine ⟨h, fun x hx => ?_⟩
  have := hw x hx
  simp only [Lit.wf, Bool.and_eq_true, decide_eq_true_eq] at this
  exact this
end Go.Proofs.YtephjmmkggcmeaaQ
namespace Go.Proofs.YtephjmmkggcmeaaQ
open Go Go.RowKit Go.Proofs.YtephjmmkggcmeaaW.PrintWords Go.Proofs.YtephjmmkggcmeaaGp Go.Proofs.Ytephjmmkggcmeaa.PG

end Go.Proofs.YtephjmmkggcmeaaQ
namespace Go.Proofs.YtephjmmkggcmeaaQ.CK
open Classical

def el (ls : List (List Int)) (i : Nat) : List Int := ls.getD i []
def Adj (ls : List (List Int)) (i j : Nat) : Prop := ∃ x, x ∈ el ls i ∧ x ∈ el ls j
inductive Reach (ls : List (List Int)) : Nat → Nat → Prop
  | refl (i : Nat) : Reach ls i i
  | step {i j k : Nat} : Reach ls i j → k < ls.length → Adj ls j k → Reach ls i k
theorem Adj.symm {ls : List (List Int)} {i j : Nat} (h : Adj ls i j) : Adj ls j i := by
  obtain ⟨x, h1, h2⟩ := h
  exact ⟨x, h2, h1⟩
theorem Reach.trans {ls : List (List Int)} {i j k : Nat} (h : Reach ls i j) (h' : Reach ls j k) : Reach ls i k := by
  induction h' with
  | refl => exact h
  | step _ hk ha ih => exact .step ih hk ha
theorem Reach.lt {ls : List (List Int)} {i j : Nat} (h : Reach ls i j) (hi : i < ls.length) : j < ls.length := by
  cases h with
  | refl => exact hi
  | step _ hk _ => exact hk
theorem Reach.symm {ls : List (List Int)} {i j : Nat} (h : Reach ls i j) (hi : i < ls.length) : Reach ls j i := by
  induction h with
  | refl => exact .refl _
  | step h1 hk ha ih => exact (Reach.step (.refl _) (h1.lt hi) ha.symm).trans ih
def Own (ls : List (List Int)) (m : Nat) (f : Nat → Int) : Prop := (∀ i, i < m → f i ∈ el ls i) ∧ ∀ i j, i < m → j < m → f i = f j → i = j
noncomputable def cnt (n : Nat) (o : Nat → Int) (v : Int) : Nat := (List.range n).countP (fun i => decide (o i = v))
section
variable {ls : List (List Int)} {n : Nat}
def Path (ls : List (List Int)) (n : Nat) (o : Nat → Int) : Nat → Int → Int → Prop
  | 0, v, w => w = v
  | k + 1, v, w => ∃ d v', d < n ∧ o d = v ∧ v' ∈ el ls d ∧ Path ls n o k v' w
theorem Path.snoc {o : Nat → Int} : ∀ {k : Nat} {v w : Int}, Path ls n o k v w → ∀ {d : Nat} {x : Int}, d < n → o d = w → x ∈ el ls d → Path ls n o (k + 1) v x
  | 0, _, _, h, d, x, hd, ho, hx => ⟨d, x, hd, ho.trans h, hx, rfl⟩
  | _ + 1, _, _, ⟨e, v', he, ho', hv, hp⟩, _, _, hd, ho, hx => ⟨e, v', he, ho', hv, hp.snoc hd ho hx⟩
end

section
variable {ls : List (List Int)}
end
end Go.Proofs.YtephjmmkggcmeaaQ.CK
namespace Go.Proofs.YtephjmmkggcmeaaQ.CK
open Classical
section
variable {ls : List (List Int)}
noncomputable def heads (ls : List (List Int)) : List Nat := (List.range ls.length).filter (fun i => decide (∀ j, Reach ls i j → i ≤ j))
structure Found (ls : List (List Int)) (i : Nat) (F : Nat → Prop) (todo : List Nat) : Prop where
  here : F i
  sound : ∀ j, F j → Reach ls i j ∧ j < ls.length
  sub : ∀ j ∈ todo, F j
  shut : ∀ j k, F j → j ∉ todo → k < ls.length → Adj ls j k → F k
theorem Found.all {i : Nat} {F : Nat → Prop} (h : Found ls i F []) : ∀ j, F j ↔ Reach ls i j := by
  intro j
  refine ⟨fun hj => (h.sound j hj).1, fun hj => ?_⟩
  induction hj with
  | refl => exact h.here
  | step h1 hk ha ih => exact h.shut _ _ ih (by simp) hk ha
end
end Go.Proofs.YtephjmmkggcmeaaQ.CK
namespace Go.Proofs.YtephjmmkggcmeaaQ.CK
open Classical

section
variable {ls : List (List Int)}
structure Bfs (ls : List (List Int)) (k : Int) (i : Nat) (o0 o : List Int) (t : List Nat) : Prop where
  len : o.length = ls.length
  rest : ∀ q, o.getD q 0 ≠ k → o.getD q 0 = o0.getD q 0
  found : Found ls i (fun q => q < ls.length ∧ o.getD q 0 = k) t
  nodup : t.Nodup
structure Outer (ls : List (List Int)) (i : Nat) (o : List Int) (c : Nat) : Prop where
  len : o.length = ls.length
  cnt : c = ((heads ls).filter (fun h => decide (h < i))).length
  told : ∀ (a h : Nat), ((heads ls).filter (fun h => decide (h < i)))[a]? = some h → ∀ q, q < ls.length → (o.getD q 0 = (a : Int) ↔ Reach ls h q)
  free : ∀ q, q < ls.length → (∀ h, h ∈ heads ls → h < i → ¬ Reach ls h q) → o.getD q 0 < 0
end
end Go.Proofs.YtephjmmkggcmeaaQ.CK
namespace Go.Proofs.YtephjmmkggcmeaaQ
open Go Go.RowKit Go.Proofs.YtephjmmkggcmeaaW.PrintWords Go.Proofs.YtephjmmkggcmeaaW.PrintMore Go.Proofs.YtephjmmkggcmeaaGp Go.Proofs.Ytephjmmkggcmeaa.PG
open CK (el)

def zs (l : List Nat) : List Int := l.map fun (n : Nat) => (n : Int)
section
variable {a n : Int}
theorem spec_cuCells_f (ha : 0 ≤ a) (ha' : a ≤ 9999) (s : ByteArray) (hz : s.size ≤ 1000) : Ev (fun k => spec_cuCells.f k a s n) [placeV a 0 s n, placeV a 1 s n] := by
  unfold spec_cuCells.f
  exact ev_bind _ (spec_biPlace_f a 0 s n (by omega) ha (by omega) (by omega) (by omega)) (ev_bind _ (spec_biPlace_f a 1 s n (by omega) ha (by omega) (by omega) (by omega)) (Ev.now _))
theorem impl_cellsOf_f (ha : 0 ≤ a) (ha' : a ≤ 9999) (s : ByteArray) (hz : s.size ≤ 1000) : Ev (fun k => impl_cellsOf.f k a s n) (placeV a 0 s n, placeV a 1 s n) := by
  unfold impl_cellsOf.f
  exact ev_bind _ (impl_place_f a 0 s n (by omega) ha (by omega) (by omega) (by omega)) (ev_bind _ (impl_place_f a 1 s n (by omega) ha (by omega) (by omega) (by omega)) (Ev.now _))
end
end Go.Proofs.YtephjmmkggcmeaaQ
namespace Go.Proofs.YtephjmmkggcmeaaQ.KC
open Go Go.RowKit Go.Proofs.YtephjmmkggcmeaaW.PrintWords Go.Proofs.YtephjmmkggcmeaaW.PrintMore Go.Proofs.YtephjmmkggcmeaaGp Go.Proofs.Ytephjmmkggcmeaa.PG Go.Proofs.YtephjmmkggcmeaaQ

abbrev Str := List UInt8
theorem bl_tri (a b : Str) : Op.bytesLess a b = true ∨ a = b ∨ Op.bytesLess b a = true := by
  have t := bl_total a b
  cases h : Op.bytesLess b a
  · rw [h] at t
    simp only [Bool.not_false, Bool.or_eq_true, beq_iff_eq] at t
    rcases t with t | t
    · exact .inl t
    · exact .inr (.inl t)
  · exact .inr (.inr rfl)
theorem bl_asymm {a b : Str} (h : Op.bytesLess a b = true) : Op.bytesLess b a = false := by
  cases hb : Op.bytesLess b a
  · rfl
  · have := bl_trans _ _ _ h hb
    rw [bl_irrefl] at this
    cases this
theorem ext_of {α : Type} (r : α → α → Prop) (irr : ∀ a, ¬ r a a) (tr : ∀ a b c, r a b → r b c → r a c) : ∀ {l m : List α}, l.Pairwise r → m.Pairwise r → (∀ x, x ∈ l ↔ x ∈ m) → l = m
  | [], [], _, _, _ => rfl
  | [], b :: m, _, _, h => by have := (h b).2 (by simp); simp at this
  | a :: l, [], _, _, h => by have := (h a).1 (by simp); simp at this
  | a :: l, b :: m, hl, hm, h => by
    obtain ⟨ha, hl'⟩ := List.pairwise_cons.1 hl
    obtain ⟨hb, hm'⟩ := List.pairwise_cons.1 hm
    have e : a = b := by
      rcases List.mem_cons.1 ((h a).1 (by simp)) with e | ia
      · exact e
      · rcases List.mem_cons.1 ((h b).2 (by simp)) with e | ib
        · exact e.symm
        · exact absurd (tr _ _ _ (ha b ib) (hb a ia)) (irr a)
    subst e
    refine congrArg (a :: ·) (ext_of r irr tr hl' hm' fun x => ?_)
    constructor
    · intro hx
      rcases List.mem_cons.1 ((h x).1 (by simp [hx])) with e | i
      · subst e; exact absurd (ha x hx) (irr x)
      · exact i
    · intro hx
      rcases List.mem_cons.1 ((h x).2 (by simp [hx])) with e | i
      · subst e; exact absurd (hb x hx) (irr x)
      · exact i
theorem bl_lt : ∀ a b : Str, Op.bytesLess a b = true ↔ a < b
  | [], [] => by simp [Op.bytesLess]
  | [], _ :: _ => by simp [Op.bytesLess]
  | _ :: _, [] => by simp [Op.bytesLess]
  | a :: l, b :: m => by
    rw [List.cons_lt_cons_iff]
    simp only [Op.bytesLess, Bool.or_eq_true, Bool.and_eq_true, decide_eq_true_eq, beq_iff_eq, bl_lt l m]
theorem le_bl {a b : Str} : decide (a ≤ b) = true ↔ Op.bytesLess b a = false := by
  rw [decide_eq_true_eq, ← Bool.not_eq_true, bl_lt, List.not_lt]

abbrev SK (l : List ByteArray) : Prop := l.Pairwise fun a b => lessS a b = true
theorem insK_mem {x y : ByteArray} : ∀ {l : List ByteArray}, y ∈ insK x l ↔ y = x ∨ y ∈ l
  | [] => by simp [insK]
  | z :: t => by
    unfold insK
    split
    · rw [List.mem_cons, insK_mem, List.mem_cons]
      constructor
      · rintro (h | h | h)
        · exact .inr (.inl h)
        · exact .inl h
        · exact .inr (.inr h)
      · rintro (h | h | h)
        · exact .inr (.inl h)
        · exact .inl h
        · exact .inr (.inr h)
    · split
      · rename_i e
        rw [List.mem_cons]
        constructor
        · intro h; exact .inr h
        · rintro (h | h)
          · exact .inl (h.trans e.symm)
          · exact h
      · simp [List.mem_cons]
theorem insK_sorted {x : ByteArray} : ∀ {l : List ByteArray}, SK l → SK (insK x l)
  | [], _ => by simp [insK]
  | z :: t, h => by
    obtain ⟨h1, h2⟩ := List.pairwise_cons.1 h
    unfold insK
    split
    · rename_i c
      refine List.pairwise_cons.2 ⟨fun y hy => ?_, insK_sorted h2⟩
      rcases insK_mem.1 hy with rfl | hy
      · exact c
      · exact h1 y hy
    · split
      · exact h
      · rename_i c e
        have hx : lessS x z = true := by
          rcases lessS_total z x (by simpa using c) with t | t
          · exact t
          · exact absurd t e
        refine List.pairwise_cons.2 ⟨fun y hy => ?_, h⟩
        rcases List.mem_cons.1 hy with rfl | hy
        · exact hx
        · exact lessS_trans hx (h1 y hy)
def setK (M : List ByteArray) (acc : List ByteArray) : List ByteArray := M.foldl (fun a x => insK x a) acc
theorem setK_ok : ∀ (M acc : List ByteArray), SK acc → SK (setK M acc) ∧ ∀ x, x ∈ setK M acc ↔ x ∈ acc ∨ x ∈ M
  | [], acc, h => ⟨h, fun x => by simp [setK]⟩
  | m :: M, acc, h => by
    obtain ⟨h1, h2⟩ := setK_ok M (insK m acc) (insK_sorted h)
    refine ⟨h1, fun x => ?_⟩
    show x ∈ setK M (insK m acc) ↔ _
    rw [h2, insK_mem, List.mem_cons]
    constructor
    · rintro ((h | h) | h)
      · exact .inr (.inl h)
      · exact .inl h
      · exact .inr (.inr h)
    · rintro (h | h | h)
      · exact .inl (.inr h)
      · exact .inl (.inl h)
      · exact .inr h
theorem sk_ext {a b : List ByteArray} (h1 : SK a) (h2 : SK b) (h : ∀ x, x ∈ a ↔ x ∈ b) : a = b :=
  ext_of (fun a b => lessS a b = true) (fun a => by rw [lessS_irrefl]; simp) (fun _ _ _ h k => lessS_trans h k) h1 h2 h
theorem bytes_le_trans (a b c : Str) (h1 : decide (a ≤ b) = true) (h2 : decide (b ≤ c) = true) : decide (a ≤ c) = true := by
  rw [le_bl] at *
  cases h : Op.bytesLess c a
  · rfl
  · rcases bl_tri a b with t | t | t
    · rw [bl_trans _ _ _ h t] at h2; cases h2
    · subst t; rw [h] at h2; cases h2
    · rw [t] at h1; cases h1
theorem bytes_le_total (a b : Str) : (decide (a ≤ b) || decide (b ≤ a)) = true := by
  rw [Bool.or_eq_true, le_bl, le_bl]
  cases h : Op.bytesLess b a
  · exact .inl rfl
  · exact .inr (bl_asymm h)
theorem sortS_perm (l : List ByteArray) : (sortS l).Perm l := by
  have h := (List.mergeSort_perm (bytesL l) (fun x y : Str => decide (x ≤ y))).map (fun b => (⟨b.toArray⟩ : ByteArray))
  refine h.trans ?_
  have e : (bytesL l).map (fun b => (⟨b.toArray⟩ : ByteArray)) = l := by
    unfold bytesL
    rw [List.map_map]
    exact (List.map_congr_left fun _ _ => by simp).trans (List.map_id l)
  rw [e]
theorem sortS_le (l : List ByteArray) : (sortS l).Pairwise fun a b => lessS b a = false := by
  have hp := List.pairwise_mergeSort (le := fun x y : Str => decide (x ≤ y)) (fun a b c => bytes_le_trans a b c) (fun a b => bytes_le_total a b) (bytesL l)
  refine List.pairwise_map.2 (hp.imp fun {a b} hab => ?_)
  unfold lessS
  rw [tl, tl]
  simpa using le_bl.1 hab
theorem sk_nodup {l : List ByteArray} (h : SK l) : l.Nodup := h.imp fun {a b} h e => by rw [e, lessS_irrefl] at h; cases h
theorem sortS_sk {l : List ByteArray} (h : l.Nodup) : SK (sortS l) := by
  have hn : (sortS l).Nodup := (sortS_perm l).nodup_iff.2 h
  refine ((sortS_le l).and hn).imp fun {a b} hab => ?_
  rcases lessS_total b a hab.1 with t | t
  · exact t
  · exact absurd t.symm hab.2
theorem sortS_sk_iff {l : List ByteArray} : SK (sortS l) ↔ l.Nodup := ⟨fun h => (sortS_perm l).nodup_iff.1 (sk_nodup h), sortS_sk⟩
theorem setK_sort {l : List ByteArray} (h : l.Nodup) : setK l [] = sortS l := by
  obtain ⟨h1, h2⟩ := setK_ok l [] List.Pairwise.nil
  refine sk_ext h1 (sortS_sk h) fun x => ?_
  rw [h2, (sortS_perm l).mem_iff]
  simp
theorem sortS_eq {l m : List ByteArray} (h : l.Perm m) (hn : l.Nodup) : sortS l = sortS m := by
  refine sk_ext (sortS_sk hn) (sortS_sk (h.nodup_iff.1 hn)) fun x => ?_
  rw [(sortS_perm l).mem_iff, (sortS_perm m).mem_iff, h.mem_iff]
theorem insK_has (s : ByteArray) : ∀ {l : List ByteArray}, SK l → s ∈ l → insK s l = l
  | z :: t, h, hs => by
    obtain ⟨h1, h2⟩ := List.pairwise_cons.1 h
    unfold insK
    split
    · rename_i c
      rcases List.mem_cons.1 hs with e | hs
      · rw [e, lessS_irrefl] at c; cases c
      · rw [insK_has s h2 hs]
    · split
      · rfl
      · rename_i c e
        have hx : lessS s z = true := by
          rcases lessS_total z s (by simpa using c) with t | t
          · exact t
          · exact absurd t e
        rcases List.mem_cons.1 hs with d | d
        · exact absurd d.symm e
        · have := lessS_trans hx (h1 s d)
          rw [lessS_irrefl] at this
          cases this
theorem insK_perm (s : ByteArray) : ∀ {l : List ByteArray}, SK l → s ∉ l → (insK s l).Perm (s :: l)
  | [], _, _ => by simp [insK]
  | z :: t, h, hs => by
    obtain ⟨h1, h2⟩ := List.pairwise_cons.1 h
    unfold insK
    split
    · exact ((insK_perm s h2 (fun m => hs (by simp [m]))).cons z).trans (List.Perm.swap _ _ _)
    · split
      · rename_i c e
        exact absurd (by simp [e]) hs
      · exact List.Perm.refl _
theorem setK_le : ∀ (M acc : List ByteArray), SK acc → (setK M acc).length ≤ acc.length + M.length
  | [], acc, _ => by simp [setK]
  | m :: M, acc, h => by
    have := setK_le M (insK m acc) (insK_sorted h)
    have e := insK_len m acc
    show (setK M (insK m acc)).length ≤ _
    rw [List.length_cons]
    omega
theorem setK_size : ∀ (M acc : List ByteArray), SK acc → ((setK M acc).length = acc.length + M.length ↔ M.Nodup ∧ ∀ x ∈ M, x ∉ acc)
  | [], acc, _ => by simp [setK]
  | m :: M, acc, h => by
    have hs := insK_sorted (x := m) h
    have IH := setK_size M (insK m acc) hs
    have hle := setK_le M (insK m acc) hs
    show (setK M (insK m acc)).length = _ ↔ _
    rw [List.length_cons, List.nodup_cons]
    by_cases d : m ∈ acc
    · have e := congrArg List.length (insK_has m h d)
      constructor
      · intro q; omega
      · intro q; exact absurd d (q.2 m (by simp))
    · have e := (insK_perm m h d).length_eq
      rw [List.length_cons] at e
      rw [e] at IH
      constructor
      · intro q
        obtain ⟨q1, q2⟩ := IH.1 (by omega)
        refine ⟨⟨fun hm => q2 m hm (insK_mem.2 (.inl rfl)), q1⟩, fun x hx => ?_⟩
        rcases List.mem_cons.1 hx with rfl | hx
        · exact d
        · exact fun hx2 => q2 x hx (insK_mem.2 (.inr hx2))
      · rintro ⟨⟨q1, q2⟩, q3⟩
        have := IH.2 ⟨q2, fun x hx hx2 => by
          rcases insK_mem.1 hx2 with rfl | hx2
          · exact q1 hx
          · exact q3 x (by simp [hx]) hx2⟩
        omega
theorem keysFrom_iff : ∀ (l : List ByteArray) (p : Option ByteArray), keysFrom p l = true ↔ (∀ s ∈ l, isKeyB s = true) ∧ SK l ∧ ∀ q, p = some q → ∀ s ∈ l, lessS q s = true
  | [], p => by simp [keysFrom]
  | x :: t, p => by
    simp only [keysFrom, Bool.and_eq_true]
    rw [keysFrom_iff t (some x), show SK (x :: t) ↔ _ from List.pairwise_cons]
    constructor
    · rintro ⟨⟨h1, h2⟩, h3, h4, h5⟩
      refine ⟨fun s hs => ?_, ⟨h5 x rfl, h4⟩, fun q e s hs => ?_⟩
      · rcases List.mem_cons.1 hs with rfl | hs
        · exact h1
        · exact h3 s hs
      · subst e
        rcases List.mem_cons.1 hs with rfl | hs
        · exact h2
        · exact lessS_trans h2 (h5 x rfl s hs)
    · rintro ⟨h1, ⟨h2, h3⟩, h4⟩
      refine ⟨⟨h1 x (by simp), ?_⟩, fun s hs => h1 s (by simp [hs]), h3, fun q e => by cases e; exact h2⟩
      cases p with
      | none => rfl
      | some q => exact h4 q rfl x (by simp)
theorem areKeys_iff {l : List ByteArray} : areKeysB l = true ↔ (∀ s ∈ l, isKeyB s = true) ∧ SK l ∧ l.length ≤ 40 := by
  unfold areKeysB
  rw [Bool.and_eq_true, keysFrom_iff, decide_eq_true_eq]
  constructor
  · rintro ⟨⟨h1, h2, _⟩, h3⟩; exact ⟨h1, h2, by omega⟩
  · rintro ⟨h1, h2, h3⟩; exact ⟨⟨h1, h2, fun _ e => by cases e⟩, by omega⟩
theorem keysFrom_none {l : List ByteArray} : areKeysB (sortS l) = true ↔ (∀ s ∈ l, isKeyB s = true) ∧ l.Nodup ∧ l.length ≤ 40 := by
  rw [areKeys_iff, sortS_sk_iff, (sortS_perm l).length_eq]
  constructor
  · rintro ⟨h1, h2⟩; exact ⟨fun s hs => h1 s ((sortS_perm l).mem_iff.2 hs), h2⟩
  · rintro ⟨h1, h2⟩; exact ⟨fun s hs => h1 s ((sortS_perm l).mem_iff.1 hs), h2⟩
abbrev emp : ByteArray := ⟨#[]⟩
theorem tl_emp {s : ByteArray} : s.toList = ([] : List UInt8) ↔ s = emp := by
  rw [tl]
  constructor
  · intro h
    refine ByteArray.ext (Array.toList_inj.1 ?_)
    rw [h]
  · intro h; rw [h]
theorem key_ne {s : ByteArray} (h : isKeyB s = true) : s ≠ emp := by
  rintro rfl
  have := (isKeyB_size h).1
  simp [ByteArray.size] at this
def nz (l : List ByteArray) : List ByteArray := l.filter fun s => decide (s ≠ emp)
theorem nz_app (l m : List ByteArray) : nz (l ++ m) = nz l ++ nz m := by simp [nz]
theorem nz_nil : nz [] = [] := rfl
theorem nz_mem {l : List ByteArray} {s : ByteArray} : s ∈ nz l ↔ s ∈ l ∧ s ≠ emp := by simp [nz]
theorem nz_cons_emp (l : List ByteArray) : nz (emp :: l) = nz l := by simp [nz]
theorem nz_cons {s : ByteArray} (h : s ≠ emp) (l : List ByteArray) : nz (s :: l) = s :: nz l := by simp [nz, h]
theorem nz_id {l : List ByteArray} (h : ∀ s ∈ l, s ≠ emp) : nz l = l := by
  unfold nz
  rw [List.filter_eq_self]
  intro s hs
  simpa using h s hs
theorem nz_len (l : List ByteArray) : (nz l).length ≤ l.length := List.length_filter_le _ _
theorem nz_perm {l m : List ByteArray} (h : l.Perm m) : (nz l).Perm (nz m) := h.filter _
theorem set_perm : ∀ {l : List ByteArray} {i : Nat} (h : i < l.length) (x : ByteArray), (l[i] :: l.set i x).Perm (x :: l)
  | y :: t, 0, _, x => by simpa using List.Perm.swap x y t
  | y :: t, i + 1, h, x => by
    have := set_perm (l := t) (i := i) (by simpa using h) x
    simp only [List.getElem_cons_succ, List.set_cons_succ]
    exact (List.Perm.swap _ _ _).trans ((this.cons y).trans (List.Perm.swap _ _ _))
theorem set_in {l : List ByteArray} {i : Nat} (h : i < l.length) {x : ByteArray} (hx : x ≠ emp) (he : l[i] = emp) : (nz (l.set i x)).Perm (x :: nz l) := by
  have := nz_perm (set_perm h x)
  rw [he, nz_cons_emp, nz_cons hx] at this
  exact this
theorem set_swap {l : List ByteArray} {i : Nat} (h : i < l.length) {x : ByteArray} (hx : x ≠ emp) (he : l[i] ≠ emp) : (l[i] :: nz (l.set i x)).Perm (x :: nz l) := by
  have := nz_perm (set_perm h x)
  rw [nz_cons he, nz_cons hx] at this
  exact this
end Go.Proofs.YtephjmmkggcmeaaQ.KC
namespace Go.Proofs.YtephjmmkggcmeaaQ.KC
open Go Go.RowKit Go.Proofs.YtephjmmkggcmeaaW.PrintWords Go.Proofs.YtephjmmkggcmeaaW.PrintMore Go.Proofs.YtephjmmkggcmeaaGp Go.Proofs.Ytephjmmkggcmeaa.PG Go.Proofs.YtephjmmkggcmeaaQ

def cel (a n : Int) (s : ByteArray) (i : Int) : Bool := decide (placeV a 0 s n = i) || decide (placeV a 1 s n = i)
def slotsB (a n : Int) : List ByteArray → Nat → Bool
  | [], _ => true
  | s :: t, i => (decide (s = emp) || (isKeyB s && cel a n s (i : Int))) && slotsB a n t (i + 1)
structure Tab (S T : List ByteArray) : Prop where
  s : S.length ≤ 1000
  t : T.length ≤ 1000
  zs : ∀ x ∈ S, x.size ≤ 1000
  zt : ∀ x ∈ T, x.size ≤ 1000
def goodB (a : Int) (S T : List ByteArray) : Bool :=
  decide (0 ≤ a ∧ a ≤ 9999) && (decide (1 ≤ (S.length : Int) ∧ (S.length : Int) ≤ 64) && (decide ((T.length : Int) ≤ 4) && (areKeysB T && (slotsB a (S.length : Int) S 0 && areKeysB (sortS (nz S ++ T))))))

theorem clone_S {l : List ByteArray} (h : l.length ≤ 1000) : slices_Clone_string_string.f l = some l := by
  unfold slices_Clone_string_string.f
  simp only [Option.bind_some]
  rw [if_pos (by simp; omega)]
  simp
theorem own_S {l : List ByteArray} (h : l.length ≤ 1000) : spec_l1OwnS.f l = some l := by
  unfold spec_l1OwnS.f
  simp only [Option.bind_some]
  rw [if_pos (by simp; omega)]
  simp
theorem fullS_nz : ∀ l, fullS l = nz l
  | [] => rfl
  | x :: t => by
    have ih := fullS_nz t
    unfold fullS bytesL at ih ⊢
    rw [List.map_cons, List.filter_cons]
    by_cases c : x = emp
    · subst c
      rw [nz_cons_emp, ← ih]
      simp
    · rw [nz_cons c, ← ih]
      have : (!(x.data.toList == [])) = true := by
        rw [Bool.not_eq_true', beq_eq_false_iff_ne]
        exact fun e => c (by rw [← tl] at e; exact tl_emp.1 e)
      rw [if_pos this, List.map_cons]
theorem impl_all_f (a : Int) {S T : List ByteArray} (h : Tab S T) (h0 : 0 < S.length) : impl_Cuckoo_all.f a S T = some (nz S ++ T) := by
  have := nz_len S
  have h1 := h.s
  have h2 := h.t
  unfold impl_Cuckoo_all.f slices_DeleteFunc_string_string_at_impl_Cuckoo_all_1.f
  rw [clone_S h.s]
  simp only [Option.bind_some, fullS_nz]
  rw [if_pos h0, Option.bind_some, if_pos (by omega)]
theorem nz_size {S : List ByteArray} (h : ∀ x ∈ S, x.size ≤ 1000) : ∀ x ∈ nz S, x.size ≤ 1000 := fun x hx => h x (nz_mem.1 hx).1
theorem all_sorted (a : Int) {S T : List ByteArray} (h : Tab S T) (h0 : 0 < S.length) : Ev (fun k => (impl_Cuckoo_all.f a S T).bind fun t => (slices_Sort_string_string.f t).bind fun u => (impl_AreKeys.f k u).bind fun b => some b) (areKeysB (sortS (nz S ++ T))) := by
  have h1 := h.s
  have h2 := h.t
  have h3 := nz_len S
  have hl : (nz S ++ T).length ≤ 2000 := by rw [List.length_append]; omega
  rw [impl_all_f a h h0]
  simp only [Option.bind_some]
  unfold slices_Sort_string_string.f
  rw [if_pos (by omega)]
  simp only [Option.bind_some]
  refine ev_bind _ (impl_AreKeys_f _ (by rw [(sortS_perm _).length_eq]; omega) (fun s hs => ?_)) (Ev.now _)
  rw [(sortS_perm _).mem_iff] at hs
  rcases List.mem_append.1 hs with hs | hs
  · have := nz_size h.zs s hs; omega
  · have := h.zt s hs; omega
section
variable {a : Int} {S T : List ByteArray}
theorem impl_IsCuckoo_l0 (ha : 0 ≤ a ∧ a ≤ 9999) (h : Tab S T) (h0 : 0 < S.length) : ∀ (t pre : List ByteArray), S = pre ++ t →
    Ev (fun k => impl_IsCuckoo.l0 k S (S.length : Int) (pre.length : Int) a S T) (slotsB a (S.length : Int) t pre.length && areKeysB (sortS (nz S ++ T))) := by
  intro t
  induction t with
  | nil =>
    intro pre e
    refine ev_succ ?_
    simp only [impl_IsCuckoo.l0, slotsB, Bool.true_and]
    exact ev_neg (by rw [e]; exact not_lt_end) (all_sorted a h h0)
  | cons x t ih =>
    intro pre e
    have h1 := h.s
    have hm : ((pre.length : Nat) : Int) < (S.length : Int) := by rw [e]; exact lt_mid
    have hg : rdOf ByteArray.empty S (pre.length : Int) = x := by rw [e]; exact rdOf_mid
    have hx : x.size ≤ 1000 := h.zs x (by rw [e]; simp)
    have IH := ih (pre ++ [x]) (by rw [e]; simp)
    rw [len_one] at IH
    have e2 : slotsB a (S.length : Int) (x :: t) pre.length = ((decide (x = emp) || (isKeyB x && cel a (S.length : Int) x (pre.length : Int))) && slotsB a (S.length : Int) t (pre ++ [x]).length) := by simp [slotsB]
    refine ev_succ ?_
    simp only [impl_IsCuckoo.l0, hg]
    rw [winc (by omega), e2]
    refine ev_pos hm (ev_pos (by omega) (ev_pos hm ?_))
    by_cases c : x = emp
    · rw [decide_eq_true c, Bool.true_or, Bool.true_and]
      exact ev_pos (tl_emp.2 c) IH
    · rw [decide_eq_false c, Bool.false_or]
      refine ev_neg (fun q => c (tl_emp.1 q)) (ev_bind _ (impl_IsKey_f x (by omega)) ?_)
      cases hk : isKeyB x
      · exact ev_neg (by simp) (ev_some (by simp))
      · rw [Bool.true_and]
        refine ev_pos rfl (ev_bind _ (impl_cellsOf_f ha.1 ha.2 x hx) ?_)
        unfold cel
        by_cases d : placeV a 0 x (S.length : Int) = (pre.length : Int)
        · rw [decide_eq_true d, Bool.true_or, Bool.true_and]
          exact ev_pos d IH
        · rw [decide_eq_false d, Bool.false_or]
          refine ev_neg d ?_
          by_cases d2 : placeV a 1 x (S.length : Int) = (pre.length : Int)
          · rw [decide_eq_true d2, Bool.true_and]
            exact ev_pos d2 IH
          · rw [decide_eq_false d2]
            exact ev_neg d2 (ev_some (by simp))
theorem impl_IsCuckoo_f (h : Tab S T) : Ev (fun k => impl_IsCuckoo.f k a S T) (goodB a S T) := by
  have h1 := h.s
  have h2 := h.t
  have jt : Ev (fun k => impl_IsCuckoo.j0 k true a S T) false := ev_succ (by simp only [impl_IsCuckoo.j0]; exact ev_pos (by trivial) (Ev.now _))
  unfold impl_IsCuckoo.f impl_isSeed.f impl_cellsOk.f goodB
  simp only [impl_in, Option.bind_some]
  by_cases c : 0 ≤ a ∧ a ≤ 9999
  · rw [decide_eq_true c, Bool.true_and]
    refine ev_pos rfl ?_
    by_cases d : 1 ≤ (S.length : Int) ∧ (S.length : Int) ≤ 64
    · rw [decide_eq_true d, Bool.true_and]
      refine ev_pos rfl ?_
      by_cases e : (T.length : Int) ≤ 4
      · rw [decide_eq_true e, Bool.true_and]
        refine ev_neg (by omega) (ev_bind _ (impl_AreKeys_f T (by omega) (fun s hs => by have := h.zt s hs; omega)) ?_)
        cases hk : areKeysB T
        · exact jt
        · rw [Bool.true_and]
          refine ev_succ ?_
          simp only [impl_IsCuckoo.j0]
          exact ev_neg (by simp) (impl_IsCuckoo_l0 c h (by omega) S [] rfl)
      · rw [decide_eq_false e, Bool.false_and]
        exact ev_pos (by omega) jt
    · rw [decide_eq_false d, Bool.false_and]
      exact ev_neg (by simp) jt
  · rw [decide_eq_false c, Bool.false_and]
    exact ev_neg (by simp) jt
theorem spec_cuAll_l0 (X : List ByteArray) (hX : X.length ≤ 2000) : ∀ (t pre : List ByteArray) (acc : List ByteArray), X = pre ++ t → acc.length ≤ pre.length →
    Ev (fun k => spec_cuAll.l0 k acc X (X.length : Int) (pre.length : Int)) (setK (nz t) acc) := by
  intro t
  induction t with
  | nil =>
    intro pre acc e _
    refine ev_succ ?_
    simp only [spec_cuAll.l0]
    exact ev_neg (by rw [e]; exact not_lt_end) (Ev.now _)
  | cons x t ih =>
    intro pre acc e ha
    have hp : pre.length ≤ 2000 := by rw [e, List.length_append] at hX; omega
    have hm : ((pre.length : Nat) : Int) < (X.length : Int) := by rw [e]; exact lt_mid
    have hg : rdOf ByteArray.empty X (pre.length : Int) = x := by rw [e]; exact rdOf_mid
    refine ev_succ ?_
    simp only [spec_cuAll.l0, hg]
    rw [winc (by omega)]
    refine ev_pos hm (ev_pos (by omega) (ev_pos hm ?_))
    by_cases c : x = emp
    · have IH := ih (pre ++ [x]) acc (by rw [e]; simp) (by simp; omega)
      rw [len_one] at IH
      subst c
      rw [nz_cons_emp]
      exact ev_pos (tl_emp.2 rfl) IH
    · have IH := ih (pre ++ [x]) (insK x acc) (by rw [e]; simp) (by have := insK_len x acc; simp; omega)
      rw [len_one] at IH
      rw [nz_cons c]
      exact ev_neg (fun q => c (tl_emp.1 q)) (ev_bind _ (putS_f acc x (by omega)) IH)
theorem spec_cuAll_f (a : Int) (h : Tab S T) : Ev (fun k => spec_cuAll.f k a S T) (setK (nz (S ++ T)) []) := by
  have h1 := h.s
  have h2 := h.t
  unfold spec_cuAll.f
  rw [own_S h.s]
  simp only [Option.bind_some]
  exact ev_pos (by omega) (spec_cuAll_l0 (S ++ T) (by rw [List.length_append]; omega) (S ++ T) [] [] rfl (by simp))
theorem spec_has2 (x y i : Int) : Ev (fun k => spec_l1Has.f k [x, y] i) (decide (x = i) || decide (y = i)) := by
  unfold spec_l1Has.f
  refine ev_succ ?_
  simp only [spec_l1Has.l0]
  refine ev_pos (by simp) (ev_pos (by omega) (ev_pos (by simp) ?_))
  by_cases c : x = i
  · rw [decide_eq_true c, Bool.true_or]
    exact ev_pos (by simpa [rd] using c) (Ev.now _)
  · rw [decide_eq_false c, Bool.false_or]
    refine ev_neg (by simpa [rd] using c) (ev_succ ?_)
    simp only [spec_l1Has.l0]
    rw [w64 (x := 0 + 1) (by omega) (by omega)]
    refine ev_pos (by simp) (ev_pos (by omega) (ev_pos (by simp) ?_))
    by_cases d : y = i
    · rw [decide_eq_true d]
      exact ev_pos (by simpa [rd] using d) (Ev.now _)
    · rw [decide_eq_false d]
      refine ev_neg (by simpa [rd] using d) (ev_succ ?_)
      simp only [spec_l1Has.l0]
      rw [w64 (x := 0 + 1 + 1) (by omega) (by omega)]
      exact ev_neg (by simp) (Ev.now _)
theorem slotsB_keys {a n : Int} : ∀ (t : List ByteArray) (i : Nat), slotsB a n t i = true → ∀ s ∈ nz t, isKeyB s = true
  | [], _, _, s, hs => by simp [nz] at hs
  | x :: t, i, h, s, hs => by
    simp only [slotsB, Bool.and_eq_true, Bool.or_eq_true, decide_eq_true_eq] at h
    obtain ⟨hs1, hs2⟩ := nz_mem.1 hs
    rcases List.mem_cons.1 hs1 with rfl | hs1
    · rcases h.1 with c | c
      · exact absurd c hs2
      · exact c.1
    · exact slotsB_keys t (i + 1) h.2 s (nz_mem.2 ⟨hs1, hs2⟩)
theorem spec_cuGood_l0 (ha : 0 ≤ a ∧ a ≤ 9999) (h : Tab S T) (hT : areKeysB T = true) : ∀ (t pre : List ByteArray), S = pre ++ t →
    Ev (fun k => spec_cuGood.l0 k ((T.length + (nz pre).length : Nat) : Int) S (S.length : Int) (pre.length : Int) a S T) (slotsB a (S.length : Int) t pre.length && (decide ((nz S ++ T).length ≤ 40) && decide ((setK (nz S ++ T) []).length = (nz S ++ T).length))) := by
  intro t
  have h1 := h.s
  have h2 := h.t
  induction t with
  | nil =>
    intro pre e
    refine ev_succ ?_
    simp only [spec_cuGood.l0, slotsB, Bool.true_and]
    refine ev_neg (by rw [e]; exact not_lt_end) ?_
    obtain rfl : S = pre := by rw [e, List.append_nil]
    have hc := spec_cuAll_f a h
    rw [nz_app, nz_id (fun s hs => key_ne (areKeysB_all hT s hs))] at hc
    by_cases c : (nz S ++ T).length ≤ 40
    · rw [decide_eq_true c, Bool.true_and]
      rw [List.length_append] at c
      refine ev_pos (by omega) (ev_bind _ hc (ev_some ?_))
      rw [Bool.eq_iff_iff, beq_iff_eq, decide_eq_true_eq, List.length_append]
      omega
    · rw [decide_eq_false c, Bool.false_and]
      rw [List.length_append] at c
      exact ev_neg (by omega) (Ev.now _)
  | cons x t ih =>
    intro pre e
    have hp : pre.length ≤ 1000 := by have := h1; rw [e, List.length_append] at this; omega
    have hnp := nz_len pre
    have hm : ((pre.length : Nat) : Int) < (S.length : Int) := by rw [e]; exact lt_mid
    have hg : rdOf ByteArray.empty S (pre.length : Int) = x := by rw [e]; exact rdOf_mid
    have hx : x.size ≤ 1000 := h.zs x (by rw [e]; simp)
    have IH := ih (pre ++ [x]) (by rw [e]; simp)
    rw [len_one] at IH
    have e2 : slotsB a (S.length : Int) (x :: t) pre.length = ((decide (x = emp) || (isKeyB x && cel a (S.length : Int) x (pre.length : Int))) && slotsB a (S.length : Int) t (pre ++ [x]).length) := by simp [slotsB]
    refine ev_succ ?_
    simp only [spec_cuGood.l0, hg]
    rw [winc (by omega), winc (by omega), e2]
    refine ev_pos hm (ev_pos (by omega) (ev_pos hm ?_))
    rw [nz_app] at IH
    by_cases c : x = emp
    · rw [decide_eq_true c, Bool.true_or, Bool.true_and]
      rw [c, nz_cons_emp, nz_nil, List.append_nil, ← c] at IH
      exact ev_pos (tl_emp.2 c) IH
    · rw [decide_eq_false c, Bool.false_or]
      rw [nz_cons c, nz_nil, List.length_append, List.length_singleton, ← Nat.add_assoc] at IH
      refine ev_neg (fun q => c (tl_emp.1 q)) (ev_bind _ (spec_IsKey_f x (by omega)) ?_)
      cases hk : isKeyB x
      · exact ev_neg (by simp) (ev_some (by simp))
      · rw [Bool.true_and]
        refine ev_pos rfl (ev_bind _ (spec_cuCells_f ha.1 ha.2 x hx) (ev_bind _ (spec_has2 _ _ _) ?_))
        show Ev _ (cel a (S.length : Int) x (pre.length : Int) && _ && _)
        have ec : (decide (placeV a 0 x (S.length : Int) = (pre.length : Int)) || decide (placeV a 1 x (S.length : Int) = (pre.length : Int))) = cel a (S.length : Int) x (pre.length : Int) := rfl
        rw [ec]
        cases hc : cel a (S.length : Int) x (pre.length : Int)
        · exact ev_neg (by simp) (ev_some (by simp))
        · rw [Bool.true_and]
          exact ev_pos rfl IH
theorem spec_cuGood_f (h : Tab S T) : Ev (fun k => spec_cuGood.f k a S T) (goodB a S T) := by
  have h1 := h.s
  have h2 := h.t
  have jt : Ev (fun k => spec_cuGood.j0 k true a S T) false := ev_succ (by simp only [spec_cuGood.j0]; exact ev_pos (by trivial) (Ev.now _))
  unfold spec_cuGood.f spec_cuSize.f goodB
  simp only [spec_in, Option.bind_some]
  by_cases c : 0 ≤ a ∧ a ≤ 9999
  · rw [decide_eq_true c, Bool.true_and, if_pos rfl]
    simp only [Option.bind_some]
    by_cases d : 1 ≤ (S.length : Int) ∧ (S.length : Int) ≤ 64
    · rw [decide_eq_true d, Bool.true_and]
      refine ev_pos rfl ?_
      by_cases e : (T.length : Int) ≤ 4
      · rw [decide_eq_true e, Bool.true_and]
        refine ev_neg (by omega) (ev_bind _ (spec_biKeys_f T (by omega) (fun s hs => by have := h.zt s hs; omega)) ?_)
        cases hk : areKeysB T
        · exact jt
        · rw [Bool.true_and]
          refine ev_succ ?_
          simp only [spec_cuGood.j0]
          refine ev_neg (by simp) ?_
          have := spec_cuGood_l0 c h hk S [] rfl
          rw [nz_nil, List.length_nil, Nat.add_zero] at this
          refine Eq.mp (congrArg _ ?_) this
          by_cases q : slotsB a (S.length : Int) S 0 = true
          · have hkk : ∀ s ∈ nz S ++ T, isKeyB s = true := fun s hs => by
              rcases List.mem_append.1 hs with hs | hs
              · exact slotsB_keys S 0 q s hs
              · exact areKeysB_all hk s hs
            have hz := setK_size (nz S ++ T) [] List.Pairwise.nil
            rw [List.length_nil, Nat.zero_add] at hz
            congr 1
            rw [Bool.eq_iff_iff, Bool.and_eq_true, decide_eq_true_eq, decide_eq_true_eq, keysFrom_none, hz]
            exact ⟨fun g => ⟨hkk, g.2.1, g.1⟩, fun g => ⟨g.2.2, g.2.1, by simp⟩⟩
          · rw [Bool.eq_false_iff.2 q, Bool.false_and, Bool.false_and]
      · rw [decide_eq_false e, Bool.false_and]
        exact ev_pos (by omega) jt
    · rw [decide_eq_false d, Bool.false_and]
      exact ev_neg (by simp) jt
  · rw [decide_eq_false c, Bool.false_and, if_neg (by simp)]
    simp only [Option.bind_some]
    exact ev_neg (by simp) jt
end
end Go.Proofs.YtephjmmkggcmeaaQ.KC
namespace Go.Proofs.YtephjmmkggcmeaaQ.KC
open Go Go.RowKit Go.Proofs.YtephjmmkggcmeaaW.PrintWords Go.Proofs.YtephjmmkggcmeaaW.PrintMore Go.Proofs.YtephjmmkggcmeaaGp Go.Proofs.Ytephjmmkggcmeaa.PG Go.Proofs.YtephjmmkggcmeaaQ

def SlotsOk (a n : Int) (S : List ByteArray) : Prop := ∀ i (h : i < S.length), S[i] ≠ emp → isKeyB S[i] = true ∧ cel a n S[i] (i : Int) = true
theorem slotsB_iff {a n : Int} : ∀ (t : List ByteArray) (i : Nat), slotsB a n t i = true ↔ ∀ j (h : j < t.length), t[j] ≠ emp → isKeyB t[j] = true ∧ cel a n t[j] ((i + j : Nat) : Int) = true
  | [], i => by simp [slotsB]
  | x :: t, i => by
    simp only [slotsB, Bool.and_eq_true, Bool.or_eq_true, decide_eq_true_eq]
    rw [slotsB_iff t (i + 1)]
    constructor
    · rintro ⟨h1, h2⟩ j hj hne
      cases j with
      | zero =>
        rcases h1 with c | c
        · exact absurd c hne
        · exact c
      | succ j =>
        have := h2 j (by simpa using hj) hne
        rwa [show i + 1 + j = i + (j + 1) by omega] at this
    · intro h
      refine ⟨?_, fun j hj hne => ?_⟩
      · by_cases c : x = emp
        · exact .inl c
        · exact .inr (h 0 (by simp) c)
      · have := h (j + 1) (by simpa using hj) hne
        rwa [show i + (j + 1) = i + 1 + j by omega] at this
structure Good (a : Int) (S T : List ByteArray) : Prop where
  sd : 0 ≤ a ∧ a ≤ 9999
  n : 1 ≤ S.length ∧ S.length ≤ 64
  t : T.length ≤ 4
  tk : areKeysB T = true
  sl : SlotsOk a (S.length : Int) S
  nd : (nz S ++ T).Nodup
  le : (nz S ++ T).length ≤ 40
section
variable {a : Int} {S T : List ByteArray}
theorem slots_keys {n : Int} (h : SlotsOk a n S) : ∀ s ∈ nz S, isKeyB s = true := by
  intro s hs
  obtain ⟨h1, h2⟩ := nz_mem.1 hs
  obtain ⟨i, hi, rfl⟩ := List.getElem_of_mem h1
  exact (h i hi h2).1
theorem all_keys {n : Int} (h : SlotsOk a n S) (hT : areKeysB T = true) : ∀ s ∈ nz S ++ T, isKeyB s = true := by
  intro s hs
  rcases List.mem_append.1 hs with hs | hs
  · exact slots_keys h s hs
  · exact areKeysB_all hT s hs
theorem good_iff : goodB a S T = true ↔ Good a S T := by
  unfold goodB
  simp only [Bool.and_eq_true, decide_eq_true_eq]
  constructor
  · rintro ⟨h1, h2, h3, h4, h5, h6⟩
    obtain ⟨_, h7, h8⟩ := keysFrom_none.1 h6
    refine ⟨h1, by omega, by omega, h4, fun i hi hne => ?_, h7, h8⟩
    have := (slotsB_iff S 0).1 h5 i hi hne
    rwa [Nat.zero_add] at this
  · intro h
    refine ⟨h.sd, by have := h.n; omega, by have := h.t; omega, h.tk, (slotsB_iff S 0).2 fun i hi hne => ?_, keysFrom_none.2 ⟨all_keys h.sl h.tk, h.nd, h.le⟩⟩
    rw [Nat.zero_add]
    exact h.sl i hi hne
theorem Good.keys (h : Good a S T) : ∀ s ∈ nz S ++ T, isKeyB s = true := all_keys h.sl h.tk
theorem Good.tab (h : Good a S T) : Tab S T := by
  refine ⟨by have := h.n; omega, by have := h.t; omega, fun x hx => ?_, fun x hx => ?_⟩
  · by_cases c : x = emp
    · rw [c]; simp [ByteArray.size]
    · have := (isKeyB_size (slots_keys h.sl x (nz_mem.2 ⟨hx, c⟩))).2; omega
  · have := (isKeyB_size (areKeysB_all h.tk x hx)).2; omega
theorem Good.nzT (h : Good a S T) : nz (S ++ T) = nz S ++ T := by
  rw [nz_app, nz_id (fun s hs => key_ne (areKeysB_all h.tk s hs))]
theorem mem_all {key : ByteArray} (hk : key ≠ emp) : key ∈ S ++ T ↔ key ∈ nz S ++ T := by
  rw [List.mem_append, List.mem_append, nz_mem]
  constructor
  · rintro (c | c)
    · exact .inl ⟨c, hk⟩
    · exact .inr c
  · rintro (c | c)
    · exact .inl c.1
    · exact .inr c
theorem idxS_no {x s : ByteArray} (c : ¬ x = s) (t : List ByteArray) (i : Nat) : idxS (x :: t) s i = idxS t s (i + 1) := by simp only [idxS, if_neg c]
theorem idxS_yes (s : ByteArray) (t : List ByteArray) (i : Nat) : idxS (s :: t) s i = (i : Int) := by simp only [idxS, if_pos]
theorem idxS_add : ∀ (l : List ByteArray) (s : ByteArray) (i : Nat), idxS l s i = if 0 ≤ idxS l s 0 then (i : Int) + idxS l s 0 else -1
  | [], s, i => by simp [idxS]
  | x :: t, s, i => by
    have h1 := idxS_add t s (i + 1)
    have h2 := idxS_add t s (0 + 1)
    by_cases c : x = s
    · subst c
      rw [idxS_yes, idxS_yes, if_pos (by omega)]
      omega
    · rw [idxS_no c, idxS_no c, h1, h2]
      by_cases d : 0 ≤ idxS t s 0
      · rw [if_pos d, if_pos d, if_pos (by omega)]
        omega
      · rw [if_neg d, if_neg d, if_neg (by omega)]
theorem idxS_app (l m : List ByteArray) (s : ByteArray) (i : Nat) : idxS (l ++ m) s i = if 0 ≤ idxS l s i then idxS l s i else idxS m s (i + l.length) := by
  induction l generalizing i with
  | nil => simp [idxS]
  | cons x t ih =>
    rw [List.cons_append]
    by_cases c : x = s
    · subst c
      rw [idxS_yes, idxS_yes, if_pos (by omega)]
    · rw [idxS_no c, idxS_no c, ih (i + 1), List.length_cons, show i + 1 + t.length = i + (t.length + 1) by omega]
theorem idxS_get : ∀ (l : List ByteArray) (s : ByteArray), s ∈ l → ∃ j, ∃ h : j < l.length, idxS l s 0 = (j : Int) ∧ l[j] = s
  | x :: t, s, h => by
    by_cases c : x = s
    · exact ⟨0, by simp, by rw [c, idxS_yes], c⟩
    · rcases List.mem_cons.1 h with e | h
      · exact absurd e.symm c
      · obtain ⟨j, hj, h1, h2⟩ := idxS_get t s h
        refine ⟨j + 1, by simpa using hj, ?_, h2⟩
        rw [idxS_no c, idxS_add, h1, if_pos (by omega)]
        omega
theorem idxS_neg {l : List ByteArray} {s : ByteArray} (h : s ∉ l) : idxS l s 0 = -1 := by
  rw [idxS_add]
  rw [if_neg (fun c => h ((idxS_mem l s 0).1 c))]
theorem idxS_range (l : List ByteArray) (s : ByteArray) : -1 ≤ idxS l s 0 ∧ idxS l s 0 < (l.length : Int) + 0 ∨ idxS l s 0 = -1 := by
  by_cases h : s ∈ l
  · obtain ⟨j, hj, h1, _⟩ := idxS_get l s h
    exact .inl (by omega)
  · exact .inr (idxS_neg h)
theorem impl_find_f (a : Int) (h : Tab S T) (key : ByteArray) : Ev (fun k => impl_Cuckoo_find.f k a S T key) (idxS (S ++ T) key 0) := by
  have h1 := h.s
  have h2 := h.t
  unfold impl_Cuckoo_find.f
  refine ev_bind _ (slices_Index_string_string_f S key (by omega)) ?_
  rw [idxS_app]
  by_cases c : 0 ≤ idxS S key 0
  · rw [if_pos c]
    exact ev_pos c (Ev.now _)
  · rw [if_neg c, idxS_add T key (0 + S.length)]
    refine ev_neg c (ev_bind _ (slices_Index_string_string_f T key (by omega)) ?_)
    by_cases d : 0 ≤ idxS T key 0
    · have := idxS_range T key
      refine ev_pos d ?_
      rw [if_pos d, w64 (by omega) (by omega)]
      exact ev_some (by omega)
    · refine ev_neg d ?_
      rw [if_neg d]
      exact Ev.now _
theorem spec_cuFind_l0 (X : List ByteArray) (key : ByteArray) (hX : X.length ≤ 2000) : ∀ (t pre : List ByteArray), X = pre ++ t →
    Ev (fun k => spec_cuFind.l0 k key X (X.length : Int) (pre.length : Int)) (idxS t key pre.length) := by
  intro t
  induction t with
  | nil =>
    intro pre e
    refine ev_succ ?_
    simp only [spec_cuFind.l0]
    exact ev_neg (by rw [e]; exact not_lt_end) (ev_some (by simp [idxS]))
  | cons x t ih =>
    intro pre e
    have hm : ((pre.length : Nat) : Int) < (X.length : Int) := by rw [e]; exact lt_mid
    have hg : rdOf ByteArray.empty X (pre.length : Int) = x := by rw [e]; exact rdOf_mid
    have IH := ih (pre ++ [x]) (by rw [e]; simp)
    rw [len_one] at IH
    refine ev_succ ?_
    simp only [spec_cuFind.l0, hg, tl_inj]
    rw [winc (by omega)]
    refine ev_pos hm (ev_pos (by omega) (ev_pos hm ?_))
    by_cases c : x = key
    · exact ev_pos c (ev_some (by simp [idxS, c]))
    · refine ev_neg c ?_
      have e2 : idxS (x :: t) key pre.length = idxS t key (pre ++ [x]).length := by simp [idxS, c]
      rw [e2]
      exact IH
theorem spec_cuFind_f (a : Int) (h : Tab S T) (key : ByteArray) : Ev (fun k => spec_cuFind.f k a S T key) (idxS (S ++ T) key 0) := by
  have h1 := h.s
  have h2 := h.t
  unfold spec_cuFind.f
  rw [own_S h.s]
  simp only [Option.bind_some]
  exact ev_pos (by omega) (spec_cuFind_l0 (S ++ T) key (by rw [List.length_append]; omega) (S ++ T) [] rfl)
def fndV (a : Int) (S T : List ByteArray) (key : ByteArray) : Int × Bool := if goodB a S T = true then (if isKeyB key = true then (if idxS (S ++ T) key 0 < 0 then (0, false) else (idxS (S ++ T) key 0, true)) else (0, false)) else (0, false)
theorem impl_CuckooFind_f (a : Int) (h : Tab S T) (key : ByteArray) (hk : key.size ≤ 1000) : Ev (fun k => impl_CuckooFind.f k a S T key) (fndV a S T key) := by
  unfold impl_CuckooFind.f fndV
  refine ev_bind _ (impl_IsCuckoo_f h) ?_
  split
  · refine ev_bind _ (impl_IsKey_f key (by omega)) ?_
    split
    · refine ev_bind _ (impl_find_f a h key) ?_
      split
      · exact Ev.now _
      · exact ev_bind _ (impl_find_f a h key) (Ev.now _)
    · exact Ev.now _
  · exact Ev.now _
theorem fndV_yes {key : ByteArray} (h : (fndV a S T key).2 = true) : Good a S T ∧ isKeyB key = true ∧ key ∈ S ++ T ∧ (fndV a S T key).1 = idxS (S ++ T) key 0 := by
  unfold fndV at h ⊢
  split at h
  · rename_i c1
    split at h
    · rename_i c2
      split at h
      · cases h
      · rename_i c3
        rw [if_pos c1, if_pos c2, if_neg c3]
        exact ⟨good_iff.1 c1, c2, (idxS_mem _ _ 0).1 (by omega), rfl⟩
    · cases h
  · cases h
theorem fndV_of {key : ByteArray} (h : Good a S T) (hk : isKeyB key = true) (hm : key ∈ S ++ T) : fndV a S T key = (idxS (S ++ T) key 0, true) := by
  unfold fndV
  have := (idxS_mem _ _ 0).2 hm
  rw [if_pos (good_iff.2 h), if_pos hk, if_neg (by omega)]
theorem impl_CuckooKeys_f (h : Tab S T) : Ev (fun k => impl_CuckooKeys.f k a S T) (if goodB a S T = true then (sortS (nz S ++ T), true) else ([], false)) := by
  unfold impl_CuckooKeys.f
  refine ev_bind _ (impl_IsCuckoo_f h) ?_
  by_cases c : goodB a S T = true
  · have g := good_iff.1 c
    have := g.le
    rw [impl_all_f a h (by have := g.n; omega)]
    refine ev_pos c ?_
    rw [if_pos c]
    unfold slices_Sort_string_string.f
    simp only [Option.bind_some]
    rw [if_pos (by omega)]
    exact Ev.now _
  · refine ev_neg c ?_
    rw [if_neg c]
    exact Ev.now _
def remS (S : List ByteArray) (key : ByteArray) : List ByteArray := S.map fun s => if s = key then emp else s
def remT (T : List ByteArray) (key : ByteArray) : List ByteArray := T.filter fun s => decide (s ≠ key)
def remV (a : Int) (S T : List ByteArray) (key : ByteArray) : Int × List ByteArray × List ByteArray × Bool := if (fndV a S T key).2 = true then (a, remS S key, remT T key, true) else (0, [], [], false)
theorem uniq (h : (nz S).Nodup) {i j : Nat} (hi : i < S.length) (hj : j < S.length) (e : S[i] = S[j]) (hne : S[i] ≠ emp) : i = j := by
  have h2 : S.Pairwise fun x y => decide (x ≠ emp) = true → decide (y ≠ emp) = true → x ≠ y := List.pairwise_filter.1 h
  rw [List.pairwise_iff_getElem] at h2
  rcases Nat.lt_trichotomy i j with c | c | c
  · exact absurd e (h2 i j hi hj c (by simpa using hne) (by rw [← e]; simpa using hne))
  · exact c
  · exact absurd e.symm (h2 j i hj hi c (by rw [← e]; simpa using hne) (by simpa using hne))
theorem remS_set (h : (nz S).Nodup) {key : ByteArray} (hk : key ≠ emp) {j : Nat} (hj : j < S.length) (e : S[j] = key) : S.set j emp = remS S key := by
  refine List.ext_getElem (by simp [remS]) fun i h1 h2 => ?_
  rw [List.length_set] at h1
  simp only [remS, List.getElem_map, List.getElem_set]
  by_cases c : j = i
  · subst c; rw [if_pos rfl, if_pos e]
  · rw [if_neg c, if_neg]
    intro e2
    exact c (uniq h hj h1 (e.trans e2.symm) (by rw [e]; exact hk))
theorem remS_id {key : ByteArray} (h : key ∉ S) : remS S key = S := by
  unfold remS
  refine (List.map_congr_left fun s hs => ?_).trans (List.map_id S)
  have hne : ¬ s = key := fun e => h (e ▸ hs)
  rw [if_neg hne]
  rfl
theorem remT_id {key : ByteArray} (h : key ∉ T) : remT T key = T := by
  unfold remT
  rw [List.filter_eq_self]
  intro s hs
  simp only [decide_eq_true_eq]
  exact fun e => h (e ▸ hs)
theorem remT_erase {key : ByteArray} : ∀ {T : List ByteArray} (j : Nat), T.Nodup → idxS T key 0 = (j : Int) → T.eraseIdx j = remT T key
  | [], j, _, h => by simp [idxS] at h
  | x :: t, j, hn, h => by
    obtain ⟨h1, h2⟩ := List.nodup_cons.1 hn
    by_cases c : x = key
    · subst c
      rw [idxS_yes] at h
      obtain rfl : j = 0 := by omega
      have := remT_id h1
      unfold remT at this ⊢
      rw [List.filter_cons, if_neg (by simp), this]
      rfl
    · rw [idxS_no c, idxS_add] at h
      by_cases d : 0 ≤ idxS t key 0
      · rw [if_pos d] at h
        obtain ⟨j, rfl⟩ : ∃ q, j = q + 1 := ⟨j - 1, by omega⟩
        have := remT_erase (key := key) j h2 (by omega)
        unfold remT at this ⊢
        rw [List.filter_cons, if_pos (by simpa using c), List.eraseIdx_cons_succ, this]
      · rw [if_neg d] at h; omega
theorem nz_remS (key : ByteArray) : ∀ S : List ByteArray, nz (remS S key) = (nz S).filter fun s => decide (s ≠ key)
  | [] => rfl
  | x :: t => by
    have ih := nz_remS key t
    unfold remS at ih ⊢
    rw [List.map_cons]
    by_cases c : x = key
    · rw [if_pos c, nz_cons_emp, ih]
      by_cases d : x = emp
      · rw [d, nz_cons_emp]
      · rw [nz_cons d, List.filter_cons, if_neg (by simp [c])]
    · rw [if_neg c]
      by_cases d : x = emp
      · rw [d, nz_cons_emp, nz_cons_emp, ih]
      · rw [nz_cons d, nz_cons d, List.filter_cons, if_pos (by simpa using c), ih]
theorem rem_all (key : ByteArray) : nz (remS S key) ++ remT T key = (nz S ++ T).filter fun s => decide (s ≠ key) := by
  rw [nz_remS, List.filter_append]
  rfl
theorem Good.rem (h : Good a S T) (key : ByteArray) : Good a (remS S key) (remT T key) := by
  have hl : (remS S key).length = S.length := by simp [remS]
  have ht : (remT T key).length ≤ T.length := List.length_filter_le _ _
  obtain ⟨k1, k2, k3⟩ := areKeys_iff.1 h.tk
  refine ⟨h.sd, by rw [hl]; exact h.n, by have := h.t; omega, areKeys_iff.2 ⟨fun s hs => k1 s (List.mem_filter.1 hs).1, List.Pairwise.filter _ k2, by omega⟩, fun i hi hne => ?_, ?_, ?_⟩
  · have hi2 : i < S.length := by rw [hl] at hi; exact hi
    rw [hl]
    simp only [remS, List.getElem_map] at hne ⊢
    by_cases c : S[i] = key
    · rw [if_pos c] at hne; exact absurd rfl hne
    · rw [if_neg c] at hne ⊢; exact h.sl i hi2 hne
  · rw [rem_all]; exact List.Pairwise.filter _ h.nd
  · rw [rem_all]; exact Nat.le_trans (List.length_filter_le _ _) h.le
theorem rem_perm {key : ByteArray} {M : List ByteArray} (h : (nz S ++ T).Perm (key :: M)) (hn : key ∉ M) : (nz (remS S key) ++ remT T key).Perm M := by
  rw [rem_all]
  refine (h.filter _).trans ?_
  rw [List.filter_cons, if_neg (by simp), List.filter_eq_self.2]
  intro s hs
  simp only [decide_eq_true_eq]
  exact fun e => hn (e ▸ hs)
theorem clone_f (a : Int) (h : Tab S T) : impl_cloneCuckoo.f a S T = some (a, S, T) := by
  unfold impl_cloneCuckoo.f
  rw [clone_S h.s, clone_S h.t]
  rfl
theorem impl_CuckooRemove_f (a : Int) (h : Tab S T) (key : ByteArray) (hz : key.size ≤ 1000) : Ev (fun k => impl_CuckooRemove.f k a S T key) (remV a S T key) := by
  unfold impl_CuckooRemove.f remV
  refine ev_bind _ (impl_CuckooFind_f a h key hz) ?_
  by_cases c : (fndV a S T key).2 = true
  · rw [clone_f a h]
    refine ev_pos c ?_
    rw [if_pos c]
    simp only [Option.bind_some]
    obtain ⟨g, hk, hm, e⟩ := fndV_yes c
    have hS := h.s
    have hT := h.t
    rw [e]
    obtain ⟨nd1, nd2, nd3⟩ := List.nodup_append.1 g.nd
    by_cases d : key ∈ S
    · obtain ⟨j, hj, h1, h2⟩ := idxS_get S key d
      have ei : idxS (S ++ T) key 0 = (j : Int) := by rw [idxS_app, h1, if_pos (by omega)]
      rw [ei, if_pos (by omega), if_pos (by omega), if_pos (by omega), Int.toNat_natCast, remS_set nd1 (key_ne hk) hj h2,
        remT_id (fun q => nd3 key (nz_mem.2 ⟨d, key_ne hk⟩) key q rfl)]
      exact Ev.now _
    · obtain ⟨j, hj, h1, h2⟩ := idxS_get T key (by rcases List.mem_append.1 hm with q | q; exact absurd q d; exact q)
      have ei : idxS (S ++ T) key 0 = ((S.length + j : Nat) : Int) := by
        rw [idxS_app, idxS_neg d, if_neg (by omega), idxS_add, h1, if_pos (by omega)]
        omega
      rw [ei, if_neg (by omega), w64 (x := ((S.length + j : Nat) : Int) - (S.length : Int)) (by omega) (by omega), show ((S.length + j : Nat) : Int) - (S.length : Int) = (j : Int) by omega, winc (by omega)]
      unfold slices_Delete_string_string.f
      rw [if_pos (by omega), Int.toNat_natCast, remT_erase j nd2 h1, remS_id d]
      exact Ev.now _
  · refine ev_neg c ?_
    rw [if_neg c]
    exact Ev.now _
end
end Go.Proofs.YtephjmmkggcmeaaQ.KC
namespace Go.Proofs.YtephjmmkggcmeaaQ.KC
open Go Go.RowKit Go.Proofs.YtephjmmkggcmeaaW.PrintWords Go.Proofs.YtephjmmkggcmeaaW.PrintMore Go.Proofs.YtephjmmkggcmeaaGp Go.Proofs.Ytephjmmkggcmeaa.PG Go.Proofs.YtephjmmkggcmeaaQ

structure Sz (a : Int) (S : List ByteArray) : Prop where
  sd : 0 ≤ a ∧ a ≤ 9999
  n : 1 ≤ S.length ∧ S.length ≤ 64
abbrev plc (a c : Int) (x : ByteArray) (S : List ByteArray) : Int := placeV a c x (S.length : Int)
def settleV (a : Int) (S : List ByteArray) (x : ByteArray) : List ByteArray × Bool :=
  if rdOf ByteArray.empty S (plc a 0 x S) = emp then (S.set (plc a 0 x S).toNat x, true)
  else if rdOf ByteArray.empty S (plc a 1 x S) = emp then (S.set (plc a 1 x S).toNat x, true) else (S, false)
def Plc (a n : Int) (S : List ByteArray) : Prop := ∀ i (h : i < S.length), S[i] ≠ emp → cel a n S[i] (i : Int) = true
section
variable {a : Int} {S T : List ByteArray}
theorem plc_lt (h : Sz a S) (c : Int) (x : ByteArray) : 0 ≤ plc a c x S ∧ plc a c x S < (S.length : Int) := by
  have := h.n
  exact placeV_range a c x (by omega) (by omega)
theorem Good.sz (h : Good a S T) : Sz a S := ⟨h.sd, h.n⟩
theorem Good.plc (h : Good a S T) : Plc a (S.length : Int) S := fun i hi hne => (h.sl i hi hne).2
theorem slots_of {n : Int} (h : Plc a n S) (hk : ∀ s ∈ nz S, isKeyB s = true) : SlotsOk a n S := fun i hi hne => ⟨hk _ (nz_mem.2 ⟨List.getElem_mem hi, hne⟩), h i hi hne⟩
theorem Plc.set {n : Int} (h : Plc a n S) {x : ByteArray} {i : Nat} (hc : cel a n x (i : Int) = true) : Plc a n (S.set i x) := by
  intro j hj hne
  rw [List.length_set] at hj
  rw [List.getElem_set] at hne ⊢
  by_cases e : i = j
  · subst e; rw [if_pos rfl]; exact hc
  · rw [if_neg e] at hne ⊢; exact h j hj hne
theorem cel_0 (a : Int) (n : Int) (x : ByteArray) : cel a n x (placeV a 0 x n) = true := by simp [cel]
theorem cel_1 (a : Int) (n : Int) (x : ByteArray) : cel a n x (placeV a 1 x n) = true := by simp [cel]
theorem impl_settle_f (h : Sz a S) {x : ByteArray} (hx : x.size ≤ 1000) : Ev (fun k => impl_Cuckoo_settle.f k a S x) (settleV a S x) := by
  have h0 := plc_lt h 0 x
  have h1 := plc_lt h 1 x
  unfold impl_Cuckoo_settle.f settleV
  refine ev_bind _ (impl_cellsOf_f h.sd.1 h.sd.2 x hx) ?_
  by_cases c : rdOf ByteArray.empty S (plc a 0 x S) = emp
  · rw [if_pos c]
    exact ev_pos h0.1 (ev_pos h0.2 (ev_pos (tl_emp.2 c) (Ev.now _)))
  · rw [if_neg c]
    refine ev_pos h0.1 (ev_pos h0.2 (ev_neg (fun q => c (tl_emp.1 q)) (ev_pos h1.1 (ev_pos h1.2 ?_))))
    by_cases d : rdOf ByteArray.empty S (plc a 1 x S) = emp
    · rw [if_pos d]
      exact ev_pos (tl_emp.2 d) (Ev.now _)
    · rw [if_neg d]
      exact ev_neg (fun q => d (tl_emp.1 q)) (Ev.now _)
def emptyV (a : Int) (S : List ByteArray) (x : ByteArray) : Int :=
  if rdOf ByteArray.empty S (plc a 0 x S) = emp then plc a 0 x S else if rdOf ByteArray.empty S (plc a 1 x S) = emp then plc a 1 x S else -1
theorem spec_cuEmpty_f (T : List ByteArray) (h : Sz a S) {x : ByteArray} (hx : x.size ≤ 1000) : Ev (fun k => spec_cuEmpty.f k a S T x) (emptyV a S x) := by
  have h0 := plc_lt h 0 x
  have h1 := plc_lt h 1 x
  have r0 : rd [plc a 0 x S, plc a 1 x S] 0 = plc a 0 x S := by simp [rd]
  have r1 : rd [plc a 0 x S, plc a 1 x S] 1 = plc a 1 x S := by simp [rd]
  unfold spec_cuEmpty.f emptyV
  refine ev_bind _ (spec_cuCells_f h.sd.1 h.sd.2 x hx) (ev_succ ?_)
  simp only [spec_cuEmpty.l0]
  rw [show rd [placeV a 0 x (S.length : Int), placeV a 1 x (S.length : Int)] 0 = plc a 0 x S from r0, w64 (x := 0 + 1) (by omega) (by omega)]
  refine ev_pos (by simp) (ev_pos (by omega) (ev_pos (by simp) (ev_pos h0.1 (ev_pos h0.2 ?_))))
  by_cases c : rdOf ByteArray.empty S (plc a 0 x S) = emp
  · rw [if_pos c]
    exact ev_pos (tl_emp.2 c) (Ev.now _)
  · rw [if_neg c]
    refine ev_neg (fun q => c (tl_emp.1 q)) (ev_succ ?_)
    simp only [spec_cuEmpty.l0]
    rw [show rd [placeV a 0 x (S.length : Int), placeV a 1 x (S.length : Int)] (0 + 1) = plc a 1 x S from r1, w64 (x := 0 + 1 + 1) (by omega) (by omega)]
    refine ev_pos (by simp) (ev_pos (by omega) (ev_pos (by simp) (ev_pos h1.1 (ev_pos h1.2 ?_))))
    by_cases d : rdOf ByteArray.empty S (plc a 1 x S) = emp
    · rw [if_pos d]
      exact ev_pos (tl_emp.2 d) (Ev.now _)
    · rw [if_neg d]
      refine ev_neg (fun q => d (tl_emp.1 q)) (ev_succ ?_)
      simp only [spec_cuEmpty.l0]
      exact ev_neg (by simp) (Ev.now _)
theorem settle_cases (h : Sz a S) (x : ByteArray) : (settleV a S x = (S, false) ∧ emptyV a S x = -1 ∧ rdOf ByteArray.empty S (plc a 0 x S) ≠ emp) ∨ ∃ i : Nat, ∃ hi : i < S.length, S[i] = emp ∧ cel a (S.length : Int) x (i : Int) = true ∧ settleV a S x = (S.set i x, true) ∧ emptyV a S x = (i : Int) := by
  have h0 := plc_lt h 0 x
  have h1 := plc_lt h 1 x
  unfold settleV emptyV
  by_cases c : rdOf ByteArray.empty S (plc a 0 x S) = emp
  · refine .inr ⟨(plc a 0 x S).toNat, by omega, ?_, ?_, by rw [if_pos c], by rw [if_pos c]; omega⟩
    · rw [show plc a 0 x S = (((plc a 0 x S).toNat : Nat) : Int) by omega, rdOf_get (by omega)] at c
      exact c
    · rw [show (((plc a 0 x S).toNat : Nat) : Int) = plc a 0 x S by omega]
      exact cel_0 _ _ _
  · by_cases d : rdOf ByteArray.empty S (plc a 1 x S) = emp
    · refine .inr ⟨(plc a 1 x S).toNat, by omega, ?_, ?_, by rw [if_neg c, if_pos d], by rw [if_neg c, if_pos d]; omega⟩
      · rw [show plc a 1 x S = (((plc a 1 x S).toNat : Nat) : Int) by omega, rdOf_get (by omega)] at d
        exact d
      · rw [show (((plc a 1 x S).toNat : Nat) : Int) = plc a 1 x S by omega]
        exact cel_1 _ _ _
    · exact .inl ⟨by rw [if_neg c, if_neg d], by rw [if_neg c, if_neg d], c⟩
theorem Sz.of {S' : List ByteArray} (h : Sz a S) (e : S'.length = S.length) : Sz a S' := ⟨h.sd, by rw [e]; exact h.n⟩
end
end Go.Proofs.YtephjmmkggcmeaaQ.KC
namespace Go.Proofs.YtephjmmkggcmeaaQ
open Go Go.RowKit Go.Proofs.YtephjmmkggcmeaaW.PrintWords Go.Proofs.YtephjmmkggcmeaaGp Go.Proofs.Ytephjmmkggcmeaa.PG

def rankS (l : List ByteArray) (s : ByteArray) : Nat := (l.filter fun x => lessS x s).length
theorem cmpLess (a b : ByteArray) : cmp_Less_string.f a b = some (lessS a b) := by
  simp [cmp_Less_string.f, cmp_isNaN_string.f, lessS]
def incS (l : List ByteArray) : Prop := ∀ i j (h : i < j) (hj : j < l.length), lessS (l[i]'(by omega)) (l[j]'hj) = true
theorem rankS_split : ∀ (l : List ByteArray) (s : ByteArray) (i : Nat) (hi : i ≤ l.length), (∀ a (h : a < i), lessS (l[a]'(by omega)) s = true) → (∀ a (h : a < l.length), i ≤ a → lessS l[a] s = false) → rankS l s = i
  | [], s, i, hi, _, _ => by simp at hi; simp [rankS, hi]
  | x :: t, s, 0, _, _, h2 => by
    have h0 := h2 0 (by simp) (Nat.le_refl _)
    simp only [List.getElem_cons_zero] at h0
    have := rankS_split t s 0 (Nat.zero_le _) (fun a h => absurd h (by omega)) (fun a h _ => h2 (a + 1) (by simpa using h) (Nat.zero_le _))
    simpa [rankS, h0] using this
  | x :: t, s, i + 1, hi, h1, h2 => by
    have h0 := h1 0 (by omega)
    simp only [List.getElem_cons_zero] at h0
    have := rankS_split t s i (by simpa using hi) (fun a h => h1 (a + 1) (by omega)) (fun a h hia => h2 (a + 1) (by simpa using h) (by omega))
    simp only [rankS] at this ⊢
    simp [h0, this]
theorem mid_half {i j : Nat} (h : i < j) (hj : (j : Int) ≤ 1048576) : wrap64 ((IntKind.u64.wrap (wrap64 ((i : Int) + (j : Int)))) / 2) = (((i + j) / 2 : Nat) : Int) := by
  rw [w64 (x := (i : Int) + (j : Int)) (by omega) (by omega)]
  have e : IntKind.u64.wrap ((i : Int) + (j : Int)) = (i : Int) + (j : Int) := by
    show ((i : Int) + (j : Int)) % 18446744073709551616 = _
    omega
  rw [e, w64 (by omega) (by omega)]
  omega
theorem search_l0 (x0 : List ByteArray) (s : ByteArray) (hl : (x0.length : Int) ≤ 1048576) (hs : incS x0) : ∀ (d i j : Nat), j - i ≤ d → (hij : i ≤ j) → (hj : j ≤ x0.length) → (∀ a (h : a < i), lessS (x0[a]'(by omega)) s = true) → (∀ a (h : a < x0.length), j ≤ a → lessS x0[a] s = false) →
    ∃ b, Ev (fun k => slices_BinarySearch_string_string.l0 k x0 s (x0.length : Int) (i : Int) (j : Int)) ((rankS x0 s : Int), b) := by
  intro d
  induction d with
  | zero =>
    intro i j hd hij hj h1 h2
    obtain rfl : i = j := by omega
    have hr := rankS_split x0 s i hj h1 h2
    rw [hr]
    by_cases c : i < x0.length
    · by_cases e : x0[i] = s
      · refine ⟨true, ev_succ ?_⟩
        simp only [slices_BinarySearch_string_string.l0, rdOf_get c, tl_inj]
        exact ev_neg (by omega) (ev_pos (by omega) (ev_pos (by omega) (ev_pos (by omega) (ev_pos e (Ev.now _)))))
      · refine ⟨false, ev_succ ?_⟩
        simp only [slices_BinarySearch_string_string.l0, rdOf_get c, tl_inj, slices_isNaN_string.f, Option.bind_some, bne_self_eq_false, Bool.false_eq_true, if_false]
        exact ev_neg (by omega) (ev_pos (by omega) (ev_pos (by omega) (ev_pos (by omega) (ev_neg e (Ev.now _)))))
    · refine ⟨false, ev_succ ?_⟩
      simp only [slices_BinarySearch_string_string.l0]
      exact ev_neg (by omega) (ev_neg (by omega) (Ev.now _))
  | succ d ih =>
    intro i j hd hij hj h1 h2
    by_cases c : i < j
    · have hm := mid_half c (by omega)
      have hlt : (i + j) / 2 < x0.length := by omega
      by_cases cl : lessS x0[(i + j) / 2] s = true
      · obtain ⟨b, hb⟩ := ih ((i + j) / 2 + 1) j (by omega) (by omega) hj (fun a h => by
          by_cases e : a = (i + j) / 2
          · subst e; exact cl
          · exact lessS_trans (hs a ((i + j) / 2) (by omega) hlt) cl) h2
        refine ⟨b, ev_succ ?_⟩
        simp only [slices_BinarySearch_string_string.l0, hm, rdOf_get hlt, cmpLess, Option.bind_some]
        refine ev_pos (by omega) (ev_pos (by omega) (ev_pos (by omega) (ev_pos cl ?_)))
        rw [winc (by omega)]
        exact hb
      · have cl' : lessS x0[(i + j) / 2] s = false := by simpa using cl
        obtain ⟨b, hb⟩ := ih i ((i + j) / 2) (by omega) (by omega) (by omega) h1 (fun a h hia => by
          by_cases e : a = (i + j) / 2
          · subst e; exact cl'
          · cases ha : lessS x0[a] s with
            | false => rfl
            | true =>
              have := lessS_trans (hs ((i + j) / 2) a (by omega) h) ha
              rw [cl'] at this
              cases this)
        refine ⟨b, ev_succ ?_⟩
        simp only [slices_BinarySearch_string_string.l0, hm, rdOf_get hlt, cmpLess, Option.bind_some]
        exact ev_pos (by omega) (ev_pos (by omega) (ev_pos (by omega) (ev_neg cl hb)))
    · exact ih i j (by omega) hij hj h1 h2
theorem search_f (l : List ByteArray) (s : ByteArray) (hl : (l.length : Int) ≤ 1048576) (hs : incS l) : ∃ b, Ev (fun k => slices_BinarySearch_string_string.f k l s) ((rankS l s : Int), b) := by
  unfold slices_BinarySearch_string_string.f
  exact search_l0 l s hl hs l.length 0 l.length (by omega) (Nat.zero_le _) (Nat.le_refl _) (fun a h => absurd h (by omega)) (fun a h h' => absurd h (by omega))
end Go.Proofs.YtephjmmkggcmeaaQ
namespace Go.Proofs.YtephjmmkggcmeaaQ.KC
open Go Go.RowKit Go.Proofs.YtephjmmkggcmeaaW.PrintWords Go.Proofs.YtephjmmkggcmeaaW.PrintMore Go.Proofs.YtephjmmkggcmeaaGp Go.Proofs.Ytephjmmkggcmeaa.PG Go.Proofs.YtephjmmkggcmeaaQ

def oth (a : Int) (y : ByteArray) (n c : Int) : Int := placeV a 0 y n + placeV a 1 y n - c
def pushV (a : Int) : Nat → ByteArray → Int → Int → List ByteArray → List ByteArray × Option ByteArray × Int
  | 0, x, c, th, S => if rdOf ByteArray.empty S c = emp then (S.set c.toNat x, none, th) else (S, some x, th)
  | m + 1, x, c, th, S => if rdOf ByteArray.empty S c = emp then (S.set c.toNat x, none, th) else pushV a m (rdOf ByteArray.empty S c) (oth a (rdOf ByteArray.empty S c) (S.length : Int) c) (th + 1) (S.set c.toNat x)
def impPush (a : Int) (T : List ByteArray) : List ByteArray × Option ByteArray × Int → Int × List ByteArray × List ByteArray × Int × Bool
  | (S', none, th) => (a, S', T, th, true)
  | (S', some y, th) => (a, S', insK y T, th, decide (((insK y T).length : Int) ≤ 4))
def spcPush (a : Int) (T : List ByteArray) : List ByteArray × Option ByteArray × Int → Int × List ByteArray × List ByteArray × Int × Bool
  | (S', none, th) => (a, S', T, th, true)
  | (S', some y, th) => if (T.length : Int) = 4 then (0, [], [], 0, false) else (a, S', insK y T, th, true)
theorem insS_rank (y : ByteArray) : ∀ {T : List ByteArray}, SK T → y ∉ T → insS T (rankS T y) y = insK y T
  | [], _, _ => by simp [insS, rankS, insK]
  | x :: t, h, hy => by
    obtain ⟨h1, h2⟩ := List.pairwise_cons.1 h
    have hne : x ≠ y := fun e => hy (by simp [e])
    have ih := insS_rank y h2 (fun m => hy (by simp [m]))
    by_cases c : lessS x y = true
    · have e : rankS (x :: t) y = rankS t y + 1 := by simp [rankS, c]
      rw [e]
      unfold insK
      rw [if_pos c, ← ih]
      rfl
    · have e : rankS (x :: t) y = 0 := by
        unfold rankS
        rw [List.length_eq_zero_iff, List.filter_eq_nil_iff]
        intro z hz q
        rcases List.mem_cons.1 hz with rfl | hz
        · exact c q
        · exact c (lessS_trans (h1 z hz) q)
      rw [e]
      unfold insK
      rw [if_neg c, if_neg hne]
      rfl
section
variable {a : Int} {S T : List ByteArray}
theorem rd_cell {c : Int} (h0 : 0 ≤ c) (h1 : c < (S.length : Int)) : rdOf ByteArray.empty S c = S[c.toNat]'(by omega) := by
  have h : c.toNat < S.length := by omega
  rw [← rdOf_get h, show ((c.toNat : Nat) : Int) = c by omega]
theorem oth_ok (h : Sz a S) {y : ByteArray} {c : Int} (hc : cel a (S.length : Int) y c = true) : cel a (S.length : Int) y (oth a y (S.length : Int) c) = true ∧ 0 ≤ oth a y (S.length : Int) c ∧ oth a y (S.length : Int) c < (S.length : Int) := by
  have h0 : 0 ≤ placeV a 0 y (S.length : Int) ∧ placeV a 0 y (S.length : Int) < (S.length : Int) := plc_lt h 0 y
  have h1 : 0 ≤ placeV a 1 y (S.length : Int) ∧ placeV a 1 y (S.length : Int) < (S.length : Int) := plc_lt h 1 y
  unfold cel at hc
  rw [Bool.or_eq_true, decide_eq_true_eq, decide_eq_true_eq] at hc
  unfold oth
  rcases hc with hc | hc
  · rw [show placeV a 0 y (S.length : Int) + placeV a 1 y (S.length : Int) - c = placeV a 1 y (S.length : Int) by omega]
    exact ⟨cel_1 _ _ _, h1⟩
  · rw [show placeV a 0 y (S.length : Int) + placeV a 1 y (S.length : Int) - c = placeV a 0 y (S.length : Int) by omega]
    exact ⟨cel_0 _ _ _, h0⟩
structure At (a : Int) (S : List ByteArray) (x : ByteArray) (c : Int) : Prop where
  sz : Sz a S
  pl : Plc a (S.length : Int) S
  ce : cel a (S.length : Int) x c = true
  c0 : 0 ≤ c
  c1 : c < (S.length : Int)
theorem At.next {x : ByteArray} {c : Int} (h : At a S x c) (hne : rdOf ByteArray.empty S c ≠ emp) :
    At a (S.set c.toNat x) (rdOf ByteArray.empty S c) (oth a (rdOf ByteArray.empty S c) (S.length : Int) c) := by
  have hl : (S.set c.toNat x).length = S.length := by simp
  have h0 := h.c0
  have h1 := h.c1
  have e := rd_cell h0 h1
  have hce : cel a (S.length : Int) (rdOf ByteArray.empty S c) c = true := by
    rw [e] at hne ⊢
    have := h.pl c.toNat (by omega) hne
    rwa [show ((c.toNat : Nat) : Int) = c by omega] at this
  obtain ⟨o1, o2, o3⟩ := oth_ok h.sz hce
  refine ⟨h.sz.of hl, ?_, ?_, o2, ?_⟩
  · rw [hl]
    refine h.pl.set ?_
    rw [show ((c.toNat : Nat) : Int) = c by omega]
    exact h.ce
  · rw [hl]; exact o1
  · rw [hl]; exact o3
theorem push_ok : ∀ (m : Nat) (x : ByteArray) (c th : Int) (S : List ByteArray), At a S x c →
    (pushV a m x c th S).1.length = S.length ∧ Plc a (S.length : Int) (pushV a m x c th S).1 ∧ (th ≤ (pushV a m x c th S).2.2 ∧ (pushV a m x c th S).2.2 ≤ th + (m : Int)) ∧
    (∀ s, s ∈ (pushV a m x c th S).1 ∨ (pushV a m x c th S).2.1 = some s → s = x ∨ s ∈ S) ∧
    (x ≠ emp → ((pushV a m x c th S).2.1.toList ++ nz (pushV a m x c th S).1).Perm (x :: nz S) ∧ (pushV a m x c th S).2.1 ≠ some emp) := by
  intro m
  induction m with
  | zero =>
    intro x c th S h
    have h0 := h.c0
    have h1 := h.c1
    have e := rd_cell h0 h1
    unfold pushV
    by_cases d : rdOf ByteArray.empty S c = emp
    · rw [if_pos d]
      refine ⟨by simp, h.pl.set (by rw [show ((c.toNat : Nat) : Int) = c by omega]; exact h.ce), ⟨by simp, by simp⟩, fun s hs => ?_, fun hx => ⟨?_, by simp⟩⟩
      · rcases hs with hs | hs
        · rcases List.mem_or_eq_of_mem_set hs with q | q
          · exact .inr q
          · exact .inl q
        · cases hs
      · exact set_in (by omega) hx (by rw [← e]; exact d)
    · rw [if_neg d]
      refine ⟨rfl, h.pl, ⟨by simp, by simp⟩, fun s hs => ?_, fun hx => ⟨List.Perm.refl _, by simpa using hx⟩⟩
      rcases hs with hs | hs
      · exact .inr hs
      · exact .inl (Option.some.inj hs).symm
  | succ m ih =>
    intro x c th S h
    have h0 := h.c0
    have h1 := h.c1
    have e := rd_cell h0 h1
    unfold pushV
    by_cases d : rdOf ByteArray.empty S c = emp
    · rw [if_pos d]
      refine ⟨by simp, h.pl.set (by rw [show ((c.toNat : Nat) : Int) = c by omega]; exact h.ce), ⟨by simp, by simp; omega⟩, fun s hs => ?_, fun hx => ⟨?_, by simp⟩⟩
      · rcases hs with hs | hs
        · rcases List.mem_or_eq_of_mem_set hs with q | q
          · exact .inr q
          · exact .inl q
        · cases hs
      · exact set_in (by omega) hx (by rw [← e]; exact d)
    · rw [if_neg d]
      obtain ⟨i1, i2, i3, i4, i5⟩ := ih (rdOf ByteArray.empty S c) (oth a (rdOf ByteArray.empty S c) (S.length : Int) c) (th + 1) (S.set c.toNat x) (h.next d)
      have hl : (S.set c.toNat x).length = S.length := by simp
      rw [hl] at i1 i2
      refine ⟨i1, i2, ⟨by omega, by omega⟩, fun s hs => ?_, fun hx => ?_⟩
      · rcases i4 s hs with q | q
        · exact .inr (by rw [q, e]; exact List.getElem_mem _)
        · rcases List.mem_or_eq_of_mem_set q with q | q
          · exact .inr q
          · exact .inl q
      · obtain ⟨j1, j2⟩ := i5 d
        refine ⟨j1.trans ?_, j2⟩
        rw [e] at d ⊢
        exact set_swap (by omega) hx d
theorem impl_push_l0 (hT : SK T) (hl : T.length ≤ 1000) {mv : Int} (hv : mv ≤ 1000) : ∀ (m : Nat) (x : ByteArray) (c th : Int) (S : List ByteArray), At a S x c → (∀ s ∈ S, s.size ≤ 1000) → x.size ≤ 1000 → x ≠ emp → (x :: (nz S ++ T)).Nodup → th + (m : Int) = mv → 0 ≤ th →
    Ev (fun k => impl_Cuckoo_push.l0 k x mv c th a S T) (impPush a T (pushV a m x c th S)) := by
  intro m
  induction m with
  | zero =>
    intro x c th S h hz hxz hx hN ht h0
    refine ev_succ ?_
    simp only [impl_Cuckoo_push.l0, pushV]
    refine ev_pos h.c0 (ev_pos h.c1 ?_)
    by_cases d : rdOf ByteArray.empty S c = emp
    · rw [if_pos d]
      exact ev_pos (tl_emp.2 d) (Ev.now _)
    · rw [if_neg d]
      have hy : x ∉ T := fun q => (List.nodup_cons.1 hN).1 (List.mem_append_right _ q)
      obtain ⟨b, hb⟩ := search_f T x (by omega) (fun i j hij hj => List.pairwise_iff_getElem.1 hT i j (by omega) hj hij)
      have hr : rankS T x ≤ T.length := List.length_filter_le _ _
      refine ev_neg (fun q => d (tl_emp.1 q)) (ev_pos (by omega) (ev_bind _ hb (ev_pos ⟨by omega, by show ((rankS T x : Nat) : Int) ≤ _; omega, by omega⟩ ?_)))
      rw [Int.toNat_natCast, insS_rank x hT hy]
      exact Ev.now _
  | succ m ih =>
    intro x c th S h hz hxz hx hN ht h0
    have c0 := h.c0
    have c1 := h.c1
    have hn := h.sz.n
    have e := rd_cell c0 c1
    refine ev_succ ?_
    simp only [impl_Cuckoo_push.l0, pushV]
    refine ev_pos h.c0 (ev_pos h.c1 ?_)
    by_cases d : rdOf ByteArray.empty S c = emp
    · rw [if_pos d]
      exact ev_pos (tl_emp.2 d) (Ev.now _)
    · rw [if_neg d]
      have hyz : (rdOf ByteArray.empty S c).size ≤ 1000 := by rw [e]; exact hz _ (List.getElem_mem _)
      refine ev_neg (fun q => d (tl_emp.1 q)) (ev_neg (by omega) (ev_bind _ (impl_cellsOf_f h.sz.sd.1 h.sz.sd.2 _ hyz) ?_))
      have g0 : 0 ≤ placeV a 0 (rdOf ByteArray.empty S c) (S.length : Int) ∧ placeV a 0 (rdOf ByteArray.empty S c) (S.length : Int) < (S.length : Int) := plc_lt h.sz 0 _
      have g1 : 0 ≤ placeV a 1 (rdOf ByteArray.empty S c) (S.length : Int) ∧ placeV a 1 (rdOf ByteArray.empty S c) (S.length : Int) < (S.length : Int) := plc_lt h.sz 1 _
      rw [w64 (x := placeV a 0 (rdOf ByteArray.empty S c) (S.length : Int) + placeV a 1 (rdOf ByteArray.empty S c) (S.length : Int)) (by omega) (by omega), w64 (x := placeV a 0 (rdOf ByteArray.empty S c) (S.length : Int) + placeV a 1 (rdOf ByteArray.empty S c) (S.length : Int) - c) (by omega) (by omega), w64 (x := th + 1) (by omega) (by omega)]
      refine ih _ _ _ _ (h.next d) (fun s hs => ?_) hyz d ?_ (by omega) (by omega)
      · rcases List.mem_or_eq_of_mem_set hs with q | q
        · exact hz s q
        · rw [q]; exact hxz
      · have hp : (rdOf ByteArray.empty S c :: nz (S.set c.toNat x)).Perm (x :: nz S) := by
          rw [e] at d ⊢
          exact set_swap (by omega) hx d
        exact (hp.append_right T).nodup_iff.2 hN
end
end Go.Proofs.YtephjmmkggcmeaaQ.KC
namespace Go.Proofs.YtephjmmkggcmeaaQ.KC
open Go Go.RowKit Go.Proofs.YtephjmmkggcmeaaW.PrintWords Go.Proofs.YtephjmmkggcmeaaW.PrintMore Go.Proofs.YtephjmmkggcmeaaGp Go.Proofs.Ytephjmmkggcmeaa.PG Go.Proofs.YtephjmmkggcmeaaQ

def insV (a : Int) (S T : List ByteArray) (x : ByteArray) (m : Nat) : Int × List ByteArray × List ByteArray × Int × Bool :=
  if (settleV a S x).2 = true then (a, (settleV a S x).1, T, 0, true) else spcPush a T (pushV a m x (plc a 0 x S) 0 S)
section
variable {a : Int} {S T : List ByteArray}
theorem spec_push_l0 (hl : T.length ≤ 1000) {mv : Int} (hv : mv ≤ 1000) : ∀ (m : Nat) (x : ByteArray) (c th : Int) (S : List ByteArray), At a S x c → (∀ s ∈ S, s.size ≤ 1000) → x.size ≤ 1000 → th + (m : Int) = mv → 0 ≤ th →
    Ev (fun k => spec_cuInsert.l0 k x mv c th a S T) (spcPush a T (pushV a m x c th S)) := by
  intro m
  induction m with
  | zero =>
    intro x c th S h hz hxz ht h0
    refine ev_succ ?_
    simp only [spec_cuInsert.l0, pushV]
    refine ev_pos h.c0 (ev_pos h.c1 ?_)
    by_cases d : rdOf ByteArray.empty S c = emp
    · rw [if_pos d]
      exact ev_pos (tl_emp.2 d) (Ev.now _)
    · rw [if_neg d]
      refine ev_neg (fun q => d (tl_emp.1 q)) (ev_pos (by omega) ?_)
      unfold spcPush
      by_cases e : (T.length : Int) = 4
      · refine ev_pos e ?_
        simp only [if_pos e]
        exact Ev.now _
      · refine ev_neg e ?_
        simp only [if_neg e]
        exact ev_bind _ (putS_f T x (by omega)) (Ev.now _)
  | succ m ih =>
    intro x c th S h hz hxz ht h0
    have c0 := h.c0
    have c1 := h.c1
    have hn := h.sz.n
    have e := rd_cell c0 c1
    refine ev_succ ?_
    simp only [spec_cuInsert.l0, pushV]
    refine ev_pos h.c0 (ev_pos h.c1 ?_)
    by_cases d : rdOf ByteArray.empty S c = emp
    · rw [if_pos d]
      exact ev_pos (tl_emp.2 d) (Ev.now _)
    · rw [if_neg d]
      have hyz : (rdOf ByteArray.empty S c).size ≤ 1000 := by rw [e]; exact hz _ (List.getElem_mem _)
      have hsl : (S.set c.toNat x).length = S.length := by simp
      have g0 : 0 ≤ placeV a 0 (rdOf ByteArray.empty S c) (S.length : Int) ∧ placeV a 0 (rdOf ByteArray.empty S c) (S.length : Int) < (S.length : Int) := plc_lt h.sz 0 _
      have g1 : 0 ≤ placeV a 1 (rdOf ByteArray.empty S c) (S.length : Int) ∧ placeV a 1 (rdOf ByteArray.empty S c) (S.length : Int) < (S.length : Int) := plc_lt h.sz 1 _
      have ho : Ev (fun k => spec_cuOther.f k a (S.set c.toNat x) T (rdOf ByteArray.empty S c) c) (oth a (rdOf ByteArray.empty S c) (S.length : Int) c) := by
        unfold spec_cuOther.f
        rw [hsl]
        refine ev_bind _ (spec_cuCells_f h.sz.sd.1 h.sz.sd.2 _ hyz) (ev_pos (by simp) (ev_pos (by simp) (ev_some ?_)))
        have r0 : rd [placeV a 0 (rdOf ByteArray.empty S c) (S.length : Int), placeV a 1 (rdOf ByteArray.empty S c) (S.length : Int)] 0 = placeV a 0 (rdOf ByteArray.empty S c) (S.length : Int) := by simp [rd]
        have r1 : rd [placeV a 0 (rdOf ByteArray.empty S c) (S.length : Int), placeV a 1 (rdOf ByteArray.empty S c) (S.length : Int)] 1 = placeV a 1 (rdOf ByteArray.empty S c) (S.length : Int) := by simp [rd]
        rw [r0, r1, w64 (x := placeV a 0 (rdOf ByteArray.empty S c) (S.length : Int) + placeV a 1 (rdOf ByteArray.empty S c) (S.length : Int)) (by omega) (by omega), w64 (x := placeV a 0 (rdOf ByteArray.empty S c) (S.length : Int) + placeV a 1 (rdOf ByteArray.empty S c) (S.length : Int) - c) (by omega) (by omega)]
        rfl
      refine ev_neg (fun q => d (tl_emp.1 q)) (ev_neg (by omega) ?_)
      simp only [Option.bind_some]
      refine ev_bind _ ho ?_
      rw [w64 (x := th + 1) (by omega) (by omega)]
      refine ih _ _ _ _ (h.next d) (fun s hs => ?_) hyz (by omega) (by omega)
      rcases List.mem_or_eq_of_mem_set hs with q | q
      · exact hz s q
      · rw [q]; exact hxz
theorem start_at (h : Sz a S) (hp : Plc a (S.length : Int) S) (x : ByteArray) : At a S x (plc a 0 x S) := ⟨h, hp, cel_0 _ _ _, (plc_lt h 0 x).1, (plc_lt h 0 x).2⟩
theorem spec_cuInsert_f (h : Sz a S) (hp : Plc a (S.length : Int) S) (ht : Tab S T) {x : ByteArray} (hx : x.size ≤ 1000) {m : Nat} (hm : m ≤ 1000) : Ev (fun k => spec_cuInsert.f k a S T x (m : Int)) (insV a S T x m) := by
  unfold spec_cuInsert.f insV
  refine ev_bind _ (spec_cuEmpty_f T h hx) ?_
  rcases settle_cases h x with ⟨s1, s2, s3⟩ | ⟨i, hi, s0, s1, s2, s3⟩
  · rw [s1, s2, if_neg (by simp)]
    refine ev_neg (by omega) (ev_bind _ (spec_cuCells_f h.sd.1 h.sd.2 x hx) (ev_pos (by simp) ?_))
    have r0 : rd [placeV a 0 x (S.length : Int), placeV a 1 x (S.length : Int)] 0 = plc a 0 x S := by simp [rd, plc]
    rw [r0]
    exact spec_push_l0 ht.t (by omega) m x _ 0 S (start_at h hp x) ht.zs hx (by omega) (by omega)
  · rw [s2, s3, if_pos rfl]
    refine ev_pos (by omega) (ev_pos (by omega) (ev_pos (by omega) ?_))
    rw [Int.toNat_natCast]
    exact Ev.now _
theorem ins_ok (h : Sz a S) (hp : Plc a (S.length : Int) S) (hT : T.length ≤ 4) {x : ByteArray} {m : Nat} (hy : (insV a S T x m).2.2.2.2 = true) :
    (insV a S T x m).1 = a ∧ (insV a S T x m).2.1.length = S.length ∧ Plc a (S.length : Int) (insV a S T x m).2.1 ∧ (insV a S T x m).2.2.1.length ≤ 4 ∧
    (0 ≤ (insV a S T x m).2.2.2.1 ∧ (insV a S T x m).2.2.2.1 ≤ (m : Int)) ∧ (∀ s, s ∈ (insV a S T x m).2.1 ∨ s ∈ (insV a S T x m).2.2.1 → s = x ∨ s ∈ S ∨ s ∈ T) ∧
    (x ≠ emp → SK T → (x :: (nz S ++ T)).Nodup → SK (insV a S T x m).2.2.1 ∧ (nz (insV a S T x m).2.1 ++ (insV a S T x m).2.2.1).Perm (x :: (nz S ++ T))) := by
  unfold insV at hy ⊢
  rcases settle_cases h x with ⟨s1, s2, s3⟩ | ⟨i, hi, s0, s1, s2, s3⟩
  · rw [s1, if_neg (by simp)] at hy ⊢
    obtain ⟨p1, p2, p3, p4, p5⟩ := push_ok m x (plc a 0 x S) 0 S (start_at h hp x)
    generalize pushV a m x (plc a 0 x S) 0 S = r at hy p1 p2 p3 p4 p5 ⊢
    obtain ⟨S', o, th⟩ := r
    cases o with
    | none =>
      refine ⟨rfl, p1, p2, hT, ⟨p3.1, by have := p3.2; simp only at this; show th ≤ _; omega⟩, fun s hs => ?_, fun hx hs hn => ⟨hs, ?_⟩⟩
      · rcases hs with q | q
        · rcases p4 s (.inl q) with e | e
          · exact .inl e
          · exact .inr (.inl e)
        · exact .inr (.inr q)
      · exact ((p5 hx).1.append_right T)
    | some y =>
      unfold spcPush at hy ⊢
      by_cases c : (T.length : Int) = 4
      · simp only [if_pos c] at hy; cases hy
      · simp only [if_neg c] at hy ⊢
        have hl := insK_len y T
        refine ⟨trivial, p1, p2, by omega, ⟨p3.1, by have := p3.2; simp only at this; omega⟩, fun s hs => ?_, fun hx hs hn => ⟨insK_sorted hs, ?_⟩⟩
        · rcases hs with q | q
          · rcases p4 s (.inl q) with e | e
            · exact .inl e
            · exact .inr (.inl e)
          · rcases insK_mem.1 q with e | e
            · subst e
              rcases p4 s (.inr rfl) with e | e
              · exact .inl e
              · exact .inr (.inl e)
            · exact .inr (.inr e)
        · have hq : (y :: nz S').Perm (x :: nz S) := (p5 hx).1
          have hN : (y :: (nz S' ++ T)).Nodup := (hq.append_right T).nodup_iff.2 hn
          have hyT : y ∉ T := fun q => (List.nodup_cons.1 hN).1 (List.mem_append_right _ q)
          exact ((insK_perm y hs hyT).append_left (nz S')).trans (List.perm_middle.trans (hq.append_right T))
  · rw [s2, if_pos rfl]
    refine ⟨rfl, by simp, hp.set s1, hT, ⟨Int.le_refl _, by simp⟩, fun s hs => ?_, fun hx hs hn => ⟨hs, ?_⟩⟩
    · rcases hs with q | q
      · rcases List.mem_or_eq_of_mem_set q with e | e
        · exact .inr (.inl e)
        · exact .inl e
      · exact .inr (.inr q)
    · exact (set_in hi hx s0).append_right T
def insF (a : Int) (S T : List ByteArray) (x : ByteArray) (mv : Int) : Int × List ByteArray × List ByteArray × Int × Bool :=
  if goodB a S T = true then (if isKeyB x = true then (if 0 ≤ mv ∧ mv ≤ 40 then (if idxS (S ++ T) x 0 ≥ 0 then (0, [], [], 0, false) else (if ((nz S ++ T).length : Int) = 40 then (0, [], [], 0, false) else insV a S T x mv.toNat)) else (0, [], [], 0, false)) else (0, [], [], 0, false)) else (0, [], [], 0, false)
theorem fresh_nodup (g : Good a S T) {x : ByteArray} (hk : isKeyB x = true) (hm : ¬ idxS (S ++ T) x 0 ≥ 0) : (x :: (nz S ++ T)).Nodup := by
  refine List.nodup_cons.2 ⟨fun q => hm ((idxS_mem _ _ 0).2 ((mem_all (key_ne hk)).2 q)), g.nd⟩
theorem impl_ins_go (g : Good a S T) {x : ByteArray} (hk : isKeyB x = true) {m : Nat} (hm : m ≤ 40) (hf : ¬ idxS (S ++ T) x 0 ≥ 0) : Ev (fun k => impl_CuckooInsert.j0 k x (m : Int) false a S T) (insV a S T x m) := by
  have hxs := (isKeyB_size hk).2
  have hN := fresh_nodup g hk hf
  have ht := g.tab
  obtain ⟨_, hsk, _⟩ := areKeys_iff.1 g.tk
  refine ev_succ ?_
  simp only [impl_CuckooInsert.j0]
  rw [clone_f a ht]
  simp only [Option.bind_some]
  refine ev_neg (by simp) (ev_bind _ (impl_settle_f g.sz (by omega)) ?_)
  unfold insV
  by_cases c : (settleV a S x).2 = true
  · refine ev_pos c ?_
    rw [if_pos c]
    exact Ev.now _
  · refine ev_neg c ?_
    rw [if_neg c]
    rcases settle_cases g.sz x with ⟨s1, _, _⟩ | ⟨i, hi, _, _, s2, _⟩
    · rw [s1]
      have hpu : Ev (fun k => impl_Cuckoo_push.f k a S T x (m : Int)) (impPush a T (pushV a m x (plc a 0 x S) 0 S)) := by
        unfold impl_Cuckoo_push.f
        exact ev_bind _ (impl_cellsOf_f g.sd.1 g.sd.2 x (by omega)) (impl_push_l0 hsk ht.t (by omega) m x _ 0 S (start_at g.sz g.plc x) ht.zs (by omega) (key_ne hk) hN (by omega) (by omega))
      refine ev_bind _ hpu ?_
      obtain ⟨p1, p2, p3, p4, p5⟩ := push_ok m x (plc a 0 x S) 0 S (start_at g.sz g.plc x)
      generalize pushV a m x (plc a 0 x S) 0 S = r at p1 p2 p3 p4 p5 ⊢
      obtain ⟨S', o, th⟩ := r
      cases o with
      | none => exact ev_pos rfl (Ev.now _)
      | some y =>
        have hq : (y :: nz S').Perm (x :: nz S) := (p5 (key_ne hk)).1
        have hyT : y ∉ T := fun q => (List.nodup_cons.1 ((hq.append_right T).nodup_iff.2 hN)).1 (List.mem_append_right _ q)
        have hl := (insK_perm y hsk hyT).length_eq
        rw [List.length_cons] at hl
        have hT4 := g.t
        unfold impPush spcPush
        by_cases e : (T.length : Int) = 4
        · simp only [if_pos e]
          exact ev_neg (by simp; omega) (Ev.now _)
        · simp only [if_neg e]
          exact ev_pos (by simp; omega) (Ev.now _)
    · exact absurd (by rw [s2]) c
theorem impl_CuckooInsert_f (h : Tab S T) {x : ByteArray} (hx : x.size ≤ 1000) (mv : Int) : Ev (fun k => impl_CuckooInsert.f k a S T x mv) (insF a S T x mv) := by
  have jt : Ev (fun k => impl_CuckooInsert.j0 k x mv true a S T) (0, [], [], 0, false) := ev_succ (by simp only [impl_CuckooInsert.j0]; exact ev_pos (by trivial) (Ev.now _))
  unfold impl_CuckooInsert.f insF
  refine ev_bind _ (impl_IsCuckoo_f h) ?_
  by_cases c1 : goodB a S T = true
  · have g := good_iff.1 c1
    refine ev_pos c1 (ev_bind _ (impl_IsKey_f x (by omega)) ?_)
    rw [if_pos c1]
    by_cases c2 : isKeyB x = true
    · refine ev_pos c2 ?_
      rw [if_pos c2]
      simp only [impl_in, Option.bind_some]
      by_cases c3 : 0 ≤ mv ∧ mv ≤ 40
      · refine ev_pos (decide_eq_true c3) (ev_bind _ (impl_find_f a h x) ?_)
        rw [if_pos c3]
        by_cases c4 : idxS (S ++ T) x 0 ≥ 0
        · refine ev_pos c4 ?_
          rw [if_pos c4]
          exact jt
        · refine ev_neg c4 ?_
          rw [if_neg c4, impl_all_f a h (by have := g.n; omega)]
          simp only [Option.bind_some]
          by_cases c5 : ((nz S ++ T).length : Int) = 40
          · rw [if_pos c5, beq_iff_eq.2 c5]
            exact jt
          · rw [if_neg c5, beq_eq_false_iff_ne.2 c5]
            have := impl_ins_go g c2 (m := mv.toNat) (by omega) c4
            rwa [show ((mv.toNat : Nat) : Int) = mv by omega] at this
      · refine ev_neg (by simpa using c3) ?_
        rw [if_neg c3]
        exact jt
    · refine ev_neg c2 ?_
      rw [if_neg c2]
      exact jt
  · refine ev_neg c1 ?_
    rw [if_neg c1]
    exact jt
theorem cuAll_len (g : Good a S T) : (setK (nz (S ++ T)) []).length = (nz S ++ T).length := by
  rw [g.nzT, setK_sort g.nd, (sortS_perm _).length_eq]
theorem spec_CuckooInsert_f (h : Tab S T) {x : ByteArray} (hx : x.size ≤ 1000) (mv : Int) : Ev (fun k => spec_CuckooInsert.f k a S T x mv) (insF a S T x mv) := by
  have jt : Ev (fun k => spec_CuckooInsert.j0 k x mv true a S T) (0, [], [], 0, false) := ev_succ (by simp only [spec_CuckooInsert.j0]; exact ev_pos (by trivial) (Ev.now _))
  unfold spec_CuckooInsert.f spec_cuMoves.f insF
  refine ev_bind _ (spec_cuGood_f h) ?_
  by_cases c1 : goodB a S T = true
  · have g := good_iff.1 c1
    refine ev_pos c1 (ev_bind _ (spec_IsKey_f x (by omega)) ?_)
    rw [if_pos c1]
    by_cases c2 : isKeyB x = true
    · refine ev_pos c2 ?_
      rw [if_pos c2]
      simp only [spec_in, Option.bind_some]
      by_cases c3 : 0 ≤ mv ∧ mv ≤ 40
      · refine ev_pos (decide_eq_true c3) (ev_bind _ (spec_cuFind_f a h x) ?_)
        rw [if_pos c3]
        by_cases c4 : idxS (S ++ T) x 0 ≥ 0
        · refine ev_pos c4 ?_
          rw [if_pos c4]
          exact jt
        · refine ev_neg c4 (ev_bind _ (spec_cuAll_f a h) ?_)
          rw [if_neg c4, cuAll_len g]
          by_cases c5 : ((nz S ++ T).length : Int) = 40
          · rw [if_pos c5, beq_iff_eq.2 c5]
            exact jt
          · rw [if_neg c5, beq_eq_false_iff_ne.2 c5]
            have := spec_cuInsert_f (T := T) g.sz g.plc h hx (m := mv.toNat) (by omega)
            rw [show ((mv.toNat : Nat) : Int) = mv by omega] at this
            refine ev_succ ?_
            simp only [spec_CuckooInsert.j0, spec_cuOwn.f]
            rw [own_S h.s, own_S h.t]
            simp only [Option.bind_some]
            exact ev_neg (by simp) (ev_bind _ this (Ev.now _))
      · refine ev_neg (by simpa using c3) ?_
        rw [if_neg c3]
        exact jt
    · refine ev_neg c2 ?_
      rw [if_neg c2]
      exact jt
  · refine ev_neg c1 ?_
    rw [if_neg c1]
    exact jt
theorem Good.ins (g : Good a S T) {x : ByteArray} (hk : isKeyB x = true) (hf : x ∉ nz S ++ T) (h40 : (nz S ++ T).length < 40) {m : Nat} (hy : (insV a S T x m).2.2.2.2 = true) :
    Good (insV a S T x m).1 (insV a S T x m).2.1 (insV a S T x m).2.2.1 ∧ (nz (insV a S T x m).2.1 ++ (insV a S T x m).2.2.1).Perm (x :: (nz S ++ T)) := by
  obtain ⟨_, hsk, _⟩ := areKeys_iff.1 g.tk
  obtain ⟨q1, q2, q3, q4, q5, q6, q7⟩ := ins_ok g.sz g.plc g.t hy
  have hN : (x :: (nz S ++ T)).Nodup := List.nodup_cons.2 ⟨hf, g.nd⟩
  obtain ⟨r1, r2⟩ := q7 (key_ne hk) hsk hN
  have hkeys : ∀ s ∈ nz (insV a S T x m).2.1 ++ (insV a S T x m).2.2.1, isKeyB s = true := fun s hs => by
    rcases List.mem_cons.1 (r2.mem_iff.1 hs) with e | e
    · rw [e]; exact hk
    · exact g.keys s e
  refine ⟨⟨by rw [q1]; exact g.sd, by rw [q2]; exact g.n, q4, areKeys_iff.2 ⟨fun s hs => hkeys s (List.mem_append_right _ hs), r1, by omega⟩, ?_, r2.nodup_iff.2 hN, by rw [r2.length_eq, List.length_cons]; omega⟩, r2⟩
  rw [q1, q2]
  exact slots_of q3 fun s hs => hkeys s (List.mem_append_left _ hs)
end
end Go.Proofs.YtephjmmkggcmeaaQ.KC
namespace Go.Proofs.YtephjmmkggcmeaaQ.KC
open Go Go.RowKit Go.Proofs.YtephjmmkggcmeaaW.PrintWords Go.Proofs.YtephjmmkggcmeaaW.PrintMore Go.Proofs.YtephjmmkggcmeaaGp Go.Proofs.Ytephjmmkggcmeaa.PG Go.Proofs.YtephjmmkggcmeaaQ

def ofV (a : Int) (m : Nat) : List ByteArray → List ByteArray → List ByteArray → Int × List ByteArray × List ByteArray × Bool
  | [], S, T => (a, S, T, true)
  | x :: t, S, T => if (insV a S T x m).2.2.2.2 = true then ofV a m t (insV a S T x m).2.1 (insV a S T x m).2.2.1 else (0, [], [], false)
structure Rm (a : Int) (S T : List ByteArray) (b : Nat) : Prop where
  sz : Sz a S
  pl : Plc a (S.length : Int) S
  t : T.length ≤ 4
  zs : ∀ x ∈ S, x.size ≤ b
  zt : ∀ x ∈ T, x.size ≤ b
section
variable {a : Int} {S T : List ByteArray} {b : Nat}
theorem Rm.tab (h : Rm a S T b) (hb : b ≤ 1000) : Tab S T := ⟨by have := h.sz.n; omega, by have := h.t; omega, fun x hx => Nat.le_trans (h.zs x hx) hb, fun x hx => Nat.le_trans (h.zt x hx) hb⟩
theorem Rm.ins (h : Rm a S T b) {x : ByteArray} (hx : x.size ≤ b) {m : Nat} (hy : (insV a S T x m).2.2.2.2 = true) : (insV a S T x m).1 = a ∧ (insV a S T x m).2.1.length = S.length ∧ Rm a (insV a S T x m).2.1 (insV a S T x m).2.2.1 b := by
  obtain ⟨q1, q2, q3, q4, q5, q6, _⟩ := ins_ok h.sz h.pl h.t hy
  have hz : ∀ s, s ∈ (insV a S T x m).2.1 ∨ s ∈ (insV a S T x m).2.2.1 → s.size ≤ b := fun s hs => by
    rcases q6 s hs with e | e | e
    · rw [e]; exact hx
    · exact h.zs s e
    · exact h.zt s e
  exact ⟨q1, q2, h.sz.of q2, by rw [q2]; exact q3, q4, fun s hs => hz s (.inl hs), fun s hs => hz s (.inr hs)⟩
theorem Rm.ofV : ∀ (t S T : List ByteArray), Rm a S T b → (∀ x ∈ t, x.size ≤ b) → ∀ m, (ofV a m t S T).2.2.2 = true → (ofV a m t S T).1 = a ∧ (ofV a m t S T).2.1.length = S.length ∧ Rm a (ofV a m t S T).2.1 (ofV a m t S T).2.2.1 b
  | [], S, T, h, _, m, _ => ⟨rfl, rfl, h⟩
  | x :: t, S, T, h, hz, m, hy => by
    simp only [KC.ofV] at hy ⊢
    by_cases c : (insV a S T x m).2.2.2.2 = true
    · rw [if_pos c] at hy ⊢
      obtain ⟨_, i2, i3⟩ := h.ins (hz x (by simp)) c
      obtain ⟨j1, j2, j3⟩ := Rm.ofV t _ _ i3 (fun y hy => hz y (by simp [hy])) m hy
      exact ⟨j1, by rw [j2, i2], j3⟩
    · rw [if_neg c] at hy; cases hy
theorem spec_cuOf_l0 (hb : b ≤ 1000) (X : List ByteArray) (hX : X.length ≤ 1000) (hz : ∀ x ∈ X, x.size ≤ b) {m : Nat} (hm : m ≤ 1000) : ∀ (t pre S T : List ByteArray), X = pre ++ t → Rm a S T b →
    Ev (fun k => spec_cuOf.l0 k (m : Int) X (X.length : Int) (pre.length : Int) a S T) (ofV a m t S T) := by
  intro t
  induction t with
  | nil =>
    intro pre S T e _
    refine ev_succ ?_
    simp only [spec_cuOf.l0, ofV]
    exact ev_neg (by rw [e]; exact not_lt_end) (Ev.now _)
  | cons x t ih =>
    intro pre S T e h
    have hp : pre.length ≤ 1000 := by rw [e, List.length_append] at hX; omega
    have hl : ((pre.length : Nat) : Int) < (X.length : Int) := by rw [e]; exact lt_mid
    have hg : rdOf ByteArray.empty X (pre.length : Int) = x := by rw [e]; exact rdOf_mid
    have hx : x.size ≤ b := hz x (by rw [e]; simp)
    refine ev_succ ?_
    simp only [spec_cuOf.l0, hg, ofV]
    rw [winc (by omega)]
    refine ev_pos hl (ev_pos (by omega) (ev_pos hl (ev_bind _ (spec_cuInsert_f h.sz h.pl (h.tab hb) (by omega) hm) ?_)))
    by_cases c : (insV a S T x m).2.2.2.2 = true
    · obtain ⟨i1, i2, i3⟩ := h.ins hx c
      have IH := ih (pre ++ [x]) _ _ (by rw [e]; simp) i3
      rw [len_one] at IH
      refine ev_pos c ?_
      rw [if_pos c, i1]
      exact IH
    · refine ev_neg c ?_
      rw [if_neg c]
      exact Ev.now _
theorem rm_new (a : Int) (ha : 0 ≤ a ∧ a ≤ 9999) {n : Nat} (h1 : 1 ≤ n) (h2 : n ≤ 64) (b : Nat) : Rm a (List.replicate n emp) [] b := by
  refine ⟨⟨ha, by simp; omega⟩, fun i hi hne => absurd (by simp) hne, by simp, fun x hx => ?_, by simp⟩
  rw [List.eq_of_mem_replicate hx]
  simp [ByteArray.size]
theorem spec_cuOf_f (ha : 0 ≤ a ∧ a ≤ 9999) (hb : b ≤ 1000) {X : List ByteArray} (hX : X.length ≤ 1000) (hz : ∀ x ∈ X, x.size ≤ b) {n m : Nat} (h1 : 1 ≤ n) (h2 : n ≤ 64) (hm : m ≤ 1000) :
    Ev (fun k => spec_cuOf.f k a X (n : Int) (m : Int)) (ofV a m X (List.replicate n emp) []) := by
  unfold spec_cuOf.f
  refine ev_pos (by omega) (ev_pos (by omega) ?_)
  rw [Int.toNat_natCast]
  exact spec_cuOf_l0 hb X hX hz hm X [] _ _ rfl (rm_new a ha h1 h2 b)
end
structure Dt (S T : List ByteArray) : Prop where
  s : 1 ≤ S.length ∧ S.length ≤ 64
  t : T.length ≤ 5
  zs : ∀ x ∈ S, x.size ≤ 13
  zt : ∀ x ∈ T, x.size ≤ 13
theorem Dt.tab {S T : List ByteArray} (h : Dt S T) : Tab S T := ⟨by have := h.s; omega, by have := h.t; omega, fun x hx => by have := h.zs x hx; omega, fun x hx => by have := h.zt x hx; omega⟩
theorem Dt.set {S T : List ByteArray} (h : Dt S T) (i : Nat) {x : ByteArray} (hx : x.size ≤ 13) : Dt (S.set i x) T := by
  refine ⟨by simp; exact h.s, h.t, fun y hy => ?_, h.zt⟩
  rcases List.mem_or_eq_of_mem_set hy with e | e
  · exact h.zs y e
  · rw [e]; exact hx
section
variable {s : List Int} (hs : Bys s)
include hs
theorem ck_j2 {p : Int} (sd : Int) (h0 : 0 ≤ p) (h1 : p ≤ 100000000000000000) (a : Int) (S T : List ByteArray) :
    ∃ a' p' sd', Ev (fun k => spec_l1Cur_cuckoo.j2 k s p sd a S T) (a', S, T, p', sd') ∧ 0 ≤ p' ∧ p' ≤ p + 10 := by
  obtain ⟨v, p1, sd1, e1, q0, q1⟩ := one_ok hs sd 30 h0 (by omega)
  by_cases c : v = true
  · obtain ⟨u, p2, sd2, e2, _, r0, r1⟩ := seed9_ok hs sd1 q0 (by omega)
    refine ⟨u, p2, sd2, ev_succ ?_, r0, by omega⟩
    simp only [spec_l1Cur_cuckoo.j2, e1, e2, Option.bind_some]
    exact ev_pos c (Ev.now _)
  · refine ⟨a, p1, sd1, ev_succ ?_, q0, by omega⟩
    simp only [spec_l1Cur_cuckoo.j2, e1, Option.bind_some]
    exact ev_neg c (Ev.now _)
theorem ck_j1 {p : Int} (sd : Int) (h0 : 0 ≤ p) (h1 : p ≤ 90000000000000000) (a : Int) {S T : List ByteArray} (h : Dt S T) :
    ∃ a' S' p' sd', Ev (fun k => spec_l1Cur_cuckoo.j1 k s p sd a S T) (a', S', T, p', sd') ∧ Dt S' T ∧ 0 ≤ p' ∧ p' ≤ p + 40 := by
  have hl := h.s
  obtain ⟨v, p1, sd1, e1, q0, q1⟩ := one_ok hs sd 12 h0 (by omega)
  by_cases c : v = true
  · obtain ⟨i, p2, sd2, e2, hi, r0, r1⟩ := pick_ok hs sd1 (n := (S.length : Int)) q0 (by omega)
    obtain ⟨x, p3, sd3, e3, hx, t0, t1⟩ := text_ok hs sd2 r0 (by omega)
    have h' := h.set i.toNat hx
    obtain ⟨a', p', sd', e4, u0, u1⟩ := ck_j2 hs sd3 t0 (by omega) a _ _
    refine ⟨a', _, p', sd', ev_succ ?_, h', u0, by omega⟩
    simp only [spec_l1Cur_cuckoo.j1, e1, e2, Option.bind_some]
    exact ev_pos c (ev_bind _ e3 (ev_pos (by omega) (ev_pos (by omega) e4)))
  · obtain ⟨a', p', sd', e4, u0, u1⟩ := ck_j2 hs sd1 q0 (by omega) a _ _
    refine ⟨a', _, p', sd', ev_succ ?_, h, u0, by omega⟩
    simp only [spec_l1Cur_cuckoo.j1, e1, Option.bind_some]
    exact ev_neg c e4
theorem ck_j0 {p : Int} (sd : Int) (h0 : 0 ≤ p) (h1 : p ≤ 80000000000000000) (a : Int) {S T : List ByteArray} (h : Dt S T) (hT : T.length ≤ 4) :
    ∃ a' S' T' p' sd', Ev (fun k => spec_l1Cur_cuckoo.j0 k s p sd a S T) (a', S', T', p', sd') ∧ Dt S' T' ∧ 0 ≤ p' ∧ p' ≤ p + 80 := by
  obtain ⟨v, p1, sd1, e1, q0, q1⟩ := one_ok hs sd 12 h0 (by omega)
  by_cases c : v = true
  · obtain ⟨x, p3, sd3, e3, hx, t0, t1⟩ := text_ok hs sd1 q0 (by omega)
    have h' : Dt S (T ++ [x]) := ⟨h.s, by simp; omega, h.zs, fun y hy => by
      rcases List.mem_append.1 hy with e | e
      · exact h.zt y e
      · rw [List.mem_singleton.1 e]; exact hx⟩
    obtain ⟨a', S', p', sd', e4, h4, u0, u1⟩ := ck_j1 hs sd3 t0 (by omega) a h'
    refine ⟨a', _, _, p', sd', ev_succ ?_, h4, u0, by omega⟩
    simp only [spec_l1Cur_cuckoo.j0, e1, Option.bind_some]
    exact ev_pos c (ev_bind _ e3 (ev_pos (by omega) e4))
  · obtain ⟨a', S', p', sd', e4, h4, u0, u1⟩ := ck_j1 hs sd1 q0 (by omega) a h
    refine ⟨a', _, _, p', sd', ev_succ ?_, h4, u0, by omega⟩
    simp only [spec_l1Cur_cuckoo.j0, e1, Option.bind_some]
    exact ev_neg c e4
theorem cuckoo_ok {p : Int} (sd : Int) (h0 : 0 ≤ p) (h1 : p ≤ 10000000000000000) :
    ∃ a S T p' sd', Ev (fun k => spec_l1Cur_cuckoo.f k s p sd) (a, S, T, p', sd') ∧ Dt S T ∧ 0 ≤ p' ∧ p' ≤ p + 400 := by
  obtain ⟨a, p1, sd1, e1, ha, q0, q1⟩ := pick_ok hs sd (n := 20) h0 (by omega)
  obtain ⟨v, p2, sd2, e2, hv, r0, r1⟩ := among_ok hs sd1 (l := [4, 8, 12]) (by simp) q0 (by omega)
  simp only [List.mem_cons, List.not_mem_nil, or_false] at hv
  obtain ⟨l, p3, sd3, e3, hl, s0, s1⟩ := keys_ok hs sd2 (n := v.toNat) (by omega) r0 (by omega)
  rw [Int.toNat_of_nonneg (by omega)] at e3 s1
  have hl1 := hl.1
  obtain ⟨c, p4, sd4, e4, hc, t0, t1⟩ := pick_ok hs sd3 (n := wrap64 ((l.length : Int) + 6)) s0 (by omega)
  rw [w64 (by omega) (by omega)] at hc
  obtain ⟨m, p5, sd5, e5, hm, u0, u1⟩ := pick_ok hs sd4 (n := 12) t0 (by omega)
  have hof := spec_cuOf_f (a := a) (b := 13) (by omega) (by omega) (X := l) (by omega) hl.2 (n := (1 + c).toNat) (m := m.toNat) (by omega) (by omega) (by omega)
  have hrm := Rm.ofV (b := 13) l _ _ (rm_new a (by omega) (n := (1 + c).toNat) (by omega) (by omega) 13) hl.2 m.toNat
  rw [Int.toNat_of_nonneg (by omega), Int.toNat_of_nonneg (by omega)] at hof
  by_cases y : (ofV a m.toNat l (List.replicate (1 + c).toNat emp) []).2.2.2 = true
  · obtain ⟨o1, o2, o3⟩ := hrm y
    have hd : Dt (ofV a m.toNat l (List.replicate (1 + c).toNat emp) []).2.1 (ofV a m.toNat l (List.replicate (1 + c).toNat emp) []).2.2.1 := ⟨o3.sz.n, by have := o3.t; omega, o3.zs, o3.zt⟩
    obtain ⟨a', S', T', p', sd', e6, h6, v0, v1⟩ := ck_j0 hs sd5 u0 (by omega) (ofV a m.toNat l (List.replicate (1 + c).toNat emp) []).1 hd o3.t
    refine ⟨a', S', T', p', sd', ?_, h6, v0, by omega⟩
    unfold spec_l1Cur_cuckoo.f
    simp only [e1, e2, Option.bind_some]
    refine ev_bind _ e3 ?_
    simp only [e4, e5, Option.bind_some]
    rw [w64 (x := 1 + c) (by omega) (by omega)]
    exact ev_bind _ hof (ev_pos y e6)
  · obtain ⟨g, p6, sd6, e6, hg, w0, w1⟩ := pick_ok hs sd5 (n := 9) u0 (by omega)
    have hd := (rm_new a (by omega) (n := (1 + g).toNat) (by omega) (by omega) 13)
    obtain ⟨a', S', T', p', sd', e7, h7, v0, v1⟩ := ck_j0 hs sd6 w0 (by omega) a (S := List.replicate (1 + g).toNat emp) (T := []) ⟨hd.sz.n, by simp, hd.zs, hd.zt⟩ (by simp)
    refine ⟨a', S', T', p', sd', ?_, h7, v0, by omega⟩
    unfold spec_l1Cur_cuckoo.f
    simp only [e1, e2, Option.bind_some]
    refine ev_bind _ e3 ?_
    simp only [e4, e5, Option.bind_some]
    rw [w64 (x := 1 + c) (by omega) (by omega)]
    refine ev_bind _ hof (ev_neg y ?_)
    simp only [e6, Option.bind_some]
    rw [w64 (x := 1 + g) (by omega) (by omega)]
    exact ev_pos (by omega) (ev_pos (by omega) e7)
theorem draw_ins : ∃ a S T key mv, Ev (fun k => spec_DrawCuckooInsert.f k s) (a, S, T, key, mv) ∧ Dt S T ∧ key.size ≤ 13 := by
  obtain ⟨a, S, T, p, sd, e, h, q0, q1⟩ := cuckoo_ok hs (p := 0) 0 (by omega) (by omega)
  obtain ⟨x, p3, sd3, e3, hx, t0, t1⟩ := text_ok hs sd q0 (by omega)
  obtain ⟨v, p2, sd2, e2, hv, r0, r1⟩ := among_ok hs sd3 (l := [0, 1, 2, 5, 12, 40, 41, (-1)]) (by simp) t0 (by omega)
  refine ⟨a, S, T, x, v, ?_, h, hx⟩
  unfold spec_DrawCuckooInsert.f
  refine ev_bind _ e (ev_bind _ e3 ?_)
  simp only [e2, Option.bind_some]
  exact Ev.now _
end
end Go.Proofs.YtephjmmkggcmeaaQ.KC
namespace Go.Proofs.YtephjmmkggcmeaaQ
open Go Go.RowKit Go.Proofs.YtephjmmkggcmeaaW.PrintWords Go.Proofs.YtephjmmkggcmeaaGp Go.Proofs.Ytephjmmkggcmeaa.PG

namespace LW
theorem hasT_l0 (x0 : List ByteArray) (a : ByteArray) (hl : (x0.length : Int) ≤ 9223372036854775806) : ∀ (t pre : List ByteArray), x0 = pre ++ t →
    Ev (fun k => laws_rHasText.l0 k a x0 (x0.length : Int) (pre.length : Int)) (hasS t a) := by
  intro t
  induction t with
  | nil =>
    intro pre h
    refine ev_succ ?_
    simp only [laws_rHasText.l0]
    exact ev_neg (by rw [h]; exact not_lt_end) (ev_some (by simp [hasS]))
  | cons x t ih =>
    intro pre h
    have hm : ((pre.length : Nat) : Int) < (x0.length : Int) := by rw [h]; exact lt_mid
    have hg : rdOf ByteArray.empty x0 (pre.length : Int) = x := by rw [h]; exact rdOf_mid
    refine ev_succ ?_
    simp only [laws_rHasText.l0, hg, tl_inj]
    refine ev_pos hm (ev_pos (by omega) (ev_pos hm ?_))
    by_cases c : x = a
    · exact ev_pos c (ev_some (by simp [hasS, c]))
    · refine ev_neg c ?_
      rw [winc (by omega)]
      have := ih (pre ++ [x]) (by rw [h]; simp)
      rw [len_one] at this
      have e : hasS (x :: t) a = hasS t a := by simp [hasS, c]
      rw [e]
      exact this
theorem hasT_f (l : List ByteArray) (a : ByteArray) (hl : (l.length : Int) ≤ 9223372036854775806) : Ev (fun k => laws_rHasText.f k l a) (hasS l a) := by
  unfold laws_rHasText.f
  exact hasT_l0 l a hl l [] rfl
theorem sameT_l0 (x0 y0 : List ByteArray) (hl : (x0.length : Int) ≤ 9223372036854775806) (hy : y0.length = x0.length) : ∀ (t pre u pru : List ByteArray), x0 = pre ++ t → y0 = pru ++ u → pru.length = pre.length →
    Ev (fun k => laws_pSameTexts.l0 k x0 y0 (x0.length : Int) (pre.length : Int)) (decide (t = u)) := by
  intro t
  induction t with
  | nil =>
    intro pre u pru h h2 hp
    have : u = [] := by
      have e1 : y0.length = pru.length + u.length := by rw [h2]; simp
      have e2 : x0.length = pre.length := by rw [h]; simp
      exact List.length_eq_zero_iff.1 (by omega)
    subst this
    refine ev_succ ?_
    simp only [laws_pSameTexts.l0]
    exact ev_neg (by rw [h]; exact not_lt_end) (ev_some (by simp))
  | cons x t ih =>
    intro pre u pru h h2 hp
    have hm : ((pre.length : Nat) : Int) < (x0.length : Int) := by rw [h]; exact lt_mid
    have hg : rdOf ByteArray.empty x0 (pre.length : Int) = x := by rw [h]; exact rdOf_mid
    cases u with
    | nil =>
      have e1 : y0.length = pru.length := by rw [h2]; simp
      omega
    | cons y u =>
      have hg2 : rdOf ByteArray.empty y0 (pre.length : Int) = y := by rw [h2, ← hp]; exact rdOf_mid
      refine ev_succ ?_
      simp only [laws_pSameTexts.l0, hg, hg2, tl_inj]
      by_cases c : x = y
      · subst c
        have := ih (pre ++ [x]) u (pru ++ [x]) (by rw [h]; simp) (by rw [h2]; simp) (by simp [hp])
        rw [len_one] at this
        rw [show decide (x :: t = x :: u) = decide (t = u) from by simp, winc (by omega)]
        exact ev_pos hm (ev_pos (by omega) (ev_pos hm (ev_pos (by omega) (ev_pos rfl this))))
      · rw [decide_eq_false (fun e => c (List.cons.inj e).1)]
        exact ev_pos hm (ev_pos (by omega) (ev_pos hm (ev_pos (by omega) (ev_neg c (Ev.now _)))))
theorem sameT_f (l l' : List ByteArray) (hl : (l.length : Int) ≤ 9223372036854775806) : Ev (fun k => laws_pSameTexts.f k l l') (decide (l = l')) := by
  unfold laws_pSameTexts.f
  by_cases h : l'.length = l.length
  · exact ev_pos (by omega) (sameT_l0 l l' hl h l [] l' [] rfl rfl rfl)
  · exact ev_neg (by omega) (ev_some (decide_eq_false (fun e => h (by rw [e]))).symm)
end LW
end Go.Proofs.YtephjmmkggcmeaaQ
namespace Go.Proofs.YtephjmmkggcmeaaQ.KC
open Go Go.RowKit Go.Proofs.YtephjmmkggcmeaaW.PrintWords Go.Proofs.YtephjmmkggcmeaaW.PrintMore Go.Proofs.YtephjmmkggcmeaaGp Go.Proofs.Ytephjmmkggcmeaa.PG Go.Proofs.YtephjmmkggcmeaaQ

theorem rSameCk (a : Int) {S T : List ByteArray} (h : Tab S T) : Ev (fun k => laws_rSameCuckoo.f k a S T a S T) true := by
  have h1 := h.s
  have h2 := h.t
  have e1 := LW.sameT_f S S (by omega)
  have e2 := LW.sameT_f T T (by omega)
  rw [decide_eq_true rfl] at e1 e2
  unfold laws_rSameCuckoo.f
  exact ev_pos rfl (ev_bind _ e1 (ev_pos rfl (ev_bind _ e2 (Ev.now _))))
theorem tab_nil : Tab [] [] := ⟨by simp, by simp, by simp, by simp⟩
section
variable {a : Int} {S T : List ByteArray}
theorem keys_good (g : Good a S T) : Ev (fun k => impl_CuckooKeys.f k a S T) (sortS (nz S ++ T), true) := by
  have := impl_CuckooKeys_f (a := a) g.tab
  rwa [if_pos (good_iff.2 g)] at this
theorem is_good (g : Good a S T) : Ev (fun k => impl_IsCuckoo.f k a S T) true := by
  have := impl_IsCuckoo_f (a := a) g.tab
  rwa [good_iff.2 g] at this
theorem sorted_len (g : Good a S T) : (sortS (nz S ++ T)).length ≤ 40 := by
  rw [(sortS_perm _).length_eq]; exact g.le
theorem has_sorted (g : Good a S T) {s : ByteArray} (h : s ∈ nz S ++ T) : Ev (fun k => laws_rHasText.f k (sortS (nz S ++ T)) s) true := by
  have hl := sorted_len g
  have := LW.hasT_f (sortS (nz S ++ T)) s (by omega)
  rwa [hasS_iff.2 ((sortS_perm _).mem_iff.2 h)] at this
theorem same_texts {l m : List ByteArray} (hl : l.length ≤ 1000) (h : l = m) : Ev (fun k => laws_pSameTexts.f k l m) true := by
  have := LW.sameT_f l m (by omega)
  rwa [decide_eq_true h] at this
end
end Go.Proofs.YtephjmmkggcmeaaQ.KC
namespace Go.Proofs.Ytephjmmkggcmeaa.Pure
open Go Go.RowKit Go.Proofs.YtephjmmkggcmeaaW.PrintWords Go.Proofs.YtephjmmkggcmeaaW.PrintMore Go.Proofs.YtephjmmkggcmeaaGp Go.Proofs.Ytephjmmkggcmeaa.PG Go.Proofs.YtephjmmkggcmeaaQ Go.Proofs.YtephjmmkggcmeaaQ.KC

theorem insV_no {a : Int} {S T : List ByteArray} {x : ByteArray} {m : Nat} (h : ¬ (insV a S T x m).2.2.2.2 = true) : insV a S T x m = (0, [], [], 0, false) := by
  unfold insV at h ⊢
  by_cases c : (settleV a S x).2 = true
  · rw [if_pos c] at h; exact absurd rfl h
  · rw [if_neg c] at h ⊢
    generalize pushV a m x (plc a 0 x S) 0 S = r at h ⊢
    obtain ⟨S', o, th⟩ := r
    cases o with
    | none => exact absurd rfl h
    | some y =>
      unfold spcPush at h ⊢
      by_cases d : (T.length : Int) = 4
      · simp only [if_pos d]
      · simp only [if_neg d] at h; exact absurd trivial h
theorem insF_no {a : Int} {S T : List ByteArray} {x : ByteArray} {mv : Int} (h : ¬ (insF a S T x mv).2.2.2.2 = true) : insF a S T x mv = (0, [], [], 0, false) := by
  unfold insF at h ⊢
  by_cases c1 : goodB a S T = true
  · rw [if_pos c1] at h ⊢
    by_cases c2 : isKeyB x = true
    · rw [if_pos c2] at h ⊢
      by_cases c3 : 0 ≤ mv ∧ mv ≤ 40
      · rw [if_pos c3] at h ⊢
        by_cases c4 : idxS (S ++ T) x 0 ≥ 0
        · rw [if_pos c4]
        · rw [if_neg c4] at h ⊢
          by_cases c5 : ((nz S ++ T).length : Int) = 40
          · rw [if_pos c5]
          · rw [if_neg c5] at h ⊢
            exact insV_no h
      · rw [if_neg c3]
    · rw [if_neg c2]
  · rw [if_neg c1]
theorem insF_yes {a : Int} {S T : List ByteArray} {x : ByteArray} {mv : Int} (h : (insF a S T x mv).2.2.2.2 = true) : KC.Good a S T ∧ isKeyB x = true ∧ (0 ≤ mv ∧ mv ≤ 40) ∧ x ∉ nz S ++ T ∧ (nz S ++ T).length < 40 ∧ insF a S T x mv = insV a S T x mv.toNat := by
  unfold insF at h ⊢
  by_cases c1 : goodB a S T = true
  · rw [if_pos c1] at h ⊢
    by_cases c2 : isKeyB x = true
    · rw [if_pos c2] at h ⊢
      by_cases c3 : 0 ≤ mv ∧ mv ≤ 40
      · rw [if_pos c3] at h ⊢
        by_cases c4 : idxS (S ++ T) x 0 ≥ 0
        · rw [if_pos c4] at h; cases h
        · rw [if_neg c4] at h ⊢
          by_cases c5 : ((nz S ++ T).length : Int) = 40
          · rw [if_pos c5] at h; cases h
          · rw [if_neg c5] at h ⊢
            have g := good_iff.1 c1
            exact ⟨g, c2, c3, fun q => c4 ((idxS_mem _ _ 0).2 ((mem_all (key_ne c2)).2 q)), by have := g.le; omega, rfl⟩
      · rw [if_neg c3] at h; cases h
    · rw [if_neg c2] at h; cases h
  · rw [if_neg c1] at h; cases h
theorem cells_one {a n : Int} (h1 : 0 ≤ a ∧ a ≤ 9999) (h3 : 1 ≤ n ∧ n ≤ 64) {s : ByteArray} (hs : isKeyB s = true) : Ev (fun k => impl_CellsOf.f k a s n) (placeV a 0 s n, placeV a 1 s n, true) := by
  have hz := (isKeyB_size hs).2
  have hk := impl_IsKey_f s (by omega)
  rw [hs] at hk
  unfold impl_CellsOf.f impl_isSeed.f impl_cellsOk.f
  simp only [impl_in, Option.bind_some, decide_eq_true h1, decide_eq_true h3]
  exact ev_pos (by trivial) (ev_bind _ hk (ev_pos rfl (ev_pos (by trivial) (ev_bind _ (impl_cellsOf_f h1.1 h1.2 s (by omega)) (Ev.now _)))))
section
variable {a : Int} {S T S' T' : List ByteArray} {key : ByteArray}
theorem ck_l0 (g : KC.Good a S T) (g' : KC.Good a S' T') (hl : S'.length = S.length) (hk : isKeyB key = true) (hf : key ∉ nz S ++ T) (hp : (nz S' ++ T').Perm (key :: (nz S ++ T))) (X : List ByteArray) (hX : X.length ≤ 1000) (hXm : ∀ s ∈ X, s ∈ nz S' ++ T') : ∀ (t pre : List ByteArray), X = pre ++ t →
    Ev (fun k => laws_FnCuckooKeeps.l0 k key (sortS (nz S ++ T)) X (X.length : Int) (pre.length : Int) a S T a S' T') true := by
  have hn := g.n
  intro t
  induction t with
  | nil =>
    intro pre e
    have hkm : key ∈ S' ++ T' := (mem_all (key_ne hk)).2 (hp.mem_iff.2 (by simp))
    have hks := (isKeyB_size hk).2
    have hr := impl_CuckooRemove_f a g'.tab key (by omega)
    unfold remV at hr
    rw [fndV_of g' hk hkm, if_pos rfl] at hr
    have g2 := g'.rem key
    have hp2 := rem_perm hp hf
    have hsl := sorted_len g2
    refine ev_succ ?_
    simp only [laws_FnCuckooKeeps.l0]
    exact ev_neg (by rw [e]; exact not_lt_end) (ev_bind _ hr (ev_bind _ (keys_good g2) (ev_pos rfl (ev_pos rfl (ev_bind _ (same_texts (by show (sortS (nz (remS S' key) ++ remT T' key)).length ≤ 1000; omega) (sortS_eq hp2 g2.nd)) (Ev.now _))))))
  | cons s t ih =>
    intro pre e
    have hpl : pre.length ≤ 1000 := by rw [e, List.length_append] at hX; omega
    have hlt : ((pre.length : Nat) : Int) < (X.length : Int) := by rw [e]; exact lt_mid
    have hg : rdOf ByteArray.empty X (pre.length : Int) = s := by rw [e]; exact rdOf_mid
    have hm : s ∈ nz S' ++ T' := hXm s (by rw [e]; simp)
    have hsk := g'.keys s hm
    have hss := (isKeyB_size hsk).2
    have hsm := (mem_all (key_ne hsk)).2 hm
    have IH := ih (pre ++ [s]) (by rw [e]; simp)
    rw [len_one] at IH
    have hfi := impl_CuckooFind_f a g'.tab s (by omega)
    rw [fndV_of g' hsk hsm] at hfi
    have hce := cells_one (n := (S.length : Int)) g.sd (by omega) hsk
    have fin : Ev (fun k => if s = key then laws_FnCuckooKeeps.l0 k key (sortS (nz S ++ T)) X (X.length : Int) ((pre.length + 1 : Nat) : Int) a S T a S' T' else (laws_rHasText.f k (sortS (nz S ++ T)) s).bind fun t => if t = true then laws_FnCuckooKeeps.l0 k key (sortS (nz S ++ T)) X (X.length : Int) ((pre.length + 1 : Nat) : Int) a S T a S' T' else some false) true := by
      by_cases c : s = key
      · exact ev_pos c IH
      · have hs2 : s ∈ nz S ++ T := by
          rcases List.mem_cons.1 (hp.mem_iff.1 hm) with q | q
          · exact absurd q c
          · exact q
        exact ev_neg c (ev_bind _ (has_sorted g hs2) (ev_pos rfl IH))
    refine ev_succ ?_
    simp only [laws_FnCuckooKeeps.l0, hg, tl_inj]
    rw [winc (by omega)]
    refine ev_pos hlt (ev_pos (by omega) (ev_pos hlt (ev_bind _ hfi (ev_bind _ hce (ev_pos rfl (ev_pos rfl ?_))))))
    by_cases d : idxS (S' ++ T') s 0 < (S.length : Int)
    · obtain ⟨i, hi, h1, h2⟩ := idxS_get _ s hsm
      have hi2 : i < S'.length := by omega
      have h5 : S'[i] = s := by rw [← h2, List.getElem_append_left hi2]
      have hc := (g'.sl i hi2 (by rw [h5]; exact key_ne hsk)).2
      rw [h5, hl] at hc
      unfold cel at hc
      rw [Bool.or_eq_true, decide_eq_true_eq, decide_eq_true_eq] at hc
      refine ev_pos d ?_
      by_cases q : idxS (S' ++ T') s 0 = placeV a 0 s (S.length : Int)
      · exact ev_pos q fin
      · refine ev_neg q (ev_pos ?_ fin)
        show idxS (S' ++ T') s 0 = placeV a 1 s (S.length : Int)
        rcases hc with hc | hc
        · exact absurd (by rw [h1, hc]) q
        · rw [h1, hc]
    · exact ev_neg d fin
end
theorem FnCuckooKeeps : laws_FnCuckooKeeps.Pure := by
  intro l0 l1 a0 a1 a2 b0 b1 b2
  refine Ev.rounds (r := true) ?_
  unfold laws_FnCuckooKeeps.f
  obtain ⟨bg, eb, hb⟩ := big_f a0 b0
  rw [eb]
  simp only [Option.bind_some]
  by_cases c : bg = true
  · exact ev_pos c (Ev.now _)
  have hs := bys (hb (by simpa using c)).1 a2
  obtain ⟨a, S, T, key, mv, e, h, hk⟩ := draw_ins hs
  have ht := h.tab
  have i1 := impl_CuckooInsert_f (a := a) ht (x := key) (by omega) mv
  have i2 := spec_CuckooInsert_f (a := a) ht (x := key) (by omega) mv
  refine ev_neg c (ev_bind _ e (ev_bind _ i1 (ev_bind _ i2 (ev_neg (by simp) ?_))))
  by_cases d : (insF a S T key mv).2.2.2.2 = true
  · obtain ⟨g, hkey, hmv, hf, h40, hv⟩ := insF_yes d
    rw [hv] at d ⊢
    obtain ⟨g1, g2⟩ := g.ins hkey hf h40 d
    obtain ⟨q1, q2, _, _, q5, _⟩ := ins_ok g.sz g.plc g.t d
    generalize insV a S T key mv.toNat = R at d g1 g2 q1 q2 q5 ⊢
    obtain ⟨a', S', T', th, ok⟩ := R
    simp only at d g1 g2 q1 q2 q5 ⊢
    subst q1; subst d
    have hs1 := sorted_len g1
    have hlen : (sortS (nz S' ++ T')).length = (sortS (nz S ++ T)).length + 1 := by
      rw [(sortS_perm _).length_eq, (sortS_perm _).length_eq, g2.length_eq, List.length_cons]
    refine ev_bind _ (rSameCk _ g1.tab) (ev_pos rfl ?_)
    rw [show (th != th) = false from by simp]
    refine ev_succ ?_
    simp only [laws_FnCuckooKeeps.j0]
    refine ev_neg (by simp) (ev_pos (by trivial) (ev_bind _ (keys_good g) (ev_bind _ (keys_good g1) (ev_bind _ (is_good g1) (ev_pos rfl (ev_pos rfl (ev_pos rfl (ev_pos ?_ (ev_bind _ (has_sorted g1 (g2.mem_iff.2 (by simp))) (ev_pos rfl ?_))))))))))
    · show ((sortS (nz S' ++ T')).length : Int) = wrap64 (((sortS (nz S ++ T)).length : Int) + 1)
      rw [winc (by omega), hlen]
    · rw [decide_eq_false (show ¬ th > mv by omega)]
      refine ev_succ ?_
      simp only [laws_FnCuckooKeeps.j1]
      exact ev_neg (by simp) (ck_l0 g g1 q2 hkey hf g2 _ (by omega) (fun s hs => (sortS_perm _).mem_iff.1 hs) _ [] rfl)
  · rw [insF_no d]
    refine ev_bind _ (rSameCk _ tab_nil) (ev_pos rfl ?_)
    refine ev_succ ?_
    simp only [laws_FnCuckooKeeps.j0]
    exact ev_neg (by simp) (ev_neg (by simp) (Ev.now _))
end Go.Proofs.Ytephjmmkggcmeaa.Pure
