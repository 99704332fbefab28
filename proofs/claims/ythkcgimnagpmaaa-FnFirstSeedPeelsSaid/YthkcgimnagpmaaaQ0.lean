/- Plain lemmas for the pure statements: rounds, lists read by place, strings as lists of bytes. No program. -/
import Derived.Test.YthkcgimnagpmaaaWWords
import Derived.Test.YthkcgimnagpmaaaGpWords
import Derived.Lib.Bytes
namespace Go.Proofs.YthkcgimnagpmaaaQ
open Go Go.RowKit Go.Proofs.YthkcgimnagpmaaaW.PrintWords Go.Proofs.YthkcgimnagpmaaaGp

/-! ### rounds -/
theorem ev_succ {α : Type} {g : Nat → Option α} {r : α} (h : Ev (fun k => g (k + 1)) r) : Ev g r := Ev.step (f := fun k => g (k + 1)) (fun _ => rfl) h
theorem ev_some {α : Type} {a r : α} (h : a = r) : Ev (fun _ => some a) r := h ▸ Ev.now a
theorem ev_pos {α : Type} {c : Prop} [Decidable c] {f g : Nat → Option α} {r : α} (h : c) (k : Ev f r) : Ev (fun n => if c then f n else g n) r := by simpa only [if_pos h] using k
theorem ev_neg {α : Type} {c : Prop} [Decidable c] {f g : Nat → Option α} {r : α} (h : ¬ c) (k : Ev g r) : Ev (fun n => if c then f n else g n) r := by simpa only [if_neg h] using k
theorem ev_bind {α β : Type} {g : Nat → Option α} {f : Nat → α → Option β} {r : β} (a : α) (h : Ev g a) (k : Ev (fun n => f n a) r) : Ev (fun n => (g n).bind (f n)) r := Ev.bind h k
theorem ev_inj {α : Type} {g : Nat → Option α} {r r' : α} (h : Ev g r) (h' : Ev g r') : r = r' := by
  obtain ⟨K, h⟩ := h
  obtain ⟨K', h'⟩ := h'
  have a := h (max K K') (Nat.le_max_left _ _)
  have b := h' (max K K') (Nat.le_max_right _ _)
  exact Option.some.inj (a.symm.trans b)

/-! ### numbers -/
theorem w64 {x : Int} (h0 : -9223372036854775808 ≤ x) (h1 : x ≤ 9223372036854775807) : wrap64 x = x := by unfold wrap64; omega
theorem winc {i : Nat} (h : (i : Int) < 9223372036854775807) : wrap64 ((i : Int) + 1) = ((i + 1 : Nat) : Int) := by unfold wrap64; omega
theorem wdec {i : Nat} (h : (i : Int) < 9223372036854775807) : wrap64 (((i + 1 : Nat) : Int) - 1) = (i : Int) := by unfold wrap64; omega
theorem wdec' {i : Nat} (h : (i : Int) < 9223372036854775807) : wrap64 ((i : Int) + 1 - 1) = (i : Int) := by unfold wrap64; omega
theorem maxLen_eq : maxLen = 9223372036854775807 := by unfold maxLen; rfl
theorem wf64 {n : Int} (h : (Lit.int .i64 n).wf = true) : -9223372036854775808 ≤ n ∧ n ≤ 9223372036854775807 := by
  simp only [Lit.wf, Bool.and_eq_true, decide_eq_true_eq] at h
  exact h

/-! ### lists read by place -/
section
variable {α : Type} {d : α} {pre t : List α} {s : α}
theorem rdOf_mid : rdOf d (pre ++ s :: t) ((pre.length : Nat) : Int) = s := by simp [rdOf]
theorem rdOf_last {p : α} : rdOf d ((pre ++ [p]) ++ s :: t) ((pre.length : Nat) : Int) = p := by simp [rdOf]
theorem rdOf_get {xs : List α} {i : Nat} (h : i < xs.length) : rdOf d xs (i : Int) = xs[i] := by simp [rdOf, h]
theorem lt_mid : ((pre.length : Nat) : Int) < ((pre ++ s :: t).length : Int) := by simp; omega
theorem not_lt_end : ¬ ((pre.length : Nat) : Int) < ((pre ++ ([] : List α)).length : Int) := by simp
theorem set_mid {x : α} : (pre ++ s :: t).set ((pre.length : Nat) : Int).toNat x = pre ++ x :: t := by simp
theorem app_one : (pre ++ [s]) ++ t = pre ++ s :: t := by simp
theorem len_one : ((pre ++ [s]).length : Int) = ((pre.length + 1 : Nat) : Int) := by simp
end
theorem rd_mid {pre t : List Int} {s : Int} : rd (pre ++ s :: t) ((pre.length : Nat) : Int) = s := by simp [rd]
theorem rd_get {xs : List Int} {i : Nat} (h : i < xs.length) : rd xs (i : Int) = xs[i] := by simp [rd, h]

/-! ### strings -/
theorem tl (s : ByteArray) : s.toList = s.data.toList := Lib.toList_data s
theorem tl_inj {x y : ByteArray} : x.toList = y.toList ↔ x = y := by
  rw [tl, tl]
  exact ⟨fun h => ByteArray.ext (Array.toList_inj.1 h), fun h => h ▸ rfl⟩
theorem size_len (s : ByteArray) : s.size = s.data.toList.length := (data_length s).symm
theorem bt_mid {s : ByteArray} {pre t : List UInt8} {c : UInt8} (h : s.data.toList = pre ++ c :: t) : bt s ((pre.length : Nat) : Int) = (c.toNat : Int) := by
  have hs : pre.length < s.size := by rw [size_len, h]; simp
  have hg : s[pre.length]'hs = c := by
    have : s.data.toList[pre.length]'(by rw [h]; simp) = c := by simp [h]
    rw [← this]; rfl
  unfold bt
  rw [dif_pos (by simpa using hs)]
  simp only [Int.toNat_natCast, hg]
theorem lt_size {s : ByteArray} {pre t : List UInt8} {c : UInt8} (h : s.data.toList = pre ++ c :: t) : ((pre.length : Nat) : Int) < (s.size : Int) := by rw [size_len, h]; simp; omega
theorem not_lt_size {s : ByteArray} {pre : List UInt8} (h : s.data.toList = pre ++ []) : ¬ ((pre.length : Nat) : Int) < (s.size : Int) := by rw [size_len, h]; simp
theorem bt_get {s : ByteArray} {i : Nat} (h : i < s.data.toList.length) : bt s (i : Int) = ((s.data.toList[i]'h).toNat : Int) := by
  have hs : i < s.size := by rw [size_len]; exact h
  unfold bt
  rw [dif_pos (by simpa using hs)]
  rfl
theorem ext_len {s : ByteArray} {n : Nat} : (s.extract 0 n).size = min n s.size := by simp

/-! ### the order of strings -/
def lessS (a b : ByteArray) : Bool := Op.bytesLess a.toList b.toList
theorem lessS_irrefl (a : ByteArray) : lessS a a = false := bl_irrefl _
theorem bl_trans : ∀ a b c : List UInt8, Op.bytesLess a b = true → Op.bytesLess b c = true → Op.bytesLess a c = true
  | [], _, [], _, h => by cases ‹List UInt8› <;> simp [Op.bytesLess] at h
  | [], _, _ :: _, _, _ => by simp [Op.bytesLess]
  | _ :: _, [], _, h, _ => by simp [Op.bytesLess] at h
  | _ :: _, _ :: _, [], _, h => by simp [Op.bytesLess] at h
  | a :: l, b :: m, c :: n, h1, h2 => by
    have ih := bl_trans l m n
    simp only [Op.bytesLess, Bool.or_eq_true, Bool.and_eq_true, decide_eq_true_eq, beq_iff_eq, UInt8.lt_iff_toNat_lt] at h1 h2 ⊢
    rcases h1 with h1 | ⟨rfl, h1⟩
    · rcases h2 with h2 | ⟨rfl, h2⟩
      · exact .inl (by omega)
      · exact .inl h1
    · rcases h2 with h2 | ⟨rfl, h2⟩
      · exact .inl h2
      · exact .inr ⟨rfl, ih h1 h2⟩
theorem lessS_trans {a b c : ByteArray} (h1 : lessS a b = true) (h2 : lessS b c = true) : lessS a c = true := bl_trans _ _ _ h1 h2
theorem lessS_total (a b : ByteArray) (h : lessS a b = false) : lessS b a = true ∨ a = b := by
  have t := bl_total a.toList b.toList
  unfold lessS at h ⊢
  rw [h] at t
  by_cases e : a = b
  · exact .inr e
  · left
    have : (a.toList == b.toList) = false := by simpa [tl_inj] using e
    rw [this] at t
    have t2 := bl_total b.toList a.toList
    cases hb : Op.bytesLess b.toList a.toList
    · rw [hb, h] at t2
      simp only [Bool.false_or, Bool.not_false] at t2
      exact absurd (tl_inj.1 (by simpa using t2)) (fun e' => e e'.symm)
    · rfl
theorem lessS_asymm {a b : ByteArray} (h : lessS a b = true) : lessS b a = false := by
  cases hb : lessS b a
  · rfl
  · have := lessS_trans h hb
    rw [lessS_irrefl] at this
    cases this
theorem lessS_ne {a b : ByteArray} (h : lessS a b = true) : a ≠ b := by
  rintro rfl
  rw [lessS_irrefl] at h
  cases h
end Go.Proofs.YthkcgimnagpmaaaQ
