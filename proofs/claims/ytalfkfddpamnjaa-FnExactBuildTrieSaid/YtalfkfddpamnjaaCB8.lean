import Derived.Test.YtalfkfddpamnjaaCB0
import Derived.ProofKit
import Derived.SliceStrings
import Derived.ChangeSlices
import Derived.Test.YtalfkfddpamnjaaCB2
import Derived.Lib.Bytes
import Derived.Test.YtalfkfddpamnjaaCB7
import Derived.Test.YtalfkfddpamnjaaCB6
import Derived.Test.YtalfkfddpamnjaaCB3
import Derived.Test.YtalfkfddpamnjaaCB4
import Derived.Test.YtalfkfddpamnjaaCB1
import Derived.Laws.BitsLemmas
import Derived.Lib.Strings
import Derived.Test.YtalfkfddpamnjaaCB5
namespace Go.Proofs.YtalfkfddpamnjaaGp
open Go Go.ChangeShapes Go.WideShapes Go.RowKit Go.Proofs.YtalfkfddpamnjaaW.PrintWords
open Go.WideElems
section
variable {H : Type} {enc : TypeId × Value → H} {P : Program} {w : World} {base : Nat} {held : Bool}

theorem struct_field {spare : Nat → Bool} {t : TypeId} {fuel : Nat} {cs : List Value} {x : DataW H × List MemPlace} {fs : Array Field} (ht : P.underlying t = some (.struct fs)) (h : DataW.trod enc P w base spare held fuel t cs = some x)
    (i : Nat) {f : Field} (hf : fs[i]? = some f) {c : Nat} (hc : P.cellsOf f.type = c) :
    ∃ n y, DataW.trod enc P w base spare held n f.type ((cs.drop f.offset).take c) = some y := by
  obtain ⟨xs, n, _, _, _, hl, hg⟩ := DataW.trod_struct ht h
  have hi : i < xs.length := by rw [hl]; exact (Array.getElem?_eq_some_iff.1 hf).1
  have h1 := hg i f hf
  rw [hc, List.getElem?_eq_getElem hi] at h1
  exact ⟨n, _, h1⟩

theorem leaf_int {spare : Nat → Bool} {t : TypeId} {fuel : Nat} {c : Value} {x : DataW H × List MemPlace} {k : IntKind} (ht : P.underlying t = some (.int k)) (h : DataW.trod enc P w base spare held fuel t [c] = some x) :
    ∃ n, c = .int k n ∧ (Lit.int k n).wf = true := by
  obtain ⟨n, e, _, hw⟩ := DataW.trod_int ht h
  exact ⟨n, by simpa using e, hw⟩

theorem leaf_bool {spare : Nat → Bool} {t : TypeId} {fuel : Nat} {c : Value} {x : DataW H × List MemPlace} (ht : P.underlying t = some .bool) (h : DataW.trod enc P w base spare held fuel t [c] = some x) :
    ∃ b, c = .bool b := by
  obtain ⟨b, e, _⟩ := DataW.trod_bool ht h
  exact ⟨b, by simpa using e⟩

theorem leaf_str {spare : Nat → Bool} {t : TypeId} {fuel : Nat} {c : Value} {x : DataW H × List MemPlace} (ht : P.underlying t = some .string) (h : DataW.trod enc P w base spare held fuel t [c] = some x) :
    ∃ s, c = .string s ∧ s.size ≤ maxLen := by
  obtain ⟨s, e, _, hw⟩ := DataW.trod_string ht h
  exact ⟨s, by simpa using e, hw⟩

theorem leaf_ints {t e : TypeId} {fuel : Nat} {c : Value} {x : DataW H × List MemPlace} {k : IntKind} (ht : P.underlying t = some (.slice e)) (he : P.underlying e = some (.int k)) (hc : P.cellsOf e = 1)
    (h : DataW.trod enc P w base (fun _ => true) held fuel t [c] = some x) :
    ∃ (A : Option Addr) (l : List Int) (cap : Nat), c = .slice A l.length cap ∧ (Kd.int k).C w A l.length l ∧ l.length ≤ cap ∧ l.length ≤ maxLen ∧ ∀ n ∈ l, (Lit.int k n).wf = true := by
  rcases open_ints ht he hc h with ⟨hcs, _⟩ | ⟨a, len, cap, zs, hcs, _, hl, hm, hz, _, hcell, hw⟩
  · obtain rfl : c = .slice none 0 0 := by simpa using hcs
    obtain ⟨l, e, hr, h1, h2, h3⟩ := ReadsInt.ofRowC (k := k) (w := w) (a := none) (len := 0) (cap := 0) (zs := []) (.inl ⟨rfl, rfl, rfl, rfl⟩)
    refine ⟨none, l, 0, by rw [← e], Kd.C_of_reads (d := (0 : Int)) (h1 := fun _ => rfl) hr, h3, h1, h2⟩
  · obtain rfl : c = .slice (some a) len cap := by simpa using hcs
    obtain ⟨l, e, hr, h1, h2, h3⟩ := ReadsInt.ofRowC (k := k) (w := w) (a := some a) (len := len) (cap := cap) (zs := zs) (.inr ⟨a, rfl, hl, hm, by simpa using hz, hcell, hw⟩)
    subst e
    exact ⟨some a, l, cap, rfl, Kd.C_of_reads (d := (0 : Int)) (h1 := fun _ => rfl) hr, h3, h1, h2⟩

theorem leaf_strs {t e : TypeId} {fuel : Nat} {c : Value} {x : DataW H × List MemPlace} (ht : P.underlying t = some (.slice e)) (he : P.underlying e = some .string) (hc : P.cellsOf e = 1)
    (h : DataW.trod enc P w base (fun _ => true) held fuel t [c] = some x) :
    ∃ (A : Option Addr) (l : List ByteArray) (cap : Nat), c = .slice A l.length cap ∧ Kd.string.C w A l.length l ∧ l.length ≤ cap ∧ l.length ≤ maxLen ∧ ∀ s ∈ l, s.size ≤ maxLen := by
  rcases open_strings ht he hc h with ⟨hcs, _⟩ | ⟨a, len, cap, ss, hcs, _, hl, hm, hz, _, hcell, hw⟩
  · obtain rfl : c = .slice none 0 0 := by simpa using hcs
    refine ⟨none, [], 0, rfl, Kd.C_of_reads (d := ByteArray.empty) (h1 := fun _ => rfl) ⟨rfl, by simp, fun hn => absurd hn (by simp)⟩, Nat.le_refl _, Nat.zero_le _, fun s hs => by simp at hs⟩
  · obtain rfl : c = .slice (some a) len cap := by simpa using hcs
    simp only [if_true] at hz
    have e : (ss.take len).length = len := by simp; omega
    refine ⟨some a, ss.take len, cap, by rw [e], Kd.C_of_reads (d := ByteArray.empty) (h1 := fun _ => rfl) ⟨rfl, ?_, fun _ => ⟨a, rfl, fun j hj => ?_⟩⟩, by rw [e]; exact hl, by rw [e]; exact Nat.le_trans hl hm, fun s hs => hw s (List.mem_of_mem_take hs)⟩
    · rw [e]; have := Nat.le_trans hl hm; simpa [maxLen] using this
    · rw [e] at hj
      rw [hcell j (by omega)]
      simp [List.getD, hj]
theorem trod_agg {spare : Nat → Bool} {t : TypeId} {fuel : Nat} {l : List Value} {x : Option (DataW H × List MemPlace)} (h : DataW.trod enc P w base spare held fuel t (Value.agg ⟨l⟩).cells.toList = x) :
    DataW.trod enc P w base spare held fuel t l = x := by simpa [Value.cells] using h
end
theorem arr1 {cs : Array Value} (h : cs.size = 1) : ∃ c0, cs = #[c0] := by
  obtain ⟨l⟩ := cs
  match l, h with
  | [c0], _ => exact ⟨_, rfl⟩
theorem arr2 {cs : Array Value} (h : cs.size = 2) : ∃ c0 c1, cs = #[c0, c1] := by
  obtain ⟨l⟩ := cs
  match l, h with
  | [c0, c1], _ => exact ⟨_, _, rfl⟩
theorem arr3 {cs : Array Value} (h : cs.size = 3) : ∃ c0 c1 c2, cs = #[c0, c1, c2] := by
  obtain ⟨l⟩ := cs
  match l, h with
  | [c0, c1, c2], _ => exact ⟨_, _, _, rfl⟩
theorem arr4 {cs : Array Value} (h : cs.size = 4) : ∃ c0 c1 c2 c3, cs = #[c0, c1, c2, c3] := by
  obtain ⟨l⟩ := cs
  match l, h with
  | [c0, c1, c2, c3], _ => exact ⟨_, _, _, _, rfl⟩
theorem arr5 {cs : Array Value} (h : cs.size = 5) : ∃ c0 c1 c2 c3 c4, cs = #[c0, c1, c2, c3, c4] := by
  obtain ⟨l⟩ := cs
  match l, h with
  | [c0, c1, c2, c3, c4], _ => exact ⟨_, _, _, _, _, rfl⟩
theorem arr6 {cs : Array Value} (h : cs.size = 6) : ∃ c0 c1 c2 c3 c4 c5, cs = #[c0, c1, c2, c3, c4, c5] := by
  obtain ⟨l⟩ := cs
  match l, h with
  | [c0, c1, c2, c3, c4, c5], _ => exact ⟨_, _, _, _, _, _, rfl⟩
theorem arr7 {cs : Array Value} (h : cs.size = 7) : ∃ c0 c1 c2 c3 c4 c5 c6, cs = #[c0, c1, c2, c3, c4, c5, c6] := by
  obtain ⟨l⟩ := cs
  match l, h with
  | [c0, c1, c2, c3, c4, c5, c6], _ => exact ⟨_, _, _, _, _, _, _, rfl⟩
theorem arr8 {cs : Array Value} (h : cs.size = 8) : ∃ c0 c1 c2 c3 c4 c5 c6 c7, cs = #[c0, c1, c2, c3, c4, c5, c6, c7] := by
  obtain ⟨l⟩ := cs
  match l, h with
  | [c0, c1, c2, c3, c4, c5, c6, c7], _ => exact ⟨_, _, _, _, _, _, _, _, rfl⟩
end Go.Proofs.YtalfkfddpamnjaaGp
namespace Go.Proofs.YtalfkfddpamnjaaQ
open Go Go.RowKit Go.Proofs.YtalfkfddpamnjaaW.PrintWords Go.Proofs.YtalfkfddpamnjaaGp

theorem ev_succ {α : Type} {g : Nat → Option α} {r : α} (h : Ev (fun k => g (k + 1)) r) : Ev g r := Ev.step (f := fun k => g (k + 1)) (fun _ => rfl) h
theorem ev_some {α : Type} {a r : α} (h : a = r) : Ev (fun _ => some a) r := h ▸ Ev.now a
theorem ev_pos {α : Type} {c : Prop} [Decidable c] {f g : Nat → Option α} {r : α} (h : c) (k : Ev f r) : Ev (fun n => if c then f n else g n) r := by simpa only [if_pos h] using k
theorem ev_neg {α : Type} {c : Prop} [Decidable c] {f g : Nat → Option α} {r : α} (h : ¬ c) (k : Ev g r) : Ev (fun n => if c then f n else g n) r := by simpa only [if_neg h] using k
theorem ev_bind {α β : Type} {g : Nat → Option α} {f : Nat → α → Option β} {r : β} (a : α) (h : Ev g a) (k : Ev (fun n => f n a) r) : Ev (fun n => (g n).bind (f n)) r := Ev.bind h k
theorem ev_inj {α : Type} {g : Nat → Option α} {r r' : α} (h : Ev g r) (h' : Ev g r') : r = r' := by
  obtain ⟨K, h⟩ := h
  obtain ⟨K', h'⟩ := h'
  have a := h (max K K') (Nat.le_max_left _ _)
  have b := h' (max K K') (Nat.le_max_right _ _)
  exact Option.some.inj (a.symm.trans b)

theorem w64 {x : Int} (h0 : -9223372036854775808 ≤ x) (h1 : x ≤ 9223372036854775807) : wrap64 x = x := by unfold wrap64; omega
theorem winc {i : Nat} (h : (i : Int) < 9223372036854775807) : wrap64 ((i : Int) + 1) = ((i + 1 : Nat) : Int) := by unfold wrap64; omega
theorem wdec {i : Nat} (h : (i : Int) < 9223372036854775807) : wrap64 (((i + 1 : Nat) : Int) - 1) = (i : Int) := by unfold wrap64; omega
theorem wdec' {i : Nat} (h : (i : Int) < 9223372036854775807) : wrap64 ((i : Int) + 1 - 1) = (i : Int) := by unfold wrap64; omega
theorem maxLen_eq : maxLen = 9223372036854775807 := by unfold maxLen; rfl
theorem wf64 {n : Int} (h : (Lit.int .i64 n).wf = true) : -9223372036854775808 ≤ n ∧ n ≤ 9223372036854775807 := by
  simp only [Lit.wf, Bool.and_eq_true, decide_eq_true_eq] at h
  exact h

section
variable {α : Type} {d : α} {pre t : List α} {s : α}
theorem rdOf_mid : rdOf d (pre ++ s :: t) ((pre.length : Nat) : Int) = s := by simp [rdOf]
theorem rdOf_last {p : α} : rdOf d ((pre ++ [p]) ++ s :: t) ((pre.length : Nat) : Int) = p := by simp [rdOf]
theorem rdOf_get {xs : List α} {i : Nat} (h : i < xs.length) : rdOf d xs (i : Int) = xs[i] := by simp [rdOf, h]
theorem lt_mid : ((pre.length : Nat) : Int) < ((pre ++ s :: t).length : Int) := by simp; omega
theorem not_lt_end : ¬ ((pre.length : Nat) : Int) < ((pre ++ ([] : List α)).length : Int) := by simp
theorem set_mid {x : α} : (pre ++ s :: t).set ((pre.length : Nat) : Int).toNat x = pre ++ x :: t := by simp
theorem app_one : (pre ++ [s]) ++ t = pre ++ s :: t := by simp
theorem len_one : ((pre ++ [s]).length : Int) = ((pre.length + 1 : Nat) : Int) := by simp
end
theorem rd_mid {pre t : List Int} {s : Int} : rd (pre ++ s :: t) ((pre.length : Nat) : Int) = s := by simp [rd]
theorem rd_get {xs : List Int} {i : Nat} (h : i < xs.length) : rd xs (i : Int) = xs[i] := by simp [rd, h]

theorem tl (s : ByteArray) : s.toList = s.data.toList := Lib.toList_data s
theorem tl_inj {x y : ByteArray} : x.toList = y.toList ↔ x = y := by
  rw [tl, tl]
  exact ⟨fun h => ByteArray.ext (Array.toList_inj.1 h), fun h => h ▸ rfl⟩
theorem size_len (s : ByteArray) : s.size = s.data.toList.length := (data_length s).symm
theorem bt_mid {s : ByteArray} {pre t : List UInt8} {c : UInt8} (h : s.data.toList = pre ++ c :: t) : bt s ((pre.length : Nat) : Int) = (c.toNat : Int) := by
  have hs : pre.length < s.size := by rw [size_len, h]; simp
  have hg : s[pre.length]'hs = c := by
    have : s.data.toList[pre.length]'(by rw [h]; simp) = c := by simp [h]
    rw [← this]; rfl
  unfold bt
  rw [dif_pos (by simpa using hs)]
  simp only [Int.toNat_natCast, hg]
theorem lt_size {s : ByteArray} {pre t : List UInt8} {c : UInt8} (h : s.data.toList = pre ++ c :: t) : ((pre.length : Nat) : Int) < (s.size : Int) := by rw [size_len, h]; simp; omega
theorem not_lt_size {s : ByteArray} {pre : List UInt8} (h : s.data.toList = pre ++ []) : ¬ ((pre.length : Nat) : Int) < (s.size : Int) := by rw [size_len, h]; simp
theorem bt_get {s : ByteArray} {i : Nat} (h : i < s.data.toList.length) : bt s (i : Int) = ((s.data.toList[i]'h).toNat : Int) := by
  have hs : i < s.size := by rw [size_len]; exact h
  unfold bt
  rw [dif_pos (by simpa using hs)]
  rfl
theorem ext_len {s : ByteArray} {n : Nat} : (s.extract 0 n).size = min n s.size := by simp

def lessS (a b : ByteArray) : Bool := Op.bytesLess a.toList b.toList
theorem lessS_irrefl (a : ByteArray) : lessS a a = false := bl_irrefl _
theorem bl_trans : ∀ a b c : List UInt8, Op.bytesLess a b = true → Op.bytesLess b c = true → Op.bytesLess a c = true
  | [], _, [], _, h => by cases ‹List UInt8› <;> simp [Op.bytesLess] at h
  | [], _, _ :: _, _, _ => by simp [Op.bytesLess]
  | _ :: _, [], _, h, _ => by simp [Op.bytesLess] at h
  | _ :: _, _ :: _, [], _, h => by simp [Op.bytesLess] at h
  | a :: l, b :: m, c :: n, h1, h2 => by
    have ih := bl_trans l m n
    simp only [Op.bytesLess, Bool.or_eq_true, Bool.and_eq_true, decide_eq_true_eq, beq_iff_eq, UInt8.lt_iff_toNat_lt] at h1 h2 ⊢
    rcases h1 with h1 | ⟨rfl, h1⟩
    · rcases h2 with h2 | ⟨rfl, h2⟩
      · exact .inl (by omega)
      · exact .inl h1
    · rcases h2 with h2 | ⟨rfl, h2⟩
      · exact .inl h2
      · exact .inr ⟨rfl, ih h1 h2⟩
theorem lessS_trans {a b c : ByteArray} (h1 : lessS a b = true) (h2 : lessS b c = true) : lessS a c = true := bl_trans _ _ _ h1 h2
theorem lessS_total (a b : ByteArray) (h : lessS a b = false) : lessS b a = true ∨ a = b := by
  have t := bl_total a.toList b.toList
  unfold lessS at h ⊢
  rw [h] at t
  by_cases e : a = b
  · exact .inr e
  · left
    have : (a.toList == b.toList) = false := by simpa [tl_inj] using e
    rw [this] at t
    have t2 := bl_total b.toList a.toList
    cases hb : Op.bytesLess b.toList a.toList
    · rw [hb, h] at t2
      simp only [Bool.false_or, Bool.not_false] at t2
      exact absurd (tl_inj.1 (by simpa using t2)) (fun e' => e e'.symm)
    · rfl
theorem lessS_asymm {a b : ByteArray} (h : lessS a b = true) : lessS b a = false := by
  cases hb : lessS b a
  · rfl
  · have := lessS_trans h hb
    rw [lessS_irrefl] at this
    cases this
theorem lessS_ne {a b : ByteArray} (h : lessS a b = true) : a ≠ b := by
  rintro rfl
  rw [lessS_irrefl] at h
  cases h
end Go.Proofs.YtalfkfddpamnjaaQ
namespace Go.Proofs.YtalfkfddpamnjaaQ
open Go Go.RowKit Go.Proofs.YtalfkfddpamnjaaW.PrintWords Go.Proofs.YtalfkfddpamnjaaGp Go.Proofs.Ytalfkfddpamnjaa.PA

def sumSz : List ByteArray → Int
  | [] => 0
  | s :: t => (s.size : Int) + sumSz t
theorem sumSz_nonneg : ∀ l, 0 ≤ sumSz l
  | [] => Int.le_refl _
  | s :: t => by have := sumSz_nonneg t; simp only [sumSz]; omega
theorem sumSz_app : ∀ a b, sumSz (a ++ b) = sumSz a + sumSz b
  | [], b => by simp [sumSz]
  | s :: t, b => by simp only [List.cons_append, sumSz, sumSz_app t b]; omega
theorem size_le_sumSz {s : ByteArray} : ∀ {l : List ByteArray}, s ∈ l → (s.size : Int) ≤ sumSz l
  | x :: t, h => by
    have := sumSz_nonneg t
    rcases List.mem_cons.1 h with rfl | h
    · simp only [sumSz]; omega
    · have := size_le_sumSz h; simp only [sumSz]; omega

def neg1 (x : Int) : Int := if x < 0 then -1 else x
theorem neg1_id {x : Int} (h : 0 ≤ x) : neg1 x = x := by unfold neg1; exact if_neg (by omega)
theorem szStringS_l0 (x0 : List ByteArray) : ∀ (t pre : List ByteArray) (a : Int), x0 = pre ++ t → (∀ s ∈ t, s.size ≤ maxLen) → 0 ≤ a → a ≤ 1048576 → (x0.length : Int) ≤ 9223372036854775806 →
    Ev (fun k => laws_szStringS.l0 k x0 a (pre.length : Int)) (neg1 (a - sumSz t)) := by
  intro t
  induction t with
  | nil =>
    intro pre a h hs h0 h1 hl
    subst h
    refine ev_succ ?_
    simp only [laws_szStringS.l0, not_lt_end, if_false]
    exact ev_some (by rw [show a - sumSz [] = a from by simp [sumSz], neg1_id h0])
  | cons s t ih =>
    intro pre a h hs h0 h1 hl
    have hm : ((pre.length : Nat) : Int) < (x0.length : Int) := by rw [h]; exact lt_mid
    have hr : rdOf ByteArray.empty x0 (pre.length : Int) = s := by rw [h]; exact rdOf_mid
    have hz : s.size ≤ maxLen := hs s (by simp)
    rw [maxLen_eq] at hz
    have hp := sumSz_nonneg t
    have hw : wrap64 (a - (s.size : Int)) = a - (s.size : Int) := w64 (by omega) (by omega)
    refine ev_succ ?_
    simp only [laws_szStringS.l0, hr, hw]
    refine ev_pos hm (ev_pos (by omega) ?_)
    by_cases c : a - (s.size : Int) < 0
    · refine ev_pos c (ev_some ?_)
      unfold neg1
      rw [if_pos (by simp only [sumSz]; omega)]
    · refine ev_neg c ?_
      have := ih (pre ++ [s]) (a - (s.size : Int)) (by rw [h]; simp) (fun x hx => hs x (by simp [hx])) (by omega) (by omega) hl
      rw [winc (by omega)]
      rw [len_one] at this
      simp only [sumSz]
      rw [show a - ((s.size : Int) + sumSz t) = a - (s.size : Int) - sumSz t from by omega]
      exact this

def left1 (a : Int) (l : List ByteArray) : Int := neg1 (a - (l.length : Int) - sumSz l)
theorem szStringS_f (l : List ByteArray) (a : Int) (hl : l.length ≤ maxLen) (hs : ∀ s ∈ l, s.size ≤ maxLen) (h0 : 0 ≤ a) (h1 : a ≤ 1048576) : Ev (fun k => laws_szStringS.f k l a) (left1 a l) := by
  rw [maxLen_eq] at hl
  have hp := sumSz_nonneg l
  have hw : wrap64 (a - (l.length : Int)) = a - (l.length : Int) := w64 (by omega) (by omega)
  unfold laws_szStringS.f left1
  simp only [hw]
  by_cases c : a - (l.length : Int) < 0
  · exact ev_pos c (ev_some (by unfold neg1; rw [if_pos (by omega)]))
  · refine ev_neg c ?_
    have := szStringS_l0 l l [] (a - (l.length : Int)) rfl hs (by omega) (by omega) (by omega)
    exact this
theorem left1_ok {a : Int} {l : List ByteArray} (h : ¬ left1 a l < 0) : left1 a l = a - (l.length : Int) - sumSz l ∧ (l.length : Int) + sumSz l ≤ a := by
  unfold left1 neg1 at h ⊢
  split at h
  · omega
  · rename_i c; rw [if_neg c]; omega
theorem left1_le {a : Int} {l : List ByteArray} : left1 a l ≤ a ∨ left1 a l = -1 := by
  have := sumSz_nonneg l
  unfold left1 neg1
  split <;> omega

theorem toStringS_l0 (x0 : List ByteArray) (hl : (x0.length : Int) ≤ 1048576) : ∀ (t pre r : List ByteArray), x0 = pre ++ t → r.length = t.length →
    Ev (fun k => laws_toStringS.l0 k x0 (pre ++ r) (pre.length : Int)) x0 := by
  intro t
  induction t with
  | nil =>
    intro pre r h hr
    obtain rfl := List.length_eq_zero_iff.1 hr
    refine ev_succ ?_
    simp only [laws_toStringS.l0]
    refine ev_neg (by rw [h]; exact not_lt_end) (ev_some h.symm)
  | cons s t ih =>
    intro pre r h hr
    cases r with
    | nil => simp at hr
    | cons q r =>
      have hm : ((pre.length : Nat) : Int) < (x0.length : Int) := by rw [h]; exact lt_mid
      have hg : rdOf ByteArray.empty x0 (pre.length : Int) = s := by rw [h]; exact rdOf_mid
      refine ev_succ ?_
      simp only [laws_toStringS.l0, hg, set_mid]
      refine ev_pos hm (ev_pos (by omega) (ev_pos lt_mid ?_))
      rw [winc (by omega)]
      have := ih (pre ++ [s]) r (by rw [h]; simp) (by simpa using hr)
      rw [len_one, app_one] at this
      exact this
theorem toStringS_f (l : List ByteArray) (hl : (l.length : Int) ≤ 1048576) : Ev (fun k => laws_toStringS.f k l) l := by
  unfold laws_toStringS.f
  refine ev_pos (by omega) (ev_pos (by simp only [Int.toNat_natCast]; omega) ?_)
  simp only [Int.toNat_natCast]
  have := toStringS_l0 l hl l [] (List.replicate l.length (⟨#[]⟩ : ByteArray)) rfl (by simp)
  exact this

theorem eqStringS_l0 (x0 x1 : List ByteArray) (hl : (x0.length : Int) ≤ 9223372036854775806) : ∀ (t u pre pre' : List ByteArray), x0 = pre ++ t → x1 = pre' ++ u → pre.length = pre'.length → t.length = u.length →
    Ev (fun k => laws_eqStringS.l0 k x0 x1 (pre.length : Int)) (decide (t = u)) := by
  intro t
  induction t with
  | nil =>
    intro u pre pre' h h' hp hu
    obtain rfl := List.length_eq_zero_iff.1 hu.symm
    refine ev_succ ?_
    simp only [laws_eqStringS.l0]
    exact ev_neg (by rw [h]; exact not_lt_end) (ev_some (by simp))
  | cons s t ih =>
    intro u pre pre' h h' hp hu
    cases u with
    | nil => simp at hu
    | cons q u =>
      have hm : ((pre.length : Nat) : Int) < (x0.length : Int) := by rw [h]; exact lt_mid
      have hm' : ((pre.length : Nat) : Int) < (x1.length : Int) := by rw [h', hp]; exact lt_mid
      have hg : rdOf ByteArray.empty x0 (pre.length : Int) = s := by rw [h]; exact rdOf_mid
      have hg' : rdOf ByteArray.empty x1 (pre.length : Int) = q := by rw [h', hp]; exact rdOf_mid
      refine ev_succ ?_
      simp only [laws_eqStringS.l0, hg, hg', tl_inj]
      refine ev_pos hm (ev_pos (by omega) (ev_pos hm' ?_))
      by_cases c : s = q
      · refine ev_pos c ?_
        rw [winc (by omega)]
        have := ih u (pre ++ [s]) (pre' ++ [q]) (by rw [h]; simp) (by rw [h']; simp) (by simp [hp]) (by simpa using hu)
        rw [len_one] at this
        rw [show decide (s :: t = q :: u) = decide (t = u) from by simp [c]]
        exact this
      · exact ev_neg c (ev_some (by simp [c]))
theorem eqStringS_f (a b : List ByteArray) (hl : (a.length : Int) ≤ 9223372036854775806) : Ev (fun k => laws_eqStringS.f k a b) (decide (a = b)) := by
  unfold laws_eqStringS.f
  by_cases c : a.length = b.length
  · refine ev_pos (by omega) ?_
    exact eqStringS_l0 a b hl a b [] [] rfl rfl rfl c
  · exact ev_neg (by omega) (ev_some (by
      have : ¬ a = b := fun e => c (by rw [e])
      simp [this]))

end Go.Proofs.YtalfkfddpamnjaaQ
namespace Go.Proofs.YtalfkfddpamnjaaQ
open Go Go.RowKit Go.Proofs.YtalfkfddpamnjaaW.PrintWords Go.Proofs.YtalfkfddpamnjaaGp Go.Proofs.Ytalfkfddpamnjaa.PA

theorem tdiv10 {x : Int} (h : 0 < x) : 0 ≤ Int.tdiv x 10 ∧ Int.tdiv x 10 < x ∧ Int.tmod x 10 = x % 10 ∧ Int.tdiv x 10 = x / 10 := by
  rw [Int.tdiv_eq_ediv_of_nonneg (by omega), Int.tmod_eq_emod_of_nonneg (by omega)]
  omega
theorem strOf1 (n : Int) : (strOfNums [n]).size = 1 := by simp [strOfNums, ByteArray.size]
theorem markText_l0 : ∀ (n : Nat) (x : Int) (s : ByteArray), x ≤ n → 0 ≤ x → x ≤ 9223372036854775807 → (s.size : Int) + x ≤ 4611686018427387904 → ∃ r, Ev (fun k => laws_markText.l0 k x s) r := by
  intro n
  induction n with
  | zero =>
    intro x s hx h0 h1 h2
    refine ⟨(⟨#[109]⟩ : ByteArray) ++ s, ev_succ ?_⟩
    simp only [laws_markText.l0]
    exact ev_neg (by omega) (ev_pos (by omega) (Ev.now _))
  | succ n ih =>
    intro x s hx h0 h1 h2
    by_cases c : x > 0
    · obtain ⟨q0, q1, q2, q3⟩ := tdiv10 c
      obtain ⟨r, hr⟩ := ih (Int.tdiv x 10) (strOfNums [(wrap64 (48 + (Int.tmod x 10))) % 256] ++ s) (by omega) (by omega) (by omega) (by simp only [ByteArray.size_append, strOf1]; omega)
      refine ⟨r, ev_succ ?_⟩
      simp only [laws_markText.l0, Option.bind_some, strOf1]
      refine ev_pos c (ev_pos (by omega) ?_)
      rw [w64 (x := Int.tdiv x 10) (by omega) (by omega)]
      exact hr
    · refine ⟨(⟨#[109]⟩ : ByteArray) ++ s, ev_succ ?_⟩
      simp only [laws_markText.l0]
      exact ev_neg c (ev_pos (by omega) (Ev.now _))
theorem markText_f (x : Int) (h : x ≤ 4611686018427387904) : ∃ r, Ev (fun k => laws_markText.f k x) r := by
  unfold laws_markText.f
  by_cases c : x ≤ 0
  · exact ⟨_, ev_pos c (Ev.now _)⟩
  · obtain ⟨r, hr⟩ := markText_l0 x.toNat x ⟨#[]⟩ (by omega) (by omega) (by omega) (by
      have : (⟨#[]⟩ : ByteArray).size = 0 := rfl
      omega)
    exact ⟨r, ev_neg c hr⟩
open Classical in
noncomputable def mark (x : Int) : ByteArray := if h : ∃ r, Ev (fun k => laws_markText.f k x) r then Classical.choose h else ⟨#[]⟩
theorem mark_ev (x : Int) (h : x ≤ 4611686018427387904) : Ev (fun k => laws_markText.f k x) (mark x) := by
  unfold mark
  rw [dif_pos (markText_f x h)]
  exact Classical.choose_spec (markText_f x h)
noncomputable def marks : Nat → Int → List ByteArray
  | 0, _ => []
  | n + 1, a => mark a :: marks n (a + 1)
theorem marks_len : ∀ n a, (marks n a).length = n
  | 0, _ => rfl
  | n + 1, a => by simp [marks, marks_len n]
theorem markStringS_l0 : ∀ (t pre : List ByteArray) (a : Int), 0 ≤ a → a + (t.length : Int) ≤ 4611686018427387904 → ((pre.length + t.length : Nat) : Int) ≤ 4611686018427387904 →
    Ev (fun k => laws_markStringS.l0 k (pre ++ t) a (pre.length : Int)) (a + (t.length : Int), pre ++ marks t.length a) := by
  intro t
  induction t with
  | nil =>
    intro pre a h0 h1 h2
    refine ev_succ ?_
    simp only [laws_markStringS.l0]
    exact ev_neg not_lt_end (ev_some (by simp [marks]))
  | cons s t ih =>
    intro pre a h0 h1 h2
    simp only [List.length_cons] at h1 h2
    refine ev_succ ?_
    simp only [laws_markStringS.l0]
    refine ev_pos lt_mid (ev_bind _ (mark_ev a (by omega)) (ev_pos (by omega) ?_))
    simp only [set_mid]
    rw [winc (by omega), w64 (x := a + 1) (by omega) (by omega)]
    have := ih (pre ++ [mark a]) (a + 1) (by omega) (by omega) (by simp; omega)
    rw [len_one, app_one] at this
    simp only [List.length_cons, marks]
    rw [show ((t.length + 1 : Nat) : Int) = 1 + (t.length : Int) from by omega, ← Int.add_assoc]
    simpa using this
theorem markStringS_f (l : List ByteArray) (a : Int) (h0 : 0 ≤ a) (h1 : a + (l.length : Int) ≤ 4611686018427387904) : Ev (fun k => laws_markStringS.f k l a) (a + (l.length : Int), marks l.length a) := by
  unfold laws_markStringS.f
  have := markStringS_l0 l [] a h0 h1 (by simp; omega)
  exact this

end Go.Proofs.YtalfkfddpamnjaaQ
namespace Go.Proofs.YtalfkfddpamnjaaQ
open Go Go.RowKit Go.Proofs.YtalfkfddpamnjaaW.PrintWords Go.Proofs.YtalfkfddpamnjaaGp Go.Proofs.Ytalfkfddpamnjaa.PA

theorem eqIntS_l0 (x0 x1 : List Int) (hl : (x0.length : Int) ≤ 9223372036854775806) : ∀ (t u pre pre' : List Int), x0 = pre ++ t → x1 = pre' ++ u → pre.length = pre'.length → t.length = u.length →
    Ev (fun k => laws_eqIntS.l0 k x0 x1 (pre.length : Int)) (decide (t = u)) := by
  intro t
  induction t with
  | nil =>
    intro u pre pre' h h' hp hu
    obtain rfl := List.length_eq_zero_iff.1 hu.symm
    refine ev_succ ?_
    simp only [laws_eqIntS.l0]
    exact ev_neg (by rw [h]; exact not_lt_end) (ev_some (by simp))
  | cons s t ih =>
    intro u pre pre' h h' hp hu
    cases u with
    | nil => simp at hu
    | cons q u =>
      have hm : ((pre.length : Nat) : Int) < (x0.length : Int) := by rw [h]; exact lt_mid
      have hm' : ((pre.length : Nat) : Int) < (x1.length : Int) := by rw [h', hp]; exact lt_mid
      have hg : rd x0 (pre.length : Int) = s := by rw [h]; exact rd_mid
      have hg' : rd x1 (pre.length : Int) = q := by rw [h', hp]; exact rd_mid
      refine ev_succ ?_
      simp only [laws_eqIntS.l0, hg, hg']
      refine ev_pos hm (ev_pos (by omega) (ev_pos hm' ?_))
      by_cases c : s = q
      · refine ev_pos c ?_
        rw [winc (by omega)]
        have := ih u (pre ++ [s]) (pre' ++ [q]) (by rw [h]; simp) (by rw [h']; simp) (by simp [hp]) (by simpa using hu)
        rw [len_one] at this
        rw [show decide (s :: t = q :: u) = decide (t = u) from by simp [c]]
        exact this
      · exact ev_neg c (ev_some (by simp [c]))
theorem eqIntS_f (a b : List Int) (hl : (a.length : Int) ≤ 9223372036854775806) : Ev (fun k => laws_eqIntS.f k a b) (decide (a = b)) := by
  unfold laws_eqIntS.f
  by_cases c : a.length = b.length
  · refine ev_pos (by omega) ?_
    exact eqIntS_l0 a b hl a b [] [] rfl rfl rfl c
  · exact ev_neg (by omega) (ev_some (by
      have : ¬ a = b := fun e => c (by rw [e])
      simp [this]))

end Go.Proofs.YtalfkfddpamnjaaQ
namespace Go.Proofs.YtalfkfddpamnjaaQ
open Go Go.RowKit Go.Proofs.YtalfkfddpamnjaaW.PrintWords Go.Proofs.YtalfkfddpamnjaaGp Go.Proofs.Ytalfkfddpamnjaa.PA

def counts : Nat → Int → List Int
  | 0, _ => []
  | n + 1, a => a :: counts n (a + 1)
theorem counts_len : ∀ n a, (counts n a).length = n
  | 0, _ => rfl
  | n + 1, a => by simp [counts, counts_len n]
theorem markIntS_l0 : ∀ (t pre : List Int) (a : Int), 0 ≤ a → a + (t.length : Int) ≤ 4611686018427387904 → ((pre.length + t.length : Nat) : Int) ≤ 4611686018427387904 →
    Ev (fun k => laws_markIntS.l0 k (pre ++ t) a (pre.length : Int)) (a + (t.length : Int), pre ++ counts t.length a) := by
  intro t
  induction t with
  | nil =>
    intro pre a h0 h1 h2
    refine ev_succ ?_
    simp only [laws_markIntS.l0]
    exact ev_neg not_lt_end (ev_some (by simp [counts]))
  | cons s t ih =>
    intro pre a h0 h1 h2
    simp only [List.length_cons] at h1 h2
    refine ev_succ ?_
    simp only [laws_markIntS.l0]
    refine ev_pos lt_mid (ev_pos (by omega) ?_)
    simp only [set_mid]
    rw [winc (by omega), w64 (x := a + 1) (by omega) (by omega)]
    have := ih (pre ++ [a]) (a + 1) (by omega) (by omega) (by simp; omega)
    rw [len_one, app_one] at this
    simp only [List.length_cons, counts]
    rw [show ((t.length + 1 : Nat) : Int) = 1 + (t.length : Int) from by omega, ← Int.add_assoc]
    simpa using this
theorem markIntS_f (l : List Int) (a : Int) (h0 : 0 ≤ a) (h1 : a + (l.length : Int) ≤ 4611686018427387904) : Ev (fun k => laws_markIntS.f k l a) (a + (l.length : Int), counts l.length a) := by
  unfold laws_markIntS.f
  have := markIntS_l0 l [] a h0 h1 (by simp; omega)
  exact this
theorem heldIntS_l0 : ∀ (n : Nat) (pre : List Int) (a : Int), 0 ≤ a → a + (n : Int) ≤ 4611686018427387904 → ((pre.length + n : Nat) : Int) ≤ 4611686018427387904 →
    Ev (fun k => laws_heldIntS.l0 k (pre ++ counts n a) a (pre.length : Int)) (a + (n : Int)) := by
  intro n
  induction n with
  | zero =>
    intro pre a h0 h1 h2
    refine ev_succ ?_
    simp only [laws_heldIntS.l0, counts]
    exact ev_neg not_lt_end (ev_some (by simp))
  | succ n ih =>
    intro pre a h0 h1 h2
    refine ev_succ ?_
    simp only [laws_heldIntS.l0, counts, rd_mid]
    refine ev_pos lt_mid (ev_pos (by omega) (ev_pos trivial ?_))
    rw [winc (by omega), w64 (x := a + 1) (by omega) (by omega)]
    have := ih (pre ++ [a]) (a + 1) (by omega) (by omega) (by simp; omega)
    rw [len_one, app_one] at this
    rw [show a + ((n + 1 : Nat) : Int) = a + 1 + (n : Int) from by omega]
    exact this
theorem heldIntS_f (n : Nat) (a : Int) (h0 : 0 ≤ a) (h1 : a + (n : Int) ≤ 4611686018427387904) : Ev (fun k => laws_heldIntS.f k (counts n a) a) (a + (n : Int)) := by
  unfold laws_heldIntS.f
  have := heldIntS_l0 n [] a h0 h1 (by simp; omega)
  exact this
end Go.Proofs.YtalfkfddpamnjaaQ
namespace Go.Proofs.YtalfkfddpamnjaaQ
open Go Go.RowKit Go.Proofs.YtalfkfddpamnjaaW.PrintWords Go.Proofs.YtalfkfddpamnjaaGp Go.Proofs.Ytalfkfddpamnjaa.PA

theorem spec_in (n a b : Int) : spec_l1In.f n a b = some (decide (a ≤ n ∧ n ≤ b)) := by
  unfold spec_l1In.f
  by_cases h : a ≤ n <;> by_cases h' : n ≤ b <;> simp [h, h']
theorem impl_in (n a b : Int) : impl_in.f n a b = some (decide (a ≤ n ∧ n ≤ b)) := by
  unfold impl_in.f
  by_cases h : a ≤ n <;> by_cases h' : n ≤ b <;> simp [h, h']

def byteOk (c : UInt8) : Bool := decide (33 ≤ (c.toNat : Int) ∧ (c.toNat : Int) ≤ 125)
def isKeyB (s : ByteArray) : Bool := s.data.toList.all byteOk && decide (1 ≤ (s.size : Int) ∧ (s.size : Int) ≤ 12)
theorem spec_IsKey_l0 (x0 : ByteArray) (hz : (x0.size : Int) ≤ 9223372036854775806) : ∀ (t pre : List UInt8), x0.data.toList = pre ++ t →
    Ev (fun k => spec_IsKey.l0 k x0 (pre.length : Int)) (t.all byteOk && decide (1 ≤ (x0.size : Int) ∧ (x0.size : Int) ≤ 12)) := by
  intro t
  induction t with
  | nil =>
    intro pre h
    refine ev_succ ?_
    simp only [spec_IsKey.l0, spec_in, Option.bind_some]
    exact ev_neg (not_lt_size h) (ev_some (by simp))
  | cons c t ih =>
    intro pre h
    have hm := lt_size h
    refine ev_succ ?_
    simp only [spec_IsKey.l0, bt_mid h]
    refine ev_pos hm (ev_pos (by omega) ?_)
    by_cases c1 : (c.toNat : Int) < 33
    · exact ev_pos c1 (ev_some (by simp [byteOk]; omega))
    · refine ev_neg c1 ?_
      by_cases c2 : (c.toNat : Int) > 125
      · exact ev_pos c2 (ev_some (by simp [byteOk]; omega))
      · refine ev_neg c2 ?_
        rw [winc (by omega)]
        have := ih (pre ++ [c]) (by rw [h]; simp)
        rw [len_one] at this
        have hb : byteOk c = true := by simp [byteOk]; omega
        simpa [hb] using this
theorem spec_IsKey_f (s : ByteArray) (hz : (s.size : Int) ≤ 9223372036854775806) : Ev (fun k => spec_IsKey.f k s) (isKeyB s) := by
  unfold spec_IsKey.f
  exact spec_IsKey_l0 s hz s.data.toList [] rfl
theorem impl_IsKey_l0 (x0 : ByteArray) (hz : (x0.size : Int) ≤ 9223372036854775806) : ∀ (t pre : List UInt8), x0.data.toList = pre ++ t →
    Ev (fun k => impl_IsKey.l0 k x0 (x0.size : Int) (pre.length : Int)) (t.all byteOk && decide (1 ≤ (x0.size : Int) ∧ (x0.size : Int) ≤ 12)) := by
  intro t
  induction t with
  | nil =>
    intro pre h
    refine ev_succ ?_
    simp only [impl_IsKey.l0, impl_in, Option.bind_some]
    exact ev_neg (not_lt_size h) (ev_some (by simp))
  | cons c t ih =>
    intro pre h
    have hm := lt_size h
    refine ev_succ ?_
    simp only [impl_IsKey.l0, bt_mid h]
    refine ev_pos hm (ev_pos (by omega) (ev_pos hm ?_))
    by_cases c1 : (c.toNat : Int) < 33
    · exact ev_pos c1 (ev_some (by simp [byteOk]; omega))
    · refine ev_neg c1 ?_
      by_cases c2 : (c.toNat : Int) > 125
      · exact ev_pos c2 (ev_some (by simp [byteOk]; omega))
      · refine ev_neg c2 ?_
        rw [winc (by omega)]
        have := ih (pre ++ [c]) (by rw [h]; simp)
        rw [len_one] at this
        have hb : byteOk c = true := by simp [byteOk]; omega
        simpa [hb] using this
theorem impl_IsKey_f (s : ByteArray) (hz : (s.size : Int) ≤ 9223372036854775806) : Ev (fun k => impl_IsKey.f k s) (isKeyB s) := by
  unfold impl_IsKey.f
  exact impl_IsKey_l0 s hz s.data.toList [] rfl
theorem isKeyB_size {s : ByteArray} (h : isKeyB s = true) : 1 ≤ s.size ∧ s.size ≤ 12 := by
  simp [isKeyB] at h
  omega

def keysFrom : Option ByteArray → List ByteArray → Bool
  | _, [] => true
  | p, s :: t => isKeyB s && (match p with | none => true | some q => lessS q s) && keysFrom (some s) t
def areKeysB (l : List ByteArray) : Bool := keysFrom none l && decide ((l.length : Int) ≤ 40)
def lastOf (pre : List ByteArray) : Option ByteArray := pre.getLast?
theorem lastOf_one (pre : List ByteArray) (s : ByteArray) : lastOf (pre ++ [s]) = some s := by simp [lastOf]
theorem lastOf_nil : lastOf [] = none := rfl
theorem last_split {pre : List ByteArray} (h : 0 < pre.length) : ∃ q p, pre = q ++ [p] := by
  obtain ⟨x, hx⟩ : ∃ x, pre.getLast? = some x := by
    cases hp : pre.getLast? with
    | none => rw [List.getLast?_eq_none_iff] at hp; subst hp; simp at h
    | some x => exact ⟨x, rfl⟩
  obtain ⟨q, hq⟩ := List.getLast?_eq_some_iff.1 hx
  exact ⟨q, x, hq⟩

theorem spec_biKeys_l0 (x0 : List ByteArray) (hl : (x0.length : Int) ≤ 9223372036854775806) : ∀ (t pre : List ByteArray), x0 = pre ++ t → (∀ s ∈ t, (s.size : Int) ≤ 9223372036854775806) →
    Ev (fun k => spec_biKeys.l0 k x0 x0 (x0.length : Int) (pre.length : Int)) (keysFrom (lastOf pre) t && decide ((x0.length : Int) ≤ 40)) := by
  intro t
  induction t with
  | nil =>
    intro pre h hs
    refine ev_succ ?_
    simp only [spec_biKeys.l0]
    exact ev_neg (by rw [h]; exact not_lt_end) (ev_some (by simp [keysFrom]))
  | cons s t ih =>
    intro pre h hs
    have hm : ((pre.length : Nat) : Int) < (x0.length : Int) := by rw [h]; exact lt_mid
    have hg : rdOf ByteArray.empty x0 (pre.length : Int) = s := by rw [h]; exact rdOf_mid
    have next := ih (pre ++ [s]) (by rw [h]; simp) (fun x hx => hs x (by simp [hx]))
    rw [len_one, lastOf_one] at next
    refine ev_succ ?_
    simp only [spec_biKeys.l0, hg]
    refine ev_pos hm (ev_pos (by omega) (ev_pos hm (ev_bind _ (spec_IsKey_f s (hs s (by simp))) ?_)))
    cases hk : isKeyB s with
    | false => exact ev_neg (by simp) (ev_some (by simp [keysFrom, hk]))
    | true =>
      refine ev_pos rfl ?_
      by_cases c : 0 < pre.length
      · obtain ⟨q, p, rfl⟩ := last_split c
        have hp : rdOf ByteArray.empty x0 ((q.length : Nat) : Int) = p := by rw [h]; exact rdOf_last
        have hw : wrap64 (((q ++ [p]).length : Int) - 1) = (q.length : Int) := by rw [len_one]; exact wdec (by simp at hm; omega)
        simp only [hw, hp, lastOf_one, keysFrom, hk, Bool.true_and]
        refine ev_pos (by omega) (ev_pos (by omega) (ev_pos (by simp at hm; omega) ?_))
        by_cases c2 : lessS p s = true
        · refine ev_pos c2 ?_
          rw [winc (by omega), c2, Bool.true_and]
          exact next
        · refine ev_neg c2 (ev_some ?_)
          simp only [Bool.not_eq_true] at c2
          simp [c2]
      · obtain rfl := List.length_eq_zero_iff.1 (show pre.length = 0 by omega)
        refine ev_neg (by simp) ?_
        rw [winc (by omega)]
        simp only [lastOf_nil, keysFrom, hk, Bool.true_and]
        exact next
theorem spec_biKeys_f (l : List ByteArray) (hl : (l.length : Int) ≤ 9223372036854775806) (hs : ∀ s ∈ l, (s.size : Int) ≤ 9223372036854775806) : Ev (fun k => spec_biKeys.f k l) (areKeysB l) := by
  unfold spec_biKeys.f
  exact spec_biKeys_l0 l hl l [] rfl hs
theorem impl_AreKeys_l0 (x0 : List ByteArray) (hl : (x0.length : Int) ≤ 9223372036854775806) : ∀ (t pre : List ByteArray), x0 = pre ++ t → (∀ s ∈ t, (s.size : Int) ≤ 9223372036854775806) →
    Ev (fun k => impl_AreKeys.l0 k x0 x0 (x0.length : Int) (pre.length : Int)) (keysFrom (lastOf pre) t && decide ((x0.length : Int) ≤ 40)) := by
  intro t
  induction t with
  | nil =>
    intro pre h hs
    refine ev_succ ?_
    simp only [impl_AreKeys.l0]
    exact ev_neg (by rw [h]; exact not_lt_end) (ev_some (by simp [keysFrom]))
  | cons s t ih =>
    intro pre h hs
    have hm : ((pre.length : Nat) : Int) < (x0.length : Int) := by rw [h]; exact lt_mid
    have hg : rdOf ByteArray.empty x0 (pre.length : Int) = s := by rw [h]; exact rdOf_mid
    have next := ih (pre ++ [s]) (by rw [h]; simp) (fun x hx => hs x (by simp [hx]))
    rw [len_one, lastOf_one] at next
    refine ev_succ ?_
    simp only [impl_AreKeys.l0, hg]
    refine ev_pos hm (ev_pos (by omega) (ev_pos hm (ev_bind _ (impl_IsKey_f s (hs s (by simp))) ?_)))
    cases hk : isKeyB s with
    | false => exact ev_neg (by simp) (ev_some (by simp [keysFrom, hk]))
    | true =>
      refine ev_pos rfl ?_
      by_cases c : 0 < pre.length
      · obtain ⟨q, p, rfl⟩ := last_split c
        have hp : rdOf ByteArray.empty x0 ((q.length : Nat) : Int) = p := by rw [h]; exact rdOf_last
        have hw : wrap64 (((q ++ [p]).length : Int) - 1) = (q.length : Int) := by rw [len_one]; exact wdec (by simp at hm; omega)
        simp only [hw, hp, lastOf_one, keysFrom, hk, Bool.true_and]
        refine ev_pos (by omega) (ev_pos (by omega) (ev_pos (by simp at hm; omega) ?_))
        by_cases c2 : lessS p s = true
        · refine ev_pos c2 ?_
          rw [winc (by omega), c2, Bool.true_and]
          exact next
        · refine ev_neg c2 (ev_some ?_)
          simp only [Bool.not_eq_true] at c2
          simp [c2]
      · obtain rfl := List.length_eq_zero_iff.1 (show pre.length = 0 by omega)
        refine ev_neg (by simp) ?_
        rw [winc (by omega)]
        simp only [lastOf_nil, keysFrom, hk, Bool.true_and]
        exact next
theorem impl_AreKeys_f (l : List ByteArray) (hl : (l.length : Int) ≤ 9223372036854775806) (hs : ∀ s ∈ l, (s.size : Int) ≤ 9223372036854775806) : Ev (fun k => impl_AreKeys.f k l) (areKeysB l) := by
  unfold impl_AreKeys.f
  exact impl_AreKeys_l0 l hl l [] rfl hs
theorem areKeysB_len {l : List ByteArray} (h : areKeysB l = true) : l.length ≤ 40 := by
  simp [areKeysB] at h
  omega
theorem keysFrom_all : ∀ (p : Option ByteArray) (l : List ByteArray), keysFrom p l = true → ∀ s ∈ l, isKeyB s = true
  | _, [], _, s, h => by simp at h
  | p, x :: t, hk, s, h => by
    simp only [keysFrom, Bool.and_eq_true] at hk
    rcases List.mem_cons.1 h with rfl | h
    · exact hk.1.1
    · exact keysFrom_all _ t hk.2 s h
theorem areKeysB_all {l : List ByteArray} (h : areKeysB l = true) : ∀ s ∈ l, isKeyB s = true := by
  simp only [areKeysB, Bool.and_eq_true] at h
  exact keysFrom_all _ _ h.1
theorem areKeysB_from {l : List ByteArray} (h : areKeysB l = true) : keysFrom none l = true := by
  simp only [areKeysB, Bool.and_eq_true] at h
  exact h.1
theorem keysFrom_less : ∀ (q : ByteArray) (l : List ByteArray), keysFrom (some q) l = true → ∀ s ∈ l, lessS q s = true
  | _, [], _, s, h => by simp at h
  | q, x :: t, hk, s, h => by
    simp only [keysFrom, Bool.and_eq_true] at hk
    rcases List.mem_cons.1 h with rfl | h
    · exact hk.1.2
    · exact lessS_trans hk.1.2 (keysFrom_less x t hk.2 s h)
end Go.Proofs.YtalfkfddpamnjaaQ
namespace Go.Proofs.YtalfkfddpamnjaaQ
open Go Go.RowKit Go.Proofs.YtalfkfddpamnjaaW.PrintWords Go.Proofs.YtalfkfddpamnjaaGp Go.Proofs.Ytalfkfddpamnjaa.PA

def hasS (l : List ByteArray) (s : ByteArray) : Bool := l.any fun x => decide (x = s)
theorem hasS_iff {l : List ByteArray} {s : ByteArray} : hasS l s = true ↔ s ∈ l := by simp [hasS]
theorem spec_l1HasS_l0 (x0 : List ByteArray) (s : ByteArray) (hl : (x0.length : Int) ≤ 9223372036854775806) : ∀ (t pre : List ByteArray), x0 = pre ++ t →
    Ev (fun k => spec_l1HasS.l0 k s x0 (x0.length : Int) (pre.length : Int)) (hasS t s) := by
  intro t
  induction t with
  | nil =>
    intro pre h
    refine ev_succ ?_
    simp only [spec_l1HasS.l0]
    exact ev_neg (by rw [h]; exact not_lt_end) (ev_some (by simp [hasS]))
  | cons x t ih =>
    intro pre h
    have hm : ((pre.length : Nat) : Int) < (x0.length : Int) := by rw [h]; exact lt_mid
    have hg : rdOf ByteArray.empty x0 (pre.length : Int) = x := by rw [h]; exact rdOf_mid
    refine ev_succ ?_
    simp only [spec_l1HasS.l0, hg, tl_inj]
    refine ev_pos hm (ev_pos (by omega) (ev_pos hm ?_))
    by_cases c : x = s
    · exact ev_pos c (ev_some (by simp [hasS, c]))
    · refine ev_neg c ?_
      rw [winc (by omega)]
      have := ih (pre ++ [x]) (by rw [h]; simp)
      rw [len_one] at this
      have e : hasS (x :: t) s = hasS t s := by simp [hasS, c]
      rw [e]
      exact this
theorem spec_l1HasS_f (l : List ByteArray) (s : ByteArray) (hl : (l.length : Int) ≤ 9223372036854775806) : Ev (fun k => spec_l1HasS.f k l s) (hasS l s) := by
  unfold spec_l1HasS.f
  exact spec_l1HasS_l0 l s hl l [] rfl
def idxS : List ByteArray → ByteArray → Nat → Int
  | [], _, _ => -1
  | x :: t, s, i => if x = s then (i : Int) else idxS t s (i + 1)
theorem idxS_mem : ∀ (l : List ByteArray) (s : ByteArray) (i : Nat), 0 ≤ idxS l s i ↔ s ∈ l
  | [], s, i => by simp [idxS]
  | x :: t, s, i => by
    simp only [idxS]
    split
    · rename_i c; simp [c]
    · rename_i c; rw [idxS_mem t s (i + 1)]; simp [Ne.symm c]
theorem slices_Index_string_string_l0 (x0 : List ByteArray) (s : ByteArray) (hl : (x0.length : Int) ≤ 9223372036854775806) : ∀ (t pre : List ByteArray), x0 = pre ++ t →
    Ev (fun k => slices_Index_string_string.l0 k x0 s (x0.length : Int) (pre.length : Int)) (idxS t s pre.length) := by
  intro t
  induction t with
  | nil =>
    intro pre h
    refine ev_succ ?_
    simp only [slices_Index_string_string.l0]
    exact ev_neg (by rw [h]; exact not_lt_end) (ev_some (by simp [idxS]))
  | cons x t ih =>
    intro pre h
    have hm : ((pre.length : Nat) : Int) < (x0.length : Int) := by rw [h]; exact lt_mid
    have hg : rdOf ByteArray.empty x0 (pre.length : Int) = x := by rw [h]; exact rdOf_mid
    refine ev_succ ?_
    simp only [slices_Index_string_string.l0, hg, tl_inj]
    refine ev_pos hm (ev_pos (by omega) (ev_pos hm ?_))
    by_cases c : s = x
    · exact ev_pos c (ev_some (by simp [idxS, c]))
    · refine ev_neg c ?_
      rw [winc (by omega)]
      have := ih (pre ++ [x]) (by rw [h]; simp)
      rw [len_one] at this
      have e : idxS (x :: t) s pre.length = idxS t s (pre ++ [x]).length := by simp [idxS, Ne.symm c]
      rw [e]
      exact this
theorem slices_Index_string_string_f (l : List ByteArray) (s : ByteArray) (hl : (l.length : Int) ≤ 9223372036854775806) : Ev (fun k => slices_Index_string_string.f k l s) (idxS l s 0) := by
  unfold slices_Index_string_string.f
  exact slices_Index_string_string_l0 l s hl l [] rfl
theorem slices_Contains_string_string_f (l : List ByteArray) (s : ByteArray) (hl : (l.length : Int) ≤ 9223372036854775806) : Ev (fun k => slices_Contains_string_string.f k l s) (hasS l s) := by
  unfold slices_Contains_string_string.f
  refine ev_bind _ (slices_Index_string_string_f l s hl) (ev_some ?_)
  rw [Bool.eq_iff_iff, hasS_iff, decide_eq_true_eq]
  exact idxS_mem l s 0
end Go.Proofs.YtalfkfddpamnjaaQ
namespace Go.Proofs.YtalfkfddpamnjaaQ
open Go Go.RowKit Go.Proofs.YtalfkfddpamnjaaW.PrintWords Go.Proofs.YtalfkfddpamnjaaW.PrintMore Go.Proofs.YtalfkfddpamnjaaGp

theorem wraps_i64 (n : Int) (h0 : 0 ≤ n) (h1 : n < 2 ^ 62) : IntKind.i64.wrap n = n := by
  rw [IntKind.wrap_i64]
  have : (2 : Int) ^ 62 = 4611686018427387904 := by decide
  omega
theorem bits64 (a b : Nat) (ha : a < 2 ^ 62) (hb : b < 2 ^ 62) : Go.bits .and .i64 a b = ((a &&& b : Nat) : Int) ∧ Go.bits .or .i64 a b = ((a ||| b : Nat) : Int) :=
  bits_nat .i64 62 (by decide) wraps_i64 a b ha hb
theorem two62 : (2 : Nat) ^ 62 = 4611686018427387904 := by decide
theorem two64 : (2 : Nat) ^ 64 = 18446744073709551616 := by decide
theorem pow16 {j : Nat} (h : j < 16) : 2 ^ j < 65536 := by
  have : 2 ^ j ≤ 2 ^ 15 := Nat.pow_le_pow_right (by decide) (by omega)
  have e : (2 : Nat) ^ 15 = 32768 := by decide
  omega
theorem shl1 {j : Nat} (h : j < 16) : shl .i64 1 (j : Int) = ((2 ^ j : Nat) : Int) := by
  unfold shl
  have hj : min (j : Int).toNat IntKind.i64.bits = j := by simp [IntKind.bits]; omega
  rw [hj, Int.one_mul, show ((2 : Int) ^ j) = ((2 ^ j : Nat) : Int) from by simp]
  have hp := pow16 h
  generalize 2 ^ j = z at hp ⊢
  refine wraps_i64 _ (by omega) ?_
  have : (2 : Int) ^ 62 = 4611686018427387904 := by decide
  omega
theorem shrN {w j : Nat} (h : j < 16) : shr .i64 (w : Int) (j : Int) = ((w / 2 ^ j : Nat) : Int) := by
  unfold shr
  have hj : min (j : Int).toNat IntKind.i64.bits = j := by simp [IntKind.bits]; omega
  rw [hj]
  simp
theorem and1 {w j : Nat} (hw : w < 65536) (h : j < 16) : (Go.bits .and .i64 (shr .i64 (w : Int) (j : Int)) 1 == 1) = w.testBit j := by
  have hd : w / 2 ^ j ≤ w := Nat.div_le_self _ _
  have e : Go.bits .and .i64 ((w / 2 ^ j : Nat) : Int) ((1 : Nat) : Int) = (((w / 2 ^ j) &&& 1 : Nat) : Int) := (bits64 _ _ (by rw [two62]; omega) (by rw [two62]; omega)).1
  rw [shrN h, show (1 : Int) = ((1 : Nat) : Int) from rfl, e, Nat.and_one_is_mod, Nat.testBit_eq_decide_div_mod_eq]
  rw [Bool.eq_iff_iff]
  simp only [beq_iff_eq, decide_eq_true_eq]
  omega
theorem or1 {w j : Nat} (hw : w < 65536) (h : j < 16) : Go.bits .or .i64 (w : Int) (shl .i64 1 (j : Int)) = ((w ||| 2 ^ j : Nat) : Int) := by
  have := pow16 h
  rw [shl1 h]
  exact (bits64 _ _ (by rw [two62]; omega) (by rw [two62]; omega)).2
theorem or1_lt {w j : Nat} (hw : w < 65536) (h : j < 16) : w ||| 2 ^ j < 65536 := by
  have e : (65536 : Nat) = 2 ^ 16 := by decide
  rw [e] at hw ⊢
  have := pow16 h
  exact Nat.or_lt_two_pow hw (by omega)
theorem clr1 {w j : Nat} (hw : w < 65536) (h : j < 16) (hz : w.testBit j = false) : Go.bits .andNot .i64 (w : Int) (shl .i64 1 (j : Int)) = (w : Int) := by
  rw [shl1 h]
  have e : Go.bits .andNot .i64 (w : Int) ((2 ^ j : Nat) : Int) = IntKind.i64.wrap (((BitVec.ofInt 64 (w : Int) &&& ~~~ BitVec.ofInt 64 ((2 ^ j : Nat) : Int) : BitVec 64)).toNat : Int) := by unfold Go.bits; rfl
  have z : (BitVec.ofInt 64 (w : Int) &&& ~~~ BitVec.ofInt 64 ((2 ^ j : Nat) : Int) : BitVec 64) = BitVec.ofInt 64 (w : Int) := by
    rw [BitVec.ofInt_natCast, BitVec.ofInt_natCast]
    apply BitVec.eq_of_getLsbD_eq
    intro i hi
    simp only [BitVec.getLsbD_and, BitVec.getLsbD_not, BitVec.getLsbD_ofNat, hi, decide_true, Bool.true_and, Nat.testBit_two_pow]
    by_cases c : j = i
    · subst c; simp [hz]
    · simp [c]
  rw [e, z, BitVec.ofInt_natCast, BitVec.toNat_ofNat, Nat.mod_eq_of_lt (by rw [two64]; omega)]
  refine wraps_i64 _ (by omega) ?_
  have : (2 : Int) ^ 62 = 4611686018427387904 := by decide
  omega

def atV (l : List Int) (p : Int) : Bool := Go.bits .and .i64 (shr .i64 (rd l (p / 16)) (p % 16)) 1 == 1
def setV (l : List Int) (p : Int) : List Int := l.set (p / 16).toNat (Go.bits .or .i64 (rd l (p / 16)) (shl .i64 1 (p % 16)))
theorem setV_len (l : List Int) (p : Int) : (setV l p).length = l.length := by simp [setV]
def okW (l : List Int) : Prop := ∀ w ∈ l, 0 ≤ w ∧ w ≤ 65535
def bitN (l : List Int) (p : Nat) : Bool := (l.getD (p / 16) 0).toNat.testBit (p % 16)
theorem rdN {l : List Int} {p : Nat} (h : p / 16 < l.length) : rd l ((p : Int) / 16) = l.getD (p / 16) 0 := by
  have : ((p : Int) / 16) = ((p / 16 : Nat) : Int) := by omega
  rw [this, rd_get h, List.getD_eq_getElem?_getD, List.getElem?_eq_getElem h]
  rfl
theorem okW_get {l : List Int} (hl : okW l) {i : Nat} (h : i < l.length) : ∃ w : Nat, l.getD i 0 = (w : Int) ∧ w < 65536 := by
  have hm := hl _ (List.getElem_mem h)
  rw [List.getD_eq_getElem?_getD, List.getElem?_eq_getElem h]
  exact ⟨l[i].toNat, by simp; omega, by omega⟩
theorem atV_bit {l : List Int} (hl : okW l) {p : Nat} (h : p / 16 < l.length) : atV l (p : Int) = bitN l p := by
  obtain ⟨w, hw, hw2⟩ := okW_get hl h
  unfold atV bitN
  rw [rdN h, hw, show ((p : Int) % 16) = ((p % 16 : Nat) : Int) from by omega, and1 hw2 (by omega)]
  simp
theorem setV_get {l : List Int} (hl : okW l) {p : Nat} (h : p / 16 < l.length) : ∃ w : Nat, w < 65536 ∧ l.getD (p / 16) 0 = (w : Int) ∧ setV l (p : Int) = l.set (p / 16) ((w ||| 2 ^ (p % 16) : Nat) : Int) := by
  obtain ⟨w, hw, hw2⟩ := okW_get hl h
  refine ⟨w, hw2, hw, ?_⟩
  unfold setV
  rw [rdN h, hw, show ((p : Int) % 16) = ((p % 16 : Nat) : Int) from by omega, or1 hw2 (by omega)]
  congr 1
theorem okW_setV {l : List Int} (hl : okW l) {p : Nat} (h : p / 16 < l.length) : okW (setV l (p : Int)) := by
  obtain ⟨w, hw, _, e⟩ := setV_get hl h
  rw [e]
  intro x hx
  rcases List.mem_or_eq_of_mem_set hx with hx | rfl
  · exact hl x hx
  · have := or1_lt hw (show p % 16 < 16 by omega)
    omega
theorem bit_setV {l : List Int} (hl : okW l) {p q : Nat} (h : p / 16 < l.length) : bitN (setV l (p : Int)) q = (decide (p = q) || bitN l q) := by
  obtain ⟨w, hw, hg, e⟩ := setV_get hl h
  rw [e]
  unfold bitN
  by_cases c : p / 16 = q / 16
  · rw [← c, List.getD_eq_getElem?_getD, List.getElem?_set_self (by simpa using h), hg]
    simp only [Option.getD_some, Int.toNat_natCast, Nat.testBit_or, Nat.testBit_two_pow]
    rw [show decide (p % 16 = q % 16) = decide (p = q) from by
      rw [Bool.eq_iff_iff]; simp; omega, Bool.or_comm]
  · rw [List.getD_eq_getElem?_getD, List.getElem?_set_ne c, ← List.getD_eq_getElem?_getD, decide_eq_false (by omega), Bool.false_or]
theorem clrV {l : List Int} (hl : okW l) {p : Nat} (h : p / 16 < l.length) (hz : bitN l p = false) : l.set ((p : Int) / 16).toNat (Go.bits .andNot .i64 (rd l ((p : Int) / 16)) (shl .i64 1 ((p : Int) % 16))) = l := by
  obtain ⟨w, hw, hw2⟩ := okW_get hl h
  unfold bitN at hz
  rw [hw] at hz
  rw [rdN h, hw, show ((p : Int) % 16) = ((p % 16 : Nat) : Int) from by omega, clr1 hw2 (by omega) (by simpa using hz), show ((p : Int) / 16).toNat = p / 16 from by omega, ← hw]
  apply List.ext_getElem?
  intro i
  by_cases c : p / 16 = i
  · subst c
    rw [List.getElem?_set_self (by simpa using h), List.getD_eq_getElem?_getD, List.getElem?_eq_getElem h]
    rfl
  · rw [List.getElem?_set_ne c]

def packFrom : List Bool → Nat → List Int → List Int
  | [], _, l => l
  | b :: t, i, l => packFrom t (i + 1) (if b = true then setV l (i : Int) else l)
def blankW (n : Nat) : List Int := List.replicate ((n + 15) / 16) 0
def packB (B : List Bool) : List Int := packFrom B 0 (blankW B.length)
theorem packFrom_len : ∀ (B : List Bool) (i : Nat) (l : List Int), (packFrom B i l).length = l.length
  | [], _, _ => rfl
  | b :: t, i, l => by rw [packFrom, packFrom_len]; split <;> simp [setV_len]
theorem packFrom_ok : ∀ (B : List Bool) (i : Nat) (l : List Int), okW l → i + B.length ≤ 16 * l.length → okW (packFrom B i l) ∧ ∀ q, bitN (packFrom B i l) q = (bitN l q || (decide (i ≤ q) && B.getD (q - i) false))
  | [], i, l, h, _ => ⟨h, fun q => by simp [packFrom]⟩
  | b :: t, i, l, h, hl => by
    simp only [List.length_cons] at hl
    have hi : i / 16 < l.length := by omega
    rw [packFrom]
    by_cases c : b = true
    · rw [if_pos c]
      obtain ⟨h1, h2⟩ := packFrom_ok t (i + 1) (setV l (i : Int)) (okW_setV h hi) (by rw [setV_len]; omega)
      refine ⟨h1, fun q => ?_⟩
      rw [h2, bit_setV h hi]
      by_cases e : i = q
      · subst e; simp [c]
      · by_cases e2 : i ≤ q
        · rw [show q - i = (q - (i + 1)) + 1 from by omega, List.getD_cons_succ, decide_eq_false e, decide_eq_true e2, decide_eq_true (show i + 1 ≤ q by omega)]
          simp
        · simp [e, e2, show ¬ i + 1 ≤ q by omega]
    · rw [if_neg c]
      obtain ⟨h1, h2⟩ := packFrom_ok t (i + 1) l h (by omega)
      refine ⟨h1, fun q => ?_⟩
      rw [h2]
      have hb : b = false := by simpa using c
      subst hb
      by_cases e : i = q
      · subst e; simp [show ¬ i + 1 ≤ i by omega]
      · by_cases e2 : i ≤ q
        · rw [show q - i = (q - (i + 1)) + 1 from by omega, List.getD_cons_succ, decide_eq_true e2, decide_eq_true (show i + 1 ≤ q by omega)]
        · simp [e2, show ¬ i + 1 ≤ q by omega]
theorem okW_blank (n : Nat) : okW (blankW n) := fun w hw => by rw [List.eq_of_mem_replicate hw]; omega
theorem bit_blank (n q : Nat) : bitN (blankW n) q = false := by
  unfold bitN blankW
  rw [List.getD_eq_getElem?_getD, List.getElem?_replicate]
  split <;> simp
theorem packB_ok (B : List Bool) : okW (packB B) ∧ ∀ q, bitN (packB B) q = B.getD q false := by
  obtain ⟨h1, h2⟩ := packFrom_ok B 0 (blankW B.length) (okW_blank _) (by simp [blankW]; omega)
  exact ⟨h1, fun q => by rw [packB, h2, bit_blank]; simp⟩
theorem packB_len (B : List Bool) : (packB B).length = (B.length + 15) / 16 := by simp [packB, packFrom_len, blankW]
def bitsL (n : Int) (l : List Int) : List Bool := (List.range n.toNat).map fun (i : Nat) => atV l (i : Int)
theorem bitsL_len (n : Int) (l : List Int) : (bitsL n l).length = n.toNat := by simp [bitsL]
theorem bitsL_pack (B : List Bool) : bitsL (B.length : Int) (packB B) = B := by
  obtain ⟨h1, h2⟩ := packB_ok B
  apply List.ext_getElem
  · simp [bitsL]
  · intro i hi hi2
    have hp : i / 16 < (packB B).length := by rw [packB_len]; omega
    simp only [bitsL, List.getElem_map, List.getElem_range]
    rw [atV_bit h1 hp, h2, List.getD_eq_getElem?_getD, List.getElem?_eq_getElem hi2]
    rfl
end Go.Proofs.YtalfkfddpamnjaaQ
namespace Go.Proofs.YtalfkfddpamnjaaQ
open Go Go.RowKit Go.Proofs.YtalfkfddpamnjaaW.PrintWords Go.Proofs.YtalfkfddpamnjaaW.PrintMore Go.Proofs.YtalfkfddpamnjaaGp Go.Proofs.Ytalfkfddpamnjaa.PA

theorem div16' {p : Int} (h0 : 0 ≤ p) (h1 : p ≤ 1000000) : wrap64 (Int.tdiv p 16) = p / 16 ∧ Int.tmod p 16 = p % 16 := by
  rw [Int.tdiv_eq_ediv_of_nonneg h0, Int.tmod_eq_emod_of_nonneg h0, w64 (by omega) (by omega)]
  exact ⟨rfl, rfl⟩
theorem ofInt_wrap (a : BitVec 64) : BitVec.ofInt 64 (IntKind.i64.wrap (a.toNat : Int)) = a := by
  have h : a.toNat < 2 ^ 64 := a.isLt
  apply BitVec.eq_of_toNat_eq
  rw [BitVec.toNat_ofInt]
  show ((IntKind.i64.wrap (a.toNat : Int)) % ((2 ^ 64 : Nat) : Int)).toNat = a.toNat
  have e : IntKind.i64.wrap (a.toNat : Int) = if (a.toNat : Int) % 18446744073709551616 ≥ 9223372036854775808 then (a.toNat : Int) % 18446744073709551616 - 18446744073709551616 else (a.toNat : Int) % 18446744073709551616 := by
    unfold IntKind.wrap
    simp [IntKind.bits, IntKind.signed]
  rw [e]
  have h2 : (2 : Nat) ^ 64 = 18446744073709551616 := by decide
  rw [h2] at h ⊢
  split <;> omega
theorem or_andNot (x b : Int) : Go.bits .or .i64 (Go.bits .andNot .i64 x b) b = Go.bits .or .i64 x b := by
  have e : ∀ op y, Go.bits op .i64 y b = IntKind.i64.wrap (((match op with | .and => BitVec.ofInt 64 y &&& BitVec.ofInt 64 b | .or => BitVec.ofInt 64 y ||| BitVec.ofInt 64 b | .xor => BitVec.ofInt 64 y ^^^ BitVec.ofInt 64 b | _ => BitVec.ofInt 64 y &&& ~~~(BitVec.ofInt 64 b)) : BitVec 64).toNat : Int) := fun op y => by
    unfold Go.bits; cases op <;> rfl
  rw [e .or, e .or, e .andNot]
  simp only
  rw [ofInt_wrap]
  congr 2
  apply congrArg
  apply BitVec.eq_of_getLsbD_eq
  intro i hi
  simp only [BitVec.getLsbD_or, BitVec.getLsbD_and, BitVec.getLsbD_not, hi, decide_true, Bool.true_and]
  cases (BitVec.ofInt 64 x).getLsbD i <;> cases (BitVec.ofInt 64 b).getLsbD i <;> rfl

theorem rd_set {l : List Int} {i : Nat} {v : Int} (h : i < l.length) : rd (l.set i v) (i : Int) = v := by simp [rd, h]
theorem spec_biSet_f (n : Int) (l : List Int) {p : Int} (h0 : 0 ≤ p) (h1 : p ≤ 1000000) (h2 : p / 16 < (l.length : Int)) : spec_biSet.f n l p = some (setV l p) := by
  unfold spec_biSet.f
  rw [(div16' h0 h1).1, (div16' h0 h1).2, if_pos (by omega), if_pos h2, if_pos (by omega)]
  rfl
theorem impl_Bits_set_f (n : Int) (l : List Int) {p : Int} (h0 : 0 ≤ p) (h1 : p ≤ 1000000) (h2 : p / 16 < (l.length : Int)) : impl_Bits_set.f n l p true = some (setV l p) := by
  unfold impl_Bits_set.f
  rw [(div16' h0 h1).1, (div16' h0 h1).2, if_pos (by omega), if_pos h2, if_pos (by omega)]
  simp only [Option.bind_some, if_true]
  obtain ⟨q, hq⟩ : ∃ q : Nat, p / 16 = (q : Int) := ⟨(p / 16).toNat, by omega⟩
  unfold setV
  rw [hq] at h2 ⊢
  simp only [Int.toNat_natCast]
  rw [rd_set (by omega), List.set_set, or_andNot]

theorem impl_Bits_set_any (n : Int) {l : List Int} (hl : okW l) {p : Nat} (h1 : p ≤ 1000000) (h2 : p / 16 < l.length) (hz : bitN l p = false) (b : Bool) : impl_Bits_set.f n l (p : Int) b = some (if b = true then setV l (p : Int) else l) := by
  by_cases c : b = true
  · subst c
    exact impl_Bits_set_f n l (by omega) (by omega) (by omega)
  · have cb : b = false := by simpa using c
    subst cb
    have hc := clrV hl h2 hz
    unfold impl_Bits_set.f
    rw [(div16' (p := (p : Int)) (by omega) (by omega)).1, (div16' (p := (p : Int)) (by omega) (by omega)).2, if_pos (by omega), if_pos (by omega), if_pos (by omega), hc]
    rfl
def all16 (l : List Int) : Bool := l.all (fun x => decide (0 ≤ x ∧ x ≤ 65535))
def bitsB (n : Int) (l : List Int) : Bool :=
  decide (0 ≤ n ∧ n ≤ 4096) && (decide ((l.length : Int) = (n + 15) / 16) && (all16 l && (decide (n % 16 = 0) || (shr .i64 (rd l ((l.length : Int) - 1)) (n % 16) == 0))))
theorem bitsB_len {n : Int} {l : List Int} (h : bitsB n l = true) : 0 ≤ n ∧ n ≤ 4096 ∧ (l.length : Int) = (n + 15) / 16 := by
  simp only [bitsB, Bool.and_eq_true, decide_eq_true_eq] at h
  exact ⟨h.1.1, h.1.2, h.2.1⟩
theorem spec_biSome_l0 (B : List Bool) (n : Int) (hB : B.length ≤ 1000000) : ∀ (t pre : List Bool) (l : List Int), B = pre ++ t → B.length ≤ 16 * l.length →
    Ev (fun k => spec_biSome.l0 k B (B.length : Int) (pre.length : Int) n l) (n, packFrom t pre.length l) := by
  intro t
  induction t with
  | nil =>
    intro pre l h _
    refine ev_succ ?_
    simp only [spec_biSome.l0]
    exact ev_neg (by rw [h]; exact not_lt_end) (ev_some rfl)
  | cons b t ih =>
    intro pre l h hl
    have hm : ((pre.length : Nat) : Int) < (B.length : Int) := by rw [h]; exact lt_mid
    have hg : rdOf false B (pre.length : Int) = b := by rw [h]; exact rdOf_mid
    have hle : pre.length < B.length := by omega
    refine ev_succ ?_
    simp only [spec_biSome.l0, hg]
    refine ev_pos hm (ev_pos (by omega) (ev_pos hm ?_))
    rw [winc (by omega)]
    by_cases c : b = true
    · refine ev_pos c ?_
      rw [spec_biSet_f n l (by omega) (by omega) (by omega)]
      refine ev_bind _ (Ev.now _) ?_
      have := ih (pre ++ [b]) (setV l (pre.length : Int)) (by rw [h]; simp) (by rw [setV_len]; exact hl)
      rw [len_one] at this
      simpa [packFrom, c] using this
    · refine ev_neg c ?_
      have := ih (pre ++ [b]) l (by rw [h]; simp) hl
      rw [len_one] at this
      simpa [packFrom, c] using this
theorem spec_biSome_f (B : List Bool) (hB : B.length ≤ 1000000) : Ev (fun k => spec_biSome.f k B) ((B.length : Int), packB B) := by
  unfold spec_biSome.f
  have e : spec_biNew.f (B.length : Int) = some ((B.length : Int), blankW B.length) := by
    unfold spec_biNew.f
    have w : wrap64 (Int.tdiv (wrap64 ((B.length : Int) + 15)) 16) = (((B.length + 15) / 16 : Nat) : Int) := by
      rw [w64 (x := (B.length : Int) + 15) (by omega) (by omega), Int.tdiv_eq_ediv_of_nonneg (by omega), w64 (by omega) (by omega)]
      omega
    rw [w, if_pos (by omega), if_pos (by omega), Int.toNat_natCast]
    rfl
  rw [e]
  refine ev_bind _ (Ev.now _) ?_
  exact spec_biSome_l0 B (B.length : Int) hB B [] (blankW B.length) rfl (by simp [blankW]; omega)
theorem impl_blank_f (n : Nat) (h : n ≤ 1000000) : impl_blank.f (n : Int) = some ((n : Int), blankW n) := by
  unfold impl_blank.f impl_words.f
  have w : wrap64 (Int.tdiv (wrap64 (wrap64 ((n : Int) + 16) - 1)) 16) = (((n + 15) / 16 : Nat) : Int) := by
    rw [w64 (x := (n : Int) + 16) (by omega) (by omega), w64 (x := (n : Int) + 16 - 1) (by omega) (by omega), Int.tdiv_eq_ediv_of_nonneg (by omega), w64 (by omega) (by omega)]
    omega
  rw [w]
  simp only [Option.bind_some]
  rw [if_pos (by omega), if_pos (by omega), Int.toNat_natCast]
  rfl
end Go.Proofs.YtalfkfddpamnjaaQ
namespace Go.Proofs.YtalfkfddpamnjaaQ
open Go Go.Proofs.YtalfkfddpamnjaaGp

abbrev Str := List UInt8
def ll (a b : Str) : Bool := decide (a.length < b.length) || (decide (a.length = b.length) && Op.bytesLess a b)
theorem ll_irrefl (a : Str) : ll a a = false := by simp [ll, bl_irrefl]
theorem ll_iff {a b : Str} : ll a b = true ↔ a.length < b.length ∨ (a.length = b.length ∧ Op.bytesLess a b = true) := by simp [ll]
theorem ll_trans {a b c : Str} (h1 : ll a b = true) (h2 : ll b c = true) : ll a c = true := by
  rw [ll_iff] at *
  rcases h1 with h1 | ⟨e1, h1⟩ <;> rcases h2 with h2 | ⟨e2, h2⟩
  · left; omega
  · left; omega
  · left; omega
  · exact .inr ⟨by omega, bl_trans _ _ _ h1 h2⟩
theorem bl_tri (a b : Str) : Op.bytesLess a b = true ∨ a = b ∨ Op.bytesLess b a = true := by
  have t := bl_total a b
  cases h : Op.bytesLess b a
  · rw [h] at t
    simp only [Bool.not_false, Bool.or_eq_true, beq_iff_eq] at t
    rcases t with t | t
    · exact .inl t
    · exact .inr (.inl t)
  · exact .inr (.inr rfl)
theorem bl_asymm {a b : Str} (h : Op.bytesLess a b = true) : Op.bytesLess b a = false := by
  cases hb : Op.bytesLess b a
  · rfl
  · have := bl_trans _ _ _ h hb
    rw [bl_irrefl] at this
    cases this
theorem ll_tri (a b : Str) : ll a b = true ∨ a = b ∨ ll b a = true := by
  rw [ll_iff, ll_iff]
  rcases Nat.lt_trichotomy a.length b.length with h | h | h
  · exact .inl (.inl h)
  · rcases bl_tri a b with h' | h' | h'
    · exact .inl (.inr ⟨h, h'⟩)
    · exact .inr (.inl h')
    · exact .inr (.inr (.inr ⟨h.symm, h'⟩))
  · exact .inr (.inr (.inl h))
theorem ll_asymm {a b : Str} (h : ll a b = true) : ll b a = false := by
  cases hb : ll b a
  · rfl
  · have := ll_trans h hb
    rw [ll_irrefl] at this
    cases this

abbrev SLL (l : List Str) : Prop := l.Pairwise fun a b => ll a b = true
theorem sll_ext : ∀ {l m : List Str}, SLL l → SLL m → (∀ x, x ∈ l ↔ x ∈ m) → l = m
  | [], [], _, _, _ => rfl
  | [], b :: m, _, _, h => by have := (h b).2 (by simp); simp at this
  | a :: l, [], _, _, h => by have := (h a).1 (by simp); simp at this
  | a :: l, b :: m, hl, hm, h => by
    obtain ⟨ha, hl'⟩ := List.pairwise_cons.1 hl
    obtain ⟨hb, hm'⟩ := List.pairwise_cons.1 hm
    have e : a = b := by
      rcases List.mem_cons.1 ((h a).1 (by simp)) with e | ia
      · exact e
      · rcases List.mem_cons.1 ((h b).2 (by simp)) with e | ib
        · exact e.symm
        · have := ll_trans (ha b ib) (hb a ia)
          rw [ll_irrefl] at this
          cases this
    subst e
    have : l = m := sll_ext hl' hm' fun x => by
      constructor
      · intro hx
        rcases List.mem_cons.1 ((h x).1 (by simp [hx])) with e | i
        · subst e
          have := ha x hx
          rw [ll_irrefl] at this
          cases this
        · exact i
      · intro hx
        rcases List.mem_cons.1 ((h x).2 (by simp [hx])) with e | i
        · subst e
          have := hb x hx
          rw [ll_irrefl] at this
          cases this
        · exact i
    rw [this]
theorem sll_nodup {l : List Str} (h : SLL l) : l.Nodup := h.imp fun {a b} hab e => by
  subst e
  rw [ll_irrefl] at hab
  cases hab

def lvl (n : Nat) : Str → List Str → List Str
  | _, [] => []
  | p, s :: t => if n ≤ s.length ∧ s.take n ≠ p then s.take n :: lvl n (s.take n) t else lvl n p t
theorem lvl_mem {n : Nat} : ∀ {t : List Str} {p x : Str}, x ∈ lvl n p t → x.length = n ∧ ∃ s ∈ t, x <+: s
  | [], p, x, h => by simp [lvl] at h
  | s :: t, p, x, h => by
    unfold lvl at h
    split at h
    · rename_i c
      rcases List.mem_cons.1 h with rfl | h
      · exact ⟨by simp; omega, s, by simp, List.take_prefix n s⟩
      · obtain ⟨h1, s', h2, h3⟩ := lvl_mem h
        exact ⟨h1, s', by simp [h2], h3⟩
    · obtain ⟨h1, s', h2, h3⟩ := lvl_mem h
      exact ⟨h1, s', by simp [h2], h3⟩
theorem take_of_prefix {x s : Str} (h : x <+: s) : s.take x.length = x := by
  obtain ⟨t, rfl⟩ := h
  simp
theorem lvl_all {n : Nat} : ∀ {t : List Str} {p s x : Str}, s ∈ t → x <+: s → x.length = n → x = p ∨ x ∈ lvl n p t
  | s' :: t, p, s, x, hs, hx, hn => by
    unfold lvl
    rcases List.mem_cons.1 hs with rfl | hs
    · have hl := hx.length_le
      have ht := take_of_prefix hx
      rw [hn] at ht
      rw [ht]
      by_cases c : x = p
      · exact .inl c
      · rw [if_pos ⟨by omega, c⟩]
        exact .inr (by simp)
    · split
      · rcases lvl_all hs hx hn (p := s'.take n) with h | h
        · exact .inr (by simp [h])
        · exact .inr (by simp [h])
      · exact lvl_all hs hx hn
theorem bl_take : ∀ (n : Nat) (a b : Str), Op.bytesLess a b = true → n ≤ a.length → n ≤ b.length → a.take n = b.take n ∨ Op.bytesLess (a.take n) (b.take n) = true
  | 0, _, _, _, _, _ => by simp
  | n + 1, [], _, _, h, _ => by simp at h
  | n + 1, _ :: _, [], _, _, h => by simp at h
  | n + 1, a :: l, b :: m, h, h1, h2 => by
    simp only [List.length_cons] at h1 h2
    simp only [Op.bytesLess, Bool.or_eq_true, Bool.and_eq_true, decide_eq_true_eq, beq_iff_eq] at h
    simp only [List.take_succ_cons, Op.bytesLess, Bool.or_eq_true, Bool.and_eq_true, decide_eq_true_eq, beq_iff_eq, List.cons.injEq]
    rcases h with h | ⟨rfl, h⟩
    · exact .inr (.inl h)
    · rcases bl_take n l m h (by omega) (by omega) with h' | h'
      · exact .inl ⟨rfl, h'⟩
      · exact .inr (.inr ⟨rfl, h'⟩)
abbrev SBL (l : List Str) : Prop := l.Pairwise fun a b => Op.bytesLess a b = true
theorem lvl_sorted {n : Nat} : ∀ {t : List Str} {p : Str}, SBL t → (p.length = n → ∀ s ∈ t, n ≤ s.length → s.take n = p ∨ Op.bytesLess p (s.take n) = true) →
    SBL (lvl n p t) ∧ (p.length = n → ∀ x ∈ lvl n p t, Op.bytesLess p x = true)
  | [], p, _, _ => by simp [lvl]
  | s :: t, p, hs, hp => by
    obtain ⟨h1, h2⟩ := List.pairwise_cons.1 hs
    unfold lvl
    split
    · rename_i c
      have hq : (s.take n).length = n := by simp; omega
      obtain ⟨i1, i2⟩ := lvl_sorted (t := t) (p := s.take n) h2 (fun _ s' hs' hl => by
        rcases bl_take n s s' (h1 s' hs') c.1 hl with e | e
        · exact .inl e.symm
        · exact .inr e)
      refine ⟨List.pairwise_cons.2 ⟨i2 hq, i1⟩, fun e x hx => ?_⟩
      rcases hp e s (by simp) c.1 with e' | e'
      · exact absurd e' c.2
      · rcases List.mem_cons.1 hx with rfl | hx
        · exact e'
        · exact bl_trans _ _ _ e' (i2 hq x hx)
    · exact lvl_sorted h2 (fun e s' hs' hl => hp e s' (by simp [hs']) hl)
def levels (K : List Str) : Nat → Nat → List Str → List Str
  | 0, _, out => out
  | m + 1, n, out => levels K m (n + 1) (out ++ lvl n (out.getLastD []) K)
theorem levels_ok {K : List Str} (hK : SBL K) : ∀ (m n : Nat) (out : List Str), 1 ≤ n → SLL out → (∀ x, x ∈ out ↔ x = [] ∨ (x.length < n ∧ ∃ s ∈ K, x <+: s)) →
    SLL (levels K m n out) ∧ ∀ x, x ∈ levels K m n out ↔ x = [] ∨ (x.length < n + m ∧ ∃ s ∈ K, x <+: s)
  | 0, n, out, _, h1, h2 => ⟨h1, h2⟩
  | m + 1, n, out, hn, h1, h2 => by
    have hne : out ≠ [] := fun e => by have := (h2 []).2 (.inl rfl); rw [e] at this; simp at this
    have hlast : (out.getLastD []).length < n := by
      have hm : out.getLastD [] ∈ out := by
        rw [List.getLastD_eq_getLast?, List.getLast?_eq_some_getLast hne]
        exact List.getLast_mem hne
      rcases (h2 _).1 hm with e | e
      · rw [e]; simp; omega
      · exact e.1
    obtain ⟨s1, _⟩ := lvl_sorted (n := n) (t := K) (p := out.getLastD []) hK (fun e => by omega)
    have := levels_ok hK m (n + 1) (out ++ lvl n (out.getLastD []) K) (by omega) (by
      refine List.pairwise_append.2 ⟨h1, s1.imp_of_mem fun {a b} ha hb hab => ll_iff.2 (.inr ⟨by rw [(lvl_mem ha).1, (lvl_mem hb).1], hab⟩), fun a ha b hb => ll_iff.2 (.inl ?_)⟩
      rw [(lvl_mem hb).1]
      rcases (h2 a).1 ha with e | e
      · rw [e]; simp; omega
      · exact e.1) (fun x => by
      rw [List.mem_append, h2]
      constructor
      · rintro ((h | ⟨h, h'⟩) | h)
        · exact .inl h
        · exact .inr ⟨by omega, h'⟩
        · obtain ⟨e, h'⟩ := lvl_mem h
          exact .inr ⟨by omega, h'⟩
      · rintro (h | ⟨h, s, hs, hx⟩)
        · exact .inl (.inl h)
        · by_cases c : x.length = n
          · rcases lvl_all hs hx c (p := out.getLastD []) with e | e
            · rw [e] at c; omega
            · exact .inr e
          · exact .inl (.inr ⟨by omega, s, hs, hx⟩))
    rw [show n + (m + 1) = n + 1 + m from by omega]
    exact this
def nodesL (K : List Str) : List Str := levels K 12 1 [[]]
theorem nodesL_ok {K : List Str} (hK : SBL K) : SLL (nodesL K) ∧ ∀ x, x ∈ nodesL K ↔ x = [] ∨ (x.length < 13 ∧ ∃ s ∈ K, x <+: s) :=
  levels_ok hK 12 1 [[]] (Nat.le_refl _) (by simp) (fun x => by
    constructor
    · intro h
      exact .inl (by simpa using h)
    · rintro (h | ⟨h, _⟩)
      · simp [h]
      · have : x = [] := List.length_eq_zero_iff.1 (by omega)
        simp [this])

def isChild (s c : Str) : Bool := decide (c.length = s.length + 1) && s.isPrefixOf c
theorem isChild_iff {s c : Str} : isChild s c = true ↔ ∃ a, c = s ++ [a] := by
  simp only [isChild, Bool.and_eq_true, decide_eq_true_eq, List.isPrefixOf_iff_prefix]
  constructor
  · rintro ⟨h, t, rfl⟩
    simp only [List.length_append] at h
    obtain ⟨a, rfl⟩ := List.length_eq_one_iff.1 (show t.length = 1 by omega)
    exact ⟨a, rfl⟩
  · rintro ⟨a, rfl⟩
    exact ⟨by simp, [a], rfl⟩
def kids (N : List Str) (s : Str) : List Str := N.filter (isChild s)
structure Tree (N T : List Str) : Prop where
  sll : SLL N
  hd : N = [] :: T
  pc : ∀ x ∈ T, x.dropLast ∈ N
theorem Tree.ne {N T : List Str} (h : Tree N T) {x : Str} (hx : x ∈ T) : x ≠ [] := by
  have := h.sll
  rw [h.hd] at this
  have := (List.pairwise_cons.1 this).1 x hx
  intro e
  rw [e, ll_irrefl] at this
  cases this
theorem bl_app : ∀ {a b : Str} (c d : Str), a.length = b.length → Op.bytesLess a b = true → Op.bytesLess (a ++ c) (b ++ d) = true
  | [], [], _, _, _, h => by simp [Op.bytesLess] at h
  | [], _ :: _, _, _, h, _ => by simp at h
  | _ :: _, [], _, _, h, _ => by simp at h
  | a :: l, b :: m, c, d, e, h => by
    simp only [Op.bytesLess, Bool.or_eq_true, Bool.and_eq_true, decide_eq_true_eq, beq_iff_eq, List.cons_append] at h ⊢
    rcases h with h | ⟨rfl, h⟩
    · exact .inl h
    · exact .inr ⟨rfl, bl_app c d (by simpa using e) h⟩
theorem kids_all {N T : List Str} (h : Tree N T) : N.flatMap (kids N) = T := by
  have hT : SLL T := by have := h.sll; rw [h.hd] at this; exact (List.pairwise_cons.1 this).2
  refine sll_ext ?_ hT fun x => ?_
  · refine List.pairwise_flatMap.2 ⟨fun s _ => h.sll.filter _, h.sll.imp fun {s s'} hs x hx y hy => ?_⟩
    obtain ⟨a, rfl⟩ := isChild_iff.1 (List.mem_filter.1 hx).2
    obtain ⟨b, rfl⟩ := isChild_iff.1 (List.mem_filter.1 hy).2
    rw [ll_iff] at hs ⊢
    rcases hs with hs | ⟨e, hs⟩
    · exact .inl (by simp; omega)
    · exact .inr ⟨by simp [e], bl_app _ _ e hs⟩
  · simp only [List.mem_flatMap, kids, List.mem_filter]
    constructor
    · rintro ⟨s, _, hx, hc⟩
      obtain ⟨a, rfl⟩ := isChild_iff.1 hc
      rw [h.hd] at hx
      rcases List.mem_cons.1 hx with e | hx
      · simp at e
      · exact hx
    · intro hx
      refine ⟨x.dropLast, h.pc x hx, by rw [h.hd]; simp [hx], isChild_iff.2 ⟨x.getLast (h.ne hx), (List.dropLast_concat_getLast (h.ne hx)).symm⟩⟩

def lastB (s : Str) : UInt8 := s.getLastD 0
def dec (lim : Bool) (lab : Str) : List Bool → Nat → List Str → Option (List Str)
  | [], _, out => some out
  | b :: bs, k, out =>
    if k < out.length then
      if b = true then
        if out.length ≤ lab.length ∧ ¬ (lim = true ∧ (out.getD k []).length = 12) then dec lim lab bs k (out ++ [out.getD k [] ++ [lab.getD (out.length - 1) 0]])
        else none
      else dec lim lab bs (k + 1) out
    else none
def encB (N : List Str) : List Str → List Bool
  | [] => []
  | s :: t => List.replicate (kids N s).length true ++ false :: encB N t
theorem getD_of_get? {α : Type} {l : List α} {i : Nat} {x d : α} (h : l[i]? = some x) : l.getD i d = x := by rw [List.getD_eq_getElem?_getD, h]; rfl
theorem get?_of_mid {α : Type} {pre post : List α} {s : α} : (pre ++ s :: post)[pre.length]? = some s := by simp
theorem room_at {N T : List Str} (h : Tree N T) (pre post : List Str) (s : Str) (hN : N = pre ++ s :: post) (A : List Str) (hA : A = pre.flatMap (kids N)) (B : List Str) (hT : T = A ++ B) : pre.length < A.length + 1 := by
  cases hp0 : pre with
  | nil => simp
  | cons p pre' =>
    have hNT : N.length = T.length + 1 := by rw [h.hd]; simp
    have e0 : T[pre'.length]? = some s := by
      have e := h.hd
      rw [hN, hp0] at e
      simp only [List.cons_append, List.cons.injEq] at e
      rw [← e.2]
      exact get?_of_mid
    have hs : s ∈ T := List.mem_of_getElem? e0
    have hp := h.pc s hs
    have hne := h.ne hs
    have hll : ll s.dropLast s = true := ll_iff.2 (.inl (by
      have := List.length_pos_iff.2 hne
      simp; omega))
    have hpre : s.dropLast ∈ pre := by
      rw [hN] at hp
      rcases List.mem_append.1 hp with hp | hp
      · exact hp
      · have hS := h.sll
        rw [hN] at hS
        have h2 := (List.pairwise_append.1 hS).2.1
        rcases List.mem_cons.1 hp with e' | hp
        · rw [e', ll_irrefl] at hll; cases hll
        · have := ll_trans hll ((List.pairwise_cons.1 h2).1 _ hp)
          rw [ll_irrefl] at this; cases this
    have hin : s ∈ A := by
      rw [hA]
      exact List.mem_flatMap.2 ⟨_, hpre, List.mem_filter.2 ⟨by rw [h.hd]; simp [hs], isChild_iff.2 ⟨s.getLast hne, (List.dropLast_concat_getLast hne).symm⟩⟩⟩
    obtain ⟨i, hi, hi'⟩ := List.getElem_of_mem hin
    have hnd : T.Nodup := sll_nodup (by have := h.sll; rw [h.hd] at this; exact (List.pairwise_cons.1 this).2)
    have hiT : i < T.length := by rw [hT, List.length_append]; omega
    have e1 : T[i]? = some s := by rw [hT, List.getElem?_append_left hi, List.getElem?_eq_getElem hi, hi']
    have : i = pre'.length := (List.getElem?_inj hiT hnd).1 (e1.trans e0.symm)
    simp only [List.length_cons]
    omega
theorem dec_kids {N T : List Str} (h : Tree N T) {lim : Bool} (hl : lim = true → ∀ x ∈ N, x.length ≤ 12) (pre post : List Str) (s : Str) (hN : N = pre ++ s :: post) (bs : List Bool) (A B : List Str) (hA : A = pre.flatMap (kids N)) (hB : B = post.flatMap (kids N)) :
    ∀ (c2 c1 : List Str), kids N s = c1 ++ c2 →
      dec lim (T.map lastB) (List.replicate c2.length true ++ false :: bs) pre.length ([] :: (A ++ c1)) = dec lim (T.map lastB) bs (pre.length + 1) ([] :: (A ++ kids N s)) := by
  have hall : T = A ++ (kids N s ++ B) := by
    have e := kids_all h
    have : N.flatMap (kids N) = (pre ++ s :: post).flatMap (kids N) := congrArg (fun l => l.flatMap (kids N)) hN
    rw [this, List.flatMap_append, List.flatMap_cons, ← hA, ← hB] at e
    exact e.symm
  have hroom := room_at h pre post s hN A hA _ hall
  intro c2
  induction c2 with
  | nil =>
    intro c1 hc
    simp only [List.length_nil, List.replicate_zero, List.nil_append, dec]
    rw [if_pos (by simp only [List.length_cons, List.length_append]; omega), if_neg (by simp), hc, List.append_nil]
  | cons c c2 ih =>
    intro c1 hc
    have hT : T = (A ++ c1) ++ c :: (c2 ++ B) := by rw [hall, hc]; simp
    have hval : ([] :: (A ++ c1)).getD pre.length [] = s := by
      have hN2 : N = ([] :: (A ++ c1)) ++ (c :: (c2 ++ B)) := by rw [List.cons_append, ← hT]; exact h.hd
      have e1 : N[pre.length]? = some s := by rw [hN]; exact get?_of_mid
      rw [hN2, List.getElem?_append_left (by simp only [List.length_cons, List.length_append]; omega)] at e1
      exact getD_of_get? e1
    have hcm : c ∈ kids N s := by rw [hc]; simp
    obtain ⟨a, ha⟩ := isChild_iff.1 (List.mem_filter.1 hcm).2
    have hcN : c ∈ N := (List.mem_filter.1 hcm).1
    have hlen : T.length = (A ++ c1).length + (1 + (c2 ++ B).length) := by rw [hT]; simp only [List.length_append, List.length_cons]; omega
    have hlab : (T.map lastB).getD ((A ++ c1).length + 1 - 1) 0 = a := by
      refine getD_of_get? ?_
      rw [Nat.add_sub_cancel, List.getElem?_map, hT, get?_of_mid]
      simp [lastB, ha]
    simp only [List.length_cons, List.replicate_succ, List.cons_append, dec]
    rw [if_pos (by simp only [List.length_append]; omega), if_pos trivial, hval, hlab, if_pos ⟨by simp only [List.length_map]; omega, fun hh => by
      have := hl hh.1 c hcN
      rw [ha, List.length_append, hh.2] at this
      simp at this⟩, ← ha]
    have := ih (c1 ++ [c]) (by rw [hc]; simp)
    rw [← List.append_assoc] at this
    exact this
theorem dec_enc {N T : List Str} (h : Tree N T) {lim : Bool} (hl : lim = true → ∀ x ∈ N, x.length ≤ 12) : ∀ (post pre : List Str), N = pre ++ post →
    dec lim (T.map lastB) (encB N post) pre.length ([] :: pre.flatMap (kids N)) = some N
  | [], pre, hN => by
    simp only [encB, dec]
    rw [List.append_nil] at hN
    rw [← hN, kids_all h, ← h.hd]
  | s :: post, pre, hN => by
    have := dec_kids h hl pre post s hN (encB N post) _ _ rfl rfl (kids N s) [] rfl
    simp only [encB]
    rw [List.append_nil] at this
    rw [this]
    have := dec_enc h hl post (pre ++ [s]) (by rw [hN]; simp)
    simpa using this
theorem dec_nodes {N T : List Str} (h : Tree N T) {lim : Bool} (hl : lim = true → ∀ x ∈ N, x.length ≤ 12) : dec lim (T.map lastB) (encB N N) 0 [[]] = some N := dec_enc h hl N [] rfl
theorem nodesL_tree {K : List Str} (hK : SBL K) : ∃ T, Tree (nodesL K) T := by
  obtain ⟨h1, h2⟩ := nodesL_ok hK
  have h0 : [] ∈ nodesL K := (h2 []).2 (.inl rfl)
  obtain ⟨x, T, hx⟩ := List.exists_cons_of_ne_nil (List.ne_nil_of_mem h0)
  have e : x = [] := by
    rw [hx] at h0 h1
    rcases List.mem_cons.1 h0 with e | e
    · exact e.symm
    · have := (List.pairwise_cons.1 h1).1 _ e
      rw [ll_iff] at this
      simp only [List.length_nil, Nat.not_lt_zero, false_or] at this
      exact List.length_eq_zero_iff.1 this.1
  subst e
  refine ⟨T, h1, hx, fun y hy => ?_⟩
  have hy' : y ∈ nodesL K := by rw [hx]; simp [hy]
  rw [h2] at hy' ⊢
  rcases hy' with rfl | ⟨hl, s, hs, hp⟩
  · exact .inl rfl
  · exact .inr ⟨by simp; omega, s, hs, (List.dropLast_prefix y).trans hp⟩
end Go.Proofs.YtalfkfddpamnjaaQ
namespace Go.Proofs.YtalfkfddpamnjaaQ
open Go Go.RowKit Go.Proofs.YtalfkfddpamnjaaW.PrintWords Go.Proofs.YtalfkfddpamnjaaGp Go.Proofs.Ytalfkfddpamnjaa.PA

def mkS (b : List UInt8) : ByteArray := ⟨b.toArray⟩
theorem mkS_data (b : List UInt8) : (mkS b).data.toList = b := by simp [mkS]
theorem data_mkS (s : ByteArray) : mkS s.data.toList = s := by simp [mkS]
theorem bytesL_mk (l : List Str) : bytesL (l.map mkS) = l := by
  unfold bytesL; rw [List.map_map]
  exact (List.map_congr_left fun b _ => mkS_data b).trans (List.map_id _)
theorem mk_bytesL (l : List ByteArray) : (bytesL l).map mkS = l := by
  unfold bytesL; rw [List.map_map]
  exact (List.map_congr_left fun b _ => data_mkS b).trans (List.map_id _)
theorem bytesL_app (a b : List ByteArray) : bytesL (a ++ b) = bytesL a ++ bytesL b := by simp [bytesL]
theorem bytesL_len (a : List ByteArray) : (bytesL a).length = a.length := by simp [bytesL]
theorem bytesL_inj {a b : List ByteArray} (h : bytesL a = bytesL b) : a = b := by rw [← mk_bytesL a, h, mk_bytesL]
theorem ext0 (s : ByteArray) (n : Nat) : (s.extract 0 n).data.toList = s.data.toList.take n := by rw [Lib.extract_data]; simp
theorem ext0_mk (s : ByteArray) (n : Nat) : s.extract 0 n = mkS (s.data.toList.take n) := by rw [← ext0, data_mkS]
theorem beq_tl {a b : ByteArray} : (a.toList = b.toList) ↔ a.data.toList = b.data.toList := by rw [tl, tl]

theorem spec_trNodes_l1 (x0 : List ByteArray) (n : Nat) (h1 : 1 ≤ n) (h12 : n ≤ 12) (hl : x0.length ≤ 1000000) (r : List ByteArray) : ∀ (t pre out : List ByteArray), x0 = pre ++ t → out ≠ [] → out.length + t.length ≤ 8000000 →
    (∀ out', bytesL out' = bytesL out ++ lvl n ((bytesL out).getLastD []) (bytesL t) → Ev (fun k => spec_trNodes.l0 k x0 out' ((n + 1 : Nat) : Int)) r) →
    Ev (fun k => spec_trNodes.l1 k x0 out (n : Int) x0 (x0.length : Int) (pre.length : Int)) r := by
  intro t
  induction t with
  | nil =>
    intro pre out h hne hb hc
    refine ev_succ ?_
    simp only [spec_trNodes.l1]
    refine ev_neg (by rw [h]; exact not_lt_end) ?_
    rw [winc (by omega)]
    exact hc out (by simp [bytesL, lvl])
  | cons s t ih =>
    intro pre out h hne hb hc
    have hm : ((pre.length : Nat) : Int) < (x0.length : Int) := by rw [h]; exact lt_mid
    have hg : rdOf ByteArray.empty x0 (pre.length : Int) = s := by rw [h]; exact rdOf_mid
    have hpos : 0 < out.length := List.length_pos_iff.2 hne
    simp only [List.length_cons] at hb
    have hbs : bytesL (s :: t) = s.data.toList :: bytesL t := rfl
    have hlast : (rdOf ByteArray.empty out (wrap64 ((out.length : Int) - 1))).data.toList = (bytesL out).getLastD [] := by
      obtain ⟨q, p, rfl⟩ := last_split (pre := out) hpos
      have e : wrap64 (((q ++ [p]).length : Int) - 1) = (q.length : Int) := by
        rw [w64 (by omega) (by omega)]; simp
      rw [e, rdOf_mid, bytesL_app]
      simp [bytesL]
    have hw : wrap64 ((out.length : Int) - 1) = (out.length : Int) - 1 := w64 (by omega) (by omega)
    refine ev_succ ?_
    simp only [spec_trNodes.l1, hg, beq_tl, ext0, Int.toNat_natCast, hlast]
    refine ev_pos hm (ev_pos (by omega) (ev_pos hm ?_))
    rw [winc (i := pre.length) (by omega)]
    have next := fun out' hne' hb' hc' => ih (pre ++ [s]) out' (by rw [h]; simp) hne' hb' hc'
    rw [len_one] at next
    by_cases c : n ≤ s.data.toList.length
    · have c' := c
      rw [← size_len] at c'
      refine ev_pos (by omega) (ev_pos (by omega) (ev_pos (by omega) (ev_pos (by rw [hw]; omega) (ev_pos (by rw [hw]; omega) ?_))))
      by_cases e : s.data.toList.take n = (bytesL out).getLastD []
      · refine ev_pos e (next out hne (by omega) fun out' ho => hc out' ?_)
        rw [ho, hbs, lvl, if_neg (by rintro ⟨_, hh⟩; exact hh e)]
      · refine ev_neg e (ev_pos (by omega) (next _ (by simp) (by simp; omega) fun out' ho => hc out' ?_))
        rw [ho, hbs, lvl, if_pos ⟨c, e⟩, bytesL_app]
        simp [bytesL]
    · have c' := c
      rw [← size_len] at c'
      refine ev_neg (by omega) (next out hne (by omega) fun out' ho => hc out' ?_)
      rw [ho, hbs, lvl, if_neg (by rintro ⟨hh, _⟩; exact c hh)]
theorem lvl_len (n : Nat) : ∀ (t : List Str) (p : Str), (lvl n p t).length ≤ t.length
  | [], _ => by simp [lvl]
  | s :: t, p => by
    unfold lvl
    split
    · have := lvl_len n t (s.take n); simp; omega
    · have := lvl_len n t p; simp; omega
theorem spec_trNodes_l0 (x0 : List ByteArray) (hl : x0.length ≤ 100000) : ∀ (m n : Nat) (out : List ByteArray), n + m = 13 → 1 ≤ n → out ≠ [] → out.length ≤ 1 + n * 100000 →
    Ev (fun k => spec_trNodes.l0 k x0 out (n : Int)) ((levels (bytesL x0) m n (bytesL out)).map mkS) := by
  intro m
  induction m with
  | zero =>
    intro n out hn h1 hne hb
    refine ev_succ ?_
    simp only [spec_trNodes.l0]
    exact ev_neg (by omega) (ev_some (by rw [levels, mk_bytesL]))
  | succ m ih =>
    intro n out hn h1 hne hb
    refine ev_succ ?_
    simp only [spec_trNodes.l0]
    refine ev_pos (by omega) ?_
    refine spec_trNodes_l1 x0 n h1 (by omega) (by omega) _ x0 [] out rfl hne (by omega) fun out' ho => ?_
    have hlen := congrArg List.length ho
    rw [bytesL_len, List.length_append, bytesL_len] at hlen
    have := lvl_len n (bytesL x0) ((bytesL out).getLastD [])
    rw [bytesL_len] at this
    have hne' : out' ≠ [] := fun e => by
      rw [e] at hlen
      have := List.length_pos_iff.2 hne
      simp at hlen; omega
    have := ih (n + 1) out' (by omega) (by omega) hne' (by omega)
    rw [levels, ← ho]
    exact this
theorem spec_trNodes_f (l : List ByteArray) (hl : l.length ≤ 100000) : Ev (fun k => spec_trNodes.f k l) ((nodesL (bytesL l)).map mkS) := by
  unfold spec_trNodes.f
  have := spec_trNodes_l0 l hl 12 1 [(⟨#[]⟩ : ByteArray)] rfl (Nat.le_refl _) (by simp) (by simp)
  exact this

theorem llH_ll : llH = ll := rfl
theorem le_trans (a b c : Str) (h1 : (!ll b a) = true) (h2 : (!ll c b) = true) : (!ll c a) = true := by
  simp only [Bool.not_eq_true'] at *
  cases h : ll c a
  · rfl
  · rcases ll_tri b a with t | t | t
    · rw [t] at h1; cases h1
    · subst t; rw [h] at h2; cases h2
    · have := ll_trans h t
      rw [this] at h2; cases h2
theorem le_total (a b : Str) : (!ll b a || !ll a b) = true := by
  cases h : ll b a
  · rfl
  · rw [ll_asymm h]; rfl
theorem compact_sll (zs : List Str) (hs : zs.Pairwise fun a b => (!ll b a) = true) : ∀ m, m ≤ zs.length →
    SLL (Lib.compactUpTo zs.toArray m) ∧ ∀ x, x ∈ Lib.compactUpTo zs.toArray m ↔ ∃ j, j < m ∧ zs[j]? = some x
  | 0, _ => by simp [Lib.compactUpTo]
  | m + 1, h => by
    obtain ⟨h1, h2⟩ := compact_sll zs hs m (by omega)
    have hd : ∀ j, (hj : j < zs.length) → zs.toArray[j]! = zs[j] := fun j hj => by simp [hj]
    rw [Lib.compactUpTo_succ]
    by_cases c : m = 0 ∨ zs.toArray[m]! ≠ zs.toArray[m - 1]!
    · have hk : Lib.keeps zs.toArray m = true := by simpa [Lib.keeps] using c
      rw [hk, if_pos rfl, hd m (by omega)]
      refine ⟨List.pairwise_append.2 ⟨h1, by simp, fun a ha b hb => ?_⟩, fun x => ?_⟩
      · obtain rfl : b = zs[m] := by simpa using hb
        obtain ⟨j, hj, hja⟩ := (h2 a).1 ha
        rcases c with c | c
        · omega
        · rw [hd m (by omega), hd (m - 1) (by omega)] at c
          have hle : (!ll zs[m] zs[m - 1]) = true := List.pairwise_iff_getElem.1 hs (m - 1) m (by omega) (by omega) (by omega)
          have hlt : ll zs[m - 1] zs[m] = true := by
            rcases ll_tri zs[m - 1] zs[m] with t | t | t
            · exact t
            · exact absurd t.symm c
            · rw [t] at hle; cases hle
          rw [List.getElem?_eq_getElem (by omega)] at hja
          obtain rfl := Option.some.inj hja
          by_cases e : j = m - 1
          · subst e; exact hlt
          · have hle2 : (!ll zs[m - 1] zs[j]) = true := List.pairwise_iff_getElem.1 hs j (m - 1) (by omega) (by omega) (by omega)
            rcases ll_tri zs[j] zs[m - 1] with t | t | t
            · exact ll_trans t hlt
            · rw [t]; exact hlt
            · rw [t] at hle2; cases hle2
      · rw [List.mem_append, h2]
        constructor
        · rintro (⟨j, hj, hx⟩ | hx)
          · exact ⟨j, by omega, hx⟩
          · obtain rfl : x = zs[m] := by simpa using hx
            exact ⟨m, by omega, List.getElem?_eq_getElem (by omega)⟩
        · rintro ⟨j, hj, hx⟩
          by_cases e : j = m
          · subst e
            rw [List.getElem?_eq_getElem (by omega)] at hx
            exact .inr (by simpa using (Option.some.inj hx).symm)
          · exact .inl ⟨j, by omega, hx⟩
    · have hk : Lib.keeps zs.toArray m = false := by simpa [Lib.keeps] using c
      rw [hk, if_neg (by simp), List.append_nil]
      refine ⟨h1, fun x => ?_⟩
      rw [h2]
      constructor
      · rintro ⟨j, hj, hx⟩; exact ⟨j, by omega, hx⟩
      · rintro ⟨j, hj, hx⟩
        by_cases e : j = m
        · have c1 : ¬ m = 0 := fun e => c (.inl e)
          have c2 : zs.toArray[m]! = zs.toArray[m - 1]! := by
            by_cases hh : zs.toArray[m]! = zs.toArray[m - 1]!
            · exact hh
            · exact absurd (.inr hh) c
          rw [hd m (by omega), hd (m - 1) (by omega)] at c2
          subst e
          refine ⟨j - 1, by omega, ?_⟩
          rw [List.getElem?_eq_getElem (by omega)] at hx ⊢
          rw [← c2]; exact hx
        · exact ⟨j, by omega, hx⟩
theorem compact_sorted (zs : List Str) : SLL (Lib.compact (zs.mergeSort fun x y => !ll y x)) ∧ ∀ x, x ∈ Lib.compact (zs.mergeSort fun x y => !ll y x) ↔ x ∈ zs := by
  have hp := List.pairwise_mergeSort (le := fun x y => !ll y x) (fun a b c h1 h2 => le_trans a b c h1 h2) (fun a b => le_total a b) zs
  obtain ⟨h1, h2⟩ := compact_sll _ hp _ (Nat.le_refl _)
  refine ⟨h1, fun x => ?_⟩
  show x ∈ Lib.compactUpTo _ _ ↔ _
  rw [h2, ← List.mem_mergeSort (le := fun x y => !ll y x) (l := zs)]
  constructor
  · rintro ⟨j, _, hx⟩; exact List.mem_of_getElem? hx
  · intro hx
    obtain ⟨j, hj, e⟩ := List.getElem_of_mem hx
    exact ⟨j, hj, by rw [List.getElem?_eq_getElem hj, e]⟩
def begs (s : Str) : List Str := (List.range s.length).map fun i => s.take (i + 1)
theorem begs_mem {s x : Str} : x ∈ begs s ↔ x ≠ [] ∧ x <+: s := by
  simp only [begs, List.mem_map, List.mem_range]
  constructor
  · rintro ⟨i, hi, rfl⟩
    refine ⟨fun e => ?_, List.take_prefix _ _⟩
    have := congrArg List.length e
    rw [List.length_take, List.length_nil] at this; omega
  · rintro ⟨hne, hp⟩
    have := List.length_pos_iff.2 hne
    have := hp.length_le
    refine ⟨x.length - 1, by omega, ?_⟩
    rw [show x.length - 1 + 1 = x.length from by omega]
    exact take_of_prefix hp
theorem impl_nodesFor_l1 (x0 : List ByteArray) (s : ByteArray) (n10 : Nat) (r : List ByteArray) (hs : s.size ≤ 1000) : ∀ (d i : Nat) (out : List ByteArray), i + d = s.size → out.length + d ≤ 8000000 →
    (∀ out', bytesL out' = bytesL out ++ (begs s.data.toList).drop i → Ev (fun k => impl_nodesFor.l0 k out' x0 (x0.length : Int) (wrap64 ((n10 : Int) + 1))) r) →
    Ev (fun k => impl_nodesFor.l1 k out s x0 (x0.length : Int) (n10 : Int) (s.size : Int) (i : Int)) r := by
  intro d
  induction d with
  | zero =>
    intro i out hi hb hc
    refine ev_succ ?_
    simp only [impl_nodesFor.l1]
    exact ev_neg (by omega) (hc out (by rw [List.drop_of_length_le (by simp only [begs, List.length_map, List.length_range, ← size_len]; omega), List.append_nil]))
  | succ d ih =>
    intro i out hi hb hc
    refine ev_succ ?_
    simp only [impl_nodesFor.l1]
    rw [winc (i := i) (by omega)]
    refine ev_pos (by omega) (ev_pos (by omega) (ev_pos (by omega) (ev_pos (by omega) ?_)))
    rw [Int.toNat_natCast]
    refine ih (i + 1) _ (by omega) (by simp; omega) fun out' ho => hc out' ?_
    have hi2 : i < (begs s.data.toList).length := by simp only [begs, List.length_map, List.length_range, ← size_len]; omega
    have hg : (begs s.data.toList)[i] = s.data.toList.take (i + 1) := by simp [begs]
    have hone : bytesL [s.extract 0 (i + 1)] = [s.data.toList.take (i + 1)] := by simp [bytesL]
    rw [ho, bytesL_app, hone, List.drop_eq_getElem_cons hi2, hg, List.append_assoc]
    rfl
def nodesH (K : List Str) : List Str := Lib.compact ((([] : Str) :: K.flatMap begs).mergeSort fun x y => !ll y x)
theorem impl_nodesFor_l0 (x0 : List ByteArray) (hl : x0.length ≤ 1000) (hs : ∀ s ∈ x0, s.size ≤ 1000) : ∀ (t pre out : List ByteArray), x0 = pre ++ t → out.length ≤ 1 + pre.length * 1000 →
    bytesL out = [] :: (bytesL pre).flatMap begs →
    Ev (fun k => impl_nodesFor.l0 k out x0 (x0.length : Int) (pre.length : Int)) ((nodesH (bytesL x0)).map mkS) := by
  intro t
  induction t with
  | nil =>
    intro pre out h hb ho
    refine ev_succ ?_
    simp only [impl_nodesFor.l0]
    refine ev_neg (by rw [h]; exact not_lt_end) ?_
    rw [List.append_nil] at h
    have e : slices_SortFunc_string_string_at_impl_nodesFor_1.f out = some (sortN out) := by
      unfold slices_SortFunc_string_string_at_impl_nodesFor_1.f
      have : pre.length ≤ 1000 := by rw [← h]; exact hl
      rw [if_pos (by omega)]
    rw [e]
    refine ev_bind _ (Ev.now _) (ev_bind _ (Ev.now _) (ev_some ?_))
    unfold compactS sortN nodesH
    have eb : bytesL ((((bytesL out).mergeSort fun x y => !llH y x).map fun b => (⟨b.toArray⟩ : ByteArray))) = (bytesL out).mergeSort fun x y => !llH y x := bytesL_mk _
    rw [eb, llH_ll, ho, h]
    rfl
  | cons s t ih =>
    intro pre out h hb ho
    have hm : ((pre.length : Nat) : Int) < (x0.length : Int) := by rw [h]; exact lt_mid
    have hg : rdOf ByteArray.empty x0 (pre.length : Int) = s := by rw [h]; exact rdOf_mid
    have hz : s.size ≤ 1000 := hs s (by rw [h]; simp)
    have hpl : pre.length < x0.length := by omega
    refine ev_succ ?_
    simp only [impl_nodesFor.l0, hg]
    refine ev_pos hm (ev_pos (by omega) (ev_pos hm ?_))
    refine impl_nodesFor_l1 x0 s pre.length _ hz s.size 0 out (by omega) (by
      have : pre.length * 1000 ≤ 1000 * 1000 := Nat.mul_le_mul_right _ (by omega)
      omega) fun out' ho' => ?_
    rw [winc (by omega)]
    have hlen := congrArg List.length ho'
    rw [List.drop_zero, bytesL_len, List.length_append, bytesL_len] at hlen
    have hbl : (begs s.data.toList).length = s.size := by simp only [begs, List.length_map, List.length_range, size_len]
    have := ih (pre ++ [s]) out' (by rw [h]; simp) (by simp only [List.length_append, List.length_cons, List.length_nil]; omega) (by
      rw [ho', List.drop_zero, ho, bytesL_app, List.flatMap_append]
      simp [bytesL])
    rw [len_one] at this
    exact this
theorem nodesH_eq {K : List Str} (hK : SBL K) (h12 : ∀ s ∈ K, s.length ≤ 12) : nodesH K = nodesL K := by
  obtain ⟨h1, h2⟩ := compact_sorted (([] : Str) :: K.flatMap begs)
  obtain ⟨h3, h4⟩ := nodesL_ok hK
  refine sll_ext h1 h3 fun x => ?_
  unfold nodesH
  rw [h2, h4, List.mem_cons, List.mem_flatMap]
  constructor
  · rintro (h | ⟨s, hs, hx⟩)
    · exact .inl h
    · obtain ⟨_, hp⟩ := begs_mem.1 hx
      have := hp.length_le
      have := h12 s hs
      exact .inr ⟨by omega, s, hs, hp⟩
  · rintro (h | ⟨_, s, hs, hp⟩)
    · exact .inl h
    · by_cases e : x = []
      · exact .inl e
      · exact .inr ⟨s, hs, begs_mem.2 ⟨e, hp⟩⟩

theorem keys_sbl {l : List ByteArray} (h : areKeysB l = true) : SBL (bytesL l) := by
  have hf := areKeysB_from h
  have go : ∀ (p : Option ByteArray) (l : List ByteArray), keysFrom p l = true → SBL (bytesL l) := by
    intro p l
    induction l generalizing p with
    | nil => intro _; simp [bytesL]
    | cons x t ih =>
      intro hk
      simp only [keysFrom, Bool.and_eq_true] at hk
      refine List.pairwise_cons.2 ⟨fun y hy => ?_, ih _ hk.2⟩
      obtain ⟨s, hs, rfl⟩ := List.mem_map.1 hy
      have := keysFrom_less x t hk.2 s hs
      unfold lessS at this
      rw [tl, tl] at this
      exact this
  exact go none l hf
theorem keys_12 {l : List ByteArray} (h : areKeysB l = true) : ∀ s ∈ bytesL l, s.length ≤ 12 := by
  intro s hs
  obtain ⟨x, hx, rfl⟩ := List.mem_map.1 hs
  have := isKeyB_size (areKeysB_all h x hx)
  rw [← size_len]
  exact this.2
theorem impl_nodesFor_f (l : List ByteArray) (h : areKeysB l = true) : Ev (fun k => impl_nodesFor.f k l) ((nodesL (bytesL l)).map mkS) := by
  unfold impl_nodesFor.f
  have hl := areKeysB_len h
  have := impl_nodesFor_l0 l (by omega) (fun s hs => by have := isKeyB_size (areKeysB_all h s hs); omega) l [] [(⟨#[]⟩ : ByteArray)] rfl (by simp) (by simp [bytesL])
  rw [nodesH_eq (keys_sbl h) (keys_12 h)] at this
  exact this
end Go.Proofs.YtalfkfddpamnjaaQ
namespace Go.Proofs.YtalfkfddpamnjaaQ
open Go Go.RowKit Go.Proofs.YtalfkfddpamnjaaW.PrintWords Go.Proofs.YtalfkfddpamnjaaW.PrintMore Go.Proofs.YtalfkfddpamnjaaGp Go.Proofs.Ytalfkfddpamnjaa.PA

theorem pre_eq (a b : Str) : ((a.take b.length) == b) = b.isPrefixOf a := by
  rw [Bool.eq_iff_iff, beq_iff_eq, List.isPrefixOf_iff_prefix, List.prefix_iff_eq_take]
  exact eq_comm
theorem not_pre {a b : ByteArray} (c : ¬ (a.size : Int) ≥ (b.size : Int)) : b.data.toList.isPrefixOf a.data.toList = false := by
  rw [← Bool.not_eq_true, List.isPrefixOf_iff_prefix]
  intro h
  have := h.length_le
  rw [← size_len, ← size_len] at this
  omega
theorem spec_trBegins_f (a b : ByteArray) : spec_trBegins.f a b = some (b.data.toList.isPrefixOf a.data.toList) := by
  unfold spec_trBegins.f
  by_cases c : (a.size : Int) ≥ (b.size : Int)
  · rw [if_pos c, if_pos (by omega), if_pos c, Int.toNat_natCast, tl, tl, ext0, ← pre_eq, ← size_len b]
  · rw [if_neg c, not_pre c]
theorem strings_HasPrefix_f (a b : ByteArray) : strings_HasPrefix.f a b = some (b.data.toList.isPrefixOf a.data.toList) := by
  unfold strings_HasPrefix.f stringslite_HasPrefix.f
  by_cases c : (a.size : Int) ≥ (b.size : Int)
  · rw [if_pos c, if_pos (by omega), if_pos c, Int.toNat_natCast, tl, tl, ext0, ← pre_eq, ← size_len b]
    rfl
  · rw [if_neg c, not_pre c]
    rfl
def childB (s c : ByteArray) : Bool := isChild s.data.toList c.data.toList
theorem childB_yes {s c : ByteArray} (hs : s.size ≤ 1000000) (h : (c.size : Int) = wrap64 ((s.size : Int) + 1)) : childB s c = s.data.toList.isPrefixOf c.data.toList := by
  rw [winc (by omega)] at h
  have e : c.data.toList.length = s.data.toList.length + 1 := by rw [← size_len, ← size_len]; omega
  unfold childB isChild
  rw [decide_eq_true e, Bool.true_and]
theorem childB_no {s c : ByteArray} (hs : s.size ≤ 1000000) (h : ¬ (c.size : Int) = wrap64 ((s.size : Int) + 1)) : childB s c = false := by
  rw [winc (by omega)] at h
  have e : ¬ c.data.toList.length = s.data.toList.length + 1 := by rw [← size_len, ← size_len]; omega
  unfold childB isChild
  rw [decide_eq_false e, Bool.false_and]

theorem spec_trOf_l1 (x0 x3 x13 y : List ByteArray) (x5 : List Bool) (x6 : List Int) (x7 x14 x15 : Int) (s : ByteArray) (r : Int × List Int × Int × List Int × ByteArray) (hs : s.size ≤ 1000000) (hy : y.length ≤ 1000000) : ∀ (t pre : List ByteArray) (x4 : List Bool), y = pre ++ t → x4.length + t.length ≤ 8000000 →
    Ev (fun k => spec_trOf.l1 k x0 x3 (x4 ++ List.replicate (t.filter (childB s)).length true) x5 x6 x7 s x13 x14 x15 y (y.length : Int) (y.length : Int)) r →
    Ev (fun k => spec_trOf.l1 k x0 x3 x4 x5 x6 x7 s x13 x14 x15 y (y.length : Int) (pre.length : Int)) r := by
  intro t
  induction t with
  | nil =>
    intro pre x4 h _ hc
    rw [List.append_nil] at h
    subst h
    simpa using hc
  | cons c t ih =>
    intro pre x4 h hb hc
    have hm : ((pre.length : Nat) : Int) < (y.length : Int) := by rw [h]; exact lt_mid
    have hg : rdOf ByteArray.empty y (pre.length : Int) = c := by rw [h]; exact rdOf_mid
    have hle : pre.length < y.length := by omega
    simp only [List.length_cons] at hb
    have next := fun x4' hb' hc' => ih (pre ++ [c]) x4' (by rw [h]; simp) hb' hc'
    rw [len_one] at next
    refine ev_succ ?_
    simp only [spec_trOf.l1, hg]
    refine ev_pos hm (ev_pos (by omega) (ev_pos hm ?_))
    rw [winc (i := pre.length) (by omega)]
    by_cases e : (c.size : Int) = wrap64 ((s.size : Int) + 1)
    · refine ev_pos e ?_
      rw [spec_trBegins_f]
      refine ev_bind _ (Ev.now _) ?_
      rw [← childB_yes hs e]
      by_cases d : childB s c = true
      · refine ev_pos d (ev_pos (by omega) (next _ (by simp; omega) ?_))
        rw [List.filter_cons_of_pos d] at hc
        simpa [List.replicate_succ] using hc
      · refine ev_neg d (next _ (by omega) ?_)
        rw [List.filter_cons_of_neg d] at hc
        exact hc
    · refine ev_neg e (next _ (by omega) ?_)
      rw [List.filter_cons_of_neg (by rw [childB_no hs e]; simp)] at hc
      exact hc
theorem encB_app (N : List Str) : ∀ (a b : List Str), encB N (a ++ b) = encB N a ++ encB N b
  | [], _ => rfl
  | s :: a, b => by simp [encB, encB_app N a b]
theorem encB_len (N : List Str) : ∀ (a : List Str), (encB N a).length = (a.flatMap (kids N)).length + a.length
  | [] => rfl
  | s :: a => by
    simp only [encB, List.length_append, List.length_replicate, List.length_cons, encB_len N a, List.flatMap_cons]
    omega
theorem filter_mk (s : Str) (l : List Str) : ((l.map mkS).filter (childB (mkS s))).length = (l.filter (isChild s)).length := by
  rw [List.filter_map, List.length_map]
  have : (childB (mkS s) ∘ mkS) = isChild s := by funext x; simp [childB, mkS_data]
  rw [this]
theorem kids_later {N T : List Str} (h : Tree N T) (pre post : List Str) (s : Str) (hN : N = pre ++ s :: post) : kids N s = post.filter (isChild s) := by
  have hp := h.sll
  rw [hN] at hp
  obtain ⟨_, _, h3⟩ := List.pairwise_append.1 hp
  have no : ∀ x, x.length ≤ s.length → isChild s x = false := fun x hx => by
    unfold isChild
    rw [decide_eq_false (by omega), Bool.false_and]
  unfold kids
  rw [hN, List.filter_append, List.filter_cons_of_neg (by rw [no s (Nat.le_refl _)]; simp)]
  rw [List.filter_eq_nil_iff.2 (fun x hx => by
    rw [no x]; · simp
    have := h3 x hx s (by simp)
    rw [ll_iff] at this
    omega)]
  rfl
theorem drop_mid {α : Type} (x : α) (b : List α) : ∀ (a : List α), (a ++ x :: b).drop (a.length + 1) = b
  | [] => rfl
  | _ :: a => drop_mid x b a
def lab1 (N : List Str) : List Int := (N.drop 1).map fun s => ((lastB s).toNat : Int)
def endB (K : List ByteArray) (N : List Str) : List Bool := N.map fun s => hasS K (mkS s)
theorem lab1_app (N : List Str) (s : Str) (h : 0 < N.length) : lab1 (N ++ [s]) = lab1 N ++ [((lastB s).toNat : Int)] := by
  cases N with
  | nil => simp at h
  | cons a N => simp [lab1]
theorem last_bt (s : Str) (h : s ≠ []) (hs : s.length ≤ 1000000) : 0 ≤ wrap64 (((mkS s).size : Int) - 1) ∧ wrap64 (((mkS s).size : Int) - 1) < ((mkS s).size : Int) ∧ bt (mkS s) (wrap64 (((mkS s).size : Int) - 1)) = ((lastB s).toNat : Int) := by
  have hl := List.length_pos_iff.2 h
  have hz : (mkS s).size = s.length := by rw [size_len, mkS_data]
  have hw : wrap64 (((mkS s).size : Int) - 1) = ((s.length - 1 : Nat) : Int) := by rw [hz, w64 (by omega) (by omega)]; omega
  rw [hw, hz]
  refine ⟨by omega, by omega, ?_⟩
  rw [bt_get (by rw [mkS_data]; omega)]
  simp only [mkS_data]
  unfold lastB
  rw [List.getLastD_eq_getLast?, List.getLast?_eq_getElem?, List.getElem?_eq_getElem (by omega)]
  rfl
def trieR (K : List ByteArray) (N : List Str) : Int × List Int × Int × List Int × ByteArray :=
  (((encB N N).length : Int), packB (encB N N), ((endB K N).length : Int), packB (endB K N), strOfNums (lab1 N))
theorem spec_trOf_l0 (K : List ByteArray) {N T : List Str} (hT : Tree N T) (hK : (K.length : Int) ≤ 9223372036854775806) (hN : N.length ≤ 100000) (hs : ∀ s ∈ N, s.length ≤ 1000000) : ∀ (post pre : List Str), N = pre ++ post →
    Ev (fun k => spec_trOf.l0 k K (N.map mkS) (encB N pre) (endB K pre) (lab1 pre) (N.map mkS) ((N.map mkS).length : Int) (pre.length : Int)) (trieR K N) := by
  have hE : (encB N N).length ≤ 200000 := by
    rw [encB_len, kids_all hT]
    have : N.length = T.length + 1 := by rw [hT.hd]; simp
    omega
  intro post
  induction post with
  | nil =>
    intro pre h
    rw [List.append_nil] at h
    subst h
    refine ev_succ ?_
    simp only [spec_trOf.l0]
    refine ev_neg (by simp) (ev_bind _ (spec_biSome_f _ (by omega)) (ev_bind _ (spec_biSome_f _ (by simp [endB]; omega)) (ev_some rfl)))
  | cons s post ih =>
    intro pre h
    have hm : ((pre.length : Nat) : Int) < ((N.map mkS).length : Int) := by rw [List.length_map, h]; exact lt_mid
    have hg : rdOf ByteArray.empty (N.map mkS) (pre.length : Int) = mkS s := by
      rw [h, List.map_append, List.map_cons]
      have := rdOf_mid (d := ByteArray.empty) (pre := pre.map mkS) (s := mkS s) (t := post.map mkS)
      rw [List.length_map] at this
      exact this
    have hml : (N.map mkS).length = N.length := List.length_map ..
    have hle : pre.length < N.length := by omega
    have hsz : (mkS s).size ≤ 1000000 := by rw [size_len, mkS_data]; exact hs s (by rw [h]; simp)
    have hd : (N.map mkS).drop (pre.length + 1) = post.map mkS := by
      rw [h, List.map_append, List.map_cons]
      have := drop_mid (mkS s) (post.map mkS) (pre.map mkS)
      rw [List.length_map] at this
      exact this
    have hEn : (encB N pre).length + (kids N s).length + (encB N post).length + 1 ≤ 200000 := by
      have e := hE
      have hx : encB N N = encB N (pre ++ s :: post) := congrArg (encB N) h
      rw [hx, encB_app] at e
      simp only [encB, List.length_append, List.length_replicate, List.length_cons] at e
      omega
    refine ev_succ ?_
    simp only [spec_trOf.l0, hg]
    refine ev_pos hm (ev_pos (by omega) (ev_pos hm ?_))
    rw [winc (i := pre.length) (by omega)]
    refine ev_pos (by omega) (ev_pos (by omega) ?_)
    rw [Int.toNat_natCast, hd]
    refine ev_bind _ (Ev.now _) ?_
    have hpl : (post.map mkS).length = post.length := List.length_map ..
    have hpN : post.length ≤ N.length := by rw [h]; simp; omega
    refine spec_trOf_l1 K _ _ (post.map mkS) _ _ _ _ _ (mkS s) _ hsz (by omega) (post.map mkS) [] _ rfl (by omega) ?_
    rw [filter_mk, ← kids_later hT pre post s h]
    refine ev_succ ?_
    simp only [spec_trOf.l1]
    refine ev_neg (by omega) (ev_pos (by rw [List.length_append, List.length_replicate]; omega) (ev_bind _ (Ev.now _) (ev_bind _ (spec_l1HasS_f K (mkS s) hK) (ev_pos (by simp [endB]; omega) (ev_bind _ (Ev.now _) ?_)))))
    rw [winc (i := pre.length) (by omega)]
    have e1 : encB N (pre ++ [s]) = encB N pre ++ List.replicate (kids N s).length true ++ [false] := by
      rw [encB_app]; simp [encB]
    have e2 : endB K (pre ++ [s]) = endB K pre ++ [hasS K (mkS s)] := by simp [endB]
    have nx := ih (pre ++ [s]) (by rw [h]; simp)
    rw [len_one, e1, e2] at nx
    by_cases c : ((pre.length : Nat) : Int) > 0
    · have hne : s ≠ [] := by
        refine hT.ne ?_
        cases hp : pre with
        | nil => rw [hp] at c; simp at c
        | cons p q =>
          have := hT.hd
          rw [h, hp] at this
          simp only [List.cons_append, List.cons.injEq] at this
          rw [← this.2]; simp
      obtain ⟨b1, b2, b3⟩ := last_bt s hne (hs s (by rw [h]; simp))
      refine ev_pos c (ev_pos b1 (ev_pos b2 (ev_pos (by simp [lab1]; omega) ?_)))
      rw [b3]
      rw [lab1_app pre s (by omega)] at nx
      exact nx
    · refine ev_neg c ?_
      have : pre = [] := List.length_eq_zero_iff.1 (by omega)
      subst this
      exact nx

theorem impl_childrenOf_l0 (s : ByteArray) (y : List ByteArray) (hs : s.size ≤ 1000000) (hy : y.length ≤ 1000000) : ∀ (t pre : List ByteArray) (c : Nat), y = pre ++ t → c + t.length ≤ 1000000 →
    Ev (fun k => impl_childrenOf.l0 k s (c : Int) y (y.length : Int) (pre.length : Int)) (((c + (t.filter (childB s)).length : Nat) : Int)) := by
  intro t
  induction t with
  | nil =>
    intro pre c h _
    refine ev_succ ?_
    simp only [impl_childrenOf.l0]
    exact ev_neg (by rw [h]; exact not_lt_end) (ev_some rfl)
  | cons x t ih =>
    intro pre c h hb
    have hm : ((pre.length : Nat) : Int) < (y.length : Int) := by rw [h]; exact lt_mid
    have hg : rdOf ByteArray.empty y (pre.length : Int) = x := by rw [h]; exact rdOf_mid
    have hle : pre.length < y.length := by omega
    simp only [List.length_cons] at hb
    have next := fun c' hb' => ih (pre ++ [x]) c' (by rw [h]; simp) hb'
    rw [len_one] at next
    refine ev_succ ?_
    simp only [impl_childrenOf.l0, hg]
    refine ev_pos hm (ev_pos (by omega) (ev_pos hm ?_))
    rw [winc (i := pre.length) (by omega)]
    by_cases e : (x.size : Int) = wrap64 ((s.size : Int) + 1)
    · refine ev_pos e ?_
      rw [strings_HasPrefix_f]
      refine ev_bind _ (Ev.now _) ?_
      rw [← childB_yes hs e]
      by_cases d : childB s x = true
      · refine ev_pos d ?_
        rw [winc (by omega), List.filter_cons_of_pos d]
        have := next (c + 1) (by omega)
        rw [show c + 1 + (t.filter (childB s)).length = c + (x :: t.filter (childB s)).length from by simp; omega] at this
        exact this
      · refine ev_neg d ?_
        rw [List.filter_cons_of_neg d]
        exact next c (by omega)
    · refine ev_neg e ?_
      rw [List.filter_cons_of_neg (by rw [childB_no hs e]; simp)]
      exact next c (by omega)
theorem impl_childrenOf_f (N : List Str) (s : Str) (hs : s.length ≤ 1000000) (hy : N.length ≤ 1000000) : Ev (fun k => impl_childrenOf.f k (N.map mkS) (mkS s)) (((kids N s).length : Nat) : Int) := by
  have := impl_childrenOf_l0 (mkS s) (N.map mkS) (by rw [size_len, mkS_data]; exact hs) (by simpa using hy) (N.map mkS) [] 0 rfl (by simpa using hy)
  rw [filter_mk, Nat.zero_add] at this
  exact this
theorem zero_after {l : List Int} (hl : okW l) {p : Nat} (h : p / 16 < l.length) (hz : ∀ q, p ≤ q → bitN l q = false) (b : Bool) : ∀ q, p + 1 ≤ q → bitN (if b = true then setV l (p : Int) else l) q = false := by
  intro q hq
  by_cases c : b = true
  · rw [if_pos c, bit_setV hl h, hz q (by omega), decide_eq_false (by omega)]; rfl
  · rw [if_neg c]; exact hz q (by omega)
theorem ok_after {l : List Int} (hl : okW l) {p : Nat} (h : p / 16 < l.length) (b : Bool) : okW (if b = true then setV l (p : Int) else l) := by
  by_cases c : b = true
  · rw [if_pos c]; exact okW_setV hl h
  · rw [if_neg c]; exact hl
theorem len_after (l : List Int) (p : Int) (b : Bool) : (if b = true then setV l p else l).length = l.length := by
  by_cases c : b = true
  · rw [if_pos c, setV_len]
  · rw [if_neg c]
theorem made_1_l0 (B : List Bool) (n : Int) (hB : B.length ≤ 1000000) : ∀ (t pre : List Bool) (l : List Int), B = pre ++ t → B.length ≤ 16 * l.length → okW l → (∀ q, pre.length ≤ q → bitN l q = false) →
    Ev (fun k => impl_madeBits_at_impl_trie_1.l0 k (B.length : Int) (pre.length : Int) B n l) (n, packFrom t pre.length l) := by
  intro t
  induction t with
  | nil =>
    intro pre l h _ _ _
    refine ev_succ ?_
    simp only [impl_madeBits_at_impl_trie_1.l0]
    exact ev_neg (by rw [h]; exact not_lt_end) (ev_some rfl)
  | cons b t ih =>
    intro pre l h hl hok hz
    have hm : ((pre.length : Nat) : Int) < (B.length : Int) := by rw [h]; exact lt_mid
    have hg : rdOf false B (pre.length : Int) = b := by rw [h]; exact rdOf_mid
    have hle : pre.length < B.length := by omega
    refine ev_succ ?_
    simp only [impl_madeBits_at_impl_trie_1.l0]
    have e : impl_trie_1.f (pre.length : Int) B = some b := by
      unfold impl_trie_1.f
      rw [if_pos (by omega), if_pos hm, hg]
    rw [e]
    refine ev_pos hm (ev_bind _ (Ev.now _) ?_)
    rw [impl_Bits_set_any n hok (by omega) (by omega) (hz _ (Nat.le_refl _)) b]
    refine ev_bind _ (Ev.now _) ?_
    rw [winc (by omega)]
    have := ih (pre ++ [b]) _ (by rw [h]; simp) (by rw [len_after l (pre.length : Int) b]; exact hl) (ok_after hok (by omega) b) (by
      have := zero_after hok (p := pre.length) (by omega) hz b
      simpa using this)
    rw [len_one] at this
    simpa [packFrom] using this
theorem made_1_f (B : List Bool) (hB : B.length ≤ 1000000) : Ev (fun k => impl_madeBits_at_impl_trie_1.f k (B.length : Int) B) ((B.length : Int), packB B) := by
  unfold impl_madeBits_at_impl_trie_1.f
  rw [impl_blank_f _ hB]
  refine ev_bind _ (Ev.now _) ?_
  exact made_1_l0 B (B.length : Int) hB B [] (blankW B.length) rfl (by simp [blankW]; omega) (okW_blank _) fun q _ => bit_blank _ q
theorem made_2_l0 (K : List ByteArray) (M : List ByteArray) (n : Int) (hK : (K.length : Int) ≤ 9223372036854775806) (hB : M.length ≤ 1000000) : ∀ (t pre : List ByteArray) (l : List Int), M = pre ++ t → M.length ≤ 16 * l.length → okW l → (∀ q, pre.length ≤ q → bitN l q = false) →
    Ev (fun k => impl_madeBits_at_impl_trie_2.l0 k (M.length : Int) (pre.length : Int) K M n l) (n, packFrom (t.map (hasS K)) pre.length l) := by
  intro t
  induction t with
  | nil =>
    intro pre l h _ _ _
    refine ev_succ ?_
    simp only [impl_madeBits_at_impl_trie_2.l0]
    exact ev_neg (by rw [h]; exact not_lt_end) (ev_some rfl)
  | cons b t ih =>
    intro pre l h hl hok hz
    have hm : ((pre.length : Nat) : Int) < (M.length : Int) := by rw [h]; exact lt_mid
    have hg : rdOf ByteArray.empty M (pre.length : Int) = b := by rw [h]; exact rdOf_mid
    have hle : pre.length < M.length := by omega
    refine ev_succ ?_
    simp only [impl_madeBits_at_impl_trie_2.l0]
    have e : Ev (fun k => impl_trie_2.f k (pre.length : Int) K M) (hasS K b) := by
      unfold impl_trie_2.f
      refine ev_pos (by omega) (ev_pos hm (ev_bind _ ?_ (ev_some rfl)))
      rw [hg]
      exact slices_Contains_string_string_f K b hK
    refine ev_pos hm (ev_bind _ e ?_)
    rw [impl_Bits_set_any n hok (by omega) (by omega) (hz _ (Nat.le_refl _)) (hasS K b)]
    refine ev_bind _ (Ev.now _) ?_
    rw [winc (by omega)]
    have := ih (pre ++ [b]) _ (by rw [h]; simp) (by rw [len_after l (pre.length : Int) (hasS K b)]; exact hl) (ok_after hok (by omega) _) (by
      have := zero_after hok (p := pre.length) (by omega) hz (hasS K b)
      simpa using this)
    rw [len_one] at this
    simpa [packFrom] using this
theorem made_2_f (K M : List ByteArray) (hK : (K.length : Int) ≤ 9223372036854775806) (hB : M.length ≤ 1000000) : Ev (fun k => impl_madeBits_at_impl_trie_2.f k (M.length : Int) K M) ((M.length : Int), packB (M.map (hasS K))) := by
  unfold impl_madeBits_at_impl_trie_2.f
  rw [impl_blank_f _ hB]
  refine ev_bind _ (Ev.now _) ?_
  have := made_2_l0 K M (M.length : Int) hK hB M [] (blankW M.length) rfl (by simp [blankW]; omega) (okW_blank _) fun q _ => bit_blank _ q
  unfold packB
  rw [List.length_map]
  exact this
theorem impl_trie_l0 (K : List ByteArray) {N T : List Str} (hT : Tree N T) (hK : (K.length : Int) ≤ 9223372036854775806) (hN : N.length ≤ 100000) (hs : ∀ s ∈ N, s.length ≤ 1000000) : ∀ (post pre : List Str), N = pre ++ post →
    Ev (fun k => impl_trie.l0 k (lab1 pre) (N.map mkS) ((N.map mkS).length : Int) (pre.length : Int) K (N.map mkS) (encB N pre)) (trieR K N) := by
  have hE : (encB N N).length ≤ 200000 := by
    rw [encB_len, kids_all hT]
    have : N.length = T.length + 1 := by rw [hT.hd]; simp
    omega
  intro post
  induction post with
  | nil =>
    intro pre h
    rw [List.append_nil] at h
    subst h
    refine ev_succ ?_
    simp only [impl_trie.l0]
    refine ev_neg (by simp) (ev_bind _ (made_1_f _ (by omega)) (ev_bind _ (made_2_f K _ hK (by simp; omega)) (ev_some ?_)))
    unfold trieR
    have : (N.map mkS).map (hasS K) = endB K N := by simp [endB, List.map_map, Function.comp_def]
    rw [this]
    simp [endB]
  | cons s post ih =>
    intro pre h
    have hm : ((pre.length : Nat) : Int) < ((N.map mkS).length : Int) := by rw [List.length_map, h]; exact lt_mid
    have hg : rdOf ByteArray.empty (N.map mkS) (pre.length : Int) = mkS s := by
      rw [h, List.map_append, List.map_cons]
      have := rdOf_mid (d := ByteArray.empty) (pre := pre.map mkS) (s := mkS s) (t := post.map mkS)
      rw [List.length_map] at this
      exact this
    have hml : (N.map mkS).length = N.length := List.length_map ..
    have hle : pre.length < N.length := by omega
    have hEn : (encB N pre).length + (kids N s).length + (encB N post).length + 1 ≤ 200000 := by
      have e := hE
      have hx : encB N N = encB N (pre ++ s :: post) := congrArg (encB N) h
      rw [hx, encB_app] at e
      simp only [encB, List.length_append, List.length_replicate, List.length_cons] at e
      omega
    refine ev_succ ?_
    simp only [impl_trie.l0, hg]
    refine ev_pos hm (ev_pos (by omega) (ev_pos hm (ev_bind _ (impl_childrenOf_f N s (hs s (by rw [h]; simp)) (by omega)) ?_)))
    have hr : slices_Repeat_bool_bool.f [true] (((kids N s).length : Nat) : Int) = some (List.replicate (kids N s).length true) := by
      unfold slices_Repeat_bool_bool.f
      rw [if_pos rfl, if_pos (by omega), if_pos (by omega), Int.toNat_natCast]
    rw [hr]
    refine ev_bind _ (Ev.now _) (ev_pos (by rw [List.length_replicate]; omega) (ev_bind _ (Ev.now _) (ev_bind _ (Ev.now _) (ev_pos (by simp only [List.length_append, List.length_replicate, List.length_cons, List.length_nil]; omega) (ev_bind _ (Ev.now _) ?_)))))
    rw [winc (i := pre.length) (by omega)]
    have e1 : encB N (pre ++ [s]) = encB N pre ++ List.replicate (kids N s).length true ++ [false] := by
      rw [encB_app]; simp [encB]
    have nx := ih (pre ++ [s]) (by rw [h]; simp)
    rw [len_one, e1] at nx
    by_cases c : ((pre.length : Nat) : Int) > 0
    · have hne : s ≠ [] := by
        refine hT.ne ?_
        cases hp : pre with
        | nil => rw [hp] at c; simp at c
        | cons p q =>
          have := hT.hd
          rw [h, hp] at this
          simp only [List.cons_append, List.cons.injEq] at this
          rw [← this.2]; simp
      obtain ⟨b1, b2, b3⟩ := last_bt s hne (hs s (by rw [h]; simp))
      refine ev_pos c (ev_pos b1 (ev_pos b2 ?_))
      rw [b3]
      refine ev_bind _ (Ev.now _) (ev_pos (by simp [lab1]; omega) ?_)
      rw [lab1_app pre s (by omega)] at nx
      exact nx
    · refine ev_neg c ?_
      have : pre = [] := List.length_eq_zero_iff.1 (by omega)
      subst this
      exact nx

theorem levels_len (K : List Str) : ∀ (m n : Nat) (out : List Str), (levels K m n out).length ≤ out.length + m * K.length
  | 0, _, out => by simp [levels]
  | m + 1, n, out => by
    rw [levels]
    have h1 := levels_len K m (n + 1) (out ++ lvl n (out.getLastD []) K)
    have h2 := lvl_len n K (out.getLastD [])
    rw [List.length_append] at h1
    rw [Nat.succ_mul]
    omega
theorem nodesL_len (K : List Str) : (nodesL K).length ≤ 1 + 12 * K.length := by
  have := levels_len K 12 1 [[]]
  simpa [nodesL] using this
theorem nodesL_short {K : List Str} (hK : SBL K) {x : Str} (h : x ∈ nodesL K) : x.length ≤ 12 := by
  rcases ((nodesL_ok hK).2 x).1 h with rfl | ⟨h, _⟩
  · simp
  · omega
def trieV (K : List ByteArray) : Int × List Int × Int × List Int × ByteArray := trieR K (nodesL (bytesL K))
theorem spec_trOf_f (K : List ByteArray) (h : areKeysB K = true) : Ev (fun k => spec_trOf.f k K) (trieV K) := by
  unfold spec_trOf.f
  have hl := areKeysB_len h
  obtain ⟨T, hT⟩ := nodesL_tree (keys_sbl h)
  have hb := nodesL_len (bytesL K)
  rw [bytesL_len] at hb
  refine ev_bind _ (spec_trNodes_f K (by omega)) ?_
  exact spec_trOf_l0 K hT (by omega) (by omega) (fun s hs => by have := nodesL_short (keys_sbl h) hs; omega) (nodesL (bytesL K)) [] rfl
theorem impl_trie_f (K : List ByteArray) (h : areKeysB K = true) : Ev (fun k => impl_trie.f k K) (trieV K) := by
  unfold impl_trie.f
  have hl := areKeysB_len h
  obtain ⟨T, hT⟩ := nodesL_tree (keys_sbl h)
  have hb := nodesL_len (bytesL K)
  rw [bytesL_len] at hb
  refine ev_bind _ (impl_nodesFor_f K h) ?_
  exact impl_trie_l0 K hT (by omega) (by omega) (fun s hs => by have := nodesL_short (keys_sbl h) hs; omega) (nodesL (bytesL K)) [] rfl
end Go.Proofs.YtalfkfddpamnjaaQ
namespace Go.Proofs.YtalfkfddpamnjaaQ
open Go Go.RowKit Go.Proofs.YtalfkfddpamnjaaW.PrintWords Go.Proofs.YtalfkfddpamnjaaW.PrintMore Go.Proofs.YtalfkfddpamnjaaGp Go.Proofs.Ytalfkfddpamnjaa.PA

theorem ext_of {α : Type} (r : α → α → Prop) (irr : ∀ a, ¬ r a a) (tr : ∀ a b c, r a b → r b c → r a c) : ∀ {l m : List α}, l.Pairwise r → m.Pairwise r → (∀ x, x ∈ l ↔ x ∈ m) → l = m
  | [], [], _, _, _ => rfl
  | [], b :: m, _, _, h => by have := (h b).2 (by simp); simp at this
  | a :: l, [], _, _, h => by have := (h a).1 (by simp); simp at this
  | a :: l, b :: m, hl, hm, h => by
    obtain ⟨ha, hl'⟩ := List.pairwise_cons.1 hl
    obtain ⟨hb, hm'⟩ := List.pairwise_cons.1 hm
    have e : a = b := by
      rcases List.mem_cons.1 ((h a).1 (by simp)) with e | ia
      · exact e
      · rcases List.mem_cons.1 ((h b).2 (by simp)) with e | ib
        · exact e.symm
        · exact absurd (tr _ _ _ (ha b ib) (hb a ia)) (irr a)
    subst e
    refine congrArg (a :: ·) (ext_of r irr tr hl' hm' fun x => ?_)
    constructor
    · intro hx
      rcases List.mem_cons.1 ((h x).1 (by simp [hx])) with e | i
      · subst e; exact absurd (ha x hx) (irr x)
      · exact i
    · intro hx
      rcases List.mem_cons.1 ((h x).2 (by simp [hx])) with e | i
      · subst e; exact absurd (hb x hx) (irr x)
      · exact i
theorem bl_lt : ∀ a b : Str, Op.bytesLess a b = true ↔ a < b
  | [], [] => by simp [Op.bytesLess]
  | [], _ :: _ => by simp [Op.bytesLess]
  | _ :: _, [] => by simp [Op.bytesLess]
  | a :: l, b :: m => by
    rw [List.cons_lt_cons_iff]
    simp only [Op.bytesLess, Bool.or_eq_true, Bool.and_eq_true, decide_eq_true_eq, beq_iff_eq, bl_lt l m]
theorem le_bl {a b : Str} : decide (a ≤ b) = true ↔ Op.bytesLess b a = false := by
  rw [decide_eq_true_eq, ← Bool.not_eq_true, bl_lt, List.not_lt]

def marked (lE : List Int) : Nat → List ByteArray → List ByteArray
  | _, [] => []
  | i, p :: t => if atV lE (i : Int) = true then p :: marked lE (i + 1) t else marked lE (i + 1) t
theorem marked_len (lE : List Int) : ∀ (t : List ByteArray) (i : Nat), (marked lE i t).length ≤ t.length
  | [], _ => Nat.le_refl _
  | p :: t, i => by
    have := marked_len lE t (i + 1)
    unfold marked
    split
    · simp; exact this
    · simp; omega
theorem marked_mem (lE : List Int) : ∀ (t : List ByteArray) (i : Nat) (x : ByteArray), x ∈ marked lE i t → x ∈ t
  | [], _, _, h => by simp [marked] at h
  | p :: t, i, x, h => by
    unfold marked at h
    split at h
    · rcases List.mem_cons.1 h with e | h
      · simp [e]
      · exact List.mem_cons_of_mem _ (marked_mem lE t _ x h)
    · exact List.mem_cons_of_mem _ (marked_mem lE t _ x h)
theorem atV_pack {B : List Bool} {i : Nat} (h : i < B.length) : atV (packB B) (i : Int) = B.getD i false := by
  obtain ⟨ok, bits⟩ := packB_ok B
  rw [atV_bit ok (by rw [packB_len]; omega), bits]
theorem marked_pack (K : List ByteArray) (N : List Str) : ∀ (t pre : List Str), N = pre ++ t → marked (packB (endB K N)) pre.length (t.map mkS) = (t.map mkS).filter (hasS K)
  | [], _, _ => rfl
  | s :: t, pre, h => by
    have e : atV (packB (endB K N)) (pre.length : Int) = hasS K (mkS s) := by
      rw [atV_pack (by simp [endB, h])]
      simp [endB, h]
    have ih := marked_pack K N t (pre ++ [s]) (by rw [h]; simp)
    rw [List.length_append] at ih
    rw [List.map_cons, marked, e]
    by_cases c : hasS K (mkS s) = true
    · rw [if_pos c, List.filter_cons_of_pos c]
      exact congrArg _ ih
    · rw [if_neg c, List.filter_cons_of_neg c]
      exact ih
def insK (x : ByteArray) : List ByteArray → List ByteArray
  | [] => [x]
  | y :: t => if lessS y x = true then y :: insK x t else if y = x then y :: t else x :: y :: t
theorem insK_mem {x y : ByteArray} : ∀ {l : List ByteArray}, y ∈ insK x l ↔ y = x ∨ y ∈ l
  | [] => by simp [insK]
  | z :: t => by
    unfold insK
    split
    · rw [List.mem_cons, insK_mem, List.mem_cons]
      constructor
      · rintro (h | h | h)
        · exact .inr (.inl h)
        · exact .inl h
        · exact .inr (.inr h)
      · rintro (h | h | h)
        · exact .inr (.inl h)
        · exact .inl h
        · exact .inr (.inr h)
    · split
      · rename_i e
        rw [List.mem_cons]
        constructor
        · intro h; exact .inr h
        · rintro (h | h)
          · exact .inl (h.trans e.symm)
          · exact h
      · simp [List.mem_cons]
abbrev SK (l : List ByteArray) : Prop := l.Pairwise fun a b => lessS a b = true
theorem insK_sorted {x : ByteArray} : ∀ {l : List ByteArray}, SK l → SK (insK x l)
  | [], _ => by simp [insK]
  | z :: t, h => by
    obtain ⟨h1, h2⟩ := List.pairwise_cons.1 h
    unfold insK
    split
    · rename_i c
      refine List.pairwise_cons.2 ⟨fun y hy => ?_, insK_sorted h2⟩
      rcases insK_mem.1 hy with rfl | hy
      · exact c
      · exact h1 y hy
    · split
      · exact h
      · rename_i c e
        have hx : lessS x z = true := by
          rcases lessS_total z x (by simpa using c) with t | t
          · exact t
          · exact absurd t e
        refine List.pairwise_cons.2 ⟨fun y hy => ?_, h⟩
        rcases List.mem_cons.1 hy with rfl | hy
        · exact hx
        · exact lessS_trans hx (h1 y hy)
theorem insK_len {x : ByteArray} : ∀ {l : List ByteArray}, (insK x l).length ≤ l.length + 1
  | [] => by simp [insK]
  | z :: t => by
    have := insK_len (x := x) (l := t)
    unfold insK
    split
    · simp; exact this
    · split
      · simp
      · simp
def setK (M : List ByteArray) (acc : List ByteArray) : List ByteArray := M.foldl (fun a x => insK x a) acc
theorem setK_ok : ∀ (M acc : List ByteArray), SK acc → SK (setK M acc) ∧ ∀ x, x ∈ setK M acc ↔ x ∈ acc ∨ x ∈ M
  | [], acc, h => ⟨h, fun x => by simp [setK]⟩
  | m :: M, acc, h => by
    obtain ⟨h1, h2⟩ := setK_ok M (insK m acc) (insK_sorted h)
    refine ⟨h1, fun x => ?_⟩
    show x ∈ setK M (insK m acc) ↔ _
    rw [h2, insK_mem, List.mem_cons]
    constructor
    · rintro ((h | h) | h)
      · exact .inr (.inl h)
      · exact .inl h
      · exact .inr (.inr h)
    · rintro (h | h | h)
      · exact .inl (.inr h)
      · exact .inl (.inl h)
      · exact .inr h
theorem keys_sk {K : List ByteArray} (h : areKeysB K = true) : SK K := by
  have hf := areKeysB_from h
  have go : ∀ (p : Option ByteArray) (l : List ByteArray), keysFrom p l = true → SK l := by
    intro p l
    induction l generalizing p with
    | nil => intro _; exact List.Pairwise.nil
    | cons x t ih =>
      intro hk
      simp only [keysFrom, Bool.and_eq_true] at hk
      exact List.pairwise_cons.2 ⟨fun y hy => keysFrom_less x t hk.2 y hy, ih _ hk.2⟩
  exact go none K hf
theorem sk_ext {a b : List ByteArray} (h1 : SK a) (h2 : SK b) (h : ∀ x, x ∈ a ↔ x ∈ b) : a = b :=
  ext_of (fun a b => lessS a b = true) (fun a => by rw [lessS_irrefl]; simp) (fun _ _ _ h k => lessS_trans h k) h1 h2 h
theorem ends_mem {K : List ByteArray} (h : areKeysB K = true) (x : ByteArray) : x ∈ ((nodesL (bytesL K)).map mkS).filter (hasS K) ↔ x ∈ K := by
  rw [List.mem_filter, hasS_iff]
  constructor
  · exact fun h => h.2
  · intro hx
    refine ⟨?_, hx⟩
    have hm : x.data.toList ∈ bytesL K := List.mem_map.2 ⟨x, hx, rfl⟩
    refine List.mem_map.2 ⟨x.data.toList, ?_, data_mkS x⟩
    rw [(nodesL_ok (keys_sbl h)).2]
    exact .inr ⟨by have := keys_12 h _ hm; omega, _, hm, List.prefix_refl _⟩
theorem mkS_inj {a b : Str} (h : mkS a = mkS b) : a = b := by rw [← mkS_data a, h, mkS_data]
theorem ends_nodup {K : List ByteArray} (h : areKeysB K = true) : (((nodesL (bytesL K)).map mkS).filter (hasS K)).Nodup := by
  refine List.Pairwise.filter _ ?_
  have := sll_nodup (nodesL_ok (keys_sbl h)).1
  exact List.pairwise_map.2 (this.imp fun hne e => hne (mkS_inj e))
theorem setK_ends {K : List ByteArray} (h : areKeysB K = true) : setK (((nodesL (bytesL K)).map mkS).filter (hasS K)) [] = K := by
  obtain ⟨h1, h2⟩ := setK_ok (((nodesL (bytesL K)).map mkS).filter (hasS K)) [] List.Pairwise.nil
  refine sk_ext h1 (keys_sk h) fun x => ?_
  rw [h2, ends_mem h]
  simp
theorem bytes_le_trans (a b c : Str) (h1 : decide (a ≤ b) = true) (h2 : decide (b ≤ c) = true) : decide (a ≤ c) = true := by
  rw [le_bl] at *
  cases h : Op.bytesLess c a
  · rfl
  · rcases bl_tri a b with t | t | t
    · rw [bl_trans _ _ _ h t] at h2; cases h2
    · subst t; rw [h] at h2; cases h2
    · rw [t] at h1; cases h1
theorem bytes_le_total (a b : Str) : (decide (a ≤ b) || decide (b ≤ a)) = true := by
  rw [Bool.or_eq_true, le_bl, le_bl]
  cases h : Op.bytesLess b a
  · exact .inl rfl
  · exact .inr (bl_asymm h)
theorem sortS_ends {K : List ByteArray} (h : areKeysB K = true) : sortS (((nodesL (bytesL K)).map mkS).filter (hasS K)) = K := by
  let M := ((nodesL (bytesL K)).map mkS).filter (hasS K)
  have hp := List.pairwise_mergeSort (le := fun x y : Str => decide (x ≤ y)) (fun a b c => bytes_le_trans a b c) (fun a b => bytes_le_total a b) (bytesL M)
  have hperm := List.mergeSort_perm (bytesL M) (fun x y : Str => decide (x ≤ y))
  have hn : (bytesL M).Nodup := List.pairwise_map.2 ((ends_nodup h).imp fun {a b} hne e => hne (by rw [← data_mkS a, e, data_mkS]))
  have hn2 := hperm.nodup_iff.2 hn
  have e : (bytesL M).mergeSort (fun x y : Str => decide (x ≤ y)) = bytesL K := by
    refine ext_of (fun a b : Str => Op.bytesLess a b = true) (fun a => by rw [bl_irrefl]; simp) (fun a b c h k => bl_trans a b c h k) ?_ (keys_sbl h) fun x => ?_
    · refine (hp.and hn2).imp fun {a b} hab => ?_
      rcases bl_tri a b with t | t | t
      · exact t
      · exact absurd t hab.2
      · have := le_bl.1 hab.1
        rw [t] at this; cases this
    · rw [hperm.mem_iff]
      unfold bytesL
      rw [List.mem_map, List.mem_map]
      constructor
      · rintro ⟨y, hy, rfl⟩; exact ⟨y, (ends_mem h y).1 hy, rfl⟩
      · rintro ⟨y, hy, rfl⟩; exact ⟨y, (ends_mem h y).2 hy, rfl⟩
  show ((bytesL M).mergeSort _).map _ = K
  rw [e]
  exact mk_bytesL K

theorem bitsB_pack (B : List Bool) (h : B.length ≤ 4096) : bitsB (B.length : Int) (packB B) = true := by
  obtain ⟨ok, bits⟩ := packB_ok B
  have hl := packB_len B
  unfold bitsB
  have ha : all16 (packB B) = true := by
    unfold all16
    rw [List.all_eq_true]
    intro x hx
    have := ok x hx
    simpa using this
  rw [decide_eq_true (by omega), decide_eq_true (by rw [hl]; omega), ha]
  simp only [Bool.true_and, Bool.or_eq_true, decide_eq_true_eq, beq_iff_eq]
  by_cases c : (B.length : Int) % 16 = 0
  · exact .inl c
  · right
    have hi : B.length / 16 < (packB B).length := by rw [hl]; omega
    obtain ⟨w, hw, hw2⟩ := okW_get ok hi
    have e : ((packB B).length : Int) - 1 = ((B.length : Nat) : Int) / 16 := by rw [hl]; omega
    have e2 : ((B.length : Int) % 16) = ((B.length % 16 : Nat) : Int) := by omega
    rw [e, rdN hi, hw, e2, shrN (by omega)]
    have : w < 2 ^ (B.length % 16) := by
      apply Nat.lt_pow_two_of_testBit
      intro j hj
      by_cases cj : j < 16
      · have := bits (16 * (B.length / 16) + j)
        unfold bitN at this
        rw [show (16 * (B.length / 16) + j) / 16 = B.length / 16 from by omega, show (16 * (B.length / 16) + j) % 16 = j from by omega, hw, Int.toNat_natCast, List.getD_eq_getElem?_getD, List.getElem?_eq_none (by omega)] at this
        simpa using this
      · exact Nat.testBit_lt_two_pow (Nat.lt_of_lt_of_le hw2 (by rw [show 65536 = 2 ^ 16 from rfl]; exact Nat.pow_le_pow_right (by omega) (by omega)))
    rw [Nat.div_eq_of_lt this]
    rfl

abbrev Tr : Type := Int × List Int × Int × List Int × ByteArray
def shapeB (t : Tr) : Bool := bitsB t.1 t.2.1 && (bitsB t.2.2.1 t.2.2.2.1 && (decide (t.2.2.1 ≠ 0) && (decide (t.1 = 2 * t.2.2.1 - 1) && decide ((t.2.2.2.2.size : Int) = t.2.2.1 - 1))))
def readT (lim : Bool) (t : Tr) : Option (List Str) := dec lim t.2.2.2.2.data.toList (bitsL t.1 t.2.1) 0 [[]]
def keysOf (t : Tr) (P : List Str) : List ByteArray := setK (marked t.2.2.2.1 0 (P.map mkS)) []
def endsOf (t : Tr) (P : List Str) : List ByteArray := sortS (marked t.2.2.2.1 0 (P.map mkS))
def specK (t : Tr) : List ByteArray × Bool :=
  if shapeB t = true then
    match readT false t with
    | none => ([], false)
    | some P => if (P.length : Int) = t.2.2.1 then (if areKeysB (keysOf t P) = true then (keysOf t P, decide (trieV (keysOf t P) = t)) else ([], false)) else ([], false)
  else ([], false)
def implN (t : Tr) : List ByteArray :=
  if shapeB t = true then
    match readT true t with
    | none => []
    | some P => if (P.length : Int) = t.2.2.1 ∧ areKeysB (endsOf t P) = true ∧ trieV (endsOf t P) = t then P.map mkS else []
  else []
theorem lab1_str (N : List Str) : (strOfNums (lab1 N)).data.toList = (N.drop 1).map lastB := by
  simp [strOfNums, lab1, Function.comp_def]
theorem trie_shape {K : List ByteArray} (h : areKeysB K = true) : shapeB (trieV K) = true := by
  obtain ⟨T, hT⟩ := nodesL_tree (keys_sbl h)
  have hb := nodesL_len (bytesL K)
  have hk := areKeysB_len h
  rw [bytesL_len] at hb
  have hN : (nodesL (bytesL K)).length = T.length + 1 := by rw [hT.hd]; simp
  have hE : (encB (nodesL (bytesL K)) (nodesL (bytesL K))).length = T.length + (nodesL (bytesL K)).length := by rw [encB_len, kids_all hT]
  have hF : (endB K (nodesL (bytesL K))).length = (nodesL (bytesL K)).length := by simp [endB]
  have hL : (strOfNums (lab1 (nodesL (bytesL K)))).size = (nodesL (bytesL K)).length - 1 := by
    rw [size_len, lab1_str]; simp
  unfold shapeB trieV trieR
  simp only []
  rw [bitsB_pack _ (by omega), bitsB_pack _ (by omega), decide_eq_true (by omega), decide_eq_true (by omega), decide_eq_true (by omega)]
  rfl
theorem trie_read {K : List ByteArray} (h : areKeysB K = true) (lim : Bool) : readT lim (trieV K) = some (nodesL (bytesL K)) := by
  obtain ⟨T, hT⟩ := nodesL_tree (keys_sbl h)
  unfold readT trieV trieR
  simp only []
  rw [bitsL_pack, lab1_str]
  have : (nodesL (bytesL K)).drop 1 = T := by rw [hT.hd]; rfl
  rw [this]
  exact dec_nodes hT fun _ x hx => nodesL_short (keys_sbl h) hx
theorem trie_len (K : List ByteArray) : (((nodesL (bytesL K)).length : Nat) : Int) = (trieV K).2.2.1 := by
  simp [trieV, trieR, endB]
theorem trie_marked (K : List ByteArray) : marked (trieV K).2.2.2.1 0 ((nodesL (bytesL K)).map mkS) = ((nodesL (bytesL K)).map mkS).filter (hasS K) :=
  marked_pack K (nodesL (bytesL K)) (nodesL (bytesL K)) [] rfl
theorem specK_trie {K : List ByteArray} (h : areKeysB K = true) : specK (trieV K) = (K, true) := by
  have e : keysOf (trieV K) (nodesL (bytesL K)) = K := by unfold keysOf; rw [trie_marked, setK_ends h]
  unfold specK
  rw [if_pos (trie_shape h), trie_read h]
  simp only []
  rw [if_pos (trie_len K), e, if_pos h, decide_eq_true rfl]
theorem implN_trie {K : List ByteArray} (h : areKeysB K = true) : implN (trieV K) = (nodesL (bytesL K)).map mkS := by
  have e : endsOf (trieV K) (nodesL (bytesL K)) = K := by unfold endsOf; rw [trie_marked, sortS_ends h]
  unfold implN
  rw [if_pos (trie_shape h), trie_read h]
  simp only []
  rw [e, if_pos ⟨trie_len K, h, rfl⟩]
theorem specK_yes {t : Tr} (h : (specK t).2 = true) : areKeysB (specK t).1 = true ∧ trieV (specK t).1 = t := by
  unfold specK at h ⊢
  by_cases c : shapeB t = true
  · rw [if_pos c] at h ⊢
    cases hr : readT false t with
    | none => rw [hr] at h; simp at h
    | some P =>
      rw [hr] at h
      simp only [] at h ⊢
      by_cases c2 : (P.length : Int) = t.2.2.1
      · rw [if_pos c2] at h ⊢
        by_cases c3 : areKeysB (keysOf t P) = true
        · rw [if_pos c3] at h ⊢
          exact ⟨c3, by simpa using h⟩
        · rw [if_neg c3] at h; simp at h
      · rw [if_neg c2] at h; simp at h
  · rw [if_neg c] at h; simp at h
theorem implN_yes {t : Tr} (h : implN t ≠ []) : ∃ K, areKeysB K = true ∧ trieV K = t := by
  unfold implN at h
  by_cases c : shapeB t = true
  · rw [if_pos c] at h
    cases hr : readT true t with
    | none => rw [hr] at h; simp at h
    | some P =>
      rw [hr] at h
      simp only [] at h
      by_cases c2 : (P.length : Int) = t.2.2.1 ∧ areKeysB (endsOf t P) = true ∧ trieV (endsOf t P) = t
      · exact ⟨_, c2.2⟩
      · rw [if_neg c2] at h; simp at h
  · rw [if_neg c] at h; simp at h
theorem nodesL_ne (K : List Str) (h : SBL K) : nodesL K ≠ [] := by
  obtain ⟨T, hT⟩ := nodesL_tree h
  rw [hT.hd]; simp
theorem trie_cases (t : Tr) : (∃ K, areKeysB K = true ∧ trieV K = t ∧ specK t = (K, true) ∧ implN t = (nodesL (bytesL K)).map mkS) ∨ ((specK t).2 = false ∧ implN t = []) := by
  by_cases h : (specK t).2 = true
  · obtain ⟨h1, h2⟩ := specK_yes h
    refine .inl ⟨_, h1, h2, ?_, ?_⟩
    · conv => lhs; rw [← h2]
      exact specK_trie h1
    · conv => lhs; rw [← h2]
      exact implN_trie h1
  · by_cases h2 : implN t = []
    · exact .inr ⟨by simpa using h, h2⟩
    · obtain ⟨K, h3, rfl⟩ := implN_yes h2
      rw [specK_trie h3] at h
      simp at h
end Go.Proofs.YtalfkfddpamnjaaQ
namespace Go.Proofs.YtalfkfddpamnjaaQ
open Go Go.RowKit Go.Proofs.YtalfkfddpamnjaaW.PrintWords Go.Proofs.YtalfkfddpamnjaaW.PrintMore Go.Proofs.YtalfkfddpamnjaaGp Go.Proofs.Ytalfkfddpamnjaa.PA

theorem eqBits_f (a b : Int) (x y : List Int) (hl : (x.length : Int) ≤ 9223372036854775806) : Ev (fun k => laws_eqBits.f k a x b y) (decide (a = b ∧ x = y)) := by
  unfold laws_eqBits.f
  by_cases c : a = b
  · refine ev_pos c (ev_bind _ (eqIntS_f x y hl) ?_)
    by_cases d : x = y
    · exact ev_pos (decide_eq_true d) (ev_some (by simp [c, d]))
    · exact ev_neg (by simpa using d) (ev_some (by simp [c, d]))
  · exact ev_neg c (ev_some (by simp [c]))
theorem eqTrie_f (t u : Tr) (h1 : (t.2.1.length : Int) ≤ 9223372036854775806) (h2 : (t.2.2.2.1.length : Int) ≤ 9223372036854775806) : Ev (fun k => laws_eqTrie.f k t.1 t.2.1 t.2.2.1 t.2.2.2.1 t.2.2.2.2 u.1 u.2.1 u.2.2.1 u.2.2.2.1 u.2.2.2.2) (decide (t = u)) := by
  obtain ⟨t1, t2, t3, t4, t5⟩ := t
  obtain ⟨u1, u2, u3, u4, u5⟩ := u
  unfold laws_eqTrie.f
  simp only [Prod.mk.injEq] at h1 h2 ⊢
  refine ev_bind _ (eqBits_f _ _ _ _ h1) ?_
  by_cases c : t1 = u1 ∧ t2 = u2
  · refine ev_pos (decide_eq_true c) (ev_bind _ (eqBits_f _ _ _ _ h2) ?_)
    by_cases d : t3 = u3 ∧ t4 = u4
    · refine ev_pos (decide_eq_true d) ?_
      by_cases e : t5 = u5
      · exact ev_pos (tl_inj.2 e) (ev_some (by simp [c, d, e]))
      · exact ev_neg (fun h => e (tl_inj.1 h)) (ev_some (by simp [e]))
    · exact ev_neg (by simpa using d) (ev_some (by rw [decide_eq_false]; rintro ⟨_, _, h3, h4, _⟩; exact d ⟨h3, h4⟩))
  · exact ev_neg (by simpa using c) (ev_some (by rw [decide_eq_false]; rintro ⟨h3, h4, _⟩; exact c ⟨h3, h4⟩))
theorem eqTrie_same (nB : Int) (lB : List Int) (nE : Int) (lE : List Int) (lab : ByteArray) (hB : (lB.length : Int) ≤ 1048576) (hE : (lE.length : Int) ≤ 1048576) : Ev (fun k => laws_eqTrie.f k nB lB nE lE lab nB lB nE lE lab) true := by
  have := eqTrie_f (nB, lB, nE, lE, lab) (nB, lB, nE, lE, lab) (by simp only []; omega) (by simp only []; omega)
  rw [decide_eq_true rfl] at this
  exact this
end Go.Proofs.YtalfkfddpamnjaaQ
namespace Go.Proofs.YtalfkfddpamnjaaQ
open Go Go.RowKit Go.Proofs.YtalfkfddpamnjaaW.PrintWords Go.Proofs.YtalfkfddpamnjaaW.PrintMore Go.Proofs.YtalfkfddpamnjaaGp Go.Proofs.Ytalfkfddpamnjaa.PA

theorem trieV_small {K : List ByteArray} (h : areKeysB K = true) : ((trieV K).2.1.length : Int) ≤ 1048576 ∧ ((trieV K).2.2.2.1.length : Int) ≤ 1048576 := by
  have hsh := trie_shape h
  generalize trieV K = v at hsh ⊢
  obtain ⟨v1, v2, v3, v4, v5⟩ := v
  simp only [shapeB, Bool.and_eq_true] at hsh
  obtain ⟨_, _, q1⟩ := bitsB_len hsh.1
  obtain ⟨_, _, q2⟩ := bitsB_len hsh.2.1
  simp only []
  omega
theorem build_both (l : List ByteArray) (hl : (l.length : Int) ≤ 9223372036854775806) (hs : ∀ s ∈ l, (s.size : Int) ≤ 9223372036854775806) : ∃ (v : Tr) (ok : Bool), Ev (fun k => spec_BuildTrie.f k l) (v.1, v.2.1, v.2.2.1, v.2.2.2.1, v.2.2.2.2, ok) ∧ Ev (fun k => impl_BuildTrie.f k l) (v.1, v.2.1, v.2.2.1, v.2.2.2.1, v.2.2.2.2, ok) ∧ (v.2.1.length : Int) ≤ 1048576 ∧ (v.2.2.2.1.length : Int) ≤ 1048576 := by
  by_cases c : areKeysB l = true
  · obtain ⟨h1, h2⟩ := trieV_small c
    refine ⟨trieV l, true, ?_, ?_, h1, h2⟩
    · unfold spec_BuildTrie.f
      exact ev_bind _ (spec_biKeys_f l hl hs) (ev_pos c (ev_bind _ (spec_trOf_f l c) (Ev.now _)))
    · unfold impl_BuildTrie.f
      exact ev_bind _ (impl_AreKeys_f l hl hs) (ev_pos c (ev_bind _ (impl_trie_f l c) (Ev.now _)))
  · refine ⟨(0, [], 0, [], ⟨#[]⟩), false, ?_, ?_, by simp, by simp⟩
    · unfold spec_BuildTrie.f
      exact ev_bind _ (spec_biKeys_f l hl hs) (ev_neg c (Ev.now _))
    · unfold impl_BuildTrie.f
      exact ev_bind _ (impl_AreKeys_f l hl hs) (ev_neg c (Ev.now _))
theorem markTrie_f (a b : Int) (x y : List Int) (s : ByteArray) (n : Int) (h0 : 0 ≤ n) (h1 : n + (x.length : Int) + (y.length : Int) ≤ 4611686018427387904) :
    Ev (fun k => laws_markTrie.f k a x b y s n) (n + (x.length : Int) + (y.length : Int), counts x.length n, counts y.length (n + (x.length : Int))) := by
  unfold laws_markTrie.f laws_markBits.f
  exact ev_bind _ (ev_bind _ (markIntS_f x n h0 (by omega)) (Ev.now _)) (ev_bind _ (ev_bind _ (markIntS_f y (n + (x.length : Int)) (by omega) (by omega)) (Ev.now _)) (Ev.now _))
theorem heldTrie_f (a b : Int) (n m : Nat) (s : ByteArray) (i : Int) (h0 : 0 ≤ i) (h1 : i + (n : Int) + (m : Int) ≤ 4611686018427387904) :
    Ev (fun k => laws_heldTrie.f k a (counts n i) b (counts m (i + (n : Int))) s i) (i + (n : Int) + (m : Int)) := by
  unfold laws_heldTrie.f laws_heldBits.f
  exact ev_bind _ (ev_bind _ (heldIntS_f n i h0 (by omega)) (ev_neg (by omega) (Ev.now _))) (ev_neg (by omega) (ev_bind _ (ev_bind _ (heldIntS_f m (i + (n : Int)) (by omega) (by omega)) (ev_neg (by omega) (Ev.now _))) (ev_neg (by omega) (Ev.now _))))
end Go.Proofs.YtalfkfddpamnjaaQ
namespace Go.Proofs.Ytalfkfddpamnjaa.Pure
open Go Go.RowKit Go.Proofs.YtalfkfddpamnjaaW.PrintWords Go.Proofs.YtalfkfddpamnjaaW.PrintMore Go.Proofs.YtalfkfddpamnjaaGp Go.Proofs.Ytalfkfddpamnjaa.PA Go.Proofs.YtalfkfddpamnjaaQ

theorem FnExactBuildTrie : laws_FnExactBuildTrie.Pure := by
  intro l hl hs
  refine Ev.rounds (r := true) ?_
  unfold laws_FnExactBuildTrie.f
  refine ev_bind _ (szStringS_f l 1048576 hl hs (by omega) (by omega)) ?_
  by_cases c : left1 1048576 l < 0
  · exact ev_pos c (Ev.now _)
  · obtain ⟨_, hz⟩ := left1_ok c
    have hp := sumSz_nonneg l
    have hl' : (l.length : Int) ≤ 1048576 := by omega
    have hs' : ∀ s ∈ l, (s.size : Int) ≤ 9223372036854775806 := fun s h => by have := size_le_sumSz h; omega
    have hT := toStringS_f l hl'
    obtain ⟨v, ok, hS, hI, h1, h2⟩ := build_both l (by omega) hs'
    obtain ⟨v1, v2, v3, v4, v5⟩ := v
    simp only [] at h1 h2
    refine ev_neg c (ev_bind _ hT (ev_bind _ hS (ev_bind _ hT (ev_bind _ hI ?_))))
    have hE := eqTrie_same v1 v2 v3 v4 v5 h1 h2
    refine ev_bind _ hE (ev_pos rfl (ev_succ ?_))
    simp only [laws_FnExactBuildTrie.j0, bne_self_eq_false, Bool.false_eq_true, if_false]
    refine ev_bind _ hT (ev_bind true (by simpa using eqStringS_f l l (by omega)) (ev_pos rfl (ev_bind _ (markStringS_f l 1 (by omega) (by omega)) (ev_neg (by simp only; omega) (ev_bind _ hE (ev_pos rfl (ev_succ ?_)))))))
    simp only [laws_FnExactBuildTrie.j1, Bool.false_eq_true, if_false]
    refine ev_bind _ (markTrie_f v1 v3 v2 v4 v5 1 (by omega) (by omega)) (ev_bind _ (heldTrie_f v1 v3 v2.length v4.length v5 1 (by omega) (by omega)) (ev_neg (by omega) (ev_pos rfl (ev_bind _ hT (ev_bind _ hI (ev_bind _ hE (ev_pos rfl (ev_succ ?_))))))))
    simp only [laws_FnExactBuildTrie.j2, bne_self_eq_false, Bool.false_eq_true, if_false]
    exact ev_bind _ (heldTrie_f v1 v3 v2.length v4.length v5 1 (by omega) (by omega)) (ev_neg (by omega) (ev_pos rfl (Ev.now _)))
end Go.Proofs.Ytalfkfddpamnjaa.Pure
