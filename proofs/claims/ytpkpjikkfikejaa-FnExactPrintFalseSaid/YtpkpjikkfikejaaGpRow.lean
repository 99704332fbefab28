/- How arguments of the rows are opened to plain data: numbers, strings, slices of numbers and of strings, structs of these. -/
import Derived.Test.YtpkpjikkfikejaaWWords
import Derived.ProofKit
import Derived.SliceStrings
import Derived.ChangeSlices
namespace Go.Proofs.YtpkpjikkfikejaaGp
open Go Go.ChangeShapes Go.WideShapes Go.RowKit Go.Proofs.YtpkpjikkfikejaaW.PrintWords
open Go.WideElems
section
variable {H : Type} {enc : TypeId × Value → H} {P : Program} {w : World} {base : Nat} {held : Bool}

theorem struct_field {spare : Nat → Bool} {t : TypeId} {fuel : Nat} {cs : List Value} {x : DataW H × List MemPlace} {fs : Array Field} (ht : P.underlying t = some (.struct fs)) (h : DataW.trod enc P w base spare held fuel t cs = some x)
    (i : Nat) {f : Field} (hf : fs[i]? = some f) {c : Nat} (hc : P.cellsOf f.type = c) :
    ∃ n y, DataW.trod enc P w base spare held n f.type ((cs.drop f.offset).take c) = some y := by
  obtain ⟨xs, n, _, _, _, hl, hg⟩ := DataW.trod_struct ht h
  have hi : i < xs.length := by rw [hl]; exact (Array.getElem?_eq_some_iff.1 hf).1
  have h1 := hg i f hf
  rw [hc, List.getElem?_eq_getElem hi] at h1
  exact ⟨n, _, h1⟩

theorem leaf_int {spare : Nat → Bool} {t : TypeId} {fuel : Nat} {c : Value} {x : DataW H × List MemPlace} {k : IntKind} (ht : P.underlying t = some (.int k)) (h : DataW.trod enc P w base spare held fuel t [c] = some x) :
    ∃ n, c = .int k n ∧ (Lit.int k n).wf = true := by
  obtain ⟨n, e, _, hw⟩ := DataW.trod_int ht h
  exact ⟨n, by simpa using e, hw⟩

theorem leaf_bool {spare : Nat → Bool} {t : TypeId} {fuel : Nat} {c : Value} {x : DataW H × List MemPlace} (ht : P.underlying t = some .bool) (h : DataW.trod enc P w base spare held fuel t [c] = some x) :
    ∃ b, c = .bool b := by
  obtain ⟨b, e, _⟩ := DataW.trod_bool ht h
  exact ⟨b, by simpa using e⟩

theorem leaf_str {spare : Nat → Bool} {t : TypeId} {fuel : Nat} {c : Value} {x : DataW H × List MemPlace} (ht : P.underlying t = some .string) (h : DataW.trod enc P w base spare held fuel t [c] = some x) :
    ∃ s, c = .string s ∧ s.size ≤ maxLen := by
  obtain ⟨s, e, _, hw⟩ := DataW.trod_string ht h
  exact ⟨s, by simpa using e, hw⟩

theorem leaf_ints {t e : TypeId} {fuel : Nat} {c : Value} {x : DataW H × List MemPlace} {k : IntKind} (ht : P.underlying t = some (.slice e)) (he : P.underlying e = some (.int k)) (hc : P.cellsOf e = 1)
    (h : DataW.trod enc P w base (fun _ => true) held fuel t [c] = some x) :
    ∃ (A : Option Addr) (l : List Int) (cap : Nat), c = .slice A l.length cap ∧ (Kd.int k).C w A l.length l ∧ l.length ≤ cap ∧ l.length ≤ maxLen ∧ ∀ n ∈ l, (Lit.int k n).wf = true := by
  rcases open_ints ht he hc h with ⟨hcs, _⟩ | ⟨a, len, cap, zs, hcs, _, hl, hm, hz, _, hcell, hw⟩
  · obtain rfl : c = .slice none 0 0 := by simpa using hcs
    obtain ⟨l, e, hr, h1, h2, h3⟩ := ReadsInt.ofRowC (k := k) (w := w) (a := none) (len := 0) (cap := 0) (zs := []) (.inl ⟨rfl, rfl, rfl, rfl⟩)
    refine ⟨none, l, 0, by rw [← e], Kd.C_of_reads (d := (0 : Int)) (h1 := fun _ => rfl) hr, h3, h1, h2⟩
  · obtain rfl : c = .slice (some a) len cap := by simpa using hcs
    obtain ⟨l, e, hr, h1, h2, h3⟩ := ReadsInt.ofRowC (k := k) (w := w) (a := some a) (len := len) (cap := cap) (zs := zs) (.inr ⟨a, rfl, hl, hm, by simpa using hz, hcell, hw⟩)
    subst e
    exact ⟨some a, l, cap, rfl, Kd.C_of_reads (d := (0 : Int)) (h1 := fun _ => rfl) hr, h3, h1, h2⟩

theorem leaf_strs {t e : TypeId} {fuel : Nat} {c : Value} {x : DataW H × List MemPlace} (ht : P.underlying t = some (.slice e)) (he : P.underlying e = some .string) (hc : P.cellsOf e = 1)
    (h : DataW.trod enc P w base (fun _ => true) held fuel t [c] = some x) :
    ∃ (A : Option Addr) (l : List ByteArray) (cap : Nat), c = .slice A l.length cap ∧ Kd.string.C w A l.length l ∧ l.length ≤ cap ∧ l.length ≤ maxLen ∧ ∀ s ∈ l, s.size ≤ maxLen := by
  rcases open_strings ht he hc h with ⟨hcs, _⟩ | ⟨a, len, cap, ss, hcs, _, hl, hm, hz, _, hcell, hw⟩
  · obtain rfl : c = .slice none 0 0 := by simpa using hcs
    refine ⟨none, [], 0, rfl, Kd.C_of_reads (d := ByteArray.empty) (h1 := fun _ => rfl) ⟨rfl, by simp, fun hn => absurd hn (by simp)⟩, Nat.le_refl _, Nat.zero_le _, fun s hs => by simp at hs⟩
  · obtain rfl : c = .slice (some a) len cap := by simpa using hcs
    simp only [if_true] at hz
    have e : (ss.take len).length = len := by simp; omega
    refine ⟨some a, ss.take len, cap, by rw [e], Kd.C_of_reads (d := ByteArray.empty) (h1 := fun _ => rfl) ⟨rfl, ?_, fun _ => ⟨a, rfl, fun j hj => ?_⟩⟩, by rw [e]; exact hl, by rw [e]; exact Nat.le_trans hl hm, fun s hs => hw s (List.mem_of_mem_take hs)⟩
    · rw [e]; have := Nat.le_trans hl hm; simpa [maxLen] using this
    · rw [e] at hj
      rw [hcell j (by omega)]
      simp [List.getD, hj]
theorem trod_agg {spare : Nat → Bool} {t : TypeId} {fuel : Nat} {l : List Value} {x : Option (DataW H × List MemPlace)} (h : DataW.trod enc P w base spare held fuel t (Value.agg ⟨l⟩).cells.toList = x) :
    DataW.trod enc P w base spare held fuel t l = x := by simpa [Value.cells] using h
end
theorem arr1 {cs : Array Value} (h : cs.size = 1) : ∃ c0, cs = #[c0] := by
  obtain ⟨l⟩ := cs
  match l, h with
  | [c0], _ => exact ⟨_, rfl⟩
theorem arr2 {cs : Array Value} (h : cs.size = 2) : ∃ c0 c1, cs = #[c0, c1] := by
  obtain ⟨l⟩ := cs
  match l, h with
  | [c0, c1], _ => exact ⟨_, _, rfl⟩
theorem arr3 {cs : Array Value} (h : cs.size = 3) : ∃ c0 c1 c2, cs = #[c0, c1, c2] := by
  obtain ⟨l⟩ := cs
  match l, h with
  | [c0, c1, c2], _ => exact ⟨_, _, _, rfl⟩
theorem arr4 {cs : Array Value} (h : cs.size = 4) : ∃ c0 c1 c2 c3, cs = #[c0, c1, c2, c3] := by
  obtain ⟨l⟩ := cs
  match l, h with
  | [c0, c1, c2, c3], _ => exact ⟨_, _, _, _, rfl⟩
theorem arr5 {cs : Array Value} (h : cs.size = 5) : ∃ c0 c1 c2 c3 c4, cs = #[c0, c1, c2, c3, c4] := by
  obtain ⟨l⟩ := cs
  match l, h with
  | [c0, c1, c2, c3, c4], _ => exact ⟨_, _, _, _, _, rfl⟩
theorem arr6 {cs : Array Value} (h : cs.size = 6) : ∃ c0 c1 c2 c3 c4 c5, cs = #[c0, c1, c2, c3, c4, c5] := by
  obtain ⟨l⟩ := cs
  match l, h with
  | [c0, c1, c2, c3, c4, c5], _ => exact ⟨_, _, _, _, _, _, rfl⟩
theorem arr7 {cs : Array Value} (h : cs.size = 7) : ∃ c0 c1 c2 c3 c4 c5 c6, cs = #[c0, c1, c2, c3, c4, c5, c6] := by
  obtain ⟨l⟩ := cs
  match l, h with
  | [c0, c1, c2, c3, c4, c5, c6], _ => exact ⟨_, _, _, _, _, _, _, rfl⟩
theorem arr8 {cs : Array Value} (h : cs.size = 8) : ∃ c0 c1 c2 c3 c4 c5 c6 c7, cs = #[c0, c1, c2, c3, c4, c5, c6, c7] := by
  obtain ⟨l⟩ := cs
  match l, h with
  | [c0, c1, c2, c3, c4, c5, c6, c7], _ => exact ⟨_, _, _, _, _, _, _, _, rfl⟩
end Go.Proofs.YtpkpjikkfikejaaGp
