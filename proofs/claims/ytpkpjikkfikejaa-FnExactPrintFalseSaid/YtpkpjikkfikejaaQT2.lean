/- Tables: the value of a key, its print, and PrintFalse. -/
import Derived.Test.YtpkpjikkfikejaaPAx40
import Derived.Test.YtpkpjikkfikejaaPAx41
import Derived.Test.YtpkpjikkfikejaaQT1
namespace Go.Proofs.YtpkpjikkfikejaaQ
open Go Go.RowKit Go.Proofs.YtpkpjikkfikejaaW.PrintWords Go.Proofs.YtpkpjikkfikejaaGp Go.Proofs.Ytpkpjikkfikejaa.PA

/-! ### values -/
theorem xor_zero {v : Int} (h0 : 0 ≤ v) (h1 : v ≤ 1000000) : Go.bits .xor .i64 0 v = v := by
  have e : Go.bits .xor .i64 0 v = IntKind.i64.wrap (((BitVec.ofInt 64 0 ^^^ BitVec.ofInt 64 v : BitVec 64)).toNat : Int) := by unfold Go.bits; rfl
  have z : (BitVec.ofInt 64 0 ^^^ BitVec.ofInt 64 v : BitVec 64) = BitVec.ofInt 64 v := by
    rw [show (BitVec.ofInt 64 0 : BitVec 64) = 0#64 from rfl, BitVec.zero_xor]
  have n : ((BitVec.ofInt 64 v).toNat : Int) = v := by
    rw [BitVec.toNat_ofInt]
    have : ((2 ^ 64 : Nat) : Int) = 18446744073709551616 := by decide
    rw [this]
    omega
  rw [e, z, n]
  have w : IntKind.i64.wrap v = if v % 18446744073709551616 ≥ 9223372036854775808 then v % 18446744073709551616 - 18446744073709551616 else v % 18446744073709551616 := by
    unfold IntKind.wrap
    simp [IntKind.bits, IntKind.signed]
  rw [w]
  split <;> omega
def xorL (l : List Int) (a : Int) (ps : List Int) : Int := ps.foldl (fun a p => Go.bits .xor .i64 a (rd l p)) a
theorem spec_reValue_l0 (a0 n w : Int) (l : List Int) (x20 : List Int) (hl : (x20.length : Int) ≤ 9223372036854775806) : ∀ (t pre : List Int) (a : Int), x20 = pre ++ t → (∀ p ∈ t, 0 ≤ p ∧ p < (l.length : Int)) →
    Ev (fun k => spec_reValue.l0 k a x20 (x20.length : Int) (pre.length : Int) a0 n w l) (xorL l a t) := by
  intro t
  induction t with
  | nil =>
    intro pre a e hp
    refine ev_succ ?_
    simp only [spec_reValue.l0]
    exact ev_neg (by rw [e]; exact not_lt_end) (ev_some rfl)
  | cons s t ih =>
    intro pre a e hp
    have hm : ((pre.length : Nat) : Int) < (x20.length : Int) := by rw [e]; exact lt_mid
    have hg : rd x20 (pre.length : Int) = s := by rw [e]; exact rd_mid
    obtain ⟨p0, p1⟩ := hp s (by simp)
    refine ev_succ ?_
    simp only [spec_reValue.l0, hg]
    refine ev_pos hm (ev_pos (by omega) (ev_pos hm (ev_pos p0 (ev_pos p1 ?_))))
    rw [winc (by omega)]
    have := ih (pre ++ [s]) (Go.bits .xor .i64 a (rd l s)) (by rw [e]; simp) (fun p h => hp p (by simp [h]))
    rw [len_one] at this
    exact this
def saysT (a0 n w : Int) (l : List Int) (s : ByteArray) : Bool := xorL l 0 (tripL a0 s n 3 0) == placeV a0 9 s (topV w)
theorem rd_mem {l : List Int} {p : Int} (h0 : 0 ≤ p) (h1 : p < (l.length : Int)) : rd l p ∈ l := by
  have h : p.toNat < l.length := by omega
  have e : rd l p = l[p.toNat] := by
    have := rd_get (xs := l) h
    rwa [Int.toNat_of_nonneg h0] at this
  rw [e]
  exact List.getElem_mem h
section
variable {a0 n w : Int} {l : List Int} (hB : tableB a0 n w l = true) {s : ByteArray} (hz : (s.size : Int) ≤ 9223372036854775806)
include hB hz
theorem spec_fiPrints_f : Ev (fun k => spec_fiPrints.f k a0 n w l s) (saysT a0 n w l s) := by
  obtain ⟨⟨p0, p1⟩, ⟨p2, p3⟩, ⟨p4, p5⟩, p6, p7⟩ := tableB_ok hB
  unfold spec_fiPrints.f spec_fiPrint.f spec_reTop.f spec_reValue.f
  refine ev_bind (xorL l 0 (tripL a0 s n 3 0)) (ev_bind _ (spec_peTriple_f a0 n s hz p0 (by omega)) ?_) ?_
  · exact spec_reValue_l0 a0 n w l (tripL a0 s n 3 0) (by simp [tripL]) (tripL a0 s n 3 0) [] 0 rfl (fun p h => by
      have := tripL_range a0 s p2 p3 p h
      omega)
  · rw [if_pos (show 0 ≤ w by omega)]
    simp only [Option.bind_some]
    exact ev_bind (placeV a0 9 s (topV w)) (ev_bind _ (spec_biPlace_f a0 9 s (topV w) hz p0 (by omega) (by omega) (by omega)) (Ev.now _)) (ev_some rfl)
theorem impl_Table_of_f : Ev (fun k => impl_Table_of.f k a0 n w l s) (xorL l 0 (tripL a0 s n 3 0)) := by
  obtain ⟨⟨p0, p1⟩, ⟨p2, p3⟩, ⟨p4, p5⟩, p6, p7⟩ := tableB_ok hB
  unfold impl_Table_of.f
  refine ev_bind _ (impl_threePlaces_f a0 n s hz p0 (by omega)) ?_
  have hr := tripL_range a0 s p2 p3
  generalize ht : tripL a0 s n 3 0 = T at *
  obtain ⟨x, y, z, rfl⟩ : ∃ x y z, T = [x, y, z] := ⟨_, _, _, ht.symm⟩
  have hx := hr x (by simp)
  have hy := hr y (by simp)
  have hz' := hr z (by simp)
  have hv := p7 _ (rd_mem (l := l) hx.1 (by omega))
  have e : impl_Table_value.f a0 n w l [x, y, z] = some (xorL l 0 [x, y, z]) := by
    have r0 : rd [x, y, z] 0 = x := rfl
    have r1 : rd [x, y, z] 1 = y := rfl
    have r2 : rd [x, y, z] 2 = z := rfl
    unfold impl_Table_value.f
    rw [r0, r1, r2, if_pos (by simp), if_pos hx.1, if_pos (by omega), if_pos (by simp), if_pos hy.1, if_pos (by omega), if_pos (by simp), if_pos hz'.1, if_pos (by omega)]
    simp only [xorL, List.foldl_cons, List.foldl_nil]
    rw [xor_zero hv.1 (by omega)]
  rw [e]
  exact ev_bind _ (Ev.now _) (Ev.now _)
theorem impl_Table_says_f : Ev (fun k => impl_Table_says.f k a0 n w l s) (saysT a0 n w l s) := by
  obtain ⟨⟨p0, p1⟩, ⟨p2, p3⟩, ⟨p4, p5⟩, p6, p7⟩ := tableB_ok hB
  unfold impl_Table_says.f
  refine ev_bind _ (impl_Table_of_f hB hz) (ev_pos (by omega) ?_)
  exact ev_bind (placeV a0 9 s (topV w)) (impl_place_f a0 9 s (topV w) hz p0 (by omega) (by omega) (by omega)) (ev_some rfl)
end

/-! ### PrintFalse -/
theorem spec_PrintFalse_l0 {a0 n w : Int} {l : List Int} (hB : tableB a0 n w l = true) (ks : List ByteArray) (hk : (ks.length : Int) ≤ 9223372036854775806) (x0 : List ByteArray) (hx : x0.length ≤ 300) : ∀ (t pre : List ByteArray) (acc : List Int), x0 = pre ++ t → (∀ s ∈ t, (s.size : Int) ≤ 9223372036854775806) → acc.length ≤ pre.length →
    Ev (fun k => spec_PrintFalse.l0 k ks acc x0 (x0.length : Int) (pre.length : Int) a0 n w l) (acc ++ wrongL (saysT a0 n w l) ks t pre.length, true) := by
  intro t
  induction t with
  | nil =>
    intro pre acc h hs ha
    refine ev_succ ?_
    simp only [spec_PrintFalse.l0]
    exact ev_neg (by rw [h]; exact not_lt_end) (ev_some (by simp [wrongL]))
  | cons x t ih =>
    intro pre acc h hs ha
    have hm : ((pre.length : Nat) : Int) < (x0.length : Int) := by rw [h]; exact lt_mid
    have hg : rdOf ByteArray.empty x0 (pre.length : Int) = x := by rw [h]; exact rdOf_mid
    have e : wrongL (saysT a0 n w l) ks (x :: t) pre.length = if hasS ks x = true then wrongL (saysT a0 n w l) ks t (pre ++ [x]).length else if saysT a0 n w l x = true then (pre.length : Int) :: wrongL (saysT a0 n w l) ks t (pre ++ [x]).length else wrongL (saysT a0 n w l) ks t (pre ++ [x]).length := by simp [wrongL]
    have hI := fun acc ha => ih (pre ++ [x]) acc (by rw [h]; simp) (fun s h => hs s (by simp [h])) ha
    rw [e]
    refine ev_succ ?_
    simp only [spec_PrintFalse.l0, hg]
    refine ev_pos hm (ev_pos (by omega) (ev_pos hm (ev_bind _ (spec_l1HasS_f ks x hk) ?_)))
    rw [winc (by omega), ← len_one]
    by_cases c : hasS ks x = true
    · rw [if_pos c]
      exact ev_pos c (hI acc (by simp; omega))
    · rw [if_neg c]
      refine ev_neg c (ev_bind _ (spec_fiPrints_f hB (hs x (by simp))) ?_)
      by_cases c2 : saysT a0 n w l x = true
      · rw [if_pos c2]
        refine ev_pos c2 (ev_pos (by omega) ?_)
        have := hI (acc ++ [(pre.length : Int)]) (by simp; omega)
        rw [List.append_assoc] at this
        exact this
      · rw [if_neg c2]
        exact ev_neg c2 (hI acc (by simp; omega))
theorem impl_wrongT_l0 {a0 n w : Int} {l : List Int} (hB : tableB a0 n w l = true) (ks : List ByteArray) (hk : (ks.length : Int) ≤ 9223372036854775806) (x0 : List ByteArray) (hx : x0.length ≤ 300) : ∀ (t pre : List ByteArray) (acc : List Int), x0 = pre ++ t → (∀ s ∈ t, (s.size : Int) ≤ 9223372036854775806) → acc.length ≤ pre.length →
    Ev (fun k => impl_wrong_at_impl_Table_says.l0 k ks acc x0 (x0.length : Int) (pre.length : Int) a0 n w l) (acc ++ wrongL (saysT a0 n w l) ks t pre.length) := by
  intro t
  induction t with
  | nil =>
    intro pre acc h hs ha
    refine ev_succ ?_
    simp only [impl_wrong_at_impl_Table_says.l0]
    exact ev_neg (by rw [h]; exact not_lt_end) (ev_some (by simp [wrongL]))
  | cons x t ih =>
    intro pre acc h hs ha
    have hm : ((pre.length : Nat) : Int) < (x0.length : Int) := by rw [h]; exact lt_mid
    have hg : rdOf ByteArray.empty x0 (pre.length : Int) = x := by rw [h]; exact rdOf_mid
    have e : wrongL (saysT a0 n w l) ks (x :: t) pre.length = if hasS ks x = true then wrongL (saysT a0 n w l) ks t (pre ++ [x]).length else if saysT a0 n w l x = true then (pre.length : Int) :: wrongL (saysT a0 n w l) ks t (pre ++ [x]).length else wrongL (saysT a0 n w l) ks t (pre ++ [x]).length := by simp [wrongL]
    have hI := fun acc ha => ih (pre ++ [x]) acc (by rw [h]; simp) (fun s h => hs s (by simp [h])) ha
    rw [e]
    refine ev_succ ?_
    simp only [impl_wrong_at_impl_Table_says.l0, hg]
    refine ev_pos hm (ev_pos (by omega) (ev_pos hm (ev_bind _ (slices_Contains_string_string_f ks x hk) ?_)))
    rw [winc (by omega), ← len_one]
    by_cases c : hasS ks x = true
    · rw [if_pos c]
      exact ev_pos c (hI acc (by simp; omega))
    · rw [if_neg c]
      refine ev_neg c (ev_bind _ (impl_Table_says_f hB (hs x (by simp))) ?_)
      by_cases c2 : saysT a0 n w l x = true
      · rw [if_pos c2]
        refine ev_pos c2 (ev_pos (by omega) ?_)
        have := hI (acc ++ [(pre.length : Int)]) (by simp; omega)
        rw [List.append_assoc] at this
        exact this
      · rw [if_neg c2]
        exact ev_neg c2 (hI acc (by simp; omega))
def printFalseV (a0 n w : Int) (l : List Int) (ks ts : List ByteArray) : List Int × Bool :=
  if (tableB a0 n w l && (areKeysB ks && textsB ts)) = true then (wrongL (saysT a0 n w l) ks ts 0, true) else ([], false)
theorem printFalseV_len (a0 n w : Int) (l : List Int) (ks ts : List ByteArray) : (printFalseV a0 n w l ks ts).1.length ≤ 300 := by
  unfold printFalseV
  split
  · rename_i h
    rw [Bool.and_eq_true, Bool.and_eq_true] at h
    have := textsB_len h.2.2
    have := wrongL_len (saysT a0 n w l) ks ts 0
    simp only
    omega
  · simp
section
variable (a0 n w : Int) (l : List Int) (ks ts : List ByteArray) (hk : (ks.length : Int) ≤ 9223372036854775806) (hks : ∀ s ∈ ks, (s.size : Int) ≤ 9223372036854775806) (hts : ∀ s ∈ ts, (s.size : Int) ≤ 9223372036854775806) (hl : (l.length : Int) ≤ 9223372036854775806)
include hk hks hts hl
theorem spec_PrintFalse_f (ht : (ts.length : Int) ≤ 9223372036854775806) : Ev (fun k => spec_PrintFalse.f k a0 n w l ks ts) (printFalseV a0 n w l ks ts) := by
  unfold spec_PrintFalse.f
  refine ev_bind _ (spec_reTable_f a0 n w l hl) ?_
  by_cases c : tableB a0 n w l = true
  · refine ev_pos c (ev_bind _ (spec_biKeys_f ks hk hks) ?_)
    by_cases c2 : areKeysB ks = true
    · refine ev_pos c2 (ev_bind _ (spec_fiKeys_f ts ht hts) (ev_succ ?_))
      simp only [spec_PrintFalse.j0]
      by_cases c3 : textsB ts = true
      · refine ev_neg (by simp [c3]) ?_
        have := spec_PrintFalse_l0 c ks hk ts (textsB_len c3) ts [] [] rfl hts (by simp)
        simpa [printFalseV, c, c2, c3] using this
      · exact ev_pos (by simp [c3]) (ev_some (by simp [printFalseV, c3]))
    · refine ev_neg c2 (ev_succ ?_)
      simp only [spec_PrintFalse.j0]
      exact ev_pos (by trivial) (ev_some (by simp [printFalseV, c2]))
  · refine ev_neg c (ev_succ ?_)
    simp only [spec_PrintFalse.j0]
    exact ev_pos (by trivial) (ev_some (by simp [printFalseV, c]))
theorem impl_PrintFalse_f : Ev (fun k => impl_PrintFalse.f k a0 n w l ks ts) (printFalseV a0 n w l ks ts) := by
  unfold impl_PrintFalse.f
  refine ev_bind _ (impl_IsTable_f a0 n w l hl) ?_
  by_cases c : tableB a0 n w l = true
  · refine ev_pos c (ev_bind _ (impl_AreKeys_f ks hk hks) ?_)
    by_cases c2 : areKeysB ks = true
    · refine ev_pos c2 (ev_bind _ (impl_areTexts_f ts hts) ?_)
      by_cases c3 : textsB ts = true
      · refine ev_pos c3 (ev_bind (wrongL (saysT a0 n w l) ks ts 0) ?_ (ev_some (by simp [printFalseV, c, c2, c3])))
        unfold impl_wrong_at_impl_Table_says.f
        have := impl_wrongT_l0 c ks hk ts (textsB_len c3) ts [] [] rfl hts (by simp)
        exact this
      · exact ev_neg c3 (ev_some (by simp [printFalseV, c3]))
    · exact ev_neg c2 (ev_some (by simp [printFalseV, c2]))
  · exact ev_neg c (ev_some (by simp [printFalseV, c]))
end
end Go.Proofs.YtpkpjikkfikejaaQ
