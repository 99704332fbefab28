import Derived.Test.YtpkpjikkfikejaaCN1
import Derived.Test.YtpkpjikkfikejaaCN2
import Derived.Test.YtpkpjikkfikejaaCN4
import Derived.Test.YtpkpjikkfikejaaCN5
import Derived.Test.YtpkpjikkfikejaaCN6
import Derived.Test.YtpkpjikkfikejaaCN3
namespace Go.Proofs.YtpkpjikkfikejaaQ
open Go Go.RowKit Go.Proofs.YtpkpjikkfikejaaW.PrintWords Go.Proofs.YtpkpjikkfikejaaW.PrintMore Go.Proofs.YtpkpjikkfikejaaGp Go.Proofs.Ytpkpjikkfikejaa.PN Go.Proofs.Ytpkpjikkfikejaa.Pure

theorem bitN_blankV (n : Int) (q : Nat) : bitN (blankV n) q = false := by
  unfold bitN blankV
  rw [List.getD_eq_getElem?_getD, List.getElem?_replicate]
  split <;> simp
theorem okW_blankV (n : Int) : okW (blankV n) := fun w hw => by rw [List.eq_of_mem_replicate hw]; omega
theorem bitsB_top {n : Int} {l : List Int} (h : bitsB n l = true) {q : Nat} (hq : bitN l q = true) : (q : Int) < n := by
  obtain ⟨n0, n1, hlen⟩ := bitsB_len h
  have hl : okW l := by
    simp only [bitsB, Bool.and_eq_true] at h
    exact all16_ok.1 h.2.2.1
  by_cases c : (q : Int) < n
  · exact c
  exfalso
  by_cases hw : q / 16 < l.length
  · have hk : l.length = q / 16 + 1 := by omega
    have hm : ¬ n % 16 = 0 := by omega
    simp only [bitsB, Bool.and_eq_true, decide_eq_true_eq, Bool.or_eq_true, beq_iff_eq] at h
    have hz := h.2.2.2.resolve_left hm
    obtain ⟨w, hw2, hw3⟩ := okW_get hl hw
    have rv : rd l ((q / 16 : Nat) : Int) = (w : Int) := by rw [← hw2]; rfl
    rw [show (l.length : Int) - 1 = ((q / 16 : Nat) : Int) from by omega, rv, show n % 16 = (((n % 16).toNat : Nat) : Int) from by omega, shrN (by omega)] at hz
    have hlt : w < 2 ^ (n % 16).toNat := by
      have hz' : w / 2 ^ (n % 16).toNat = 0 := by omega
      rcases (Nat.div_eq_zero_iff).1 hz' with e | e
      · have := Nat.two_pow_pos (n % 16).toNat
        omega
      · exact e
    unfold bitN at hq
    rw [hw2, Int.toNat_natCast] at hq
    have : w.testBit (q % 16) = false := Nat.testBit_lt_two_pow (Nat.lt_of_lt_of_le hlt (Nat.pow_le_pow_right (by omega) (by omega)))
    rw [this] at hq; cases hq
  · unfold bitN at hq
    rw [List.getD_eq_getElem?_getD, List.getElem?_eq_none (by omega)] at hq
    simp at hq
theorem andN_zero {w v : Nat} (hw : w < 65536) (h : Go.bits .andNot .i64 (w : Int) (v : Int) = 0) {j : Nat} (hj : j < 64) (hb : w.testBit j = true) : v.testBit j = true := by
  have e : Go.bits .andNot .i64 (w : Int) (v : Int) = IntKind.i64.wrap (((BitVec.ofInt 64 (w : Int) &&& ~~~ BitVec.ofInt 64 (v : Int) : BitVec 64)).toNat : Int) := by unfold Go.bits; rfl
  rw [e] at h
  have hle : (BitVec.ofInt 64 (w : Int) &&& ~~~ BitVec.ofInt 64 (v : Int) : BitVec 64).toNat < 65536 := by
    rw [BitVec.toNat_and]
    have h1 : (BitVec.ofInt 64 (w : Int)).toNat = w := by
      rw [BitVec.ofInt_natCast, BitVec.toNat_ofNat, Nat.mod_eq_of_lt (by rw [two64]; omega)]
    rw [h1]
    exact Nat.lt_of_le_of_lt Nat.and_le_left hw
  have two62' : (2 : Int) ^ 62 = 4611686018427387904 := by decide
  rw [wraps_i64 _ (by omega) (by rw [two62']; omega)] at h
  have hz : (BitVec.ofInt 64 (w : Int) &&& ~~~ BitVec.ofInt 64 (v : Int) : BitVec 64) = 0#64 := by
    apply BitVec.eq_of_toNat_eq
    simp only [BitVec.toNat_ofNat]
    omega
  have := congrArg (fun x : BitVec 64 => x.getLsbD j) hz
  rw [BitVec.ofInt_natCast, BitVec.ofInt_natCast] at this
  simp only [BitVec.getLsbD_and, BitVec.getLsbD_not, BitVec.getLsbD_ofNat, hj, decide_true, Bool.true_and, hb] at this
  simpa using this

def aliB (a0 a1 a2 : Int) (l : List Int) (b0 b1 b2 : Int) (l' : List Int) : Bool := isBloomB a0 a1 a2 l && (isBloomB b0 b1 b2 l' && (decide (a0 = b0) && (decide (a1 = b1) && decide (a2 = b2))))
theorem aliB_ok {a0 a1 a2 : Int} {l : List Int} {b0 b1 b2 : Int} {l' : List Int} (h : aliB a0 a1 a2 l b0 b1 b2 l' = true) : isBloomB a0 a1 a2 l = true ∧ isBloomB b0 b1 b2 l' = true ∧ b0 = a0 ∧ b1 = a1 ∧ b2 = a2 := by
  simp only [aliB, Bool.and_eq_true, decide_eq_true_eq] at h
  exact ⟨h.1, h.2.1, h.2.2.1.symm, h.2.2.2.1.symm, h.2.2.2.2.symm⟩
section
variable (a0 a1 a2 : Int) (l : List Int) (b0 b1 b2 : Int) (l' : List Int)
theorem impl_alike_f : Ev (fun k => impl_alike.f k a0 a1 a2 l b0 b1 b2 l') (aliB a0 a1 a2 l b0 b1 b2 l') := by
  unfold impl_alike.f
  refine ev_bind _ (impl_IsBloom_f a0 a1 a2 l) ?_
  by_cases c : isBloomB a0 a1 a2 l = true
  · refine ev_pos c (ev_bind _ (impl_IsBloom_f b0 b1 b2 l') ?_)
    by_cases c2 : isBloomB b0 b1 b2 l' = true
    · refine ev_pos c2 ?_
      by_cases c3 : a0 = b0
      · refine ev_pos c3 ?_
        by_cases c4 : a1 = b1
        · refine ev_pos c4 (ev_some ?_)
          rw [aliB, c, c2, decide_eq_true c3, decide_eq_true c4, Bool.eq_iff_iff]
          simp
        · exact ev_neg c4 (ev_some (by simp [aliB, c4]))
      · exact ev_neg c3 (ev_some (by simp [aliB, c3]))
    · exact ev_neg c2 (ev_some (by simp [aliB, c2]))
  · exact ev_neg c (ev_some (by simp [aliB, c]))
theorem spec_fiAlike_f (hl : (l.length : Int) ≤ 9223372036854775806) (hl' : (l'.length : Int) ≤ 9223372036854775806) : Ev (fun k => spec_fiAlike.f k a0 a1 a2 l b0 b1 b2 l') (aliB a0 a1 a2 l b0 b1 b2 l') := by
  unfold spec_fiAlike.f
  refine ev_bind _ (spec_fiGood_f a0 a1 a2 l hl) ?_
  by_cases c : isBloomB a0 a1 a2 l = true
  · refine ev_pos c (ev_bind _ (spec_fiGood_f b0 b1 b2 l' hl') ?_)
    by_cases c2 : isBloomB b0 b1 b2 l' = true
    · refine ev_pos c2 ?_
      by_cases c3 : a0 = b0
      · refine ev_pos c3 ?_
        by_cases c4 : a1 = b1
        · refine ev_pos c4 (ev_some ?_)
          rw [aliB, c, c2, decide_eq_true c3, decide_eq_true c4, Bool.eq_iff_iff]
          simp
        · exact ev_neg c4 (ev_some (by simp [aliB, c4]))
      · exact ev_neg c3 (ev_some (by simp [aliB, c3]))
    · exact ev_neg c2 (ev_some (by simp [aliB, c2]))
  · exact ev_neg c (ev_some (by simp [aliB, c]))
end

def uniL (l l' : List Int) : Nat → Nat → List Int → List Int
  | 0, _, acc => acc
  | m + 1, i, acc => uniL l l' m (i + 1) (if (atV l (i : Int) || atV l' (i : Int)) = true then setV acc (i : Int) else acc)
theorem uniL_len (l l' : List Int) : ∀ (m i : Nat) (acc : List Int), (uniL l l' m i acc).length = acc.length
  | 0, _, _ => rfl
  | m + 1, i, acc => by
    rw [uniL, uniL_len]
    split
    · rw [setV_len]
    · rfl
theorem uniL_ok (l l' : List Int) : ∀ (m i : Nat) (acc : List Int), okW acc → i + m ≤ 16 * acc.length → okW (uniL l l' m i acc) ∧ ∀ q, bitN (uniL l l' m i acc) q = (bitN acc q || (decide (i ≤ q ∧ q < i + m) && (atV l (q : Int) || atV l' (q : Int))))
  | 0, i, acc, h, _ => ⟨h, fun q => by
    rw [uniL, decide_eq_false (by omega)]; simp⟩
  | m + 1, i, acc, h, hm => by
    rw [uniL]
    by_cases c : (atV l (i : Int) || atV l' (i : Int)) = true
    · rw [if_pos c]
      obtain ⟨g1, g2⟩ := uniL_ok l l' m (i + 1) (setV acc (i : Int)) (okW_setV h (by omega)) (by rw [setV_len]; omega)
      refine ⟨g1, fun q => ?_⟩
      rw [g2, bit_setV h (by omega)]
      by_cases e : i = q
      · subst e
        rw [c, decide_eq_true (show i ≤ i ∧ i < i + (m + 1) by omega)]
        simp
      · rw [show decide (i + 1 ≤ q ∧ q < i + 1 + m) = decide (i ≤ q ∧ q < i + (m + 1)) from by rw [Bool.eq_iff_iff, decide_eq_true_eq, decide_eq_true_eq]; omega, decide_eq_false e, Bool.false_or]
    · rw [if_neg c]
      obtain ⟨g1, g2⟩ := uniL_ok l l' m (i + 1) acc h (by omega)
      refine ⟨g1, fun q => ?_⟩
      rw [g2]
      by_cases e : i = q
      · subst e
        simp only [Bool.not_eq_true] at c
        rw [c]
        simp
      · rw [show decide (i + 1 ≤ q ∧ q < i + 1 + m) = decide (i ≤ q ∧ q < i + (m + 1)) from by rw [Bool.eq_iff_iff, decide_eq_true_eq, decide_eq_true_eq]; omega]
theorem bitsB_uniL {n : Int} (l l' : List Int) : ∀ (m i : Nat) (acc : List Int), bitsB n acc = true → ((i + m : Nat) : Int) ≤ n → bitsB n (uniL l l' m i acc) = true
  | 0, _, _, h, _ => h
  | m + 1, i, acc, h, hm => by
    rw [uniL]
    refine bitsB_uniL l l' m (i + 1) _ ?_ (by omega)
    split
    · exact bitsB_setV h (by omega) (by omega)
    · exact h
theorem impl_clr_f (n : Int) {l : List Int} (hl : okW l) {p : Nat} (h1 : (p : Int) ≤ 1000000) (h2 : p / 16 < l.length) (hz : bitN l p = false) : impl_Bits_set.f n l (p : Int) false = some l := by
  have hc := clrV hl h2 hz
  unfold impl_Bits_set.f
  rw [(div16 (p := (p : Int)) (by omega) h1).1, (div16 (p := (p : Int)) (by omega) h1).2, if_pos (by omega), if_pos (by omega), if_pos (by omega)]
  simp only [Option.bind_some, Bool.false_eq_true, if_false]
  rw [hc]
section
variable (a0 a1 a2 : Int) (l : List Int) (b0 b1 b2 : Int) (l' : List Int)
theorem impl_union1_f {p : Int} (h0 : 0 ≤ p) (h1 : p ≤ 1000000) (h2 : p / 16 < (l.length : Int)) (h3 : p / 16 < (l'.length : Int)) : impl_UnionBloom_1.f p a0 a1 a2 l b0 b1 b2 l' = some (atV l p || atV l' p) := by
  unfold impl_UnionBloom_1.f
  rw [impl_Bits_at_f a2 l h0 h1 h2, impl_Bits_at_f b2 l' h0 h1 h3]
  simp only [Option.bind_some]
  cases atV l p <;> simp
theorem impl_union_l0 {n : Nat} (hn : n ≤ 1000) (h1 : n ≤ 16 * l.length) (h2 : n ≤ 16 * l'.length) (z : Int) : ∀ (m i : Nat) (acc : List Int), i + m = n → okW acc → n ≤ 16 * acc.length → (∀ q, i ≤ q → bitN acc q = false) →
    Ev (fun k => impl_madeBits_at_impl_UnionBloom_1.l0 k (n : Int) (i : Int) a0 a1 a2 l b0 b1 b2 l' z acc) (z, uniL l l' m i acc) := by
  intro m
  induction m with
  | zero =>
    intro i acc e hW hl hz
    refine ev_succ ?_
    simp only [impl_madeBits_at_impl_UnionBloom_1.l0]
    exact ev_neg (by omega) (ev_some rfl)
  | succ m ih =>
    intro i acc e hW hl hz
    refine ev_succ ?_
    simp only [impl_madeBits_at_impl_UnionBloom_1.l0]
    rw [impl_union1_f a0 a1 a2 l b0 b1 b2 l' (by omega) (by omega) (by omega) (by omega), winc (by omega), uniL]
    refine ev_pos (by omega) (ev_bind _ (Ev.now _) ?_)
    by_cases c : (atV l (i : Int) || atV l' (i : Int)) = true
    · rw [c, if_pos rfl, impl_Bits_set_f z acc (by omega) (by omega) (by omega)]
      refine ev_bind _ (Ev.now _) (ih (i + 1) (setV acc (i : Int)) (by omega) (okW_setV hW (by omega)) (by rw [setV_len]; exact hl) (fun q hq => ?_))
      rw [bit_setV hW (by omega), hz q (by omega), decide_eq_false (by omega)]
      rfl
    · simp only [Bool.not_eq_true] at c
      rw [c, if_neg (by simp), impl_clr_f z hW (by omega) (by omega) (hz i (Nat.le_refl _))]
      exact ev_bind _ (Ev.now _) (ih (i + 1) acc (by omega) hW hl (fun q hq => hz q (by omega)))
theorem spec_union_l0 {n : Nat} (hn : n ≤ 1000) (h1 : n ≤ 16 * l.length) (h2 : n ≤ 16 * l'.length) (y0 y1 y2 : Int) : ∀ (m i : Nat) (acc : List Int), i + m = n → n ≤ 16 * acc.length →
    Ev (fun k => spec_UnionBloom.l0 k (i : Int) a0 a1 (n : Int) l b0 b1 b2 l' y0 y1 y2 acc) (y0, y1, y2, uniL l l' m i acc, true) := by
  intro m
  induction m with
  | zero =>
    intro i acc e hl
    refine ev_succ ?_
    simp only [spec_UnionBloom.l0]
    exact ev_neg (by omega) (ev_some rfl)
  | succ m ih =>
    intro i acc e hl
    refine ev_succ ?_
    simp only [spec_UnionBloom.l0]
    rw [spec_biAt_f _ l (by omega) (by omega) (by omega), spec_biAt_f _ l' (by omega) (by omega) (by omega), spec_biSet_f _ acc (by omega) (by omega) (by omega), winc (by omega), uniL]
    simp only [Option.bind_some]
    refine ev_pos (by omega) ?_
    by_cases c : atV l (i : Int) = true
    · rw [if_pos (by simp [c])]
      exact ev_pos c (ih (i + 1) _ (by omega) (by rw [setV_len]; exact hl))
    · refine ev_neg c ?_
      by_cases c2 : atV l' (i : Int) = true
      · rw [if_pos (by simp [c2])]
        exact ev_pos c2 (ih (i + 1) _ (by omega) (by rw [setV_len]; exact hl))
      · rw [if_neg (by simp [c, c2])]
        exact ev_neg c2 (ih (i + 1) _ (by omega) hl)
def unionV : Int × Int × Int × List Int × Bool := if aliB a0 a1 a2 l b0 b1 b2 l' = true then (a0, a1, a2, uniL l l' a2.toNat 0 (blankV a2), true) else (0, 0, 0, [], false)
theorem impl_UnionBloom_f : Ev (fun k => impl_UnionBloom.f k a0 a1 a2 l b0 b1 b2 l') (unionV a0 a1 a2 l b0 b1 b2 l') := by
  unfold impl_UnionBloom.f
  refine ev_bind _ (impl_alike_f a0 a1 a2 l b0 b1 b2 l') ?_
  by_cases c : aliB a0 a1 a2 l b0 b1 b2 l' = true
  · obtain ⟨hA, hB, rfl, rfl, rfl⟩ := aliB_ok c
    obtain ⟨_, _, ⟨p4, p5⟩, p6⟩ := isBloomB_ok hA
    obtain ⟨_, _, _, p7⟩ := isBloomB_ok hB
    have hw : impl_words.f b2 = some ((b2 + 15) / 16) := by
      unfold impl_words.f
      rw [w64 (x := b2 + 16) (by omega) (by omega), w64 (x := b2 + 16 - 1) (by omega) (by omega), Int.tdiv_eq_ediv_of_nonneg (by omega), w64 (by omega) (by omega), show b2 + 16 - 1 = b2 + 15 from by omega]
    have hb : impl_blank.f b2 = some (b2, blankV b2) := by
      unfold impl_blank.f
      rw [hw]
      simp only [Option.bind_some]
      rw [if_pos (by omega), if_pos (by omega)]
      rfl
    have hbl := blankV_len p4
    have := impl_union_l0 b0 b1 b2 l b0 b1 b2 l' (n := b2.toNat) (by omega) (by omega) (by omega) b2 b2.toNat 0 (blankV b2) (by omega) (okW_blankV b2) (by omega) (fun q _ => bitN_blankV b2 q)
    rw [show ((b2.toNat : Nat) : Int) = b2 from by omega] at this
    refine ev_pos c (ev_bind (b2, uniL l l' b2.toNat 0 (blankV b2)) ?_ (ev_some (by simp [unionV, c])))
    unfold impl_madeBits_at_impl_UnionBloom_1.f
    rw [hb]
    exact ev_bind _ (Ev.now _) this
  · exact ev_neg c (ev_some (by rw [unionV, if_neg c]))
theorem spec_UnionBloom_f (hl : (l.length : Int) ≤ 9223372036854775806) (hl' : (l'.length : Int) ≤ 9223372036854775806) : Ev (fun k => spec_UnionBloom.f k a0 a1 a2 l b0 b1 b2 l') (unionV a0 a1 a2 l b0 b1 b2 l') := by
  unfold spec_UnionBloom.f
  refine ev_bind _ (spec_fiAlike_f a0 a1 a2 l b0 b1 b2 l' hl hl') ?_
  by_cases c : aliB a0 a1 a2 l b0 b1 b2 l' = true
  · obtain ⟨hA, hB, rfl, rfl, rfl⟩ := aliB_ok c
    obtain ⟨_, _, ⟨p4, p5⟩, p6⟩ := isBloomB_ok hA
    obtain ⟨_, _, _, p7⟩ := isBloomB_ok hB
    have hb : spec_biNew.f b2 = some (b2, blankV b2) := by
      unfold spec_biNew.f
      rw [words15 p4 p5, if_pos (by omega), if_pos (by omega)]
      rfl
    have hn : spec_fiNew.f b0 b1 b2 = some (b0, b1, b2, blankV b2) := by
      unfold spec_fiNew.f
      rw [hb]
      rfl
    have hbl := blankV_len p4
    have := spec_union_l0 b0 b1 l b0 b1 b2 l' (n := b2.toNat) (by omega) (by omega) (by omega) b0 b1 b2 b2.toNat 0 (blankV b2) (by omega) (by omega)
    rw [show ((b2.toNat : Nat) : Int) = b2 from by omega] at this
    rw [hn, unionV, if_pos c]
    exact ev_pos c (ev_bind _ (Ev.now _) this)
  · exact ev_neg c (ev_some (by rw [unionV, if_neg c]))

def covW : Nat → Nat → Bool
  | 0, _ => true
  | m + 1, i => decide (Go.bits .andNot .i64 (rd l' (i : Int)) (rd l (i : Int)) = 0) && covW m (i + 1)
def covS : Nat → Nat → Bool
  | 0, _ => true
  | m + 1, i => (!atV l' (i : Int) || atV l (i : Int)) && covS m (i + 1)
theorem impl_cover_l0 (hl : l'.length ≤ 1000) (h : l'.length ≤ l.length) : ∀ (m i : Nat), i + m = l'.length → Ev (fun k => impl_CoversBloom.l0 k l' (l'.length : Int) (i : Int) a0 a1 a2 l) (covW l l' m i, true) := by
  intro m
  induction m with
  | zero =>
    intro i e
    refine ev_succ ?_
    simp only [impl_CoversBloom.l0]
    exact ev_neg (by omega) (ev_some rfl)
  | succ m ih =>
    intro i e
    refine ev_succ ?_
    simp only [impl_CoversBloom.l0]
    rw [winc (by omega), covW]
    refine ev_pos (by omega) (ev_pos (by omega) (ev_pos (by omega) (ev_pos (by omega) ?_)))
    by_cases c : Go.bits .andNot .i64 (rd l' (i : Int)) (rd l (i : Int)) = 0
    · rw [decide_eq_true c, Bool.true_and]
      exact ev_pos c (ih (i + 1) (by omega))
    · rw [decide_eq_false c, Bool.false_and]
      exact ev_neg c (Ev.now _)
theorem spec_cover_l0 {n : Nat} (hn : n ≤ 1000) (h1 : n ≤ 16 * l.length) (h2 : n ≤ 16 * l'.length) : ∀ (m i : Nat), i + m = n → Ev (fun k => spec_CoversBloom.l0 k (i : Int) a0 a1 (n : Int) l b0 b1 b2 l') (covS l l' m i, true) := by
  intro m
  induction m with
  | zero =>
    intro i e
    refine ev_succ ?_
    simp only [spec_CoversBloom.l0]
    exact ev_neg (by omega) (ev_some rfl)
  | succ m ih =>
    intro i e
    refine ev_succ ?_
    simp only [spec_CoversBloom.l0]
    rw [spec_biAt_f _ l (by omega) (by omega) (by omega), spec_biAt_f _ l' (by omega) (by omega) (by omega), winc (by omega), covS]
    simp only [Option.bind_some]
    refine ev_pos (by omega) ?_
    by_cases c : atV l' (i : Int) = true
    · refine ev_pos c ?_
      by_cases c2 : atV l (i : Int) = true
      · rw [c2, Bool.or_true, Bool.true_and]
        exact ev_pos rfl (ih (i + 1) (by omega))
      · exact ev_neg c2 (ev_some (by simp [c, c2]))
    · refine ev_neg c ?_
      simp only [Bool.not_eq_true] at c
      rw [c, Bool.not_false, Bool.true_or, Bool.true_and]
      exact ih (i + 1) (by omega)
theorem covW_iff : ∀ (m i : Nat), covW l l' m i = true ↔ ∀ j, i ≤ j → j < i + m → Go.bits .andNot .i64 (rd l' (j : Int)) (rd l (j : Int)) = 0
  | 0, i => ⟨fun _ j h1 h2 => by omega, fun _ => rfl⟩
  | m + 1, i => by
    rw [covW, Bool.and_eq_true, decide_eq_true_eq, covW_iff m (i + 1)]
    constructor
    · rintro ⟨h1, h2⟩ j h3 h4
      by_cases e : i = j
      · subst e; exact h1
      · exact h2 j (by omega) (by omega)
    · intro h
      exact ⟨h i (Nat.le_refl _) (by omega), fun j h3 h4 => h j (by omega) (by omega)⟩
theorem covS_iff : ∀ (m i : Nat), covS l l' m i = true ↔ ∀ j : Nat, i ≤ j → j < i + m → atV l' (j : Int) = true → atV l (j : Int) = true
  | 0, i => ⟨fun _ j h1 h2 => by omega, fun _ => rfl⟩
  | m + 1, i => by
    rw [covS, Bool.and_eq_true, covS_iff m (i + 1)]
    constructor
    · rintro ⟨h1, h2⟩ j h3 h4 h5
      by_cases e : i = j
      · subst e; simpa [h5] using h1
      · exact h2 j (by omega) (by omega) h5
    · intro h
      refine ⟨?_, fun j h3 h4 => h j (by omega) (by omega)⟩
      cases hc : atV l' (i : Int) with
      | false => simp
      | true => simp [h i (Nat.le_refl _) (by omega) hc]
end
theorem cov_same {a0 a1 a2 : Int} {l l' : List Int} (hA : isBloomB a0 a1 a2 l = true) (hB : isBloomB a0 a1 a2 l' = true) : covW l l' l'.length 0 = covS l l' a2.toNat 0 := by
  obtain ⟨_, _, ⟨p4, p5⟩, p6⟩ := isBloomB_ok hA
  obtain ⟨_, _, _, p7⟩ := isBloomB_ok hB
  have hl := okW_of hA
  have hl' := okW_of hB
  have mid : (∀ q, bitN l' q = true → bitN l q = true) ↔ covS l l' a2.toNat 0 = true := by
    rw [covS_iff]
    constructor
    · intro h j _ h2 h3
      rw [atV_bit hl' (by omega)] at h3
      rw [atV_bit hl (by omega)]
      exact h j h3
    · intro h q hq
      have ht := bitsB_top (bitsB_of hB) hq
      have := h q (by omega) (by omega) (by rw [atV_bit hl' (by omega)]; exact hq)
      rwa [atV_bit hl (by omega)] at this
  rw [Bool.eq_iff_iff, ← mid, covW_iff]
  constructor
  · intro h q hq
    have ht := bitsB_top (bitsB_of hB) hq
    have hz := h (q / 16) (Nat.zero_le _) (by omega)
    obtain ⟨w, hw, hw2⟩ := okW_get hl' (i := q / 16) (by omega)
    obtain ⟨v, hv, _⟩ := okW_get hl (i := q / 16) (by omega)
    have r1 : rd l' ((q / 16 : Nat) : Int) = (w : Int) := by rw [← hw]; rfl
    have r2 : rd l ((q / 16 : Nat) : Int) = (v : Int) := by rw [← hv]; rfl
    rw [r1, r2] at hz
    unfold bitN at hq ⊢
    rw [hw, Int.toNat_natCast] at hq
    rw [hv, Int.toNat_natCast]
    exact andN_zero hw2 hz (by omega) hq
  · intro h j _ h2
    exact andN_word hl' hl h (by omega) (by omega)
def coversV (a0 a1 a2 : Int) (l : List Int) (b0 b1 b2 : Int) (l' : List Int) : Bool × Bool := if aliB a0 a1 a2 l b0 b1 b2 l' = true then (covS l l' a2.toNat 0, true) else (false, false)
section
variable (a0 a1 a2 : Int) (l : List Int) (b0 b1 b2 : Int) (l' : List Int)
theorem impl_CoversBloom_f : Ev (fun k => impl_CoversBloom.f k a0 a1 a2 l b0 b1 b2 l') (coversV a0 a1 a2 l b0 b1 b2 l') := by
  unfold impl_CoversBloom.f
  refine ev_bind _ (impl_alike_f a0 a1 a2 l b0 b1 b2 l') ?_
  by_cases c : aliB a0 a1 a2 l b0 b1 b2 l' = true
  · obtain ⟨hA, hB, rfl, rfl, rfl⟩ := aliB_ok c
    obtain ⟨_, _, ⟨p4, p5⟩, p6⟩ := isBloomB_ok hA
    obtain ⟨_, _, _, p7⟩ := isBloomB_ok hB
    rw [coversV, if_pos c, ← cov_same hA hB]
    exact ev_pos c (impl_cover_l0 b0 b1 b2 l l' (by omega) (by omega) l'.length 0 (by omega))
  · exact ev_neg c (ev_some (by rw [coversV, if_neg c]))
theorem spec_CoversBloom_f (hl : (l.length : Int) ≤ 9223372036854775806) (hl' : (l'.length : Int) ≤ 9223372036854775806) : Ev (fun k => spec_CoversBloom.f k a0 a1 a2 l b0 b1 b2 l') (coversV a0 a1 a2 l b0 b1 b2 l') := by
  unfold spec_CoversBloom.f
  refine ev_bind _ (spec_fiAlike_f a0 a1 a2 l b0 b1 b2 l' hl hl') ?_
  by_cases c : aliB a0 a1 a2 l b0 b1 b2 l' = true
  · obtain ⟨hA, hB, rfl, rfl, rfl⟩ := aliB_ok c
    obtain ⟨_, _, ⟨p4, p5⟩, p6⟩ := isBloomB_ok hA
    obtain ⟨_, _, _, p7⟩ := isBloomB_ok hB
    have := spec_cover_l0 b0 b1 l b0 b1 b2 l' (n := b2.toNat) (by omega) (by omega) (by omega) b2.toNat 0 (by omega)
    rw [show ((b2.toNat : Nat) : Int) = b2 from by omega] at this
    rw [coversV, if_pos c]
    exact ev_pos c this
  · exact ev_neg c (ev_some (by rw [coversV, if_neg c]))
end

def cntL' (l : List Int) : Nat → Nat → Nat
  | 0, _ => 0
  | m + 1, i => (if atV l (i : Int) = true then 1 else 0) + cntL' l m (i + 1)
theorem cntL'_le (l : List Int) : ∀ (m i : Nat), cntL' l m i ≤ m
  | 0, _ => Nat.le_refl _
  | m + 1, i => by
    have := cntL'_le l m (i + 1)
    rw [cntL']
    split <;> omega
theorem cntL'_mono {l l' : List Int} : ∀ (m i : Nat), (∀ j : Nat, i ≤ j → j < i + m → atV l (j : Int) = true → atV l' (j : Int) = true) → cntL' l m i ≤ cntL' l' m i
  | 0, _, _ => Nat.le_refl _
  | m + 1, i, h => by
    have ih := cntL'_mono m (i + 1) (fun j h1 h2 => h j (by omega) (by omega))
    have hi := h i (Nat.le_refl _) (by omega)
    rw [cntL', cntL']
    by_cases c : atV l (i : Int) = true
    · rw [if_pos c, if_pos (hi c)]; omega
    · rw [if_neg c]; omega
theorem cntL'_or {l l' u : List Int} : ∀ (m i : Nat), (∀ j : Nat, i ≤ j → j < i + m → atV u (j : Int) = true → (atV l (j : Int) || atV l' (j : Int)) = true) → cntL' u m i ≤ cntL' l m i + cntL' l' m i
  | 0, _, _ => by simp [cntL']
  | m + 1, i, h => by
    have ih := cntL'_or m (i + 1) (fun j h1 h2 => h j (by omega) (by omega))
    have hi := h i (Nat.le_refl _) (by omega)
    rw [cntL', cntL', cntL']
    by_cases c : atV u (i : Int) = true
    · have := hi c
      rw [if_pos c]
      by_cases c2 : atV l (i : Int) = true
      · rw [if_pos c2]; omega
      · simp only [Bool.not_eq_true] at c2
        rw [c2, Bool.false_or] at this
        rw [if_pos this]; omega
    · rw [if_neg c]; omega
theorem impl_count_l0 (z : Int) (l : List Int) {n : Nat} (hn : n ≤ 1000) (h1 : n ≤ 16 * l.length) : ∀ (m i c : Nat), i + m = n → c ≤ i → Ev (fun k => impl_Bits_count.l0 k (n : Int) (c : Int) (i : Int) z l) ((c + cntL' l m i : Nat) : Int) := by
  intro m
  induction m with
  | zero =>
    intro i c e hc
    refine ev_succ ?_
    simp only [impl_Bits_count.l0]
    exact ev_neg (by omega) (ev_some (by simp [cntL']))
  | succ m ih =>
    intro i c e hc
    refine ev_succ ?_
    simp only [impl_Bits_count.l0]
    rw [impl_Bits_at_f _ l (by omega) (by omega) (by omega), winc (i := i) (by omega), winc (i := c) (by omega), cntL']
    simp only [Option.bind_some]
    refine ev_pos (by omega) ?_
    by_cases h : atV l (i : Int) = true
    · rw [if_pos h]
      have := ih (i + 1) (c + 1) (by omega) (by omega)
      rw [show c + (1 + cntL' l m (i + 1)) = c + 1 + cntL' l m (i + 1) from by omega]
      exact ev_pos h this
    · rw [if_neg h, Nat.zero_add]
      exact ev_neg h (ih (i + 1) c (by omega) (by omega))
theorem impl_BloomLoad_f {a0 a1 a2 : Int} {l : List Int} (h : isBloomB a0 a1 a2 l = true) : Ev (fun k => impl_BloomLoad.f k a0 a1 a2 l) ((cntL' l a2.toNat 0 : Int), true) := by
  obtain ⟨_, _, ⟨p4, p5⟩, p6⟩ := isBloomB_ok h
  have e := impl_IsBloom_f a0 a1 a2 l
  rw [h] at e
  have := impl_count_l0 a2 l (n := a2.toNat) (by omega) (by omega) a2.toNat 0 0 (by omega) (by omega)
  rw [show ((a2.toNat : Nat) : Int) = a2 from by omega, Nat.zero_add] at this
  unfold impl_BloomLoad.f
  refine ev_bind _ e (ev_pos rfl (ev_bind _ ?_ (Ev.now _)))
  unfold impl_Bits_count.f
  exact this
end Go.Proofs.YtpkpjikkfikejaaQ
namespace Go.Proofs.YtpkpjikkfikejaaQ
open Go Go.RowKit Go.Proofs.YtpkpjikkfikejaaW.PrintWords Go.Proofs.YtpkpjikkfikejaaGp Go.Proofs.Ytpkpjikkfikejaa.PN

end Go.Proofs.YtpkpjikkfikejaaQ
namespace Go.Proofs.YtpkpjikkfikejaaQ
open Go Go.RowKit Go.Proofs.YtpkpjikkfikejaaW.PrintWords Go.Proofs.YtpkpjikkfikejaaGp Go.Proofs.Ytpkpjikkfikejaa.PN

namespace LW
theorem same_l0 (x0 y0 : List Int) (hl : (x0.length : Int) ≤ 9223372036854775806) (hy : y0.length = x0.length) : ∀ (t pre u pru : List Int), x0 = pre ++ t → y0 = pru ++ u → pru.length = pre.length →
    Ev (fun k => laws_pSameInts.l0 k x0 y0 (x0.length : Int) (pre.length : Int)) (decide (t = u)) := by
  intro t
  induction t with
  | nil =>
    intro pre u pru h h2 hp
    have : u = [] := by
      have e1 : y0.length = pru.length + u.length := by rw [h2]; simp
      have e2 : x0.length = pre.length := by rw [h]; simp
      exact List.length_eq_zero_iff.1 (by omega)
    subst this
    refine ev_succ ?_
    simp only [laws_pSameInts.l0]
    exact ev_neg (by rw [h]; exact not_lt_end) (ev_some (by simp))
  | cons x t ih =>
    intro pre u pru h h2 hp
    have hm : ((pre.length : Nat) : Int) < (x0.length : Int) := by rw [h]; exact lt_mid
    have hg : rd x0 (pre.length : Int) = x := by rw [h]; exact rd_mid
    cases u with
    | nil =>
      have e1 : y0.length = pru.length := by rw [h2]; simp
      omega
    | cons y u =>
      have hg2 : rd y0 (pre.length : Int) = y := by rw [h2, ← hp]; exact rd_mid
      refine ev_succ ?_
      simp only [laws_pSameInts.l0, hg, hg2]
      by_cases c : x = y
      · subst c
        have := ih (pre ++ [x]) u (pru ++ [x]) (by rw [h]; simp) (by rw [h2]; simp) (by simp [hp])
        rw [len_one] at this
        rw [show decide (x :: t = x :: u) = decide (t = u) from by simp, winc (by omega)]
        exact ev_pos hm (ev_pos (by omega) (ev_pos hm (ev_pos (by omega) (ev_pos rfl this))))
      · rw [decide_eq_false (fun e => c (List.cons.inj e).1)]
        exact ev_pos hm (ev_pos (by omega) (ev_pos hm (ev_pos (by omega) (ev_neg c (Ev.now _)))))
theorem same_f (l l' : List Int) (hl : (l.length : Int) ≤ 9223372036854775806) (h : l'.length = l.length) : Ev (fun k => laws_pSameInts.f k l l') (decide (l = l')) := by
  unfold laws_pSameInts.f
  exact ev_pos (by omega) (same_l0 l l' hl h l [] l' [] rfl rfl rfl)
theorem rSame_f (a b n : Int) (l l' : List Int) (hl : (l.length : Int) ≤ 9223372036854775806) (h : l'.length = l.length) : Ev (fun k => laws_rSameBloom.f k a b n l a b n l') (decide (l = l')) := by
  unfold laws_rSameBloom.f laws_pSameBits.f
  exact ev_pos rfl (ev_pos rfl (ev_bind _ (ev_pos rfl (ev_bind _ (same_f l l' hl h) (Ev.now _))) (Ev.now _)))
end LW
end Go.Proofs.YtpkpjikkfikejaaQ
namespace Go.Proofs.YtpkpjikkfikejaaQ
open Go Go.RowKit Go.Proofs.YtpkpjikkfikejaaW.PrintWords Go.Proofs.YtpkpjikkfikejaaGp Go.Proofs.Ytpkpjikkfikejaa.PN

theorem size2_ok {s : List Int} (hs : Bys s) {p : Int} (sd : Int) (h0 : 0 ≤ p) (h1 : p ≤ 10000000000000000) : ∃ v p' sd', spec_l1Cur_size2.f s p sd = some (v, p', sd') ∧ (-1 ≤ v ∧ v ≤ 513) ∧ 0 ≤ p' ∧ p' ≤ p + 10 := by
  obtain ⟨b, p1, sd1, e1, q0, q1⟩ := one_ok hs sd 10 h0 (by omega)
  unfold spec_l1Cur_size2.f
  rw [e1]
  simp only [Option.bind_some]
  by_cases c : b = true
  · obtain ⟨u, p2, sd2, e2, hu, r0, r1⟩ := among_ok hs sd1 (l := [(-1), 0, 512, 513]) (by simp) q0 (by omega)
    rw [if_pos c, e2]
    simp only [List.mem_cons, List.not_mem_nil, or_false] at hu
    exact ⟨u, p2, sd2, rfl, by omega, r0, by omega⟩
  · obtain ⟨u, p2, sd2, e2, hu, r0, r1⟩ := among_ok hs sd1 (l := [4, 16, 40, 120]) (by simp) q0 (by omega)
    simp only [List.mem_cons, List.not_mem_nil, or_false] at hu
    obtain ⟨v, p3, sd3, e3, hv, t0, t1⟩ := pick_ok hs sd2 (n := u) r0 (by omega)
    rw [if_neg c, e2]
    simp only [Option.bind_some, e3]
    refine ⟨wrap64 (1 + v), p3, sd3, rfl, ?_, t0, by omega⟩
    rw [w64 (by omega) (by omega)]
    omega
end Go.Proofs.YtpkpjikkfikejaaQ
namespace Go.Proofs.YtpkpjikkfikejaaQ
open Go Go.RowKit Go.Proofs.YtpkpjikkfikejaaW.PrintWords Go.Proofs.YtpkpjikkfikejaaGp Go.Proofs.Ytpkpjikkfikejaa.PN

theorem DrawBloomOf_ok {s : List Int} (hs : Bys s) : ∃ a b n ks, Ev (fun k => spec_DrawBloomOf.f k s) (a, b, n, ks) ∧ Kys 42 ks := by
  obtain ⟨a, p1, sd1, e1, _, q0, q1⟩ := seed9_ok hs 0 (p := 0) (by omega) (by omega)
  obtain ⟨b, p2, sd2, e2, r0, r1⟩ := probes_ok hs sd1 q0 (by omega)
  obtain ⟨n, p3, sd3, e3, _, t0, t1⟩ := size2_ok hs sd2 r0 (by omega)
  obtain ⟨ks, p4, sd4, e4, hk, w0, w1⟩ := anyKeys_ok hs sd3 (n := 9) (by omega) t0 (by omega)
  refine ⟨a, b, n, ks, ?_, hk⟩
  unfold spec_DrawBloomOf.f
  simp only [e1, Option.bind_some, e2, e3]
  exact ev_bind _ e4 (Ev.now _)
theorem DrawUnionBloom_ok {s : List Int} (hs : Bys s) : ∃ a0 a1 a2 l b0 b1 b2 l', Ev (fun k => spec_DrawUnionBloom.f k s) (a0, a1, a2, l, b0, b1, b2, l') ∧ (l : List Int).length ≤ 1000 ∧ (l' : List Int).length ≤ 1000 := by
  obtain ⟨a, b, n, l, p1, sd1, e1, hl, q0, q1⟩ := bloom_ok hs 0 (p := 0) (by omega) (by omega)
  obtain ⟨v, p2, sd2, e2, r0, r1⟩ := one_ok hs sd1 4 q0 (by omega)
  obtain ⟨c0, c1, c2, l2, p3, sd3, e3, hl2, t0, t1⟩ := bloom_ok hs sd2 r0 (by omega)
  have other : Ev (fun k => spec_DrawUnionBloom.j0 k true s p2 sd2 a b n l) (a, b, n, l, c0, c1, c2, l2) := by
    refine ev_succ ?_
    simp only [spec_DrawUnionBloom.j0]
    exact ev_pos trivial (ev_bind _ e3 (Ev.now _))
  unfold spec_DrawUnionBloom.f
  by_cases c : v = true
  · refine ⟨a, b, n, l, c0, c1, c2, l2, ev_bind _ e1 ?_, hl, hl2⟩
    simp only [e2]
    exact ev_bind _ (Ev.now _) (ev_pos c other)
  by_cases g : isBloomB a b n l = true
  · obtain ⟨⟨z0, z1⟩, ⟨z2, z3⟩, ⟨z4, z5⟩, z6⟩ := isBloomB_ok g
    have hg := spec_fiGood_f a b n l (by omega)
    rw [g] at hg
    have hb : spec_fiNew.f a b n = some (a, b, n, blankV n) := by
      unfold spec_fiNew.f
      rw [biNew_ok (by omega) (by omega)]
      rfl
    have hbl := blankV_le (n := n) (by omega)
    obtain ⟨u, p4, sd4, e4, w0, w1⟩ := one_ok hs sd2 3 r0 (by omega)
    obtain ⟨ks, p5, sd5, e5, hk, y0, y1⟩ := keys_ok hs sd4 (n := 5) (by omega) w0 (by omega)
    have hk9 : (ks.length : Int) ≤ 9223372036854775806 := by have := hk.1; omega
    have hks : ∀ x ∈ ks, (x.size : Int) ≤ 9223372036854775806 := fun x hx => by have := hk.2 x hx; omega
    by_cases cu : u = true
    · refine ⟨a, b, n, l, a, b, n, addK a b.toNat n l ks, ev_bind _ e1 ?_, hl, by rw [addK_len]; exact hl⟩
      simp only [e2]
      refine ev_bind _ (Ev.now _) (ev_neg c (ev_bind _ hg (ev_succ ?_)))
      simp only [spec_DrawUnionBloom.j0, hb, e4]
      exact ev_neg (by simp) (ev_bind _ (Ev.now _) (ev_bind _ (Ev.now _) (ev_pos cu (ev_bind _ e5 (ev_bind _ (spec_fiAdd_f a b n l ks hk9 hks (by omega) z0 (by omega) (by omega) (by omega) z4 (by omega) (by omega)) (Ev.now _))))))
    · refine ⟨a, b, n, l, a, b, n, addK a b.toNat n (blankV n) ks, ev_bind _ e1 ?_, hl, by rw [addK_len]; omega⟩
      simp only [e2]
      refine ev_bind _ (Ev.now _) (ev_neg c (ev_bind _ hg (ev_succ ?_)))
      simp only [spec_DrawUnionBloom.j0, hb, e4]
      exact ev_neg (by simp) (ev_bind _ (Ev.now _) (ev_bind _ (Ev.now _) (ev_neg cu (ev_bind _ e5 (ev_bind _ (spec_fiAdd_f a b n (blankV n) ks hk9 hks (by omega) z0 (by omega) (by omega) (by omega) z4 (by omega) (by omega)) (Ev.now _))))))
  · have hg := spec_fiGood_f a b n l (by omega)
    simp only [Bool.not_eq_true] at g
    rw [g] at hg
    refine ⟨a, b, n, l, c0, c1, c2, l2, ev_bind _ e1 ?_, hl, hl2⟩
    simp only [e2]
    exact ev_bind _ (Ev.now _) (ev_neg c (ev_bind _ hg other))
theorem DrawCoversBloom_ok {s : List Int} (hs : Bys s) : ∃ a0 a1 a2 l b0 b1 b2 l', Ev (fun k => spec_DrawCoversBloom.f k s) (a0, a1, a2, l, b0, b1, b2, l') ∧ (l : List Int).length ≤ 1000 ∧ (l' : List Int).length ≤ 1000 := by
  obtain ⟨a0, a1, a2, l, b0, b1, b2, l', e1, h1, h2⟩ := DrawUnionBloom_ok hs
  obtain ⟨v, p2, sd2, e2, r0, r1⟩ := one_ok hs 0 (p := 0) 2 (by omega) (by omega)
  unfold spec_DrawCoversBloom.f
  by_cases c : v = true
  · refine ⟨b0, b1, b2, l', a0, a1, a2, l, ev_bind _ e1 ?_, h2, h1⟩
    simp only [e2]
    exact ev_bind _ (Ev.now _) (ev_pos c (Ev.now _))
  · refine ⟨a0, a1, a2, l, b0, b1, b2, l', ev_bind _ e1 ?_, h1, h2⟩
    simp only [e2]
    exact ev_bind _ (Ev.now _) (ev_neg c (Ev.now _))
end Go.Proofs.YtpkpjikkfikejaaQ
namespace Go.Proofs.Ytpkpjikkfikejaa.Pure
open Go Go.RowKit Go.Proofs.YtpkpjikkfikejaaW.PrintWords Go.Proofs.YtpkpjikkfikejaaW.PrintMore Go.Proofs.YtpkpjikkfikejaaGp Go.Proofs.Ytpkpjikkfikejaa.PN Go.Proofs.YtpkpjikkfikejaaQ

theorem blank_bitsB {n : Int} (h0 : 1 ≤ n) (h1 : n ≤ 512) : bitsB n (blankV n) = true := by
  have hb := blankV_len h0
  have hr : ∀ i : Int, rd (blankV n) i = 0 := fun i => by
    unfold rd blankV
    rw [List.getD_eq_getElem?_getD, List.getElem?_replicate]
    split <;> rfl
  have ha : all16 (blankV n) = true := by
    rw [all16_ok]
    exact okW_blankV n
  simp only [bitsB, ha, hr, Bool.and_eq_true, Bool.or_eq_true, decide_eq_true_eq, beq_iff_eq, Bool.true_and]
  refine ⟨by omega, hb, .inr ?_⟩
  obtain ⟨j, hj⟩ : ∃ j : Nat, n % 16 = (j : Int) := ⟨(n % 16).toNat, by omega⟩
  rw [hj]
  have := shrN (w := 0) (j := j) (by omega)
  simpa using this
theorem addK_bitsB {a0 n : Int} (m : Nat) (h0 : 1 ≤ n) (h1 : n ≤ 512) : ∀ (ks : List ByteArray) {l : List Int}, bitsB n l = true → bitsB n (addK a0 m n l ks) = true
  | [], _, h => h
  | s :: ks, l, h => addK_bitsB m h0 h1 ks (bitsB_addP _ h (probesL_range a0 s h0 (by omega) m 0))
theorem bitsB_okW {n : Int} {l : List Int} (h : bitsB n l = true) : okW l := by
  simp only [bitsB, Bool.and_eq_true] at h
  exact all16_ok.1 h.2.2.1
theorem probes_in {a0 n : Int} {l : List Int} (s : ByteArray) (m : Nat) (h0 : 1 ≤ n) (h1 : n ≤ 512) (hl : (l.length : Int) = (n + 15) / 16) : inW l (probesL a0 s n m 0) := fun p hp => by
  obtain ⟨x, y⟩ := probesL_range a0 s (n := n) h0 (by omega) m 0 p hp
  exact ⟨x, by omega⟩
theorem addK_stays {a0 n : Int} (m : Nat) (h0 : 1 ≤ n) (h1 : n ≤ 512) : ∀ (ks : List ByteArray) {l : List Int}, bitsB n l = true → ∀ q, bitN l q = true → bitN (addK a0 m n l ks) q = true
  | [], _, _, _, h => h
  | s :: ks, l, h, q, hq => by
    refine addK_stays m h0 h1 ks (l := addP l (probesL a0 s n m 0)) (bitsB_addP _ h (probesL_range a0 s h0 (by omega) m 0)) q ?_
    rw [(addP_ok _ l (bitsB_okW h) (probes_in s m h0 h1 (bitsB_len h).2.2)).2, hq]
    rfl
theorem addK_says {a0 a1 n : Int} (h0 : 1 ≤ n) (h1 : n ≤ 512) : ∀ (ks : List ByteArray) {l : List Int}, bitsB n l = true → ∀ s ∈ ks, saysV a0 a1 n (addK a0 a1.toNat n l ks) s = true
  | [], _, _, s, h => by simp at h
  | x :: ks, l, h, s, hs => by
    have h' : bitsB n (addP l (probesL a0 x n a1.toNat 0)) = true := bitsB_addP _ h (probesL_range a0 x h0 (by omega) a1.toNat 0)
    rcases List.mem_cons.1 hs with rfl | hs
    · have hW := bitsB_okW h
      have hin := probes_in (a0 := a0) s a1.toNat h0 h1 (bitsB_len h).2.2
      have hall := addP_all hW hin
      have hB := addK_bitsB (a0 := a0) a1.toNat h0 h1 ks h'
      have hin' := probes_in (a0 := a0) s a1.toNat h0 h1 (bitsB_len hB).2.2
      have hin1 := probes_in (a0 := a0) s a1.toNat h0 h1 (bitsB_len h').2.2
      change (probesL a0 s n a1.toNat 0).all (atV (addK a0 a1.toNat n (addP l (probesL a0 s n a1.toNat 0)) ks)) = true
      rw [List.all_eq_true] at hall ⊢
      intro p hp
      have := hall p hp
      rw [atV_int (bitsB_okW h') (hin1 p hp).1 (hin1 p hp).2] at this
      rw [atV_int (bitsB_okW hB) (hin' p hp).1 (hin' p hp).2]
      exact addK_stays a1.toNat h0 h1 ks h' _ this
    · exact addK_says h0 h1 ks h' s hs
theorem addK_app (a0 : Int) (m : Nat) (n : Int) (l : List Int) (ks : List ByteArray) (s : ByteArray) : addK a0 m n l (ks ++ [s]) = addP (addK a0 m n l ks) (probesL a0 s n m 0) := by simp [addK]

theorem adds_l0 {a0 a1 a2 : Int} {ks : List ByteArray} {x1 : List Int} (hz : sizesB a0 a1 a2 = true) (hk : areKeysB ks = true) (H : Ev (fun k => laws_FnBloomNeverDenies.j2 k x1) true) : ∀ (t pre : List ByteArray), ks = pre ++ t →
    Ev (fun k => laws_FnBloomNeverDenies.l0 k x1 true ks (ks.length : Int) (pre.length : Int) a0 a1 a2 (addK a0 a1.toNat a2 (blankV a2) ks) a0 a1 a2 (addK a0 a1.toNat a2 (blankV a2) pre)) true := by
  obtain ⟨⟨p0, p1⟩, ⟨p2, p3⟩, p4, p5⟩ := sizesB_ok hz
  have hlen := areKeysB_len hk
  have hb := blank_bitsB p4 p5
  have good : ∀ l, isBloomB a0 a1 a2 (addK a0 a1.toNat a2 (blankV a2) l) = true := fun l => by
    rw [isBloomB, hz, Bool.true_and]
    exact addK_bitsB a1.toNat p4 p5 l hb
  have hbl := blankV_len p4
  intro t
  induction t with
  | nil =>
    intro pre h
    have e : ks = pre := by rw [h]; simp
    subst e
    refine ev_succ ?_
    simp only [laws_FnBloomNeverDenies.l0]
    refine ev_neg (by omega) (ev_bind _ (LW.rSame_f a0 a1 a2 _ _ (by rw [addK_len]; omega) rfl) (ev_pos (by simp) H))
  | cons s t ih =>
    intro pre h
    have hm : ((pre.length : Nat) : Int) < (ks.length : Int) := by rw [h]; exact lt_mid
    have hg : rdOf ByteArray.empty ks (pre.length : Int) = s := by rw [h]; exact rdOf_mid
    have hsm : s ∈ ks := by rw [h]; simp
    have hsk := areKeysB_all hk s hsm
    have hsz := isKeyB_size hsk
    have hA := impl_BloomAdd_f a0 a1 a2 (addK a0 a1.toNat a2 (blankV a2) pre) s (by omega)
    rw [show addV a0 a1 a2 (addK a0 a1.toNat a2 (blankV a2) pre) s = (a0, a1, a2, addK a0 a1.toNat a2 (blankV a2) (pre ++ [s]), true) from by rw [addV, if_pos (by rw [good, hsk]; rfl), addK_app]] at hA
    have hB := impl_BloomHas_f a0 a1 a2 (addK a0 a1.toNat a2 (blankV a2) ks) s (by omega)
    rw [show hasV a0 a1 a2 (addK a0 a1.toNat a2 (blankV a2) ks) s = (true, true) from by rw [hasV, if_pos (by rw [good, hsk]; rfl), addK_says p4 p5 ks hb s hsm]] at hB
    have next := ih (pre ++ [s]) (by rw [h]; simp)
    rw [len_one] at next
    refine ev_succ ?_
    simp only [laws_FnBloomNeverDenies.l0, hg]
    refine ev_pos hm (ev_pos (by omega) (ev_pos hm (ev_bind _ hA (ev_bind _ hB (ev_pos trivial (ev_pos rfl (ev_pos rfl (ev_pos rfl ?_))))))))
    rw [winc (by omega)]
    exact next
theorem FnBloomNeverDenies : laws_FnBloomNeverDenies.Pure := by
  intro l0 l1 h0 _ hw0 h1 _ hw1
  refine Ev.rounds (r := true) ?_
  unfold laws_FnBloomNeverDenies.f
  obtain ⟨b, eb, hb⟩ := big_f h0 h1
  rw [eb]
  refine ev_bind _ (Ev.now _) ?_
  by_cases c : b = true
  · exact ev_pos c (Ev.now _)
  obtain ⟨g0, g1⟩ := hb (by simpa using c)
  have hs := bys g0 hw0
  have hs1 := bys g1 hw1
  -- two filters: whether the first covers the second
  obtain ⟨c0, c1, c2, m, d0, d1, d2, m', ed, hm, hm'⟩ := DrawCoversBloom_ok hs1
  have hC1 := impl_CoversBloom_f c0 c1 c2 m d0 d1 d2 m'
  have hC2 := spec_CoversBloom_f c0 c1 c2 m d0 d1 d2 m' (by omega) (by omega)
  have J4 : Ev (fun k => laws_FnBloomNeverDenies.j4 k l1) true := by
    refine ev_succ ?_
    simp only [laws_FnBloomNeverDenies.j4]
    exact ev_bind _ ed (ev_bind _ hC1 (ev_bind _ hC2 (ev_pos (by simp) (ev_some (by simp)))))
  -- unions
  have J2 : Ev (fun k => laws_FnBloomNeverDenies.j2 k l1) true := by
    obtain ⟨a0, a1, a2, l, b0, b1, b2, l', eu, hl, hl'⟩ := DrawUnionBloom_ok hs1
    have hU1 := impl_UnionBloom_f a0 a1 a2 l b0 b1 b2 l'
    have hU2 := spec_UnionBloom_f a0 a1 a2 l b0 b1 b2 l' (by omega) (by omega)
    have hlen : (unionV a0 a1 a2 l b0 b1 b2 l').2.2.2.1.length ≤ 100 := by
      unfold unionV
      split
      · rename_i g
        obtain ⟨_, _, ⟨p4, p5⟩, _⟩ := isBloomB_ok (aliB_ok g).1
        have := blankV_len p4
        simp only [uniL_len]
        omega
      · simp
    refine ev_succ ?_
    simp only [laws_FnBloomNeverDenies.j2]
    refine ev_bind _ eu (ev_bind _ hU1 (ev_bind _ hU2 (ev_neg (by simp) (ev_bind _ (LW.rSame_f _ _ _ _ _ (by omega) rfl) (ev_succ ?_)))))
    simp only [laws_FnBloomNeverDenies.j3]
    refine ev_neg (by simp) ?_
    by_cases g : aliB a0 a1 a2 l b0 b1 b2 l' = true
    · rw [show unionV a0 a1 a2 l b0 b1 b2 l' = (a0, a1, a2, uniL l l' a2.toNat 0 (blankV a2), true) from if_pos g]
      obtain ⟨hA, hB, rfl, rfl, rfl⟩ := aliB_ok g
      obtain ⟨_, _, ⟨p4, p5⟩, p6⟩ := isBloomB_ok hA
      obtain ⟨_, _, _, p7⟩ := isBloomB_ok hB
      have hbl := blankV_len p4
      obtain ⟨uW, ub⟩ := uniL_ok l l' b2.toNat 0 (blankV b2) (okW_blankV b2) (by omega)
      have hUB : isBloomB b0 b1 b2 (uniL l l' b2.toNat 0 (blankV b2)) = true := by
        rw [isBloomB, sizesB_of hA, Bool.true_and]
        exact bitsB_uniL l l' b2.toNat 0 _ (blank_bitsB p4 p5) (by omega)
      have hul : (uniL l l' b2.toNat 0 (blankV b2)).length = (blankV b2).length := uniL_len _ _ _ _ _
      have hlW := okW_of hA
      have hlW' := okW_of hB
      generalize hu : uniL l l' b2.toNat 0 (blankV b2) = u at *
      have uat : ∀ j : Nat, j < 0 + b2.toNat → atV u (j : Int) = (atV l (j : Int) || atV l' (j : Int)) := fun j hj => by
        rw [atV_bit uW (by omega), ub, bitN_blankV, decide_eq_true (by omega)]
        simp
      have cov : ∀ x : List Int, isBloomB b0 b1 b2 x = true → (∀ j : Nat, j < 0 + b2.toNat → atV x (j : Int) = true → atV u (j : Int) = true) → Ev (fun k => impl_CoversBloom.f k b0 b1 b2 u b0 b1 b2 x) (true, true) := fun x hx h => by
        have := impl_CoversBloom_f b0 b1 b2 u b0 b1 b2 x
        rw [show coversV b0 b1 b2 u b0 b1 b2 x = (true, true) from by
          unfold coversV
          rw [if_pos (by simp [aliB, hUB, hx]), (covS_iff u x b2.toNat 0).2 (fun j _ h2 h3 => h j h2 h3)]] at this
        exact this
      have L1 := impl_BloomLoad_f hA
      have L2 := impl_BloomLoad_f hB
      have L3 := impl_BloomLoad_f hUB
      have n1 := cntL'_le l b2.toNat 0
      have n2 := cntL'_le l' b2.toNat 0
      have m1 := cntL'_mono (l := l) (l' := u) b2.toNat 0 (fun j _ h2 h3 => by rw [uat j h2, h3]; rfl)
      have m2 := cntL'_mono (l := l') (l' := u) b2.toNat 0 (fun j _ h2 h3 => by rw [uat j h2, h3, Bool.or_true])
      have m3 := cntL'_or (l := l) (l' := l') (u := u) b2.toNat 0 (fun j _ h2 h3 => by rw [← uat j h2]; exact h3)
      refine ev_pos rfl (ev_bind _ (cov l hA (fun j h2 h3 => by rw [uat j h2, h3]; rfl)) (ev_bind _ (cov l' hB (fun j h2 h3 => by rw [uat j h2, h3, Bool.or_true])) (ev_bind _ L1 (ev_bind _ L2 (ev_bind _ L3 ?_)))))
      refine ev_pos rfl (ev_pos rfl (ev_pos rfl (ev_pos rfl (ev_pos rfl (ev_pos rfl (ev_pos rfl ?_))))))
      simp only
      rw [w64 (by omega) (by omega)]
      exact ev_neg (by omega) (ev_neg (by omega) (ev_neg (by omega) J4))
    · rw [show unionV a0 a1 a2 l b0 b1 b2 l' = (0, 0, 0, [], false) from if_neg g]
      exact ev_neg (by simp) J4
  -- a filter of keys
  obtain ⟨a0, a1, a2, ks, eo, hk⟩ := DrawBloomOf_ok hs
  have hk9 : (ks.length : Int) ≤ 9223372036854775806 := by have := hk.1; omega
  have hks : ∀ s ∈ ks, (s.size : Int) ≤ 9223372036854775806 := fun s h => by have := hk.2 s h; omega
  have hln := bloomV_len a0 a1 a2 ks
  refine ev_neg c (ev_bind _ eo (ev_bind _ (impl_BloomOf_f a0 a1 a2 ks hk9 hks) (ev_bind _ (spec_BloomOf_f a0 a1 a2 ks hk9 hks) (ev_neg (by simp) (ev_bind _ (LW.rSame_f _ _ _ _ _ (by omega) rfl) (ev_succ ?_))))))
  simp only [laws_FnBloomNeverDenies.j0]
  refine ev_neg (by simp) ?_
  by_cases g : (sizesB a0 a1 a2 && areKeysB ks) = true
  · rw [show bloomV a0 a1 a2 ks = (a0, a1, a2, addK a0 a1.toNat a2 (blankV a2) ks, true) from if_pos g]
    rw [Bool.and_eq_true] at g
    rw [impl_NewBloom_f, if_pos g.1]
    exact ev_pos rfl (ev_bind _ (Ev.now _) (adds_l0 g.1 g.2 J2 ks [] rfl))
  · rw [show bloomV a0 a1 a2 ks = (0, 0, 0, [], false) from if_neg g]
    exact ev_neg (by simp) J2
end Go.Proofs.Ytpkpjikkfikejaa.Pure
