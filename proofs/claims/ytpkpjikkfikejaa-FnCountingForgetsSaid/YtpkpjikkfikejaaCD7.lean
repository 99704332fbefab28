import Derived.Test.YtpkpjikkfikejaaCD1
import Derived.Test.YtpkpjikkfikejaaCD2
import Derived.Test.YtpkpjikkfikejaaCD6
import Derived.Test.YtpkpjikkfikejaaCD4
import Derived.Test.YtpkpjikkfikejaaCD5
namespace Go.Proofs.YtpkpjikkfikejaaQ
open Go Go.RowKit Go.Proofs.YtpkpjikkfikejaaW.PrintWords Go.Proofs.YtpkpjikkfikejaaW.PrintMore Go.Proofs.YtpkpjikkfikejaaGp Go.Proofs.Ytpkpjikkfikejaa.PD

def okC (l : List Int) : Prop := ∀ x ∈ l, 0 ≤ x ∧ x ≤ 15
theorem rd_int {l : List Int} {p : Int} (h0 : 0 ≤ p) (h1 : p < (l.length : Int)) : ∃ h : p.toNat < l.length, rd l p = l[p.toNat]'h := by
  have h : p.toNat < l.length := by omega
  refine ⟨h, ?_⟩
  have := rd_get h
  rwa [Int.toNat_of_nonneg h0] at this
theorem okC_rd {l : List Int} (h : okC l) {p : Int} (h0 : 0 ≤ p) (h1 : p < (l.length : Int)) : 0 ≤ rd l p ∧ rd l p ≤ 15 := by
  obtain ⟨h2, e⟩ := rd_int h0 h1
  rw [e]
  exact h _ (List.getElem_mem h2)
theorem okC_set {l : List Int} (h : okC l) (i : Nat) {v : Int} (h0 : 0 ≤ v) (h1 : v ≤ 15) : okC (l.set i v) := fun x hx => by
  rcases List.mem_or_eq_of_mem_set hx with hx | rfl
  · exact h x hx
  · exact ⟨h0, h1⟩
theorem rd_set_at {l : List Int} {p : Int} (h0 : 0 ≤ p) (h1 : p < (l.length : Int)) (v : Int) {q : Int} (hq : 0 ≤ q) : rd (l.set p.toNat v) q = if p = q then v else rd l q := by
  unfold rd
  by_cases c : p = q
  · subst c
    rw [if_pos rfl, List.getD_eq_getElem?_getD, List.getElem?_set_self (by omega)]
    rfl
  · rw [if_neg c, List.getD_eq_getElem?_getD, List.getElem?_set_ne (by omega), ← List.getD_eq_getElem?_getD]
def upC (z : Int) : List Int → List Int → Option (List Int)
  | [], l => some l
  | p :: ps, l => if rd l p = 15 then upC z ps l else if rd l p + z < 0 then none else upC z ps (l.set p.toNat (rd l p + z))
def inC (l ps : List Int) : Prop := ∀ p ∈ ps, 0 ≤ p ∧ p < (l.length : Int)
theorem impl_change_l0 {z : Int} (hz : z = 1 ∨ z = -1) (x23 : List Int) (hx : (x23.length : Int) ≤ 9223372036854775806) (a b : Int) : ∀ (t pre l : List Int), x23 = pre ++ t → inC l t → okC l →
    ∃ y, Ev (fun k => impl_Counting_change.l0 k z x23 (x23.length : Int) (pre.length : Int) a b l) ((upC z t l).isSome, y) ∧ ∀ l', upC z t l = some l' → y = l' := by
  intro t
  induction t with
  | nil =>
    intro pre l e hi ho
    refine ⟨l, ev_succ ?_, fun l' h => by simpa [upC] using h⟩
    simp only [impl_Counting_change.l0]
    exact ev_neg (by rw [e]; exact not_lt_end) (ev_some rfl)
  | cons p t ih =>
    intro pre l e hi ho
    have hm : ((pre.length : Nat) : Int) < (x23.length : Int) := by rw [e]; exact lt_mid
    have hg : rd x23 (pre.length : Int) = p := by rw [e]; exact rd_mid
    obtain ⟨p0, p1⟩ := hi p (by simp)
    obtain ⟨c0, c1⟩ := okC_rd ho p0 p1
    have start : ∀ {r : Bool × List Int}, Ev (fun k => (if rd l p = 15 then (impl_Counting_change.l0 k z x23 (x23.length : Int) (wrap64 ((pre.length : Int) + 1)) a b l) else ((some (l.set p.toNat (wrap64 (rd l p + z)) : List Int)).bind fun y248 => (if (rd y248 p) < 0 then (some (false, y248)) else (impl_Counting_change.l0 k z x23 (x23.length : Int) (wrap64 ((pre.length : Int) + 1)) a b y248))))) r →
        Ev (fun k => impl_Counting_change.l0 k z x23 (x23.length : Int) (pre.length : Int) a b l) r := fun {r} h => by
      refine ev_succ ?_
      simp only [impl_Counting_change.l0, hg]
      exact ev_pos hm (ev_pos (by omega) (ev_pos hm (ev_pos p0 (ev_pos p1 h))))
    rw [winc (by omega)] at start
    have hw : wrap64 (rd l p + z) = rd l p + z := w64 (by omega) (by omega)
    rw [hw] at start
    simp only [upC]
    by_cases c : rd l p = 15
    · obtain ⟨y, e1, e2⟩ := ih (pre ++ [p]) l (by rw [e]; simp) (fun q hq => hi q (by simp [hq])) ho
      rw [len_one] at e1
      rw [if_pos c]
      exact ⟨y, start (ev_pos c e1), e2⟩
    · rw [if_neg c]
      have hrd : rd (l.set p.toNat (rd l p + z)) p = rd l p + z := by rw [rd_set_at p0 p1 _ p0, if_pos rfl]
      by_cases c2 : rd l p + z < 0
      · rw [if_pos c2]
        refine ⟨l.set p.toNat (rd l p + z), start (ev_neg c ?_), fun l' h => by cases h⟩
        refine ev_bind _ (Ev.now _) (ev_pos (by rw [hrd]; exact c2) (Ev.now _))
      · rw [if_neg c2]
        obtain ⟨y, e1, e2⟩ := ih (pre ++ [p]) (l.set p.toNat (rd l p + z)) (by rw [e]; simp) (fun q hq => by rw [List.length_set]; exact hi q (by simp [hq])) (okC_set ho _ (by omega) (by omega))
        rw [len_one] at e1
        refine ⟨y, start (ev_neg c ?_), e2⟩
        exact ev_bind _ (Ev.now _) (ev_neg (by rw [hrd]; exact c2) e1)
def fiC (z a b : Int) (t l : List Int) : Int × Int × List Int × Bool := match upC z t l with
  | some l' => (a, b, l', true)
  | none => (0, 0, [], false)
theorem spec_fiCount_l0 {z : Int} (hz : z = 1 ∨ z = -1) (x27 : List Int) (hx : (x27.length : Int) ≤ 9223372036854775806) (a b : Int) : ∀ (t pre l : List Int), x27 = pre ++ t → inC l t → okC l →
    Ev (fun k => spec_fiCount.l0 k z x27 (x27.length : Int) (pre.length : Int) a b l) (fiC z a b t l) := by
  intro t
  induction t with
  | nil =>
    intro pre l e hi ho
    refine ev_succ ?_
    simp only [spec_fiCount.l0]
    exact ev_neg (by rw [e]; exact not_lt_end) (ev_some rfl)
  | cons p t ih =>
    intro pre l e hi ho
    have hm : ((pre.length : Nat) : Int) < (x27.length : Int) := by rw [e]; exact lt_mid
    have hg : rd x27 (pre.length : Int) = p := by rw [e]; exact rd_mid
    obtain ⟨p0, p1⟩ := hi p (by simp)
    obtain ⟨c0, c1⟩ := okC_rd ho p0 p1
    have hw : wrap64 (rd l p + z) = rd l p + z := w64 (by omega) (by omega)
    refine ev_succ ?_
    simp only [spec_fiCount.l0, hg, hw]
    rw [winc (by omega)]
    refine ev_pos hm (ev_pos (by omega) (ev_pos hm (ev_pos p0 (ev_pos p1 ?_))))
    by_cases c2 : rd l p + z < 0
    · refine ev_pos c2 (ev_some ?_)
      have : ¬ rd l p = 15 := by omega
      simp [fiC, upC, this, c2]
    · refine ev_neg c2 ?_
      by_cases c : rd l p = 15
      · have hs : fiC z a b (p :: t) l = fiC z a b t l := by simp [fiC, upC, c]
        rw [hs]
        have := ih (pre ++ [p]) l (by rw [e]; simp) (fun q hq => hi q (by simp [hq])) ho
        rw [len_one] at this
        exact ev_neg (by omega) this
      · have hs : fiC z a b (p :: t) l = fiC z a b t (l.set p.toNat (rd l p + z)) := by simp [fiC, upC, c, c2]
        rw [hs]
        have := ih (pre ++ [p]) (l.set p.toNat (rd l p + z)) (by rw [e]; simp) (fun q hq => by rw [List.length_set]; exact hi q (by simp [hq])) (okC_set ho _ (by omega) (by omega))
        rw [len_one] at this
        exact ev_pos (by omega) this

def all15 (l : List Int) : Bool := l.all (fun x => decide (0 ≤ x ∧ x ≤ 15))
theorem all15_ok {l : List Int} : all15 l = true ↔ okC l := by
  unfold all15 okC
  rw [List.all_eq_true]
  simp
def isCountB (a b : Int) (l : List Int) : Bool := sizesB a b (l.length : Int) && all15 l
theorem isCountB_ok {a b : Int} {l : List Int} (h : isCountB a b l = true) : (0 ≤ a ∧ a ≤ 9999) ∧ (1 ≤ b ∧ b ≤ 8) ∧ (1 ≤ (l.length : Int) ∧ (l.length : Int) ≤ 512) ∧ okC l := by
  rw [isCountB, Bool.and_eq_true] at h
  obtain ⟨x, y, z⟩ := sizesB_ok h.1
  exact ⟨x, y, z, all15_ok.1 h.2⟩
theorem spec_all15_l0 (x9 : List Int) (hl : (x9.length : Int) ≤ 9223372036854775806) : ∀ (t pre : List Int), x9 = pre ++ t →
    Ev (fun k => spec_l1All.l0 k 0 15 x9 (x9.length : Int) (pre.length : Int)) (all15 t) := by
  intro t
  induction t with
  | nil =>
    intro pre h
    refine ev_succ ?_
    simp only [spec_l1All.l0]
    exact ev_neg (by rw [h]; exact not_lt_end) (ev_some (by simp [all15]))
  | cons s t ih =>
    intro pre h
    have hm : ((pre.length : Nat) : Int) < (x9.length : Int) := by rw [h]; exact lt_mid
    have hg : rd x9 (pre.length : Int) = s := by rw [h]; exact rd_mid
    refine ev_succ ?_
    simp only [spec_l1All.l0, hg, spec_in]
    refine ev_pos hm (ev_pos (by omega) (ev_pos hm (ev_bind _ (Ev.now _) ?_)))
    by_cases c : 0 ≤ s ∧ s ≤ 15
    · refine ev_pos (by simpa using c) ?_
      rw [winc (by omega)]
      have := ih (pre ++ [s]) (by rw [h]; simp)
      rw [len_one] at this
      rw [show all15 (s :: t) = all15 t from by simp [all15, c]]
      exact this
    · refine ev_neg (by simpa using c) (ev_some ?_)
      have : decide (0 ≤ s ∧ s ≤ 15) = false := decide_eq_false c
      simp only [all15, List.all_cons, this, Bool.false_and]
theorem spec_fiCounting_f (a b : Int) (l : List Int) (hl : (l.length : Int) ≤ 9223372036854775806) : Ev (fun k => spec_fiCounting.f k a b l) (isCountB a b l) := by
  unfold spec_fiCounting.f
  rw [spec_fiSize_f]
  simp only [Option.bind_some]
  by_cases c : sizesB a b (l.length : Int) = true
  · refine ev_pos c (ev_bind (all15 l) ?_ (ev_some (by simp [isCountB, c])))
    unfold spec_l1All.f
    exact spec_all15_l0 l hl l [] rfl
  · exact ev_neg c (ev_some (by simp [isCountB, c]))
theorem impl_IsCounting_l0 (x0 : List Int) (hl : (x0.length : Int) ≤ 9223372036854775806) : ∀ (t pre : List Int), x0 = pre ++ t →
    ∃ r : Int, Ev (fun k => slices_IndexFunc_int_int_at_impl_IsCounting_1.l0 k x0 (x0.length : Int) (pre.length : Int)) r ∧ decide (r ≥ 0) = !(all15 t) := by
  intro t
  induction t with
  | nil =>
    intro pre h
    refine ⟨-1, ev_succ ?_, by simp [all15]⟩
    simp only [slices_IndexFunc_int_int_at_impl_IsCounting_1.l0]
    exact ev_neg (by rw [h]; exact not_lt_end) (ev_some rfl)
  | cons x t ih =>
    intro pre h
    have hm : ((pre.length : Nat) : Int) < (x0.length : Int) := by rw [h]; exact lt_mid
    have hg : rd x0 (pre.length : Int) = x := by rw [h]; exact rd_mid
    have hc : impl_IsCounting_1.f x = some (!decide (0 ≤ x ∧ x ≤ 15)) := by
      unfold impl_IsCounting_1.f
      rw [impl_in]; rfl
    by_cases c : 0 ≤ x ∧ x ≤ 15
    · obtain ⟨r, h1, h2⟩ := ih (pre ++ [x]) (by rw [h]; simp)
      refine ⟨r, ev_succ ?_, by rw [h2]; simp [all15, c]⟩
      simp only [slices_IndexFunc_int_int_at_impl_IsCounting_1.l0, hg, hc]
      refine ev_pos hm (ev_pos (by omega) (ev_pos hm (ev_bind _ (Ev.now _) (ev_neg (by simp [c]) ?_))))
      rw [winc (by omega)]
      rw [len_one] at h1
      exact h1
    · refine ⟨(pre.length : Int), ev_succ ?_, ?_⟩
      · simp only [slices_IndexFunc_int_int_at_impl_IsCounting_1.l0, hg, hc]
        exact ev_pos hm (ev_pos (by omega) (ev_pos hm (ev_bind _ (Ev.now _) (ev_pos (by rw [decide_eq_false c]; rfl) (Ev.now _)))))
      · have : decide (0 ≤ x ∧ x ≤ 15) = false := decide_eq_false c
        simp only [all15, List.all_cons, this, Bool.false_and]
        simp
theorem impl_IsCounting_f (a b : Int) (l : List Int) (hl : (l.length : Int) ≤ 9223372036854775806) : Ev (fun k => impl_IsCounting.f k a b l) (isCountB a b l) := by
  unfold impl_IsCounting.f
  obtain ⟨r, h1, h2⟩ := impl_IsCounting_l0 l hl l [] rfl
  refine ev_bind (!(all15 l)) ?_ ?_
  · unfold slices_ContainsFunc_int_int_at_impl_IsCounting_1.f slices_IndexFunc_int_int_at_impl_IsCounting_1.f
    exact ev_bind _ h1 (ev_some h2)
  · by_cases c : all15 l = true
    · refine ev_neg (by simp [c]) ?_
      rw [impl_sizesOk_f]
      exact ev_bind _ (Ev.now _) (ev_some (by simp [isCountB, c]))
    · exact ev_pos (by simp [c]) (ev_some (by simp [isCountB, c]))

def mkL (b : Nat → Bool) : Nat → Nat → List Int → List Int
  | 0, _, acc => acc
  | m + 1, i, acc => mkL b m (i + 1) (if b i = true then setV acc (i : Int) else acc)
theorem mkL_len (b : Nat → Bool) : ∀ (m i : Nat) (acc : List Int), (mkL b m i acc).length = acc.length
  | 0, _, _ => rfl
  | m + 1, i, acc => by
    rw [mkL, mkL_len]
    split
    · rw [setV_len]
    · rfl
theorem mkL_ok (b : Nat → Bool) : ∀ (m i : Nat) (acc : List Int), okW acc → i + m ≤ 16 * acc.length → okW (mkL b m i acc) ∧ ∀ q, bitN (mkL b m i acc) q = (bitN acc q || (decide (i ≤ q ∧ q < i + m) && b q))
  | 0, i, acc, h, _ => ⟨h, fun q => by
    rw [mkL, decide_eq_false (by omega)]; simp⟩
  | m + 1, i, acc, h, hm => by
    rw [mkL]
    by_cases c : b i = true
    · rw [if_pos c]
      obtain ⟨g1, g2⟩ := mkL_ok b m (i + 1) (setV acc (i : Int)) (okW_setV h (by omega)) (by rw [setV_len]; omega)
      refine ⟨g1, fun q => ?_⟩
      rw [g2, bit_setV h (by omega)]
      by_cases e : i = q
      · subst e
        rw [c, decide_eq_true (show i ≤ i ∧ i < i + (m + 1) by omega)]
        simp
      · rw [show decide (i + 1 ≤ q ∧ q < i + 1 + m) = decide (i ≤ q ∧ q < i + (m + 1)) from by rw [Bool.eq_iff_iff, decide_eq_true_eq, decide_eq_true_eq]; omega, decide_eq_false e, Bool.false_or]
    · rw [if_neg c]
      obtain ⟨g1, g2⟩ := mkL_ok b m (i + 1) acc h (by omega)
      refine ⟨g1, fun q => ?_⟩
      rw [g2]
      by_cases e : i = q
      · subst e
        simp only [Bool.not_eq_true] at c
        rw [c]
        simp
      · rw [show decide (i + 1 ≤ q ∧ q < i + 1 + m) = decide (i ≤ q ∧ q < i + (m + 1)) from by rw [Bool.eq_iff_iff, decide_eq_true_eq, decide_eq_true_eq]; omega]
theorem blankC_bit (n : Int) (q : Nat) : bitN (blankV n) q = false := by
  unfold bitN blankV
  rw [List.getD_eq_getElem?_getD, List.getElem?_replicate]
  split <;> simp
theorem blankC_okW (n : Int) : okW (blankV n) := fun w hw => by rw [List.eq_of_mem_replicate hw]; omega
theorem blankC_bitsB {n : Int} (h0 : 1 ≤ n) (h1 : n ≤ 512) : bitsB n (blankV n) = true := by
  have hb := blankV_len h0
  have hr : ∀ i : Int, rd (blankV n) i = 0 := fun i => by
    unfold rd blankV
    rw [List.getD_eq_getElem?_getD, List.getElem?_replicate]
    split <;> rfl
  have ha : all16 (blankV n) = true := by
    rw [all16_ok]
    exact blankC_okW n
  simp only [bitsB, ha, hr, Bool.and_eq_true, Bool.or_eq_true, decide_eq_true_eq, beq_iff_eq, Bool.true_and]
  refine ⟨by omega, hb, .inr ?_⟩
  obtain ⟨j, hj⟩ : ∃ j : Nat, n % 16 = (j : Int) := ⟨(n % 16).toNat, by omega⟩
  rw [hj]
  have := shrN (w := 0) (j := j) (by omega)
  simpa using this
theorem bitsB_mkL {n : Int} (b : Nat → Bool) : ∀ (m i : Nat) (acc : List Int), bitsB n acc = true → ((i + m : Nat) : Int) ≤ n → bitsB n (mkL b m i acc) = true
  | 0, _, _, h, _ => h
  | m + 1, i, acc, h, hm => by
    rw [mkL]
    refine bitsB_mkL b m (i + 1) _ ?_ (by omega)
    split
    · exact bitsB_setV h (by omega) (by omega)
    · exact h
theorem words_ext {l l' : List Int} (hl : okW l) (hl' : okW l') (hn : l.length = l'.length) (h : ∀ q, bitN l q = bitN l' q) : l = l' := by
  apply List.ext_getElem hn
  intro i h1 h2
  obtain ⟨w, hw, hw2⟩ := okW_get hl h1
  obtain ⟨v, hv, hv2⟩ := okW_get hl' h2
  have e : w = v := by
    apply Nat.eq_of_testBit_eq
    intro j
    by_cases c : j < 16
    · have := h (16 * i + j)
      rwa [bit_word c, bit_word c, hw, hv] at this
    · have far : ∀ u : Nat, u < 65536 → u.testBit j = false := fun u hu => Nat.testBit_lt_two_pow (Nat.lt_of_lt_of_le hu (by rw [show 65536 = 2 ^ 16 from rfl]; exact Nat.pow_le_pow_right (by omega) (by omega)))
      rw [far w hw2, far v hv2]
  rw [List.getD_eq_getElem?_getD, List.getElem?_eq_getElem h1] at hw
  rw [List.getD_eq_getElem?_getD, List.getElem?_eq_getElem h2] at hv
  have a : l[i] = (w : Int) := hw
  have b : l'[i] = (v : Int) := hv
  rw [a, b, e]
def onC (l : List Int) (i : Nat) : Bool := decide (rd l (i : Int) ≠ 0)
def bloomC (l : List Int) : List Int := mkL (onC l) l.length 0 (blankV (l.length : Int))
theorem impl_clrC_f (n : Int) {l : List Int} (hl : okW l) {p : Nat} (h1 : (p : Int) ≤ 1000000) (h2 : p / 16 < l.length) (hz : bitN l p = false) : impl_Bits_set.f n l (p : Int) false = some l := by
  have hc := clrV hl h2 hz
  unfold impl_Bits_set.f
  rw [(div16 (p := (p : Int)) (by omega) h1).1, (div16 (p := (p : Int)) (by omega) h1).2, if_pos (by omega), if_pos (by omega), if_pos (by omega)]
  simp only [Option.bind_some, Bool.false_eq_true, if_false]
  rw [hc]
theorem impl_made_l0 (a b : Int) (l : List Int) (hn : l.length ≤ 1000) (z : Int) : ∀ (m i : Nat) (acc : List Int), i + m = l.length → okW acc → l.length ≤ 16 * acc.length → (∀ q, i ≤ q → bitN acc q = false) →
    Ev (fun k => impl_madeBits_at_impl_Counting_bloom_1.l0 k (l.length : Int) (i : Int) a b l z acc) (z, mkL (onC l) m i acc) := by
  intro m
  induction m with
  | zero =>
    intro i acc e hW hl hz
    refine ev_succ ?_
    simp only [impl_madeBits_at_impl_Counting_bloom_1.l0]
    exact ev_neg (by omega) (ev_some rfl)
  | succ m ih =>
    intro i acc e hW hl hz
    have hc : impl_Counting_bloom_1.f (i : Int) a b l = some (onC l i) := by
      unfold impl_Counting_bloom_1.f
      rw [if_pos (by omega), if_pos (by omega)]
      congr 1
      unfold onC
      by_cases c : rd l (i : Int) = 0 <;> simp [c]
    refine ev_succ ?_
    simp only [impl_madeBits_at_impl_Counting_bloom_1.l0]
    rw [hc, winc (by omega), mkL]
    refine ev_pos (by omega) (ev_bind _ (Ev.now _) ?_)
    by_cases c : onC l i = true
    · rw [c, if_pos rfl, impl_Bits_set_f z acc (by omega) (by omega) (by omega)]
      refine ev_bind _ (Ev.now _) (ih (i + 1) (setV acc (i : Int)) (by omega) (okW_setV hW (by omega)) (by rw [setV_len]; exact hl) (fun q hq => ?_))
      rw [bit_setV hW (by omega), hz q (by omega), decide_eq_false (by omega)]
      rfl
    · simp only [Bool.not_eq_true] at c
      rw [c, if_neg (by simp), impl_clrC_f z hW (by omega) (by omega) (hz i (Nat.le_refl _))]
      exact ev_bind _ (Ev.now _) (ih (i + 1) acc (by omega) hW hl (fun q hq => hz q (by omega)))
theorem impl_bloom_f (a b : Int) {l : List Int} (h0 : 1 ≤ (l.length : Int)) (h1 : (l.length : Int) ≤ 512) : Ev (fun k => impl_Counting_bloom.f k a b l) (a, b, (l.length : Int), bloomC l) := by
  have hw : impl_words.f (l.length : Int) = some (((l.length : Int) + 15) / 16) := by
    unfold impl_words.f
    rw [w64 (x := (l.length : Int) + 16) (by omega) (by omega), w64 (x := (l.length : Int) + 16 - 1) (by omega) (by omega), Int.tdiv_eq_ediv_of_nonneg (by omega), w64 (by omega) (by omega), show (l.length : Int) + 16 - 1 = (l.length : Int) + 15 from by omega]
  have hb : impl_blank.f (l.length : Int) = some ((l.length : Int), blankV (l.length : Int)) := by
    unfold impl_blank.f
    rw [hw]
    simp only [Option.bind_some]
    rw [if_pos (by omega), if_pos (by omega)]
    rfl
  have hbl := blankV_len h0
  have := impl_made_l0 a b l (by omega) (l.length : Int) l.length 0 (blankV (l.length : Int)) (by omega) (blankC_okW _) (by omega) (fun q _ => blankC_bit _ q)
  unfold impl_Counting_bloom.f impl_madeBits_at_impl_Counting_bloom_1.f
  rw [hb]
  exact ev_bind _ (ev_bind _ (Ev.now _) this) (Ev.now _)
theorem spec_fiBits_l0 (l : List Int) (hn : l.length ≤ 1000) (ho : okC l) (y0 y1 y2 : Int) : ∀ (m i : Nat) (acc : List Int), i + m = l.length → l.length ≤ 16 * acc.length →
    Ev (fun k => spec_fiBits.l0 k l (l.length : Int) (i : Int) y0 y1 y2 acc) (y0, y1, y2, mkL (onC l) m i acc) := by
  intro m
  induction m with
  | zero =>
    intro i acc e hl
    refine ev_succ ?_
    simp only [spec_fiBits.l0]
    exact ev_neg (by omega) (ev_some rfl)
  | succ m ih =>
    intro i acc e hl
    obtain ⟨c0, c1⟩ := okC_rd ho (p := (i : Int)) (by omega) (by omega)
    refine ev_succ ?_
    simp only [spec_fiBits.l0]
    rw [spec_biSet_f _ acc (by omega) (by omega) (by omega), winc (by omega), mkL]
    refine ev_pos (by omega) (ev_pos (by omega) (ev_pos (by omega) ?_))
    by_cases c : rd l (i : Int) = 0
    · rw [if_neg (by simp [onC, c])]
      exact ev_neg (by omega) (ih (i + 1) _ (by omega) hl)
    · rw [if_pos (by simp [onC, c])]
      exact ev_pos (by omega) (ev_bind _ (Ev.now _) (ih (i + 1) _ (by omega) (by rw [setV_len]; exact hl)))
theorem spec_fiBits_f (a b : Int) {l : List Int} (h0 : 1 ≤ (l.length : Int)) (h1 : (l.length : Int) ≤ 512) (ho : okC l) : Ev (fun k => spec_fiBits.f k a b l) (a, b, (l.length : Int), bloomC l) := by
  have hb : spec_biNew.f (l.length : Int) = some ((l.length : Int), blankV (l.length : Int)) := by
    unfold spec_biNew.f
    rw [words15 h0 h1, if_pos (by omega), if_pos (by omega)]
    rfl
  have hn : spec_fiNew.f a b (l.length : Int) = some (a, b, (l.length : Int), blankV (l.length : Int)) := by
    unfold spec_fiNew.f
    rw [hb]
    rfl
  have hbl := blankV_len h0
  unfold spec_fiBits.f
  rw [hn]
  exact ev_bind _ (Ev.now _) (spec_fiBits_l0 l (by omega) ho a b (l.length : Int) l.length 0 (blankV (l.length : Int)) (by omega) (by omega))
theorem bloomC_good {a b : Int} {l : List Int} (h : isCountB a b l = true) : isBloomB a b (l.length : Int) (bloomC l) = true := by
  obtain ⟨_, _, ⟨p4, p5⟩, _⟩ := isCountB_ok h
  rw [isCountB, Bool.and_eq_true] at h
  rw [isBloomB, h.1, Bool.true_and]
  exact bitsB_mkL _ l.length 0 _ (blankC_bitsB p4 p5) (by omega)
theorem bloomC_bits {l : List Int} (h0 : 1 ≤ (l.length : Int)) : okW (bloomC l) ∧ ∀ q, bitN (bloomC l) q = (decide (q < l.length) && onC l q) := by
  have hbl := blankV_len h0
  obtain ⟨h1, h2⟩ := mkL_ok (onC l) l.length 0 (blankV (l.length : Int)) (blankC_okW _) (by omega)
  refine ⟨h1, fun q => ?_⟩
  unfold bloomC
  rw [h2, blankC_bit, Bool.false_or]
  congr 1
  rw [Bool.eq_iff_iff, decide_eq_true_eq, decide_eq_true_eq]
  omega

section
variable {a b : Int} {l : List Int} (h : isCountB a b l = true)
include h
theorem probes_inC (s : ByteArray) : inC l (probesL a s (l.length : Int) b.toNat 0) := fun p hp => by
  obtain ⟨_, _, ⟨p4, p5⟩, _⟩ := isCountB_ok h
  exact probesL_range a s p4 (by omega) b.toNat 0 p hp
theorem impl_change_f {z : Int} (hz : z = 1 ∨ z = -1) (s : ByteArray) (hs : (s.size : Int) ≤ 9223372036854775806) : ∃ y, Ev (fun k => impl_Counting_change.f k a b l s z) ((upC z (probesL a s (l.length : Int) b.toNat 0) l).isSome, y) ∧ ∀ l', upC z (probesL a s (l.length : Int) b.toNat 0) l = some l' → y = l' := by
  obtain ⟨⟨p0, p1⟩, ⟨p2, p3⟩, ⟨p4, p5⟩, ho⟩ := isCountB_ok h
  have hin := probes_inC h s
  have hlen := probesL_len a s (l.length : Int) b.toNat 0
  obtain ⟨y, e1, e2⟩ := impl_change_l0 hz (probesL a s (l.length : Int) b.toNat 0) (by omega) a b _ [] l rfl hin ho
  refine ⟨y, ?_, e2⟩
  unfold impl_Counting_change.f
  exact ev_bind _ (impl_probesOf_f a b (l.length : Int) s hs p0 (by omega) (by omega) (by omega)) e1
theorem spec_fiCount_f {z : Int} (hz : z = 1 ∨ z = -1) (s : ByteArray) (hs : (s.size : Int) ≤ 9223372036854775806) : Ev (fun k => spec_fiCount.f k a b l s z) (fiC z a b (probesL a s (l.length : Int) b.toNat 0) l) := by
  obtain ⟨⟨p0, p1⟩, ⟨p2, p3⟩, ⟨p4, p5⟩, ho⟩ := isCountB_ok h
  have hin := probes_inC h s
  have hlen := probesL_len a s (l.length : Int) b.toNat 0
  have e : spec_l1Own.f l = some l := by
    unfold spec_l1Own.f
    simp only [Option.bind_some, List.length_nil, List.nil_append]
    rw [if_pos (by omega)]
  unfold spec_fiCount.f
  rw [e]
  exact ev_bind _ (Ev.now _) (ev_bind _ (spec_fiProbes_f a b (l.length : Int) s hs p0 (by omega) (by omega) (by omega)) (spec_fiCount_l0 hz _ (by omega) a b _ [] l rfl hin ho))
end
theorem impl_cloneCounting_f (a b : Int) {l : List Int} (h : l.length ≤ 1000000) : impl_cloneCounting.f a b l = some (a, b, l) := by
  have e : slices_Clone_int_int.f l = some l := by
    unfold slices_Clone_int_int.f
    simp only [Option.bind_some, List.length_nil, List.nil_append]
    rw [if_pos (by omega)]
  unfold impl_cloneCounting.f
  rw [e]; rfl
def removeV (a b : Int) (l : List Int) (s : ByteArray) : Int × Int × List Int × Bool :=
  if (isCountB a b l && (isKeyB s && saysV a b (l.length : Int) (bloomC l) s)) = true then fiC (-1) a b (probesL a s (l.length : Int) b.toNat 0) l else (0, 0, [], false)
theorem upC_len {z : Int} : ∀ {t l l' : List Int}, upC z t l = some l' → l'.length = l.length
  | [], l, l', h => by simp only [upC, Option.some.injEq] at h; rw [h]
  | p :: t, l, l', h => by
    rw [upC] at h
    split at h
    · exact upC_len h
    · split at h
      · cases h
      · rw [upC_len h, List.length_set]
theorem fiC_len (z a b : Int) (t l : List Int) : (fiC z a b t l).2.2.1.length ≤ l.length := by
  unfold fiC
  split
  · rename_i l' h
    exact Nat.le_of_eq (upC_len h)
  · simp
theorem removeV_len (a b : Int) (l : List Int) (s : ByteArray) : (removeV a b l s).2.2.1.length ≤ 512 := by
  unfold removeV
  split
  · rename_i g
    rw [Bool.and_eq_true] at g
    obtain ⟨_, _, ⟨p4, p5⟩, _⟩ := isCountB_ok g.1
    have := fiC_len (-1) a b (probesL a s (l.length : Int) b.toNat 0) l
    omega
  · simp
section
variable (a b : Int) (l : List Int) (s : ByteArray) (hl : (l.length : Int) ≤ 9223372036854775806) (hz : (s.size : Int) ≤ 9223372036854775806)
include hl hz
theorem spec_CountingRemove_f : Ev (fun k => spec_CountingRemove.f k a b l s) (removeV a b l s) := by
  unfold spec_CountingRemove.f
  refine ev_bind _ (spec_fiCounting_f a b l hl) ?_
  by_cases c : isCountB a b l = true
  · obtain ⟨⟨p0, p1⟩, ⟨p2, p3⟩, ⟨p4, p5⟩, ho⟩ := isCountB_ok c
    refine ev_pos c (ev_bind _ (spec_IsKey_f s hz) ?_)
    by_cases c2 : isKeyB s = true
    · have hB := bloomC_good c
      obtain ⟨_, _, _, p6⟩ := isBloomB_ok hB
      refine ev_pos c2 (ev_bind _ (spec_fiBits_f a b p4 p5 ho) (ev_bind _ (spec_fiHas_f a b (l.length : Int) (bloomC l) s hz p0 (by omega) (by omega) (by omega) p4 (by omega) (by omega)) ?_))
      by_cases c3 : saysV a b (l.length : Int) (bloomC l) s = true
      · refine ev_pos c3 (ev_bind _ (spec_fiCount_f c (.inr rfl) s hz) (ev_some ?_))
        rw [removeV, if_pos (by rw [c, c2, c3]; rfl)]
      · exact ev_neg c3 (ev_some (by rw [removeV, if_neg (by simp [c3])]))
    · exact ev_neg c2 (ev_some (by rw [removeV, if_neg (by simp [c2])]))
  · exact ev_neg c (ev_some (by rw [removeV, if_neg (by simp [c])]))
theorem impl_CountingRemove_f : Ev (fun k => impl_CountingRemove.f k a b l s) (removeV a b l s) := by
  unfold impl_CountingRemove.f
  refine ev_bind _ (impl_IsCounting_f a b l hl) ?_
  by_cases c : isCountB a b l = true
  · obtain ⟨⟨p0, p1⟩, ⟨p2, p3⟩, ⟨p4, p5⟩, ho⟩ := isCountB_ok c
    refine ev_pos c (ev_bind _ (impl_IsKey_f s hz) (ev_succ ?_))
    simp only [impl_CountingRemove.j0]
    by_cases c2 : isKeyB s = true
    · have hB := bloomC_good c
      obtain ⟨_, _, _, p6⟩ := isBloomB_ok hB
      refine ev_neg (by simp [c2]) ?_
      rw [impl_cloneCounting_f a b (by omega)]
      refine ev_bind _ (Ev.now _) (ev_bind _ (impl_bloom_f a b p4 p5) (ev_bind _ (impl_says_f a b (l.length : Int) (bloomC l) s hz p0 (by omega) (by omega) (by omega) p4 (by omega) (by omega)) ?_))
      by_cases c3 : saysV a b (l.length : Int) (bloomC l) s = true
      · obtain ⟨y, e1, e2⟩ := impl_change_f c (.inr rfl) s hz
        have hv : removeV a b l s = fiC (-1) a b (probesL a s (l.length : Int) b.toNat 0) l := by rw [removeV, if_pos (by rw [c, c2, c3]; rfl)]
        rw [hv]
        refine ev_pos c3 (ev_bind _ e1 ?_)
        unfold fiC
        cases hu : upC (-1) (probesL a s (l.length : Int) b.toNat 0) l with
        | none => exact ev_neg (by simp) (Ev.now _)
        | some l' =>
          have := e2 l' hu
          subst this
          exact ev_pos (by simp) (Ev.now _)
      · exact ev_neg c3 (ev_some (by rw [removeV, if_neg (by simp [c3])]))
    · exact ev_pos (by simp [c2]) (ev_some (by rw [removeV, if_neg (by simp [c2])]))
  · refine ev_neg c (ev_succ ?_)
    simp only [impl_CountingRemove.j0]
    exact ev_pos (by trivial) (ev_some (by rw [removeV, if_neg (by simp [c])]))
end
end Go.Proofs.YtpkpjikkfikejaaQ
namespace Go.Proofs.YtpkpjikkfikejaaQ
open Go Go.RowKit Go.Proofs.YtpkpjikkfikejaaW.PrintWords Go.Proofs.YtpkpjikkfikejaaGp Go.Proofs.Ytpkpjikkfikejaa.PD

structure Bys (s : List Int) : Prop where
  len : (s.length : Int) ≤ 1048576
  all : ∀ x ∈ s, 0 ≤ x ∧ x ≤ 255
theorem and255 (x : Int) : 0 ≤ Go.bits .and .u64 x 255 ∧ Go.bits .and .u64 x 255 ≤ 255 := by
  have e : Go.bits .and .u64 x 255 = IntKind.u64.wrap (((BitVec.ofInt 64 x &&& BitVec.ofInt 64 255 : BitVec 64)).toNat : Int) := by unfold Go.bits; rfl
  have h : ((BitVec.ofInt 64 x &&& BitVec.ofInt 64 255 : BitVec 64)).toNat ≤ 255 := by
    rw [BitVec.toNat_and]
    exact Nat.and_le_right
  rw [e]
  unfold IntKind.wrap
  simp only [IntKind.bits, IntKind.signed]
  generalize (BitVec.ofInt 64 x &&& BitVec.ofInt 64 255 : BitVec 64).toNat = m at h
  simp
  omega
theorem rd_by {s : List Int} (hs : Bys s) (i : Int) : 0 ≤ rd s i ∧ rd s i ≤ 255 := by
  unfold rd
  by_cases c : i.toNat < s.length
  · rw [List.getD_eq_getElem?_getD, List.getElem?_eq_getElem c]
    exact hs.all _ (List.getElem_mem c)
  · rw [List.getD_eq_getElem?_getD, List.getElem?_eq_none (by omega)]
    simp
theorem next_ok {s : List Int} (hs : Bys s) {p : Int} (sd : Int) (h0 : 0 ≤ p) (h1 : p ≤ 4000000000000000000) :
    ∃ v p' sd', spec_l1Cur_next.f s p sd = some (v, p', sd') ∧ (0 ≤ v ∧ v ≤ 255) ∧ 0 ≤ p' ∧ p' ≤ p + 1 := by
  have hb := rd_by hs p
  have w1 : wrap64 (p + 1) = p + 1 := w64 (by omega) (by omega)
  have w2 : wrap64 (rd s p) = rd s p := w64 (by omega) (by omega)
  unfold spec_l1Cur_next.f
  rw [w1, w2]
  by_cases c : p < (s.length : Int)
  · rw [if_pos c, if_pos h0]
    split
    · exact ⟨_, _, _, rfl, hb, by omega, by omega⟩
    · omega
  · rw [if_neg c, if_neg (by omega)]
    refine ⟨_, _, _, rfl, ?_, by omega, by omega⟩
    have := and255 ((IntKind.u64.wrap ((IntKind.u64.wrap (IntKind.u64.wrap (sd * 6364136223846793005))) + 1442695040888963407)) / 1099511627776)
    rw [w64 (by omega) (by omega)]
    exact this
theorem pick_ok {s : List Int} (hs : Bys s) {p : Int} (sd : Int) {n : Int} (h0 : 0 ≤ p) (h1 : p ≤ 3000000000000000000) :
    ∃ v p' sd', spec_l1Cur_pick.f s p sd n = some (v, p', sd') ∧ (0 ≤ v ∧ (v < n ∨ v = 0)) ∧ 0 ≤ p' ∧ p' ≤ p + 2 := by
  unfold spec_l1Cur_pick.f
  by_cases c : n ≤ 1
  · rw [if_pos c]; exact ⟨_, _, _, rfl, ⟨by omega, .inr rfl⟩, h0, by omega⟩
  obtain ⟨v, p', sd', e, hv, q0, q1⟩ := next_ok hs sd h0 (by omega)
  have hn : ¬ n = 0 := by omega
  rw [if_neg c, e]
  simp only [Option.bind_some, if_neg hn]
  by_cases d : n > 200
  · obtain ⟨u, p2, sd2, e2, hu, r0, r1⟩ := next_ok hs sd' q0 (by omega)
    rw [if_pos d, e2]
    simp only [Option.bind_some]
    refine ⟨_, _, _, rfl, ?_, r0, by omega⟩
    rw [w64 (x := v * 256) (by omega) (by omega), w64 (x := v * 256 + u) (by omega) (by omega), Int.tmod_eq_emod_of_nonneg (by omega)]
    exact ⟨Int.emod_nonneg _ hn, .inl (Int.emod_lt_of_pos _ (by omega))⟩
  · rw [if_neg d]
    refine ⟨_, _, _, rfl, ?_, q0, by omega⟩
    rw [Int.tmod_eq_emod_of_nonneg hv.1]
    exact ⟨Int.emod_nonneg _ hn, .inl (Int.emod_lt_of_pos _ (by omega))⟩
theorem one_ok {s : List Int} (hs : Bys s) {p : Int} (sd : Int) (n : Int) (h0 : 0 ≤ p) (h1 : p ≤ 3000000000000000000) :
    ∃ v p' sd', spec_l1Cur_one.f s p sd n = some (v, p', sd') ∧ 0 ≤ p' ∧ p' ≤ p + 2 := by
  obtain ⟨v, p', sd', e, _, q0, q1⟩ := pick_ok hs sd (n := n) h0 h1
  unfold spec_l1Cur_one.f
  rw [e]
  exact ⟨_, _, _, rfl, q0, q1⟩
theorem among_ok {s : List Int} (hs : Bys s) {p : Int} (sd : Int) {l : List Int} (hl : 0 < l.length) (h0 : 0 ≤ p) (h1 : p ≤ 3000000000000000000) :
    ∃ v p' sd', spec_l1Cur_among.f s p sd l = some (v, p', sd') ∧ v ∈ l ∧ 0 ≤ p' ∧ p' ≤ p + 2 := by
  obtain ⟨v, p', sd', e, hv, q0, q1⟩ := pick_ok hs sd (n := (l.length : Int)) h0 h1
  have hm : rd l v ∈ l := by
    unfold rd
    have : v.toNat < l.length := by omega
    rw [List.getD_eq_getElem?_getD, List.getElem?_eq_getElem this]
    exact List.getElem_mem this
  unfold spec_l1Cur_among.f
  rw [e]
  simp only [Option.bind_some]
  rw [if_pos (by omega), if_pos (by omega)]
  exact ⟨_, _, _, rfl, hm, q0, q1⟩
theorem strOf_size (l : List Int) : (strOfNums l).size = l.length := by simp [strOfNums, ByteArray.size]

def Dr {α : Type} (g : Nat → Option (α × Int × Int)) (p c : Int) (P : α → Prop) : Prop := ∃ v p' sd', Ev g (v, p', sd') ∧ P v ∧ 0 ≤ p' ∧ p' ≤ p + c
theorem key_l1 (s : List Int) (p sd : Int) : ∀ (d : Nat) (x : List Int), 12 - x.length ≤ d → x.length ≤ 12 →
    ∃ v, Ev (fun k => spec_l1Cur_key.l1 k x s p sd) (v, p, sd) ∧ v.size ≤ 12 := by
  intro d
  induction d with
  | zero =>
    intro x h1 h2
    refine ⟨strOfNums x, ev_succ ?_, by rw [strOf_size]; omega⟩
    simp only [spec_l1Cur_key.l1]
    exact ev_neg (by omega) (Ev.now _)
  | succ d ih =>
    intro x h1 h2
    by_cases c : (x.length : Int) < 12
    · obtain ⟨v, e, hv⟩ := ih (x ++ [97]) (by simp; omega) (by simp; omega)
      refine ⟨v, ev_succ ?_, hv⟩
      simp only [spec_l1Cur_key.l1]
      exact ev_pos c (ev_pos (by omega) e)
    · refine ⟨strOfNums x, ev_succ ?_, by rw [strOf_size]; omega⟩
      simp only [spec_l1Cur_key.l1]
      exact ev_neg c (Ev.now _)
theorem key_l0 {s : List Int} (hs : Bys s) : ∀ (n : Nat) (x : List Int) (p sd : Int), x.length + n ≤ 12 → 0 ≤ p → p + 2 * (n : Int) ≤ 2000000000000000000 →
    Dr (fun k => spec_l1Cur_key.l0 k x (n : Int) s p sd) p (2 * (n : Int) + 2) (fun v => v.size ≤ 12) := by
  intro n
  induction n with
  | zero =>
    intro x p sd hx h0 h1
    obtain ⟨v, p', sd', e, q0, q1⟩ := one_ok hs sd 12 h0 (by omega)
    by_cases c : v = true
    · obtain ⟨u, eu, hu⟩ := key_l1 s p' sd' 12 x (by omega) (by omega)
      refine ⟨u, p', sd', ev_succ ?_, hu, q0, by omega⟩
      simp only [spec_l1Cur_key.l0, e]
      exact ev_neg (by omega) (ev_bind _ (Ev.now _) (ev_pos c eu))
    · refine ⟨strOfNums x, p', sd', ev_succ ?_, (by rw [strOf_size]; omega : (strOfNums x).size ≤ 12), q0, by omega⟩
      simp only [spec_l1Cur_key.l0, e]
      exact ev_neg (by omega) (ev_bind _ (Ev.now _) (ev_neg c (Ev.now _)))
  | succ n ih =>
    intro x p sd hx h0 h1
    obtain ⟨v, p', sd', e, hv, q0, q1⟩ := pick_ok hs sd (n := 11) h0 (by omega)
    obtain ⟨u, p2, sd2, eu, hu, r0, r1⟩ := ih (x ++ [bt (⟨#[97, 97, 98, 98, 99, 120, 121, 122, 33, 125, 48]⟩ : ByteArray) v]) p' sd' (by simp; omega) q0 (by omega)
    refine ⟨u, p2, sd2, ev_succ ?_, hu, r0, by omega⟩
    simp only [spec_l1Cur_key.l0, e]
    refine ev_pos (by omega) (ev_bind _ (Ev.now _) (ev_pos hv.1 (ev_pos (by omega) (ev_pos (by omega) ?_))))
    rw [wdec (by omega)]
    exact eu
theorem key_ok {s : List Int} (hs : Bys s) {p : Int} (sd : Int) (h0 : 0 ≤ p) (h1 : p ≤ 1000000000000000000) : Dr (fun k => spec_l1Cur_key.f k s p sd) p 12 (fun v => v.size ≤ 12) := by
  obtain ⟨v, p', sd', e, hv, q0, q1⟩ := pick_ok hs sd (n := 4) h0 (by omega)
  obtain ⟨u, p2, sd2, eu, hu, r0, r1⟩ := key_l0 hs (v.toNat + 1) [] p' sd' (by simp; omega) q0 (by omega)
  refine ⟨u, p2, sd2, ?_, hu, r0, by omega⟩
  unfold spec_l1Cur_key.f
  rw [e]
  refine ev_bind _ (Ev.now _) ?_
  rw [w64 (by omega) (by omega), show 1 + v = ((v.toNat + 1 : Nat) : Int) from by omega]
  exact eu
def insK (s : ByteArray) : List ByteArray → List ByteArray
  | [] => [s]
  | q :: t => if lessS q s = true then q :: insK s t else if q = s then q :: t else s :: q :: t
theorem insK_len (s : ByteArray) : ∀ l, (insK s l).length ≤ l.length + 1
  | [] => by simp [insK]
  | q :: t => by
    have := insK_len s t
    unfold insK
    split
    · simp; omega
    · split <;> simp
theorem insK_mem (s : ByteArray) : ∀ l, ∀ x ∈ insK s l, x = s ∨ x ∈ l
  | [], x, h => by simp [insK] at h; exact .inl h
  | q :: t, x, h => by
    unfold insK at h
    split at h
    · rcases List.mem_cons.1 h with e | e
      · exact .inr (by simp [e])
      · rcases insK_mem s t x e with e | e
        · exact .inl e
        · exact .inr (by simp [e])
    · split at h
      · exact .inr h
      · rcases List.mem_cons.1 h with e | e
        · exact .inl e
        · exact .inr e
theorem putS_l0 (x0 : List ByteArray) (s : ByteArray) (hx : x0.length ≤ 1000000) : ∀ (t pre : List ByteArray), x0 = pre ++ t →
    Ev (fun k => spec_l1PutS.l0 k x0 s (pre.length : Int)) (pre ++ insK s t) := by
  intro t
  induction t with
  | nil =>
    intro pre h
    have hp : x0 = pre := by rw [h, List.append_nil]
    subst hp
    refine ev_succ ?_
    simp only [spec_l1PutS.l0]
    refine ev_neg (by omega) (ev_bind _ (Ev.now _) (ev_pos (by omega) (ev_pos (by omega) (ev_bind _ (Ev.now _) ?_))))
    rw [Int.toNat_natCast, List.take_length, List.nil_append]
    refine ev_pos (by simp; omega) (ev_bind _ (Ev.now _) (ev_pos (by omega) (ev_bind _ (Ev.now _) (ev_bind _ (Ev.now _) (ev_pos (by simp; omega) (ev_some ?_))))))
    simp [insK]
  | cons q t ih =>
    intro pre h
    have hm : ((pre.length : Nat) : Int) < (x0.length : Int) := by rw [h]; exact lt_mid
    have hg : rdOf ByteArray.empty x0 (pre.length : Int) = q := by rw [h]; exact rdOf_mid
    refine ev_succ ?_
    simp only [spec_l1PutS.l0, hg]
    refine ev_pos hm (ev_pos (by omega) ?_)
    unfold insK
    by_cases c : lessS q s = true
    · refine ev_pos c ?_
      rw [winc (by omega), if_pos c]
      have := ih (pre ++ [q]) (by rw [h]; simp)
      rw [len_one] at this
      simpa using this
    · refine ev_neg c ?_
      rw [if_neg c]
      by_cases d : q = s
      · refine ev_pos (tl_inj.2 d) (ev_some ?_)
        rw [if_pos d, h]
      · refine ev_neg (fun e => d (tl_inj.1 e)) (ev_bind _ (Ev.now _) (ev_pos (by omega) (ev_bind _ (Ev.now _) ?_)))
        have et : x0.take pre.length = pre := by rw [h]; simp
        have ed : x0.drop pre.length = q :: t := by rw [h]; simp
        have hl : x0.length = pre.length + (t.length + 1) := by rw [h]; simp
        rw [Int.toNat_natCast, et, ed, List.nil_append, if_neg d]
        refine ev_pos (by simp; omega) (ev_bind _ (Ev.now _) (ev_pos (by omega) (ev_bind _ (Ev.now _) (ev_bind _ (Ev.now _) (ev_pos (by simp; omega) (ev_some ?_))))))
        simp
theorem putS_f (l : List ByteArray) (s : ByteArray) (h : l.length ≤ 1000000) : Ev (fun k => spec_l1PutS.f k l s) (insK s l) := putS_l0 l s h l [] rfl
def Kys (m : Nat) (l : List ByteArray) : Prop := l.length ≤ m ∧ ∀ s ∈ l, s.size ≤ 13
theorem Kys.ins {m : Nat} {l : List ByteArray} (h : Kys m l) {s : ByteArray} (hs : s.size ≤ 13) : Kys (m + 1) (insK s l) :=
  ⟨by have := insK_len s l; have := h.1; omega, fun x hx => by exact (insK_mem s l x hx).elim (fun e => e ▸ hs) (h.2 x)⟩
theorem Kys.one {m : Nat} {l : List ByteArray} (h : Kys m l) {s : ByteArray} (hs : s.size ≤ 13) : Kys (m + 1) (l ++ [s]) :=
  ⟨by have := h.1; simp; omega, fun x hx => by exact (List.mem_append.1 hx).elim (h.2 x) (fun e => List.mem_singleton.1 e ▸ hs)⟩
theorem Kys.mono {m m' : Nat} {l : List ByteArray} (h : Kys m l) (hm : m ≤ m') : Kys m' l := ⟨Nat.le_trans h.1 hm, h.2⟩
theorem keys_l0 {s : List Int} (hs : Bys s) : ∀ (n m : Nat) (x : List ByteArray) (p sd : Int), Kys m x → m + n ≤ 1000 → 0 ≤ p → p + 12 * (n : Int) ≤ 500000000000000000 →
    Dr (fun k => spec_l1Cur_keys.l0 k x (n : Int) s p sd) p (12 * (n : Int)) (Kys (m + n)) := by
  intro n
  induction n with
  | zero =>
    intro m x p sd hx hm h0 h1
    refine ⟨x, p, sd, ev_succ ?_, hx, h0, by omega⟩
    simp only [spec_l1Cur_keys.l0]
    exact ev_neg (by omega) (Ev.now _)
  | succ n ih =>
    intro m x p sd hx hm h0 h1
    obtain ⟨v, p', sd', e, hv, q0, q1⟩ := key_ok hs sd h0 (by omega)
    have hl := hx.1
    obtain ⟨u, p2, sd2, eu, hu, r0, r1⟩ := ih (m + 1) (insK v x) p' sd' (hx.ins (by omega)) (by omega) q0 (by omega)
    refine ⟨u, p2, sd2, ev_succ ?_, hu.mono (by omega), r0, by omega⟩
    simp only [spec_l1Cur_keys.l0]
    refine ev_pos (by omega) (ev_bind _ e (ev_bind _ (putS_f x v (by omega)) ?_))
    rw [wdec (by omega)]
    exact eu
theorem keys_ok {s : List Int} (hs : Bys s) {p : Int} (sd : Int) {n : Nat} (hn : n ≤ 100) (h0 : 0 ≤ p) (h1 : p ≤ 400000000000000000) : Dr (fun k => spec_l1Cur_keys.f k s p sd (n : Int)) p (12 * (n : Int) + 2) (Kys n) := by
  obtain ⟨v, p', sd', e, hv, q0, q1⟩ := pick_ok hs sd (n := (n : Int) + 1) h0 (by omega)
  obtain ⟨u, p2, sd2, eu, hu, r0, r1⟩ := keys_l0 hs v.toNat 0 [] p' sd' ⟨by simp, by simp⟩ (by omega) q0 (by omega)
  refine ⟨u, p2, sd2, ?_, hu.mono (by omega), r0, by omega⟩
  unfold spec_l1Cur_keys.f
  rw [w64 (x := (n : Int) + 1) (by omega) (by omega), e]
  refine ev_bind _ (Ev.now _) ?_
  rw [show ((v.toNat : Nat) : Int) = v from by omega] at eu
  exact eu
end Go.Proofs.YtpkpjikkfikejaaQ
namespace Go.Proofs.YtpkpjikkfikejaaQ
open Go Go.RowKit Go.Proofs.YtpkpjikkfikejaaW.PrintWords Go.Proofs.YtpkpjikkfikejaaGp Go.Proofs.Ytpkpjikkfikejaa.PD

theorem Dr.mono {α : Type} {g : Nat → Option (α × Int × Int)} {p c c' : Int} {P P' : α → Prop} (h : Dr g p c P) (hc : c ≤ c') (hP : ∀ x, P x → P' x) : Dr g p c' P' := by
  obtain ⟨v, p', sd', e, hv, q0, q1⟩ := h
  exact ⟨v, p', sd', e, hP v hv, q0, by omega⟩
theorem seed9_ok {s : List Int} (hs : Bys s) {p : Int} (sd : Int) (h0 : 0 ≤ p) (h1 : p ≤ 1000000000000000000) :
    ∃ v p' sd', spec_l1Cur_seed9.f s p sd = some (v, p', sd') ∧ (-1 ≤ v ∧ v ≤ 10000) ∧ 0 ≤ p' ∧ p' ≤ p + 4 := by
  obtain ⟨v, p', sd', e, hv, q0, q1⟩ := pick_ok hs sd (n := 12) h0 (by omega)
  unfold spec_l1Cur_seed9.f
  rw [e]
  simp only [Option.bind_some]
  by_cases c : v = 0
  · obtain ⟨u, p2, sd2, eu, hu, r0, r1⟩ := among_ok hs sd' (l := [(-1), 9999, 10000]) (by simp) q0 (by omega)
    rw [if_pos c, eu]
    refine ⟨u, p2, sd2, rfl, ?_, r0, by omega⟩
    simp only [List.mem_cons, List.not_mem_nil, or_false] at hu
    omega
  · rw [if_neg c]
    by_cases d : v = 1
    · obtain ⟨u, p2, sd2, eu, hu, r0, r1⟩ := pick_ok hs sd' (n := 10000) q0 (by omega)
      rw [if_pos d, eu]
      exact ⟨u, p2, sd2, rfl, by omega, r0, by omega⟩
    · obtain ⟨u, p2, sd2, eu, hu, r0, r1⟩ := pick_ok hs sd' (n := 20) q0 (by omega)
      rw [if_neg d, eu]
      exact ⟨u, p2, sd2, rfl, by omega, r0, by omega⟩
theorem of_ok {s : List Int} (hs : Bys s) {p : Int} (sd : Int) {l : List ByteArray} (hl : 0 < l.length) (h0 : 0 ≤ p) (h1 : p ≤ 3000000000000000000) :
    ∃ v p' sd', spec_l1Cur_of.f s p sd l = some (v, p', sd') ∧ v ∈ l ∧ 0 ≤ p' ∧ p' ≤ p + 2 := by
  obtain ⟨v, p', sd', e, hv, q0, q1⟩ := pick_ok hs sd (n := (l.length : Int)) h0 h1
  have hm : rdOf ByteArray.empty l v ∈ l := by
    unfold rdOf
    have : v.toNat < l.length := by omega
    rw [List.getD_eq_getElem?_getD, List.getElem?_eq_getElem this]
    exact List.getElem_mem this
  unfold spec_l1Cur_of.f
  rw [e]
  simp only [Option.bind_some]
  rw [if_pos (by omega), if_pos (by omega)]
  exact ⟨_, _, _, rfl, hm, q0, q1⟩
theorem text_ok {s : List Int} (hs : Bys s) {p : Int} (sd : Int) (h0 : 0 ≤ p) (h1 : p ≤ 500000000000000000) : Dr (fun k => spec_l1Cur_text.f k s p sd) p 14 (fun v => v.size ≤ 13) := by
  obtain ⟨v, p', sd', e, hv, q0, q1⟩ := pick_ok hs sd (n := 16) h0 (by omega)
  obtain ⟨u, p2, sd2, eu, hu, r0, r1⟩ := key_ok hs sd' q0 (by omega)
  unfold spec_l1Cur_text.f
  rw [e]
  simp only [Option.bind_some]
  by_cases c0 : v = 0
  · exact ⟨_, p', sd', ev_pos c0 (Ev.now _), by decide, q0, by omega⟩
  · by_cases c1 : v = 1
    · have h1 : (⟨#[32]⟩ : ByteArray).size = 1 := rfl
      refine ⟨u ++ ⟨#[32]⟩, p2, sd2, ev_neg c0 (ev_pos c1 (ev_bind _ eu (ev_pos (by simp only []; omega) (Ev.now _)))), ?_, r0, by omega⟩
      show (u ++ ⟨#[32]⟩ : ByteArray).size ≤ 13
      rw [ByteArray.size_append]
      omega
    · by_cases c2 : v = 2
      · exact ⟨_, p', sd', ev_neg c0 (ev_neg c1 (ev_pos c2 (Ev.now _))), by decide, q0, by omega⟩
      · by_cases c3 : v = 3
        · obtain ⟨x, p3, sd3, ex, hx, t0, t1⟩ := of_ok hs sd' (l := [(⟨#[126]⟩ : ByteArray), (⟨#[125]⟩ : ByteArray), (⟨#[97, 126]⟩ : ByteArray), (⟨#[127]⟩ : ByteArray)]) (by simp) q0 (by omega)
          refine ⟨x, p3, sd3, ev_neg c0 (ev_neg c1 (ev_neg c2 (ev_pos c3 ?_))), ?_, t0, by omega⟩
          · rw [ex]; exact ev_bind _ (Ev.now _) (Ev.now _)
          · simp only [List.mem_cons, List.not_mem_nil, or_false] at hx
            rcases hx with rfl | rfl | rfl | rfl <;> decide
        · exact ⟨u, p2, sd2, ev_neg c0 (ev_neg c1 (ev_neg c2 (ev_neg c3 (ev_bind _ eu (Ev.now _))))), by omega, r0, by omega⟩
theorem many_l0 (s : List Int) (p sd : Int) : ∀ (d i m : Nat) (x : List ByteArray), Kys m x → m + d ≤ 1000 → i + d ≤ 1000 →
    ∃ v, Ev (fun k => spec_l1Cur_many.l0 k ((i + d : Nat) : Int) x (i : Int) s p sd) (v, p, sd) ∧ Kys (m + d) v := by
  intro d
  induction d with
  | zero =>
    intro i m x hx hm hi
    refine ⟨x, ev_succ ?_, hx⟩
    simp only [spec_l1Cur_many.l0]
    exact ev_neg (by omega) (Ev.now _)
  | succ d ih =>
    intro i m x hx hm hi
    have hl := hx.1
    have hz : (strOfNums [(wrap64 (97 + (wrap64 (Int.tdiv (i : Int) 10)))) % 256, (wrap64 (48 + (Int.tmod (i : Int) 10))) % 256]).size ≤ 13 := by rw [strOf_size]; simp
    obtain ⟨v, e, hv⟩ := ih (i + 1) (m + 1) (insK (strOfNums [(wrap64 (97 + (wrap64 (Int.tdiv (i : Int) 10)))) % 256, (wrap64 (48 + (Int.tmod (i : Int) 10))) % 256]) x) (hx.ins hz) (by omega) (by omega)
    refine ⟨v, ev_succ ?_, hv.mono (by omega)⟩
    simp only [spec_l1Cur_many.l0]
    refine ev_pos (by omega) (ev_bind _ (putS_f x _ (by omega)) ?_)
    rw [winc (by omega), show i + (d + 1) = i + 1 + d from by omega]
    exact e
theorem anyKeys_ok {s : List Int} (hs : Bys s) {p : Int} (sd : Int) {n : Nat} (hn : n ≤ 40) (h0 : 0 ≤ p) (h1 : p ≤ 100000000000000000) : Dr (fun k => spec_l1Cur_anyKeys.f k s p sd (n : Int)) p 600 (Kys 42) := by
  obtain ⟨ks, p', sd', e, hv, q0, q1⟩ := keys_ok hs sd (by omega : n ≤ 100) h0 (by omega)
  obtain ⟨v, p2, sd2, e2, hv2, r0, r1⟩ := pick_ok hs sd' (n := 14) q0 (by omega)
  have hl := hv.1
  unfold spec_l1Cur_anyKeys.f
  by_cases c0 : v = 0
  · obtain ⟨u, p3, sd3, eu, hu, t0, t1⟩ := text_ok hs sd2 r0 (by omega)
    refine ⟨ks ++ [u], p3, sd3, ev_bind _ e ?_, (hv.one hu).mono (by omega), t0, by omega⟩
    simp only [e2]
    exact ev_bind _ (Ev.now _) (ev_pos c0 (ev_bind _ eu (ev_pos (by omega) (Ev.now _))))
  · by_cases c1 : v = 1
    · by_cases c : (ks.length : Int) > 0
      · obtain ⟨u, p3, sd3, eu, hu, t0, t1⟩ := pick_ok hs sd2 (n := (ks.length : Int)) r0 (by omega)
        have hm : rdOf ByteArray.empty ks u ∈ ks := by
          unfold rdOf
          have : u.toNat < ks.length := by omega
          rw [List.getD_eq_getElem?_getD, List.getElem?_eq_getElem this]
          exact List.getElem_mem this
        refine ⟨ks ++ [rdOf ByteArray.empty ks u], p3, sd3, ev_bind _ e ?_, (hv.one (hv.2 _ hm)).mono (by omega), t0, by omega⟩
        simp only [e2]
        refine ev_bind _ (Ev.now _) (ev_neg c0 (ev_pos c1 (ev_pos c ?_)))
        simp only [eu]
        exact ev_bind _ (Ev.now _) (ev_pos (by omega) (ev_pos (by omega) (ev_pos (by omega) (Ev.now _))))
      · refine ⟨ks, p2, sd2, ev_bind _ e ?_, hv.mono (by omega), r0, by omega⟩
        simp only [e2]
        exact ev_bind _ (Ev.now _) (ev_neg c0 (ev_pos c1 (ev_neg c (Ev.now _))))
    · by_cases c2 : v = 2
      · obtain ⟨u, p3, sd3, eu, hu, t0, t1⟩ := pick_ok hs sd2 (n := 2) r0 (by omega)
        obtain ⟨y, ey, hy⟩ := many_l0 s p3 sd3 (40 + u.toNat) 0 0 [] ⟨by simp, by simp⟩ (by omega) (by omega)
        refine ⟨y, p3, sd3, ev_bind _ e ?_, hy.mono (by omega), t0, by omega⟩
        simp only [e2]
        refine ev_bind _ (Ev.now _) (ev_neg c0 (ev_neg c1 (ev_pos c2 ?_)))
        simp only [eu]
        refine ev_bind _ (Ev.now _) (ev_bind (y, p3, sd3) ?_ (Ev.now _))
        unfold spec_l1Cur_many.f
        simp only []
        rw [w64 (by omega) (by omega), show 40 + u = ((0 + (40 + u.toNat) : Nat) : Int) from by omega]
        exact ey
      · refine ⟨ks, p2, sd2, ev_bind _ e ?_, hv.mono (by omega), r0, by omega⟩
        simp only [e2]
        exact ev_bind _ (Ev.now _) (ev_neg c0 (ev_neg c1 (ev_neg c2 (Ev.now _))))
theorem big_f {l0 l1 : List Int} (h0 : l0.length ≤ maxLen) (h1 : l1.length ≤ maxLen) : ∃ b, laws_big.f l0 l1 = some b ∧ (b = false → (l0.length : Int) ≤ 1048576 ∧ (l1.length : Int) ≤ 1048576) := by
  rw [maxLen_eq] at h0 h1
  unfold laws_big.f
  by_cases c : (l0.length : Int) > 1048576
  · exact ⟨true, if_pos c, by simp⟩
  · refine ⟨_, if_neg c, fun h => ?_⟩
    rw [decide_eq_false_iff_not, w64 (by omega) (by omega)] at h
    omega
theorem bys {l : List Int} (h : (l.length : Int) ≤ 1048576) (hw : ∀ x ∈ l, (Lit.int .u8 x).wf = true) : Bys l := by
  refine ⟨h, fun x hx => ?_⟩
  have := hw x hx
  simp only [Lit.wf, Bool.and_eq_true, decide_eq_true_eq] at this
  exact this
end Go.Proofs.YtpkpjikkfikejaaQ
namespace Go.Proofs.YtpkpjikkfikejaaQ
open Go Go.RowKit Go.Proofs.YtpkpjikkfikejaaW.PrintWords Go.Proofs.YtpkpjikkfikejaaGp Go.Proofs.Ytpkpjikkfikejaa.PD

theorem probes_ok {s : List Int} (hs : Bys s) {p : Int} (sd : Int) (h0 : 0 ≤ p) (h1 : p ≤ 400000000000000000) : ∃ v p' sd', spec_l1Cur_probes.f s p sd = some (v, p', sd') ∧ 0 ≤ p' ∧ p' ≤ p + 10 := by
  obtain ⟨b, p1, sd1, e1, q0, q1⟩ := one_ok hs sd 10 h0 (by omega)
  unfold spec_l1Cur_probes.f
  rw [e1]
  simp only [Option.bind_some]
  by_cases c : b = true
  · obtain ⟨u, p2, sd2, e2, hu, r0, r1⟩ := among_ok hs sd1 (l := [(-1), 0, 8, 9]) (by simp) q0 (by omega)
    rw [if_pos c, e2]
    exact ⟨u, p2, sd2, rfl, r0, by omega⟩
  · obtain ⟨u, p2, sd2, e2, hu, r0, r1⟩ := pick_ok hs sd1 (n := 4) q0 (by omega)
    rw [if_neg c, e2]
    exact ⟨wrap64 (1 + u), p2, sd2, rfl, r0, by omega⟩
end Go.Proofs.YtpkpjikkfikejaaQ
namespace Go.Proofs.YtpkpjikkfikejaaQ
open Go Go.RowKit Go.Proofs.YtpkpjikkfikejaaW.PrintWords Go.Proofs.YtpkpjikkfikejaaGp Go.Proofs.Ytpkpjikkfikejaa.PD

theorem size2_ok {s : List Int} (hs : Bys s) {p : Int} (sd : Int) (h0 : 0 ≤ p) (h1 : p ≤ 10000000000000000) : ∃ v p' sd', spec_l1Cur_size2.f s p sd = some (v, p', sd') ∧ (-1 ≤ v ∧ v ≤ 513) ∧ 0 ≤ p' ∧ p' ≤ p + 10 := by
  obtain ⟨b, p1, sd1, e1, q0, q1⟩ := one_ok hs sd 10 h0 (by omega)
  unfold spec_l1Cur_size2.f
  rw [e1]
  simp only [Option.bind_some]
  by_cases c : b = true
  · obtain ⟨u, p2, sd2, e2, hu, r0, r1⟩ := among_ok hs sd1 (l := [(-1), 0, 512, 513]) (by simp) q0 (by omega)
    rw [if_pos c, e2]
    simp only [List.mem_cons, List.not_mem_nil, or_false] at hu
    exact ⟨u, p2, sd2, rfl, by omega, r0, by omega⟩
  · obtain ⟨u, p2, sd2, e2, hu, r0, r1⟩ := among_ok hs sd1 (l := [4, 16, 40, 120]) (by simp) q0 (by omega)
    simp only [List.mem_cons, List.not_mem_nil, or_false] at hu
    obtain ⟨v, p3, sd3, e3, hv, t0, t1⟩ := pick_ok hs sd2 (n := u) r0 (by omega)
    rw [if_neg c, e2]
    simp only [Option.bind_some, e3]
    refine ⟨wrap64 (1 + v), p3, sd3, rfl, ?_, t0, by omega⟩
    rw [w64 (by omega) (by omega)]
    omega
end Go.Proofs.YtpkpjikkfikejaaQ
namespace Go.Proofs.YtpkpjikkfikejaaQ
open Go Go.RowKit Go.Proofs.YtpkpjikkfikejaaW.PrintWords Go.Proofs.YtpkpjikkfikejaaGp Go.Proofs.Ytpkpjikkfikejaa.PD

theorem DrawBloomOf_ok {s : List Int} (hs : Bys s) : ∃ a b n ks, Ev (fun k => spec_DrawBloomOf.f k s) (a, b, n, ks) ∧ Kys 42 ks := by
  obtain ⟨a, p1, sd1, e1, _, q0, q1⟩ := seed9_ok hs 0 (p := 0) (by omega) (by omega)
  obtain ⟨b, p2, sd2, e2, r0, r1⟩ := probes_ok hs sd1 q0 (by omega)
  obtain ⟨n, p3, sd3, e3, _, t0, t1⟩ := size2_ok hs sd2 r0 (by omega)
  obtain ⟨ks, p4, sd4, e4, hk, w0, w1⟩ := anyKeys_ok hs sd3 (n := 9) (by omega) t0 (by omega)
  refine ⟨a, b, n, ks, ?_, hk⟩
  unfold spec_DrawBloomOf.f
  simp only [e1, Option.bind_some, e2, e3]
  exact ev_bind _ e4 (Ev.now _)
end Go.Proofs.YtpkpjikkfikejaaQ
namespace Go.Proofs.YtpkpjikkfikejaaQ
open Go Go.RowKit Go.Proofs.YtpkpjikkfikejaaW.PrintWords Go.Proofs.YtpkpjikkfikejaaW.PrintMore Go.Proofs.YtpkpjikkfikejaaGp Go.Proofs.Ytpkpjikkfikejaa.PD

def cnt (q : Int) : List Int → Int
  | [] => 0
  | p :: ps => (if p = q then 1 else 0) + cnt q ps
theorem cnt_nn (q : Int) : ∀ ps, 0 ≤ cnt q ps
  | [] => by simp [cnt]
  | p :: ps => by
    have := cnt_nn q ps
    rw [cnt]
    split <;> omega
theorem cnt_pos (q : Int) : ∀ ps, 0 < cnt q ps ↔ q ∈ ps
  | [] => by simp [cnt]
  | p :: ps => by
    have h := cnt_pos q ps
    have hn := cnt_nn q ps
    rw [cnt, List.mem_cons]
    by_cases c : p = q
    · rw [if_pos c]
      exact ⟨fun _ => .inl c.symm, fun _ => by omega⟩
    · rw [if_neg c, Int.zero_add, h]
      exact ⟨.inr, fun h => h.resolve_left (fun e => c e.symm)⟩
theorem up_ok : ∀ (ps l : List Int), okC l → inC l ps → ∃ l', upC 1 ps l = some l' ∧ l'.length = l.length ∧ okC l' ∧ ∀ q, 0 ≤ q → q < (l.length : Int) → rd l' q = (if rd l q + cnt q ps ≤ 15 then rd l q + cnt q ps else 15)
  | [], l, h, _ => ⟨l, rfl, rfl, h, fun q h0 h1 => by
      have := okC_rd h h0 h1
      simp only [cnt, Int.add_zero]
      rw [if_pos this.2]⟩
  | p :: ps, l, h, hin => by
    obtain ⟨p0, p1⟩ := hin p (List.mem_cons_self ..)
    have hr := okC_rd h p0 p1
    rw [upC]
    by_cases c : rd l p = 15
    · rw [if_pos c]
      obtain ⟨l', e, el, eo, eq⟩ := up_ok ps l h (fun q hq => hin q (List.mem_cons_of_mem _ hq))
      refine ⟨l', e, el, eo, fun q h0 h1 => ?_⟩
      rw [eq q h0 h1, cnt]
      have hn := cnt_nn q ps
      by_cases d : p = q
      · subst d
        rw [if_pos rfl, c]
        split <;> split <;> omega
      · rw [if_neg d, Int.zero_add]
    · rw [if_neg c, if_neg (by omega)]
      have h2 : okC (l.set p.toNat (rd l p + 1)) := okC_set h _ (by omega) (by omega)
      obtain ⟨l', e, el, eo, eq⟩ := up_ok ps (l.set p.toNat (rd l p + 1)) h2 (fun q hq => by rw [List.length_set]; exact hin q (List.mem_cons_of_mem _ hq))
      rw [List.length_set] at el eq
      refine ⟨l', e, el, eo, fun q h0 h1 => ?_⟩
      rw [eq q h0 h1, cnt, rd_set_at p0 p1 _ h0]
      by_cases d : p = q
      · subst d
        rw [if_pos rfl, if_pos rfl, Int.add_assoc]
      · rw [if_neg d, if_neg d, Int.zero_add]
theorem down_ok : ∀ (ps l : List Int), okC l → inC l ps → (∀ q, 0 ≤ q → q < (l.length : Int) → rd l q = 15 ∨ cnt q ps ≤ rd l q) → ∃ l', upC (-1) ps l = some l' ∧ l'.length = l.length ∧ ∀ q, 0 ≤ q → q < (l.length : Int) → rd l' q = (if rd l q = 15 then 15 else rd l q - cnt q ps)
  | [], l, h, _, _ => ⟨l, rfl, rfl, fun q h0 h1 => by
      simp only [cnt, Int.sub_zero]
      split <;> simp_all⟩
  | p :: ps, l, h, hin, he => by
    obtain ⟨p0, p1⟩ := hin p (List.mem_cons_self ..)
    have hr := okC_rd h p0 p1
    rw [upC]
    by_cases c : rd l p = 15
    · rw [if_pos c]
      obtain ⟨l', e, el, eq⟩ := down_ok ps l h (fun q hq => hin q (List.mem_cons_of_mem _ hq)) (fun q h0 h1 => by
        rcases he q h0 h1 with x | x
        · exact .inl x
        · refine .inr ?_
          rw [cnt] at x
          split at x <;> omega)
      refine ⟨l', e, el, fun q h0 h1 => ?_⟩
      rw [eq q h0 h1, cnt]
      by_cases d : p = q
      · subst d
        rw [if_pos c, if_pos c]
      · rw [if_neg d, Int.zero_add]
    · have hp := (he p p0 p1).resolve_left c
      have hn := cnt_nn p ps
      rw [cnt, if_pos rfl] at hp
      rw [if_neg c, if_neg (by omega)]
      have h2 : okC (l.set p.toNat (rd l p + -1)) := okC_set h _ (by omega) (by omega)
      obtain ⟨l', e, el, eq⟩ := down_ok ps (l.set p.toNat (rd l p + -1)) h2 (fun q hq => by rw [List.length_set]; exact hin q (List.mem_cons_of_mem _ hq)) (fun q h0 h1 => by
        rw [List.length_set] at h1
        rw [rd_set_at p0 p1 _ h0]
        by_cases d : p = q
        · subst d
          rw [if_pos rfl]
          exact .inr (by omega)
        · rw [if_neg d]
          rcases he q h0 h1 with x | x
          · exact .inl x
          · refine .inr ?_
            rw [cnt, if_neg d] at x
            omega)
      rw [List.length_set] at el eq
      refine ⟨l', e, el, fun q h0 h1 => ?_⟩
      rw [eq q h0 h1, cnt, rd_set_at p0 p1 _ h0]
      by_cases d : p = q
      · subst d
        rw [if_pos rfl, if_pos rfl, if_neg (by omega), if_neg c]
        omega
      · rw [if_neg d, if_neg d, Int.zero_add]
theorem ext_rd {l l' : List Int} (h : l.length = l'.length) (e : ∀ q, 0 ≤ q → q < (l.length : Int) → rd l q = rd l' q) : l = l' := by
  refine List.ext_getElem h fun i h1 h2 => ?_
  have := e (i : Int) (by omega) (by omega)
  rwa [rd_get h1, rd_get h2] at this

def incC (l ps : List Int) : List Int := (upC 1 ps l).getD l
theorem incC_ok {ps l : List Int} (h : okC l) (hin : inC l ps) : upC 1 ps l = some (incC l ps) ∧ (incC l ps).length = l.length ∧ okC (incC l ps) ∧ ∀ q, 0 ≤ q → q < (l.length : Int) → rd (incC l ps) q = (if rd l q + cnt q ps ≤ 15 then rd l q + cnt q ps else 15) := by
  obtain ⟨l', e, h1, h2, h3⟩ := up_ok ps l h hin
  have : incC l ps = l' := by rw [incC, e]; rfl
  rw [this]
  exact ⟨e, h1, h2, h3⟩
theorem down_up {ps l : List Int} (h : okC l) (hin : inC l ps) : ∃ l', upC (-1) ps (incC l ps) = some l' ∧ l'.length = l.length ∧ ((∀ x ∈ incC l ps, x ≠ 15) → l' = l) := by
  obtain ⟨_, e1, e2, e3⟩ := incC_ok h hin
  obtain ⟨l', f1, f2, f3⟩ := down_ok ps (incC l ps) e2 (fun p hp => by rw [e1]; exact hin p hp) (fun q h0 h1 => by
    rw [e1] at h1
    have := okC_rd h h0 h1
    rw [e3 q h0 h1]
    split
    · exact .inr (by omega)
    · exact .inl rfl)
  rw [e1] at f2 f3
  refine ⟨l', f1, f2, fun hx => ext_rd f2 fun q h0 h1 => ?_⟩
  rw [f2] at h1
  rw [f3 q h0 h1]
  have hq : rd (incC l ps) q ≠ 15 := by
    obtain ⟨h2, e⟩ := rd_int (l := incC l ps) h0 (by omega)
    rw [e]
    exact hx _ (List.getElem_mem h2)
  rw [if_neg hq]
  rw [e3 q h0 h1] at hq ⊢
  split at hq <;> rename_i c
  · rw [if_pos c]; omega
  · simp at hq
theorem bloomC_len (l : List Int) : (bloomC l).length = (blankV (l.length : Int)).length := mkL_len _ _ _ _
theorem bloomC_inc {ps l : List Int} (hl : 1 ≤ (l.length : Int)) (h : okC l) (hin : inC l ps) : bloomC (incC l ps) = addP (bloomC l) ps := by
  obtain ⟨_, e1, e2, e3⟩ := incC_ok h hin
  obtain ⟨a1, a2⟩ := bloomC_bits (l := incC l ps) (by omega)
  obtain ⟨b1, b2⟩ := bloomC_bits hl
  have hb := blankV_len hl
  have hbl := bloomC_len l
  have hw : inW (bloomC l) ps := fun p hp => by
    obtain ⟨x, y⟩ := hin p hp
    exact ⟨x, by omega⟩
  obtain ⟨c1, c2⟩ := addP_ok ps (bloomC l) b1 hw
  refine words_ext a1 c1 ?_ fun q => ?_
  · rw [addP_len, bloomC_len, bloomC_len, e1]
  · rw [c2, a2, b2, e1]
    by_cases d : q < l.length
    · rw [decide_eq_true d, Bool.true_and, Bool.true_and, onC, onC, e3 _ (by omega) (by omega)]
      have hn := cnt_nn (q : Int) ps
      have hr := okC_rd h (p := (q : Int)) (by omega) (by omega)
      rw [Bool.eq_iff_iff, Bool.or_eq_true, decide_eq_true_eq, decide_eq_true_eq, List.any_eq_true]
      have hp := cnt_pos (q : Int) ps
      constructor
      · intro g
        by_cases z : rd l (q : Int) = 0
        · refine .inr ⟨(q : Int), hp.1 ?_, by simp⟩
          rw [z, Int.zero_add] at g
          split at g <;> omega
        · exact .inl z
      · rintro (g | ⟨p, g1, g2⟩)
        · split <;> omega
        · rw [decide_eq_true_eq] at g2
          have : p = (q : Int) := by have := (hin p g1).1; omega
          subst this
          have := hp.2 g1
          split <;> omega
    · rw [decide_eq_false d, Bool.false_and, Bool.false_and, Bool.false_or]
      symm
      rw [Bool.eq_false_iff]
      intro g
      rw [List.any_eq_true] at g
      obtain ⟨p, g1, g2⟩ := g
      rw [decide_eq_true_eq] at g2
      have := hin p g1
      omega
theorem says_inc {a b : Int} {l : List Int} {s : ByteArray} (h : isCountB a b l = true) : saysV a b (l.length : Int) (bloomC (incC l (probesL a s (l.length : Int) b.toNat 0))) s = true := by
  obtain ⟨_, _, ⟨p4, p5⟩, ho⟩ := isCountB_ok h
  have hin := probes_inC h s
  have hb := blankV_len p4
  have hbl := bloomC_len l
  rw [bloomC_inc p4 ho hin]
  exact addP_all (bloomC_bits p4).1 (fun p hp => by
    obtain ⟨x, y⟩ := hin p hp
    exact ⟨x, by omega⟩)
theorem isCountB_inc {a b : Int} {l ps : List Int} (h : isCountB a b l = true) (hin : inC l ps) : isCountB a b (incC l ps) = true := by
  obtain ⟨_, _, _, ho⟩ := isCountB_ok h
  obtain ⟨_, e1, e2, _⟩ := incC_ok ho hin
  rw [isCountB, Bool.and_eq_true] at h ⊢
  rw [e1]
  exact ⟨h.1, all15_ok.2 e2⟩
theorem fiC_inc {a b : Int} {l ps : List Int} (h : okC l) (hin : inC l ps) : fiC 1 a b ps l = (a, b, incC l ps, true) := by
  rw [fiC, (incC_ok h hin).1]

def addCV (a b : Int) (l : List Int) (s : ByteArray) : Int × Int × List Int × Bool :=
  if (isCountB a b l && isKeyB s) = true then (a, b, incC l (probesL a s (l.length : Int) b.toNat 0), true) else (0, 0, [], false)
theorem addCV_len (a b : Int) (l : List Int) (s : ByteArray) : (addCV a b l s).2.2.1.length ≤ 512 := by
  unfold addCV
  split
  · rename_i g
    rw [Bool.and_eq_true] at g
    obtain ⟨_, _, ⟨p4, p5⟩, ho⟩ := isCountB_ok g.1
    have := (incC_ok ho (probes_inC g.1 s)).2.1
    simp only
    omega
  · simp
section
variable (a b : Int) (l : List Int) (s : ByteArray) (hl : (l.length : Int) ≤ 9223372036854775806) (hz : (s.size : Int) ≤ 9223372036854775806)
include hl hz
theorem spec_CountingAdd_f : Ev (fun k => spec_CountingAdd.f k a b l s) (addCV a b l s) := by
  unfold spec_CountingAdd.f
  refine ev_bind _ (spec_fiCounting_f a b l hl) ?_
  by_cases c : isCountB a b l = true
  · obtain ⟨_, _, _, ho⟩ := isCountB_ok c
    refine ev_pos c (ev_bind _ (spec_IsKey_f s hz) ?_)
    by_cases c2 : isKeyB s = true
    · refine ev_pos c2 (ev_bind _ (spec_fiCount_f c (.inl rfl) s hz) (ev_some ?_))
      rw [fiC_inc ho (probes_inC c s), addCV, if_pos (by rw [c, c2]; rfl)]
    · exact ev_neg c2 (ev_some (by rw [addCV, if_neg (by simp [c2])]))
  · exact ev_neg c (ev_some (by rw [addCV, if_neg (by simp [c])]))
theorem impl_CountingAdd_f : Ev (fun k => impl_CountingAdd.f k a b l s) (addCV a b l s) := by
  unfold impl_CountingAdd.f
  refine ev_bind _ (impl_IsCounting_f a b l hl) ?_
  by_cases c : isCountB a b l = true
  · obtain ⟨⟨p0, p1⟩, ⟨p2, p3⟩, ⟨p4, p5⟩, ho⟩ := isCountB_ok c
    refine ev_pos c (ev_bind _ (impl_IsKey_f s hz) (ev_succ ?_))
    simp only [impl_CountingAdd.j0]
    by_cases c2 : isKeyB s = true
    · obtain ⟨y, e1, e2⟩ := impl_change_f c (.inl rfl) s hz
      have := e2 _ (incC_ok ho (probes_inC c s)).1
      subst this
      refine ev_neg (by simp [c2]) ?_
      rw [impl_cloneCounting_f a b (by omega)]
      refine ev_bind _ (Ev.now _) (ev_bind _ e1 (ev_some ?_))
      rw [addCV, if_pos (by rw [c, c2]; rfl)]
    · exact ev_pos (by simp [c2]) (ev_some (by rw [addCV, if_neg (by simp [c2])]))
  · refine ev_neg c (ev_succ ?_)
    simp only [impl_CountingAdd.j0]
    exact ev_pos (by trivial) (ev_some (by rw [addCV, if_neg (by simp [c])]))
end
theorem impl_BloomOfCounting_f {a b : Int} {l : List Int} (h : isCountB a b l = true) : Ev (fun k => impl_BloomOfCounting.f k a b l) (a, b, (l.length : Int), bloomC l, true) := by
  obtain ⟨_, _, ⟨p4, p5⟩, _⟩ := isCountB_ok h
  have e := impl_IsCounting_f a b l (by omega)
  rw [h] at e
  unfold impl_BloomOfCounting.f
  exact ev_bind _ e (ev_pos rfl (ev_bind _ (impl_bloom_f a b p4 p5) (Ev.now _)))

def incK (a : Int) (m : Nat) (l : List Int) (ks : List ByteArray) : List Int := ks.foldl (fun l s => incC l (probesL a s (l.length : Int) m 0)) l
theorem incK_cons (a : Int) (m : Nat) (l : List Int) (s : ByteArray) (ks : List ByteArray) : incK a m l (s :: ks) = incK a m (incC l (probesL a s (l.length : Int) m 0)) ks := rfl
theorem incK_ok {a b : Int} : ∀ (ks : List ByteArray) {l : List Int}, isCountB a b l = true → isCountB a b (incK a b.toNat l ks) = true ∧ (incK a b.toNat l ks).length = l.length ∧ bloomC (incK a b.toNat l ks) = addK a b.toNat (l.length : Int) (bloomC l) ks
  | [], l, h => ⟨h, rfl, rfl⟩
  | s :: ks, l, h => by
    obtain ⟨_, _, ⟨p4, p5⟩, ho⟩ := isCountB_ok h
    have hin := probes_inC h s
    obtain ⟨h1, h2, h3⟩ := incK_ok ks (isCountB_inc h hin)
    have e1 := (incC_ok ho hin).2.1
    rw [incK_cons]
    refine ⟨h1, by rw [h2, e1], ?_⟩
    rw [h3, e1, bloomC_inc p4 ho hin]
    rfl
theorem impl_CountingOf_l0 {a b : Int} {x29 : List ByteArray} (hx : (x29.length : Int) ≤ 9223372036854775806) : ∀ (t pre : List ByteArray) (l : List Int), x29 = pre ++ t → (∀ s ∈ t, (s.size : Int) ≤ 9223372036854775806) → isCountB a b l = true →
    Ev (fun k => impl_CountingOf.l0 k x29 (x29.length : Int) (pre.length : Int) a b l) (a, b, incK a b.toNat l t, true) := by
  intro t
  induction t with
  | nil =>
    intro pre l h _ _
    refine ev_succ ?_
    simp only [impl_CountingOf.l0]
    exact ev_neg (by rw [h]; exact not_lt_end) (Ev.now _)
  | cons s t ih =>
    intro pre l h hs hc
    have hm : ((pre.length : Nat) : Int) < (x29.length : Int) := by rw [h]; exact lt_mid
    have hg : rdOf ByteArray.empty x29 (pre.length : Int) = s := by rw [h]; exact rdOf_mid
    obtain ⟨_, _, _, ho⟩ := isCountB_ok hc
    have hin := probes_inC hc s
    obtain ⟨y, e1, e2⟩ := impl_change_f hc (.inl rfl) s (hs s (List.mem_cons_self ..))
    have := e2 _ (incC_ok ho hin).1
    subst this
    have next := ih (pre ++ [s]) _ (by rw [h]; simp) (fun x hx => hs x (List.mem_cons_of_mem _ hx)) (isCountB_inc hc hin)
    rw [len_one] at next
    refine ev_succ ?_
    simp only [impl_CountingOf.l0, hg]
    rw [winc (by omega)]
    exact ev_pos hm (ev_pos (by omega) (ev_pos hm (ev_bind _ e1 next)))
theorem spec_CountingOf_l0 {a b : Int} {x29 : List ByteArray} (hx : (x29.length : Int) ≤ 9223372036854775806) : ∀ (t pre : List ByteArray) (l : List Int), x29 = pre ++ t → (∀ s ∈ t, (s.size : Int) ≤ 9223372036854775806) → isCountB a b l = true →
    Ev (fun k => spec_CountingOf.l0 k x29 (x29.length : Int) (pre.length : Int) a b l) (a, b, incK a b.toNat l t, true) := by
  intro t
  induction t with
  | nil =>
    intro pre l h _ _
    refine ev_succ ?_
    simp only [spec_CountingOf.l0]
    exact ev_neg (by rw [h]; exact not_lt_end) (Ev.now _)
  | cons s t ih =>
    intro pre l h hs hc
    have hm : ((pre.length : Nat) : Int) < (x29.length : Int) := by rw [h]; exact lt_mid
    have hg : rdOf ByteArray.empty x29 (pre.length : Int) = s := by rw [h]; exact rdOf_mid
    obtain ⟨_, _, _, ho⟩ := isCountB_ok hc
    have hin := probes_inC hc s
    have e1 := spec_fiCount_f hc (.inl rfl) s (hs s (List.mem_cons_self ..))
    rw [fiC_inc ho hin] at e1
    have next := ih (pre ++ [s]) _ (by rw [h]; simp) (fun x hx => hs x (List.mem_cons_of_mem _ hx)) (isCountB_inc hc hin)
    rw [len_one] at next
    refine ev_succ ?_
    simp only [spec_CountingOf.l0, hg]
    rw [winc (by omega)]
    exact ev_pos hm (ev_pos (by omega) (ev_pos hm (ev_bind _ e1 next)))
def zeros (n : Int) : List Int := List.replicate n.toNat 0
theorem zeros_ok {a b n : Int} (h : sizesB a b n = true) : isCountB a b (zeros n) = true ∧ ((zeros n).length : Int) = n := by
  obtain ⟨_, _, p4, p5⟩ := sizesB_ok h
  have hn : ((zeros n).length : Int) = n := by simp [zeros]; omega
  refine ⟨?_, hn⟩
  rw [isCountB, hn, h, Bool.true_and]
  exact all15_ok.2 (fun x hx => by rw [List.eq_of_mem_replicate hx]; omega)
def countOfV (a b n : Int) (ks : List ByteArray) : Int × Int × List Int × Bool := if (sizesB a b n && areKeysB ks) = true then (a, b, incK a b.toNat (zeros n) ks, true) else (0, 0, [], false)
theorem countOfV_len (a b n : Int) (ks : List ByteArray) : (countOfV a b n ks).2.2.1.length ≤ 512 := by
  unfold countOfV
  split
  · rename_i g
    rw [Bool.and_eq_true] at g
    obtain ⟨_, _, p4, p5⟩ := sizesB_ok g.1
    obtain ⟨z1, z2⟩ := zeros_ok g.1
    have := (incK_ok ks z1).2.1
    simp only
    omega
  · simp
section
variable (a b n : Int) (ks : List ByteArray) (hl : (ks.length : Int) ≤ 9223372036854775806) (hz : ∀ s ∈ ks, (s.size : Int) ≤ 9223372036854775806)
include hl hz
theorem impl_CountingOf_f : Ev (fun k => impl_CountingOf.f k a b n ks) (countOfV a b n ks) := by
  unfold impl_CountingOf.f
  rw [impl_sizesOk_f]
  refine ev_bind _ (Ev.now _) ?_
  by_cases c : sizesB a b n = true
  · obtain ⟨_, _, p4, p5⟩ := sizesB_ok c
    refine ev_pos c (ev_bind _ (impl_AreKeys_f ks hl hz) (ev_succ ?_))
    simp only [impl_CountingOf.j0]
    by_cases c2 : areKeysB ks = true
    · refine ev_neg (by simp [c2]) (ev_pos (by omega) (ev_pos (by omega) ?_))
      rw [countOfV, if_pos (by rw [c, c2]; rfl)]
      exact impl_CountingOf_l0 hl ks [] (zeros n) rfl hz (zeros_ok c).1
    · exact ev_pos (by simp [c2]) (ev_some (by rw [countOfV, if_neg (by simp [c2])]))
  · refine ev_neg c (ev_succ ?_)
    simp only [impl_CountingOf.j0]
    exact ev_pos (by trivial) (ev_some (by rw [countOfV, if_neg (by simp [c])]))
theorem spec_CountingOf_f : Ev (fun k => spec_CountingOf.f k a b n ks) (countOfV a b n ks) := by
  unfold spec_CountingOf.f
  rw [spec_fiSize_f]
  refine ev_bind _ (Ev.now _) ?_
  by_cases c : sizesB a b n = true
  · obtain ⟨_, _, p4, p5⟩ := sizesB_ok c
    refine ev_pos c (ev_bind _ (spec_biKeys_f ks hl hz) (ev_succ ?_))
    simp only [spec_CountingOf.j0]
    by_cases c2 : areKeysB ks = true
    · refine ev_neg (by simp [c2]) (ev_pos (by omega) (ev_pos (by omega) ?_))
      rw [countOfV, if_pos (by rw [c, c2]; rfl)]
      exact spec_CountingOf_l0 hl ks [] (zeros n) rfl hz (zeros_ok c).1
    · exact ev_pos (by simp [c2]) (ev_some (by rw [countOfV, if_neg (by simp [c2])]))
  · refine ev_neg c (ev_succ ?_)
    simp only [spec_CountingOf.j0]
    exact ev_pos (by trivial) (ev_some (by rw [countOfV, if_neg (by simp [c])]))
end
theorem bloomC_zeros {n : Int} (h0 : 1 ≤ n) (h1 : n ≤ 512) : bloomC (zeros n) = blankV n := by
  have hn : ((zeros n).length : Int) = n := by simp [zeros]; omega
  obtain ⟨a1, a2⟩ := bloomC_bits (l := zeros n) (by omega)
  refine words_ext a1 (blankC_okW n) (by rw [bloomC_len, hn]) fun q => ?_
  rw [a2, blankC_bit]
  by_cases d : q < (zeros n).length
  · have : rd (zeros n) (q : Int) = 0 := by
      rw [rd_get d]
      simp [zeros]
    simp [onC, this]
  · simp [d]
end Go.Proofs.YtpkpjikkfikejaaQ
namespace Go.Proofs.YtpkpjikkfikejaaQ
open Go Go.RowKit Go.Proofs.YtpkpjikkfikejaaW.PrintWords Go.Proofs.YtpkpjikkfikejaaGp Go.Proofs.Ytpkpjikkfikejaa.PD

end Go.Proofs.YtpkpjikkfikejaaQ
namespace Go.Proofs.YtpkpjikkfikejaaQ
open Go Go.RowKit Go.Proofs.YtpkpjikkfikejaaW.PrintWords Go.Proofs.YtpkpjikkfikejaaGp Go.Proofs.Ytpkpjikkfikejaa.PD

namespace LW
theorem same_l0 (x0 y0 : List Int) (hl : (x0.length : Int) ≤ 9223372036854775806) (hy : y0.length = x0.length) : ∀ (t pre u pru : List Int), x0 = pre ++ t → y0 = pru ++ u → pru.length = pre.length →
    Ev (fun k => laws_pSameInts.l0 k x0 y0 (x0.length : Int) (pre.length : Int)) (decide (t = u)) := by
  intro t
  induction t with
  | nil =>
    intro pre u pru h h2 hp
    have : u = [] := by
      have e1 : y0.length = pru.length + u.length := by rw [h2]; simp
      have e2 : x0.length = pre.length := by rw [h]; simp
      exact List.length_eq_zero_iff.1 (by omega)
    subst this
    refine ev_succ ?_
    simp only [laws_pSameInts.l0]
    exact ev_neg (by rw [h]; exact not_lt_end) (ev_some (by simp))
  | cons x t ih =>
    intro pre u pru h h2 hp
    have hm : ((pre.length : Nat) : Int) < (x0.length : Int) := by rw [h]; exact lt_mid
    have hg : rd x0 (pre.length : Int) = x := by rw [h]; exact rd_mid
    cases u with
    | nil =>
      have e1 : y0.length = pru.length := by rw [h2]; simp
      omega
    | cons y u =>
      have hg2 : rd y0 (pre.length : Int) = y := by rw [h2, ← hp]; exact rd_mid
      refine ev_succ ?_
      simp only [laws_pSameInts.l0, hg, hg2]
      by_cases c : x = y
      · subst c
        have := ih (pre ++ [x]) u (pru ++ [x]) (by rw [h]; simp) (by rw [h2]; simp) (by simp [hp])
        rw [len_one] at this
        rw [show decide (x :: t = x :: u) = decide (t = u) from by simp, winc (by omega)]
        exact ev_pos hm (ev_pos (by omega) (ev_pos hm (ev_pos (by omega) (ev_pos rfl this))))
      · rw [decide_eq_false (fun e => c (List.cons.inj e).1)]
        exact ev_pos hm (ev_pos (by omega) (ev_pos hm (ev_pos (by omega) (ev_neg c (Ev.now _)))))
theorem same_f (l l' : List Int) (hl : (l.length : Int) ≤ 9223372036854775806) (h : l'.length = l.length) : Ev (fun k => laws_pSameInts.f k l l') (decide (l = l')) := by
  unfold laws_pSameInts.f
  exact ev_pos (by omega) (same_l0 l l' hl h l [] l' [] rfl rfl rfl)
theorem rSame_f (a b n : Int) (l l' : List Int) (hl : (l.length : Int) ≤ 9223372036854775806) (h : l'.length = l.length) : Ev (fun k => laws_rSameBloom.f k a b n l a b n l') (decide (l = l')) := by
  unfold laws_rSameBloom.f laws_pSameBits.f
  exact ev_pos rfl (ev_pos rfl (ev_bind _ (ev_pos rfl (ev_bind _ (same_f l l' hl h) (Ev.now _))) (Ev.now _)))
theorem sameI_f (l l' : List Int) (hl : (l.length : Int) ≤ 9223372036854775806) : Ev (fun k => laws_pSameInts.f k l l') (decide (l = l')) := by
  by_cases h : l'.length = l.length
  · exact same_f l l' hl h
  · unfold laws_pSameInts.f
    exact ev_neg (by omega) (ev_some (decide_eq_false (fun e => h (by rw [e]))).symm)
end LW
end Go.Proofs.YtpkpjikkfikejaaQ
namespace Go.Proofs.YtpkpjikkfikejaaQ
open Go Go.RowKit Go.Proofs.YtpkpjikkfikejaaW.PrintWords Go.Proofs.YtpkpjikkfikejaaW.PrintMore Go.Proofs.YtpkpjikkfikejaaGp Go.Proofs.Ytpkpjikkfikejaa.PD

theorem counting_l1 {s : List Int} (hs : Bys s) (a b : Int) : ∀ (d i : Nat) (l : List Int) (p sd : Int), i + d = l.length → l.length ≤ 1000 → 0 ≤ p → p + 2 * (d : Int) ≤ 500000000000000000 →
    ∃ l' p' sd', Ev (fun k => spec_l1Cur_counting.l1 k (l.length : Int) (i : Int) s p sd a b l) (a, b, l', p', sd') ∧ (l' : List Int).length = l.length ∧ 0 ≤ p' ∧ p' ≤ p + 2 * (d : Int) := by
  intro d
  induction d with
  | zero =>
    intro i l p sd h hl h0 h1
    refine ⟨l, p, sd, ev_succ ?_, rfl, h0, by omega⟩
    simp only [spec_l1Cur_counting.l1]
    exact ev_neg (by omega) (Ev.now _)
  | succ d ih =>
    intro i l p sd h hl h0 h1
    obtain ⟨v, p1, sd1, e1, hv, q0, q1⟩ := pick_ok hs sd (n := 16) h0 (by omega)
    obtain ⟨l', p2, sd2, e2, hl', r0, r1⟩ := ih (i + 1) (l.set i v) p1 sd1 (by rw [List.length_set]; omega) (by rw [List.length_set]; omega) q0 (by omega)
    rw [List.length_set] at e2 hl'
    refine ⟨l', p2, sd2, ev_succ ?_, hl', r0, by omega⟩
    simp only [spec_l1Cur_counting.l1, e1, Option.bind_some, Int.toNat_natCast]
    rw [winc (by omega)]
    exact ev_pos (by omega) (ev_pos (by omega) (ev_pos (by omega) e2))
def DrC (g : Nat → Option (Int × Int × List Int × Int × Int)) (p c : Int) : Prop := ∃ a b l p' sd', Ev g (a, b, l, p', sd') ∧ (l : List Int).length ≤ 1000 ∧ 0 ≤ p' ∧ p' ≤ p + c
theorem counting_l0 {s : List Int} (hs : Bys s) {a b : Int} {ks : List ByteArray} (hk9 : (ks.length : Int) ≤ 9223372036854775806) {p : Int} (sd : Int) (h0 : 0 ≤ p) (h1 : p ≤ 100000000000000000) : ∀ (t pre : List ByteArray) (l : List Int), ks = pre ++ t → (∀ x ∈ t, (x.size : Int) ≤ 9223372036854775806) → isCountB a b l = true →
    DrC (fun k => spec_l1Cur_counting.l0 k ks (ks.length : Int) (pre.length : Int) s p sd a b l) p 2000 := by
  intro t
  induction t with
  | nil =>
    intro pre l h _ hc
    obtain ⟨_, _, ⟨p4, p5⟩, ho⟩ := isCountB_ok hc
    obtain ⟨v, p1, sd1, e1, hv, q0, q1⟩ := pick_ok hs sd (n := 20) h0 (by omega)
    have e : ¬ ((pre.length : Nat) : Int) < (ks.length : Int) := by rw [h]; exact not_lt_end
    have go : ∀ {g : Nat → Option (Int × Int × List Int × Int × Int)} {r : Int × Int × List Int × Int × Int}, (∀ k, spec_l1Cur_counting.l0 (k + 1) ks (ks.length : Int) (pre.length : Int) s p sd a b l = g k) → Ev g r → Ev (fun k => spec_l1Cur_counting.l0 k ks (ks.length : Int) (pre.length : Int) s p sd a b l) r := fun hg hr => ev_succ (by simp only [hg]; exact hr)
    by_cases c0 : v = 0
    · obtain ⟨u, p2, sd2, e2, _, w0, w1⟩ := seed9_ok hs sd1 q0 (by omega)
      refine ⟨u, b, l, p2, sd2, ev_succ ?_, by omega, w0, by omega⟩
      simp only [spec_l1Cur_counting.l0, e1, Option.bind_some, e2]
      exact ev_neg e (ev_pos c0 (Ev.now _))
    by_cases c1 : v = 1
    · obtain ⟨u, p2, sd2, e2, w0, w1⟩ := probes_ok hs sd1 q0 (by omega)
      refine ⟨a, u, l, p2, sd2, ev_succ ?_, by omega, w0, by omega⟩
      simp only [spec_l1Cur_counting.l0, e1, Option.bind_some, e2]
      exact ev_neg e (ev_neg c0 (ev_pos c1 (Ev.now _)))
    by_cases c2 : v = 2
    · obtain ⟨u, p2, sd2, e2, _, w0, w1⟩ := among_ok hs sd1 (l := [-1, 0, 15, 16]) (by simp) q0 (by omega)
      refine ⟨a, b, l.set (0 : Int).toNat u, p2, sd2, ev_succ ?_, by rw [List.length_set]; omega, w0, by omega⟩
      simp only [spec_l1Cur_counting.l0, e1, Option.bind_some, e2]
      exact ev_neg e (ev_neg c0 (ev_neg c1 (ev_pos c2 (ev_pos (by omega) (Ev.now _)))))
    by_cases c3 : v = 3
    · refine ⟨a, b, [], p1, sd1, ev_succ ?_, by simp, q0, by omega⟩
      simp only [spec_l1Cur_counting.l0, e1, Option.bind_some]
      exact ev_neg e (ev_neg c0 (ev_neg c1 (ev_neg c2 (ev_pos c3 (Ev.now _)))))
    by_cases c4 : v = 4
    · obtain ⟨l', p2, sd2, e2, hl', w0, w1⟩ := counting_l1 hs a b l.length 0 l p1 sd1 (by omega) (by omega) q0 (by omega)
      refine ⟨a, b, l', p2, sd2, ev_succ ?_, by omega, w0, by omega⟩
      simp only [spec_l1Cur_counting.l0, e1, Option.bind_some]
      exact ev_neg e (ev_neg c0 (ev_neg c1 (ev_neg c2 (ev_neg c3 (ev_pos c4 e2)))))
    · refine ⟨a, b, l, p1, sd1, ev_succ ?_, by omega, q0, by omega⟩
      simp only [spec_l1Cur_counting.l0, e1, Option.bind_some]
      exact ev_neg e (ev_neg c0 (ev_neg c1 (ev_neg c2 (ev_neg c3 (ev_neg c4 (Ev.now _))))))
  | cons x t ih =>
    intro pre l h hz hc
    have hm : ((pre.length : Nat) : Int) < (ks.length : Int) := by rw [h]; exact lt_mid
    have hg : rdOf ByteArray.empty ks (pre.length : Int) = x := by rw [h]; exact rdOf_mid
    obtain ⟨_, _, _, ho⟩ := isCountB_ok hc
    have hin := probes_inC hc x
    have e1 := spec_fiCount_f hc (.inl rfl) x (hz x (List.mem_cons_self ..))
    rw [fiC_inc ho hin] at e1
    obtain ⟨a', b', l', p', sd', e2, r⟩ := ih (pre ++ [x]) _ (by rw [h]; simp) (fun y hy => hz y (List.mem_cons_of_mem _ hy)) (isCountB_inc hc hin)
    rw [len_one] at e2
    refine ⟨a', b', l', p', sd', ev_succ ?_, r⟩
    simp only [spec_l1Cur_counting.l0, hg]
    rw [winc (by omega)]
    exact ev_pos hm (ev_pos (by omega) (ev_pos hm (ev_bind _ e1 e2)))
theorem counting_ok {s : List Int} (hs : Bys s) {p : Int} (sd : Int) (h0 : 0 ≤ p) (h1 : p ≤ 10000000000000000) : DrC (fun k => spec_l1Cur_counting.f k s p sd) p 4000 := by
  obtain ⟨v1, p1, sd1, e1, hv1, q0, q1⟩ := pick_ok hs sd (n := 20) h0 (by omega)
  obtain ⟨v2, p2, sd2, e2, hv2, r0, r1⟩ := pick_ok hs sd1 (n := 4) q0 (by omega)
  obtain ⟨v3, p3, sd3, e3, hv3, t0, t1⟩ := among_ok hs sd2 (l := [2, 8, 24]) (by simp) r0 (by omega)
  obtain ⟨v4, p4, sd4, e4, hv4, z0, z1⟩ := pick_ok hs sd3 (n := v3) t0 (by omega)
  obtain ⟨v5, p5, sd5, e5, hv5, y0, y1⟩ := among_ok hs sd4 (l := [2, 6, 20]) (by simp) z0 (by omega)
  simp only [List.mem_cons, List.not_mem_nil, or_false] at hv3 hv5
  obtain ⟨ks, p6, sd6, e6, hk, x0, x1⟩ := keys_ok hs sd5 (n := v5.toNat) (by omega) y0 (by omega)
  rw [show ((v5.toNat : Nat) : Int) = v5 from by omega] at e6
  have hw2 : wrap64 (1 + v2) = 1 + v2 := w64 (by omega) (by omega)
  have hw4 : wrap64 (1 + v4) = 1 + v4 := w64 (by omega) (by omega)
  have hsz : sizesB v1 (1 + v2) (1 + v4) = true := by
    simp only [sizesB, Bool.and_eq_true, decide_eq_true_eq]
    omega
  obtain ⟨a, b, l, p7, sd7, e7, hl, w0, w1⟩ := counting_l0 hs (a := v1) (b := 1 + v2) (ks := ks) (by have := hk.1; omega) sd6 x0 (by omega) ks [] (zeros (1 + v4)) rfl (fun x hx => by have := hk.2 x hx; omega) (zeros_ok hsz).1
  refine ⟨a, b, l, p7, sd7, ?_, hl, w0, by omega⟩
  unfold spec_l1Cur_counting.f
  simp only [e1, Option.bind_some, e2, e3, e4, hw2, hw4, e5]
  exact ev_pos (by omega) (ev_pos (by omega) (ev_bind _ e6 e7))
theorem DrawCountingAdd_ok {s : List Int} (hs : Bys s) : ∃ a b l t, Ev (fun k => spec_DrawCountingAdd.f k s) (a, b, l, t) ∧ (l : List Int).length ≤ 1000 ∧ (t : ByteArray).size ≤ 13 := by
  obtain ⟨a, b, l, p1, sd1, e1, hl, q0, q1⟩ := counting_ok hs 0 (p := 0) (by omega) (by omega)
  obtain ⟨t, p2, sd2, e2, ht, r0, r1⟩ := text_ok hs sd1 q0 (by omega)
  unfold spec_DrawCountingAdd.f
  exact ⟨a, b, l, t, ev_bind _ e1 (ev_bind _ e2 (Ev.now _)), hl, ht⟩
theorem DrawCountingRemove_ok {s : List Int} (hs : Bys s) : ∃ a b l t, Ev (fun k => spec_DrawCountingRemove.f k s) (a, b, l, t) ∧ (l : List Int).length ≤ 1000 ∧ (t : ByteArray).size ≤ 13 := by
  obtain ⟨a, b, l, p1, sd1, e1, hl, q0, q1⟩ := counting_ok hs 0 (p := 0) (by omega) (by omega)
  obtain ⟨t, p2, sd2, e2, ht, r0, r1⟩ := text_ok hs sd1 q0 (by omega)
  have hc := spec_fiCounting_f a b l (by omega)
  have hk := spec_IsKey_f t (by omega)
  unfold spec_DrawCountingRemove.f
  by_cases c : isCountB a b l = true
  · by_cases c2 : isKeyB t = true
    · obtain ⟨v, p3, sd3, e3, w0, w1⟩ := one_ok hs sd2 4 r0 (by omega)
      by_cases c3 : v = true
      · refine ⟨a, b, l, t, ev_bind _ e1 (ev_bind _ e2 (ev_bind _ hc (ev_pos c (ev_bind _ hk (ev_pos c2 ?_))))), hl, ht⟩
        simp only [e3, Option.bind_some]
        exact ev_pos c3 (Ev.now _)
      · obtain ⟨_, _, _, ho⟩ := isCountB_ok c
        have hin := probes_inC c t
        have e4 := spec_fiCount_f c (.inl rfl) t (by omega)
        rw [fiC_inc ho hin] at e4
        refine ⟨a, b, incC l (probesL a t (l.length : Int) b.toNat 0), t, ev_bind _ e1 (ev_bind _ e2 (ev_bind _ hc (ev_pos c (ev_bind _ hk (ev_pos c2 ?_))))), by rw [(incC_ok ho hin).2.1]; exact hl, ht⟩
        simp only [e3, Option.bind_some]
        exact ev_neg c3 (ev_bind _ e4 (Ev.now _))
    · exact ⟨a, b, l, t, ev_bind _ e1 (ev_bind _ e2 (ev_bind _ hc (ev_pos c (ev_bind _ hk (ev_neg c2 (Ev.now _)))))), hl, ht⟩
  · exact ⟨a, b, l, t, ev_bind _ e1 (ev_bind _ e2 (ev_bind _ hc (ev_neg c (Ev.now _)))), hl, ht⟩
theorem DrawCountingOf_ok {s : List Int} (hs : Bys s) : ∃ a b n ks, Ev (fun k => spec_DrawCountingOf.f k s) (a, b, n, ks) ∧ Kys 42 ks := by
  obtain ⟨a, b, n, ks, e, h⟩ := DrawBloomOf_ok hs
  unfold spec_DrawCountingOf.f
  exact ⟨a, b, n, ks, ev_bind _ e (Ev.now _), h⟩
end Go.Proofs.YtpkpjikkfikejaaQ
namespace Go.Proofs.Ytpkpjikkfikejaa.Pure
open Go Go.RowKit Go.Proofs.YtpkpjikkfikejaaW.PrintWords Go.Proofs.YtpkpjikkfikejaaW.PrintMore Go.Proofs.YtpkpjikkfikejaaGp Go.Proofs.Ytpkpjikkfikejaa.PD Go.Proofs.YtpkpjikkfikejaaQ

theorem rSameC_f (a b : Int) (l l' : List Int) (hl : (l.length : Int) ≤ 9223372036854775806) : Ev (fun k => laws_rSameCounting.f k a b l a b l') (decide (l = l')) := by
  unfold laws_rSameCounting.f
  exact ev_pos rfl (ev_pos rfl (ev_bind _ (LW.sameI_f l l' hl) (Ev.now _)))
theorem remove_inc {a b : Int} {l : List Int} {s : ByteArray} (h : isCountB a b l = true) (hk : isKeyB s = true) : ∃ l'', removeV a b (incC l (probesL a s (l.length : Int) b.toNat 0)) s = (a, b, l'', true) ∧ l''.length = l.length ∧ ((∀ x ∈ incC l (probesL a s (l.length : Int) b.toNat 0), x ≠ 15) → l'' = l) := by
  obtain ⟨_, _, _, ho⟩ := isCountB_ok h
  have hin := probes_inC h s
  obtain ⟨_, e1, _, _⟩ := incC_ok ho hin
  obtain ⟨l'', f1, f2, f3⟩ := down_up ho hin
  refine ⟨l'', ?_, f2, f3⟩
  rw [removeV, e1, isCountB_inc h hin, hk, says_inc h]
  simp only [Bool.and_self, if_true]
  rw [fiC, f1]
theorem law_l0 {x1 : List Int} {s : ByteArray} {a b : Int} {l l' : List Int} (hl : (l'.length : Int) ≤ 1000) (H : Ev (fun k => laws_FnCountingForgets.l0 k x1 s (l'.any (fun x => x == 15)) l' (l'.length : Int) (l'.length : Int) a b l a b l') true) : ∀ (t pre : List Int), l' = pre ++ t →
    Ev (fun k => laws_FnCountingForgets.l0 k x1 s (pre.any (fun x => x == 15)) l' (l'.length : Int) (pre.length : Int) a b l a b l') true := by
  intro t
  induction t with
  | nil =>
    intro pre h
    have e : l' = pre := by rw [h]; simp
    rw [← e]
    exact H
  | cons x t ih =>
    intro pre h
    have hm : ((pre.length : Nat) : Int) < (l'.length : Int) := by rw [h]; exact lt_mid
    have hg : rd l' (pre.length : Int) = x := by rw [h]; exact rd_mid
    have next := ih (pre ++ [x]) (by rw [h]; simp)
    rw [len_one] at next
    refine ev_succ ?_
    simp only [laws_FnCountingForgets.l0, hg]
    rw [winc (by omega)]
    refine ev_pos hm (ev_pos (by omega) (ev_pos hm ?_))
    rw [List.any_append] at next
    by_cases c : pre.any (fun x => x == 15) = true
    · rw [c, Bool.true_or] at next
      exact ev_pos c next
    · rw [Bool.not_eq_true] at c
      rw [c, Bool.false_or] at next
      simp only [List.any_cons, List.any_nil, Bool.or_false] at next
      exact ev_neg (by rw [c]; simp) next
theorem FnCountingForgets : laws_FnCountingForgets.Pure := by
  intro l0 l1 h0 _ hw0 h1 _ hw1
  refine Ev.rounds (r := true) ?_
  unfold laws_FnCountingForgets.f
  obtain ⟨z, eb, hb⟩ := big_f h0 h1
  rw [eb]
  refine ev_bind _ (Ev.now _) ?_
  by_cases c : z = true
  · exact ev_pos c (Ev.now _)
  obtain ⟨g0, g1⟩ := hb (by simpa using c)
  have hs := bys g0 hw0
  have hs1 := bys g1 hw1
  -- a filter of keys
  have J4 : Ev (fun k => laws_FnCountingForgets.j4 k l1 false) true := by
    obtain ⟨a, b, n, ks, eo, hk⟩ := DrawCountingOf_ok hs1
    have hk9 : (ks.length : Int) ≤ 9223372036854775806 := by have := hk.1; omega
    have hks : ∀ s ∈ ks, (s.size : Int) ≤ 9223372036854775806 := fun s h => by have := hk.2 s h; omega
    have hln := countOfV_len a b n ks
    refine ev_succ ?_
    simp only [laws_FnCountingForgets.j4]
    refine ev_neg (by simp) (ev_bind _ eo (ev_bind _ (impl_CountingOf_f a b n ks hk9 hks) (ev_bind _ (spec_CountingOf_f a b n ks hk9 hks) (ev_neg (by simp) (ev_bind _ (rSameC_f _ _ _ _ (by omega)) (ev_succ ?_))))))
    simp only [laws_FnCountingForgets.j5]
    refine ev_neg (by simp) ?_
    by_cases g : (sizesB a b n && areKeysB ks) = true
    · rw [show countOfV a b n ks = (a, b, incK a b.toNat (zeros n) ks, true) from if_pos g]
      have gg := g
      rw [Bool.and_eq_true] at g
      obtain ⟨_, _, p4, p5⟩ := sizesB_ok g.1
      obtain ⟨z1, z2⟩ := zeros_ok g.1
      obtain ⟨k1, k2, k3⟩ := incK_ok ks z1
      have hB := impl_BloomOf_f a b n ks hk9 hks
      rw [show bloomV a b n ks = (a, b, n, addK a b.toNat n (blankV n) ks, true) from if_pos gg] at hB
      have hC := impl_BloomOfCounting_f k1
      rw [k3, k2, z2, bloomC_zeros p4 p5] at hC
      have hI := impl_IsCounting_f a b (incK a b.toNat (zeros n) ks) (by omega)
      rw [k1] at hI
      have hbl := blankV_len p4
      exact ev_pos rfl (ev_bind _ hC (ev_bind _ hB (ev_pos rfl (ev_pos rfl (ev_bind _ (LW.rSame_f a b n _ _ (by rw [addK_len]; omega) rfl) (ev_pos (by simp) (ev_bind _ hI (Ev.now _))))))))
    · rw [show countOfV a b n ks = (0, 0, [], false) from if_neg g]
      exact ev_neg (by simp) (Ev.now _)
  -- taking away
  have J3 : Ev (fun k => laws_FnCountingForgets.j3 k l1) true := by
    obtain ⟨a, b, l, s, er, hl, hz⟩ := DrawCountingRemove_ok hs1
    have hln := removeV_len a b l s
    refine ev_succ ?_
    simp only [laws_FnCountingForgets.j3]
    refine ev_bind _ er (ev_bind _ (impl_CountingRemove_f a b l s (by omega) (by omega)) (ev_bind _ (spec_CountingRemove_f a b l s (by omega) (by omega)) (ev_neg (by simp) (ev_bind _ (rSameC_f _ _ _ _ (by omega)) ?_))))
    simp only [decide_true, Bool.not_true]
    exact J4
  -- adding
  obtain ⟨a, b, l, s, ea, hl, hz⟩ := DrawCountingAdd_ok hs
  have hln := addCV_len a b l s
  refine ev_neg c (ev_bind _ ea (ev_bind _ (impl_CountingAdd_f a b l s (by omega) (by omega)) (ev_bind _ (spec_CountingAdd_f a b l s (by omega) (by omega)) (ev_neg (by simp) (ev_bind _ (rSameC_f _ _ _ _ (by omega)) (ev_succ ?_))))))
  simp only [laws_FnCountingForgets.j0]
  refine ev_neg (by simp) ?_
  by_cases g : (isCountB a b l && isKeyB s) = true
  · rw [show addCV a b l s = (a, b, incC l (probesL a s (l.length : Int) b.toNat 0), true) from if_pos g]
    rw [Bool.and_eq_true] at g
    obtain ⟨gc, gk⟩ := g
    obtain ⟨_, _, ⟨p4, p5⟩, ho⟩ := isCountB_ok gc
    have hin := probes_inC gc s
    have gc' := isCountB_inc gc hin
    obtain ⟨_, e1, _, _⟩ := incC_ok ho hin
    obtain ⟨l'', r1, r2, r3⟩ := remove_inc gc gk
    have hR := impl_CountingRemove_f a b (incC l (probesL a s (l.length : Int) b.toNat 0)) s (by omega) (by omega)
    rw [r1] at hR
    have J2 : Ev (fun k => laws_FnCountingForgets.j2 k l1 s false a b l a b (incC l (probesL a s (l.length : Int) b.toNat 0))) true := by
      have hC := impl_BloomOfCounting_f gc
      have hC' := impl_BloomOfCounting_f gc'
      rw [e1, bloomC_inc p4 ho hin] at hC'
      have hA := impl_BloomAdd_f a b (l.length : Int) (bloomC l) s (by omega)
      rw [show addV a b (l.length : Int) (bloomC l) s = (a, b, (l.length : Int), addP (bloomC l) (probesL a s (l.length : Int) b.toNat 0), true) from by rw [addV, if_pos (by rw [bloomC_good gc, gk]; rfl)]] at hA
      have hbl := blankV_len p4
      have hbc := bloomC_len l
      refine ev_succ ?_
      simp only [laws_FnCountingForgets.j2]
      exact ev_neg (by simp) (ev_bind _ hC (ev_bind _ hC' (ev_bind _ hA (ev_pos rfl (ev_pos rfl (ev_pos rfl (ev_bind _ (LW.rSame_f a b _ _ _ (by rw [addP_len]; omega) rfl) (ev_pos (by simp) J3))))))))
    refine ev_pos rfl (law_l0 (l' := incC l (probesL a s (l.length : Int) b.toNat 0)) (by omega) ?_ _ [] rfl)
    refine ev_succ ?_
    simp only [laws_FnCountingForgets.l0]
    refine ev_neg (by omega) (ev_bind _ hR (ev_pos rfl ?_))
    by_cases x : (incC l (probesL a s (l.length : Int) b.toNat 0)).any (fun x => x == 15) = true
    · exact ev_pos x J2
    · have : l'' = l := r3 (fun y hy he => x (List.any_eq_true.2 ⟨y, hy, by simp [he]⟩))
      subst this
      refine ev_neg x (ev_bind _ (rSameC_f a b l'' l'' (by omega)) ?_)
      simp only [decide_true, Bool.not_true]
      exact J2
  · rw [show addCV a b l s = (0, 0, [], false) from if_neg g]
    exact ev_neg (by simp) J3
end Go.Proofs.Ytpkpjikkfikejaa.Pure
