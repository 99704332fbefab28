/- Comparisons of lists; reading the keys of a front, in the program and in the reference. -/
import Derived.Test.YtfedgkmklcialaaPAx5
import Derived.Test.YtfedgkmklcialaaPAx6
import Derived.Test.YtfedgkmklcialaaPAx7
import Derived.Test.YtfedgkmklcialaaQ3
namespace Go.Proofs.YtfedgkmklcialaaQ
open Go Go.RowKit Go.Proofs.YtfedgkmklcialaaW.PrintWords Go.Proofs.YtfedgkmklcialaaGp Go.Proofs.Ytfedgkmklcialaa.PA

theorem spec_l1Same_l0 (x0 x1 : List Int) (hl : (x0.length : Int) ≤ 9223372036854775806) : ∀ (t u pre pre' : List Int), x0 = pre ++ t → x1 = pre' ++ u → pre.length = pre'.length → t.length = u.length →
    Ev (fun k => spec_l1Same.l0 k x0 x1 (x0.length : Int) (pre.length : Int)) (decide (t = u)) := by
  intro t
  induction t with
  | nil =>
    intro u pre pre' h h' hp hu
    obtain rfl := List.length_eq_zero_iff.1 hu.symm
    refine ev_succ ?_
    simp only [spec_l1Same.l0]
    exact ev_neg (by rw [h]; exact not_lt_end) (ev_some (by simp))
  | cons s t ih =>
    intro u pre pre' h h' hp hu
    cases u with
    | nil => simp at hu
    | cons q u =>
      have hm : ((pre.length : Nat) : Int) < (x0.length : Int) := by rw [h]; exact lt_mid
      have hm' : ((pre.length : Nat) : Int) < (x1.length : Int) := by rw [h', hp]; exact lt_mid
      have hg : rd x0 (pre.length : Int) = s := by rw [h]; exact rd_mid
      have hg' : rd x1 (pre.length : Int) = q := by rw [h', hp]; exact rd_mid
      refine ev_succ ?_
      simp only [spec_l1Same.l0, hg, hg']
      refine ev_pos hm (ev_pos (by omega) (ev_pos hm (ev_pos hm' ?_)))
      by_cases c : s = q
      · refine ev_pos c ?_
        rw [winc (by omega)]
        have := ih u (pre ++ [s]) (pre' ++ [q]) (by rw [h]; simp) (by rw [h']; simp) (by simp [hp]) (by simpa using hu)
        rw [len_one] at this
        rw [show decide (s :: t = q :: u) = decide (t = u) from by simp [c]]
        exact this
      · exact ev_neg c (ev_some (by simp [c]))
theorem spec_l1Same_f (a b : List Int) (hl : (a.length : Int) ≤ 9223372036854775806) : Ev (fun k => spec_l1Same.f k a b) (decide (a = b)) := by
  unfold spec_l1Same.f
  by_cases c : a.length = b.length
  · refine ev_pos (by omega) ?_
    exact spec_l1Same_l0 a b hl a b [] [] rfl rfl rfl c
  · exact ev_neg (by omega) (ev_some (by
      have : ¬ a = b := fun e => c (by rw [e])
      simp [this]))
theorem slices_Equal_int_int_l0 (x0 x1 : List Int) (hl : (x0.length : Int) ≤ 9223372036854775806) : ∀ (t u pre pre' : List Int), x0 = pre ++ t → x1 = pre' ++ u → pre.length = pre'.length → t.length = u.length →
    Ev (fun k => slices_Equal_int_int.l0 k x0 x1 (x0.length : Int) (pre.length : Int)) (decide (t = u)) := by
  intro t
  induction t with
  | nil =>
    intro u pre pre' h h' hp hu
    obtain rfl := List.length_eq_zero_iff.1 hu.symm
    refine ev_succ ?_
    simp only [slices_Equal_int_int.l0]
    exact ev_neg (by rw [h]; exact not_lt_end) (ev_some (by simp))
  | cons s t ih =>
    intro u pre pre' h h' hp hu
    cases u with
    | nil => simp at hu
    | cons q u =>
      have hm : ((pre.length : Nat) : Int) < (x0.length : Int) := by rw [h]; exact lt_mid
      have hm' : ((pre.length : Nat) : Int) < (x1.length : Int) := by rw [h', hp]; exact lt_mid
      have hg : rd x0 (pre.length : Int) = s := by rw [h]; exact rd_mid
      have hg' : rd x1 (pre.length : Int) = q := by rw [h', hp]; exact rd_mid
      refine ev_succ ?_
      simp only [slices_Equal_int_int.l0, hg, hg']
      refine ev_pos hm (ev_pos (by omega) (ev_pos hm (ev_pos hm' ?_)))
      by_cases c : s = q
      · refine ev_pos c ?_
        rw [winc (by omega)]
        have := ih u (pre ++ [s]) (pre' ++ [q]) (by rw [h]; simp) (by rw [h']; simp) (by simp [hp]) (by simpa using hu)
        rw [len_one] at this
        rw [show decide (s :: t = q :: u) = decide (t = u) from by simp [c]]
        exact this
      · exact ev_neg c (ev_some (by simp [c]))
theorem slices_Equal_int_int_f (a b : List Int) (hl : (a.length : Int) ≤ 9223372036854775806) : Ev (fun k => slices_Equal_int_int.f k a b) (decide (a = b)) := by
  unfold slices_Equal_int_int.f
  by_cases c : a.length = b.length
  · refine ev_pos (by omega) ?_
    exact slices_Equal_int_int_l0 a b hl a b [] [] rfl rfl rfl c
  · exact ev_neg (by omega) (ev_some (by
      have : ¬ a = b := fun e => c (by rw [e])
      simp [this]))
theorem spec_l1SameS_l0 (x0 x1 : List ByteArray) (hl : (x0.length : Int) ≤ 9223372036854775806) : ∀ (t u pre pre' : List ByteArray), x0 = pre ++ t → x1 = pre' ++ u → pre.length = pre'.length → t.length = u.length →
    Ev (fun k => spec_l1SameS.l0 k x0 x1 (x0.length : Int) (pre.length : Int)) (decide (t = u)) := by
  intro t
  induction t with
  | nil =>
    intro u pre pre' h h' hp hu
    obtain rfl := List.length_eq_zero_iff.1 hu.symm
    refine ev_succ ?_
    simp only [spec_l1SameS.l0]
    exact ev_neg (by rw [h]; exact not_lt_end) (ev_some (by simp))
  | cons s t ih =>
    intro u pre pre' h h' hp hu
    cases u with
    | nil => simp at hu
    | cons q u =>
      have hm : ((pre.length : Nat) : Int) < (x0.length : Int) := by rw [h]; exact lt_mid
      have hm' : ((pre.length : Nat) : Int) < (x1.length : Int) := by rw [h', hp]; exact lt_mid
      have hg : rdOf ByteArray.empty x0 (pre.length : Int) = s := by rw [h]; exact rdOf_mid
      have hg' : rdOf ByteArray.empty x1 (pre.length : Int) = q := by rw [h', hp]; exact rdOf_mid
      refine ev_succ ?_
      simp only [spec_l1SameS.l0, hg, hg', tl_inj]
      refine ev_pos hm (ev_pos (by omega) (ev_pos hm (ev_pos hm' ?_)))
      by_cases c : s = q
      · refine ev_pos c ?_
        rw [winc (by omega)]
        have := ih u (pre ++ [s]) (pre' ++ [q]) (by rw [h]; simp) (by rw [h']; simp) (by simp [hp]) (by simpa using hu)
        rw [len_one] at this
        rw [show decide (s :: t = q :: u) = decide (t = u) from by simp [c]]
        exact this
      · exact ev_neg c (ev_some (by simp [c]))
theorem spec_l1SameS_f (a b : List ByteArray) (hl : (a.length : Int) ≤ 9223372036854775806) : Ev (fun k => spec_l1SameS.f k a b) (decide (a = b)) := by
  unfold spec_l1SameS.f
  by_cases c : a.length = b.length
  · refine ev_pos (by omega) ?_
    exact spec_l1SameS_l0 a b hl a b [] [] rfl rfl rfl c
  · exact ev_neg (by omega) (ev_some (by
      have : ¬ a = b := fun e => c (by rw [e])
      simp [this]))
theorem slices_Equal_string_string_l0 (x0 x1 : List ByteArray) (hl : (x0.length : Int) ≤ 9223372036854775806) : ∀ (t u pre pre' : List ByteArray), x0 = pre ++ t → x1 = pre' ++ u → pre.length = pre'.length → t.length = u.length →
    Ev (fun k => slices_Equal_string_string.l0 k x0 x1 (x0.length : Int) (pre.length : Int)) (decide (t = u)) := by
  intro t
  induction t with
  | nil =>
    intro u pre pre' h h' hp hu
    obtain rfl := List.length_eq_zero_iff.1 hu.symm
    refine ev_succ ?_
    simp only [slices_Equal_string_string.l0]
    exact ev_neg (by rw [h]; exact not_lt_end) (ev_some (by simp))
  | cons s t ih =>
    intro u pre pre' h h' hp hu
    cases u with
    | nil => simp at hu
    | cons q u =>
      have hm : ((pre.length : Nat) : Int) < (x0.length : Int) := by rw [h]; exact lt_mid
      have hm' : ((pre.length : Nat) : Int) < (x1.length : Int) := by rw [h', hp]; exact lt_mid
      have hg : rdOf ByteArray.empty x0 (pre.length : Int) = s := by rw [h]; exact rdOf_mid
      have hg' : rdOf ByteArray.empty x1 (pre.length : Int) = q := by rw [h', hp]; exact rdOf_mid
      refine ev_succ ?_
      simp only [slices_Equal_string_string.l0, hg, hg', tl_inj]
      refine ev_pos hm (ev_pos (by omega) (ev_pos hm (ev_pos hm' ?_)))
      by_cases c : s = q
      · refine ev_pos c ?_
        rw [winc (by omega)]
        have := ih u (pre ++ [s]) (pre' ++ [q]) (by rw [h]; simp) (by rw [h']; simp) (by simp [hp]) (by simpa using hu)
        rw [len_one] at this
        rw [show decide (s :: t = q :: u) = decide (t = u) from by simp [c]]
        exact this
      · exact ev_neg c (ev_some (by simp [c]))
theorem slices_Equal_string_string_f (a b : List ByteArray) (hl : (a.length : Int) ≤ 9223372036854775806) : Ev (fun k => slices_Equal_string_string.f k a b) (decide (a = b)) := by
  unfold slices_Equal_string_string.f
  by_cases c : a.length = b.length
  · refine ev_pos (by omega) ?_
    exact slices_Equal_string_string_l0 a b hl a b [] [] rfl rfl rfl c
  · exact ev_neg (by omega) (ev_some (by
      have : ¬ a = b := fun e => c (by rw [e])
      simp [this]))

/-! ### reading a front -/
def nxt (last : ByteArray) (n : Int) (t : ByteArray) : ByteArray := last.extract 0 n.toNat ++ t
def dec : List Int → List ByteArray → ByteArray → Option (List ByteArray)
  | [], _, _ => some []
  | _ :: _, [], _ => none
  | n :: ns, t :: ts, last => if (0 ≤ n ∧ n ≤ (last.size : Int)) ∧ (t.size : Int) ≤ 12 then (dec ns ts (nxt last n t)).map (nxt last n t :: ·) else none
def finK (b : Int) (ks : List Int) (ts out : List ByteArray) : List ByteArray × Bool := if areKeysB out then (out, decide (ks = keepsL b out) && decide (ts = tailsL b out)) else ([], false)
def decK (b : Int) (ks : List Int) (ts acc : List ByteArray) : Option (List ByteArray) → List ByteArray × Bool
  | none => ([], false)
  | some out => finK b ks ts (acc ++ out)
theorem nxt_size {last : ByteArray} {n : Int} {t : ByteArray} (h : (t.size : Int) ≤ 12) : ((nxt last n t).size : Int) ≤ (last.size : Int) + 12 := by
  unfold nxt
  simp only [ByteArray.size_append, ByteArray.size_extract]
  omega
theorem spec_trFronted_l0 (b : Int) (ks : List Int) (ts : List ByteArray) (hb : blockOk b = true) (hl : ks.length ≤ 40) : ∀ (ns pre : List Int) (us pre' acc : List ByteArray) (last : ByteArray), ks = pre ++ ns → ts = pre' ++ us → pre.length = pre'.length → ns.length = us.length → acc.length = pre.length → (last.size : Int) ≤ 12 * (pre.length : Int) → (∀ s ∈ acc, (s.size : Int) ≤ 480) →
    Ev (fun k => spec_trFronted.l0 k acc last ks (ks.length : Int) (pre.length : Int) b ks ts) (decK b ks ts acc (dec ns us last)) := by
  have hb' : ¬ b = 0 := by simp [blockOk] at hb; omega
  intro ns
  induction ns with
  | nil =>
    intro pre us pre' acc last h h' hp hu ha hz hs
    refine ev_succ ?_
    simp only [spec_trFronted.l0]
    refine ev_neg (by rw [h]; exact not_lt_end) ?_
    have hlen : acc.length ≤ 40 := by rw [ha]; rw [h] at hl; simpa using hl
    have hs' : ∀ s ∈ acc, (s.size : Int) ≤ 9223372036854775806 := fun s m => by have := hs s m; omega
    simp only [dec, decK, List.append_nil, finK]
    refine ev_bind _ (spec_biKeys_f acc (by omega) hs') ?_
    cases hk : areKeysB acc with
    | false => exact ev_neg (by simp) (Ev.now _)
    | true =>
      refine ev_pos rfl (ev_bind _ (spec_trFront_f acc b hb' (by omega) hs') ?_)
      simp only [if_true]
      have e1 := keepsL_len b acc
      have e2 := tailsL_len b acc
      refine ev_bind _ (spec_l1Same_f ks (keepsL b acc) (by omega)) ?_
      by_cases c : ks = keepsL b acc
      · refine ev_pos (by simpa using c) (ev_bind _ (spec_l1SameS_f ts (tailsL b acc) (by rw [h'] at *; simp at *; omega)) (ev_some ?_))
        simp [← c]
      · exact ev_neg (by simpa using c) (ev_some (by simp [c]))
  | cons n ns ih =>
    intro pre us pre' acc last h h' hp hu ha hz hs
    cases us with
    | nil => simp at hu
    | cons t us =>
      have hm : ((pre.length : Nat) : Int) < (ks.length : Int) := by rw [h]; exact lt_mid
      have hm' : ((pre.length : Nat) : Int) < (ts.length : Int) := by rw [h', hp]; exact lt_mid
      have hg : rd ks (pre.length : Int) = n := by rw [h]; exact rd_mid
      have hg' : rdOf ByteArray.empty ts (pre.length : Int) = t := by rw [h', hp]; exact rdOf_mid
      refine ev_succ ?_
      simp only [spec_trFronted.l0, hg, hg', spec_in, Option.bind_some]
      refine ev_pos hm (ev_pos (by omega) (ev_pos hm ?_))
      by_cases c : 0 ≤ n ∧ n ≤ (last.size : Int)
      · refine ev_pos (by simpa using c) (ev_pos hm' ?_)
        by_cases c2 : (t.size : Int) > 12
        · refine ev_pos c2 (ev_some ?_)
          simp only [dec]
          rw [if_neg (by omega)]
          rfl
        · have hx := nxt_size (last := last) (n := n) (t := t) (by omega)
          have hx2 : (last.extract 0 n.toNat).size + t.size ≤ 9223372036854775807 := by simp only [ByteArray.size_extract]; omega
          refine ev_neg c2 (ev_pos c.1 (ev_pos c.2 (ev_pos hx2 (ev_pos (by rw [ha]; omega) ?_))))
          rw [winc (by omega)]
          have m := ih (pre ++ [n]) us (pre' ++ [t]) (acc ++ [nxt last n t]) (nxt last n t) (by rw [h]; simp) (by rw [h']; simp) (by simp [hp]) (by simpa using hu) (by simp [ha]) (by rw [len_one]; omega) (fun s hm2 => by
            rcases List.mem_append.1 hm2 with hm2 | hm2
            · exact hs s hm2
            · obtain rfl := List.mem_singleton.1 hm2
              omega)
          rw [len_one] at m
          have e : decK b ks ts (acc ++ [nxt last n t]) (dec ns us (nxt last n t)) = decK b ks ts acc (dec (n :: ns) (t :: us) last) := by
            simp only [dec]
            rw [if_pos ⟨c, by omega⟩]
            cases dec ns us (nxt last n t) with
            | none => rfl
            | some o => simp [decK]
          rw [← e]
          exact m
      · refine ev_neg (by simpa using c) (ev_some ?_)
        simp only [dec]
        rw [if_neg (fun h => c h.1)]
        rfl
theorem impl_Front_keys_l0 (b : Int) (ks : List Int) (ts : List ByteArray) (hb : blockOk b = true) (hl : ks.length ≤ 40) : ∀ (ns pre : List Int) (us pre' acc : List ByteArray) (last : ByteArray), ks = pre ++ ns → ts = pre' ++ us → pre.length = pre'.length → ns.length = us.length → acc.length = pre.length → (last.size : Int) ≤ 12 * (pre.length : Int) → (∀ s ∈ acc, (s.size : Int) ≤ 480) →
    Ev (fun k => impl_Front_keys.l0 k acc last ks (ks.length : Int) (pre.length : Int) b ks ts) (decK b ks ts acc (dec ns us last)) := by
  have hb' : ¬ b = 0 := by simp [blockOk] at hb; omega
  intro ns
  induction ns with
  | nil =>
    intro pre us pre' acc last h h' hp hu ha hz hs
    refine ev_succ ?_
    simp only [impl_Front_keys.l0]
    refine ev_neg (by rw [h]; exact not_lt_end) ?_
    have hlen : acc.length ≤ 40 := by rw [ha]; rw [h] at hl; simpa using hl
    have hs' : ∀ s ∈ acc, (s.size : Int) ≤ 9223372036854775806 := fun s m => by have := hs s m; omega
    simp only [dec, decK, List.append_nil, finK]
    refine ev_bind _ (impl_AreKeys_f acc (by omega) hs') ?_
    cases hk : areKeysB acc with
    | false => exact ev_neg (by simp) (Ev.now _)
    | true =>
      refine ev_pos rfl (ev_bind _ (impl_front_f acc b hb' (by omega) hs') ?_)
      simp only [if_true]
      have e1 := keepsL_len b acc
      have e2 := tailsL_len b acc
      refine ev_bind _ (slices_Equal_int_int_f (keepsL b acc) ks (by omega)) ?_
      by_cases c : keepsL b acc = ks
      · refine ev_pos (by simpa using c) (ev_bind _ (slices_Equal_string_string_f (tailsL b acc) ts (by omega)) (ev_some ?_))
        have c' := c.symm
        simp [← c', eq_comm]
      · have c' : ¬ ks = keepsL b acc := fun e => c e.symm
        exact ev_neg (by simpa using c) (ev_some (by simp [c']))
  | cons n ns ih =>
    intro pre us pre' acc last h h' hp hu ha hz hs
    cases us with
    | nil => simp at hu
    | cons t us =>
      have hm : ((pre.length : Nat) : Int) < (ks.length : Int) := by rw [h]; exact lt_mid
      have hm' : ((pre.length : Nat) : Int) < (ts.length : Int) := by rw [h', hp]; exact lt_mid
      have hg : rd ks (pre.length : Int) = n := by rw [h]; exact rd_mid
      have hg' : rdOf ByteArray.empty ts (pre.length : Int) = t := by rw [h', hp]; exact rdOf_mid
      refine ev_succ ?_
      simp only [impl_Front_keys.l0, hg, hg', impl_in, Option.bind_some]
      refine ev_pos hm (ev_pos (by omega) (ev_pos hm ?_))
      by_cases c : 0 ≤ n ∧ n ≤ (last.size : Int)
      · refine ev_pos (by simpa using c) (ev_pos hm' ?_)
        by_cases c2 : (t.size : Int) > 12
        · refine ev_pos c2 (ev_some ?_)
          simp only [dec]
          rw [if_neg (by omega)]
          rfl
        · have hx := nxt_size (last := last) (n := n) (t := t) (by omega)
          have hx2 : (last.extract 0 n.toNat).size + t.size ≤ 9223372036854775807 := by simp only [ByteArray.size_extract]; omega
          refine ev_neg c2 (ev_pos c.1 (ev_pos c.2 (ev_pos hx2 (ev_pos (by rw [ha]; omega) ?_))))
          rw [winc (by omega)]
          have m := ih (pre ++ [n]) us (pre' ++ [t]) (acc ++ [nxt last n t]) (nxt last n t) (by rw [h]; simp) (by rw [h']; simp) (by simp [hp]) (by simpa using hu) (by simp [ha]) (by rw [len_one]; omega) (fun s hm2 => by
            rcases List.mem_append.1 hm2 with hm2 | hm2
            · exact hs s hm2
            · obtain rfl := List.mem_singleton.1 hm2
              omega)
          rw [len_one] at m
          have e : decK b ks ts (acc ++ [nxt last n t]) (dec ns us (nxt last n t)) = decK b ks ts acc (dec (n :: ns) (t :: us) last) := by
            simp only [dec]
            rw [if_pos ⟨c, by omega⟩]
            cases dec ns us (nxt last n t) with
            | none => rfl
            | some o => simp [decK]
          rw [← e]
          exact m
      · refine ev_neg (by simpa using c) (ev_some ?_)
        simp only [dec]
        rw [if_neg (fun h => c h.1)]
        rfl

/-- The keys of a front, and whether it is one. -/
def frontKeys (b : Int) (ks : List Int) (ts : List ByteArray) : List ByteArray × Bool := if (blockOk b && decide (ks.length = ts.length)) && decide (ks.length ≤ 40) then decK b ks ts [] (dec ks ts ⟨#[]⟩) else ([], false)
theorem spec_trFronted_f (b : Int) (ks : List Int) (ts : List ByteArray) : Ev (fun k => spec_trFronted.f k b ks ts) (frontKeys b ks ts) := by
  unfold spec_trFronted.f frontKeys
  simp only [spec_in, Option.bind_some]
  have bad : ∀ r, r = (([] : List ByteArray), false) → Ev (fun k => spec_trFronted.j0 k true b ks ts) r := fun r hr => ev_succ (by
    simp only [spec_trFronted.j0]
    exact ev_pos trivial (ev_some hr.symm))
  by_cases c : 1 ≤ b ∧ b ≤ 16
  · have hb : blockOk b = true := by simpa [blockOk] using c
    refine ev_pos (by simpa using c) ?_
    by_cases c2 : ks.length = ts.length
    · refine ev_pos (by omega) ?_
      by_cases c3 : ks.length ≤ 40
      · have e : decide ((ks.length : Int) > 40) = false := by simp; omega
        rw [e, if_pos (by simp [hb, c2]; omega)]
        refine ev_succ ?_
        simp only [spec_trFronted.j0, Bool.false_eq_true, if_false]
        exact spec_trFronted_l0 b ks ts hb c3 ks [] ts [] [] ⟨#[]⟩ rfl rfl rfl c2 rfl (by simp [ByteArray.size]) (fun s h => by simp at h)
      · have e : decide ((ks.length : Int) > 40) = true := by simp; omega
        rw [e]
        exact bad _ (by simp [c3])
    · exact ev_neg (by omega) (bad _ (by simp [c2]))
  · have hb : blockOk b = false := by simpa [blockOk] using c
    exact ev_neg (by simpa using c) (bad _ (by simp [hb]))
theorem impl_Front_keys_f (b : Int) (ks : List Int) (ts : List ByteArray) : Ev (fun k => impl_Front_keys.f k b ks ts) (frontKeys b ks ts) := by
  unfold impl_Front_keys.f frontKeys
  simp only [impl_in, Option.bind_some]
  have bad : ∀ r, r = (([] : List ByteArray), false) → Ev (fun k => impl_Front_keys.j0 k true b ks ts) r := fun r hr => ev_succ (by
    simp only [impl_Front_keys.j0]
    exact ev_pos trivial (ev_some hr.symm))
  by_cases c : 1 ≤ b ∧ b ≤ 16
  · have hb : blockOk b = true := by simpa [blockOk] using c
    refine ev_pos (by simpa using c) ?_
    by_cases c2 : ks.length = ts.length
    · refine ev_pos (by omega) ?_
      by_cases c3 : ks.length ≤ 40
      · have e : decide ((ts.length : Int) > 40) = false := by simp; omega
        rw [e, if_pos (by simp [hb, c2]; omega)]
        refine ev_succ ?_
        simp only [impl_Front_keys.j0, Bool.false_eq_true, if_false]
        exact impl_Front_keys_l0 b ks ts hb c3 ks [] ts [] [] ⟨#[]⟩ rfl rfl rfl c2 rfl (by simp [ByteArray.size]) (fun s h => by simp at h)
      · have e : decide ((ts.length : Int) > 40) = true := by simp; omega
        rw [e]
        exact bad _ (by simp [c3])
    · exact ev_neg (by omega) (bad _ (by simp [c2]))
  · have hb : blockOk b = false := by simpa [blockOk] using c
    exact ev_neg (by simpa using c) (bad _ (by simp [hb]))
theorem decK_true {b : Int} {ks : List Int} {ts : List ByteArray} : ∀ {o : Option (List ByteArray)}, (decK b ks ts [] o).2 = true → areKeysB (decK b ks ts [] o).1 = true
  | none, h => by simp [decK] at h
  | some out, h => by
    simp only [decK, List.nil_append, finK] at h ⊢
    cases hk : areKeysB out with
    | false => simp [hk] at h
    | true => simp [hk]
theorem frontKeys_true {b : Int} {ks : List Int} {ts : List ByteArray} (h : (frontKeys b ks ts).2 = true) : areKeysB (frontKeys b ks ts).1 = true := by
  unfold frontKeys at h ⊢
  split at h
  · rename_i c
    rw [if_pos c]
    exact decK_true h
  · simp at h
theorem spec_IsFront_f (b : Int) (ks : List Int) (ts : List ByteArray) : Ev (fun k => spec_IsFront.f k b ks ts) (frontKeys b ks ts).2 := by
  unfold spec_IsFront.f
  exact ev_bind _ (spec_trFronted_f b ks ts) (Ev.now _)
theorem impl_IsFront_f (b : Int) (ks : List Int) (ts : List ByteArray) : Ev (fun k => impl_IsFront.f k b ks ts) (frontKeys b ks ts).2 := by
  unfold impl_IsFront.f
  exact ev_bind _ (impl_Front_keys_f b ks ts) (Ev.now _)
end Go.Proofs.YtfedgkmklcialaaQ
