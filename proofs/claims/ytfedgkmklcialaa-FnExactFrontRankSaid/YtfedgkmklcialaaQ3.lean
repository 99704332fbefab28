/- Fronts: what building and reading them comes to, in the program and in the reference. -/
import Derived.Test.YtfedgkmklcialaaPAx1
import Derived.Test.YtfedgkmklcialaaPAx2
import Derived.Test.YtfedgkmklcialaaQ1
import Derived.Test.YtfedgkmklcialaaQ2
namespace Go.Proofs.YtfedgkmklcialaaQ
open Go Go.RowKit Go.Proofs.YtfedgkmklcialaaW.PrintWords Go.Proofs.YtfedgkmklcialaaGp Go.Proofs.Ytfedgkmklcialaa.PA

/-! ### the common beginning of two strings -/
def common : List UInt8 → List UInt8 → Nat
  | a :: l, b :: m => if a = b then common l m + 1 else 0
  | _, _ => 0
theorem common_le_right : ∀ l m, common l m ≤ m.length
  | [], _ => by simp [common]
  | _ :: _, [] => by simp [common]
  | a :: l, b :: m => by
    simp only [common]
    split
    · have := common_le_right l m; simp; omega
    · simp
theorem common_le_left : ∀ l m, common l m ≤ l.length
  | [], _ => by simp [common]
  | _ :: _, [] => by simp [common]
  | a :: l, b :: m => by
    simp only [common]
    split
    · have := common_le_left l m; simp; omega
    · simp
theorem u8_eq {c d : UInt8} : (c.toNat : Int) = (d.toNat : Int) ↔ c = d := by
  constructor
  · intro h; exact UInt8.toNat_inj.1 (by omega)
  · rintro rfl; rfl
theorem spec_trCommon_l0 (a b : ByteArray) (hz : (a.size : Int) ≤ 9223372036854775806) : ∀ (t u pre pre' : List UInt8), a.data.toList = pre ++ t → b.data.toList = pre' ++ u → pre.length = pre'.length →
    Ev (fun k => spec_trCommon.l0 k a b (pre.length : Int)) ((pre.length + common t u : Nat) : Int) := by
  intro t
  induction t with
  | nil =>
    intro u pre pre' h h' hp
    refine ev_succ ?_
    simp only [spec_trCommon.l0]
    exact ev_neg (not_lt_size h) (ev_some (by simp [common]))
  | cons c t ih =>
    intro u pre pre' h h' hp
    have hm := lt_size h
    refine ev_succ ?_
    simp only [spec_trCommon.l0]
    refine ev_pos hm ?_
    cases u with
    | nil => exact ev_neg (by rw [hp]; exact not_lt_size h') (ev_some (by simp [common]))
    | cons d u =>
      refine ev_pos (by rw [hp]; exact lt_size h') (ev_pos (by omega) ?_)
      rw [bt_mid h, show ((pre.length : Nat) : Int) = ((pre'.length : Nat) : Int) from by rw [hp], bt_mid h', ← hp]
      by_cases e : c = d
      · refine ev_pos (u8_eq.2 e) ?_
        rw [winc (by omega)]
        have := ih u (pre ++ [c]) (pre' ++ [d]) (by rw [h]; simp) (by rw [h']; simp) (by simp [hp])
        rw [len_one] at this
        simp only [common, if_pos e]
        rw [show pre.length + (common t u + 1) = (pre ++ [c]).length + common t u from by simp; omega]
        exact this
      · exact ev_neg (fun h => e (u8_eq.1 h)) (ev_some (by simp [common, e]))
def comS (p s : ByteArray) : Nat := common p.data.toList s.data.toList
theorem comS_le (p s : ByteArray) : comS p s ≤ s.size := by rw [size_len]; exact common_le_right _ _
theorem spec_trCommon_f (a b : ByteArray) (hz : (a.size : Int) ≤ 9223372036854775806) : Ev (fun k => spec_trCommon.f k a b) (comS a b : Int) := by
  unfold spec_trCommon.f comS
  have := spec_trCommon_l0 a b hz a.data.toList b.data.toList [] [] rfl rfl rfl
  simpa using this

/-! ### building -/
def keepOf (b : Int) (i : Nat) (p : Option ByteArray) (s : ByteArray) : Nat := if Int.tmod (i : Int) b > 0 then comS (p.getD ⟨#[]⟩) s else 0
theorem keepOf_le (b : Int) (i : Nat) (p : Option ByteArray) (s : ByteArray) : keepOf b i p s ≤ s.size := by
  unfold keepOf
  split
  · exact comS_le _ _
  · exact Nat.zero_le _
def frontL (b : Int) : Nat → Option ByteArray → List ByteArray → List (Int × ByteArray)
  | _, _, [] => []
  | i, p, s :: t => ((keepOf b i p s : Int), s.extract (keepOf b i p s) s.size) :: frontL b (i + 1) (some s) t
def keepsL (b : Int) (l : List ByteArray) : List Int := (frontL b 0 none l).map Prod.fst
def tailsL (b : Int) (l : List ByteArray) : List ByteArray := (frontL b 0 none l).map Prod.snd
theorem frontL_len (b : Int) : ∀ i p l, (frontL b i p l).length = l.length
  | _, _, [] => rfl
  | i, p, s :: t => by simp [frontL, frontL_len b (i + 1) (some s) t]
theorem tmod_zero (b : Int) : ¬ Int.tmod 0 b > 0 := by simp
theorem tmod_pos_len {i : Nat} {b : Int} (h : Int.tmod (i : Int) b > 0) : 0 < i := by
  rcases Nat.eq_zero_or_pos i with rfl | h'
  · simp at h
  · exact h'
theorem spec_trFront_l0 (x0 : List ByteArray) (b : Int) (hb : ¬ b = 0) (hl : x0.length ≤ 1000000) (hs : ∀ s ∈ x0, (s.size : Int) ≤ 9223372036854775806) : ∀ (t pre : List ByteArray) (ks : List Int) (ts : List ByteArray), x0 = pre ++ t → ks.length = pre.length → ts.length = pre.length →
    Ev (fun k => spec_trFront.l0 k x0 b x0 (x0.length : Int) (pre.length : Int) b ks ts) (b, ks ++ (frontL b pre.length (lastOf pre) t).map Prod.fst, ts ++ (frontL b pre.length (lastOf pre) t).map Prod.snd) := by
  intro t
  induction t with
  | nil =>
    intro pre ks ts h hk ht
    refine ev_succ ?_
    simp only [spec_trFront.l0]
    exact ev_neg (by rw [h]; exact not_lt_end) (ev_some (by simp [frontL]))
  | cons s t ih =>
    intro pre ks ts h hk ht
    have hm : ((pre.length : Nat) : Int) < (x0.length : Int) := by rw [h]; exact lt_mid
    have hg : rdOf ByteArray.empty x0 (pre.length : Int) = s := by rw [h]; exact rdOf_mid
    have next := fun n t' => ih (pre ++ [s]) (ks ++ [n]) (ts ++ [t']) (by rw [h]; simp) (by simp [hk]) (by simp [ht])
    simp only [lastOf_one, List.length_append, List.length_cons, List.length_nil, Nat.zero_add] at next
    refine ev_succ ?_
    simp only [spec_trFront.l0, hg]
    refine ev_pos hm (ev_pos (by omega) (ev_pos hm (ev_neg hb ?_)))
    by_cases c : Int.tmod ((pre.length : Nat) : Int) b > 0
    · refine ev_pos c ?_
      obtain ⟨q, p, rfl⟩ := last_split (tmod_pos_len c)
      have hp : rdOf ByteArray.empty x0 ((q.length : Nat) : Int) = p := by rw [h]; exact rdOf_last
      have hpm : p ∈ x0 := by rw [h]; simp
      have hw : wrap64 (((q ++ [p]).length : Int) - 1) = (q.length : Int) := by rw [len_one]; exact wdec (by simp at hm; omega)
      have hkeep : keepOf b (q ++ [p]).length (lastOf (q ++ [p])) s = comS p s := by unfold keepOf; rw [if_pos c, lastOf_one]; rfl
      have hle := comS_le p s
      simp only [hw, hp]
      refine ev_pos (by omega) (ev_pos (by simp at hm; omega) (ev_bind _ (spec_trCommon_f p s (hs p hpm)) ?_))
      refine ev_pos (by rw [hk]; simp only [List.length_append, List.length_cons, List.length_nil] at hm ⊢; omega) (ev_pos (by omega) (ev_pos (by omega) (ev_pos (by rw [ht]; simp only [List.length_append, List.length_cons, List.length_nil] at hm ⊢; omega) ?_)))
      rw [winc (by simp at hm; simp; omega)]
      have n := next (comS p s : Int) (s.extract (comS p s) s.size)
      simp only [frontL, hkeep, List.map_cons, Int.toNat_natCast]
      simpa using n
    · refine ev_neg c (ev_pos (by rw [hk]; omega) (ev_pos (by omega) (ev_pos (by rw [ht]; omega) ?_)))
      have hkeep : keepOf b pre.length (lastOf pre) s = 0 := by unfold keepOf; rw [if_neg c]
      rw [winc (by omega)]
      have n := next 0 s
      simp only [frontL, hkeep, List.map_cons, ByteArray.extract_zero_size]
      simpa using n
theorem spec_trFront_f (l : List ByteArray) (b : Int) (hb : ¬ b = 0) (hl : l.length ≤ 1000000) (hs : ∀ s ∈ l, (s.size : Int) ≤ 9223372036854775806) : Ev (fun k => spec_trFront.f k l b) (b, keepsL b l, tailsL b l) := by
  unfold spec_trFront.f
  exact spec_trFront_l0 l b hb hl hs l [] [] [] rfl rfl rfl

/-! the program's: an inner loop finds the common beginning -/
theorem impl_front_l1 (x0 x11 : List ByteArray) (b i : Int) (key p : ByteArray) (x12 x13 b' : Int) (ks : List Int) (ts : List ByteArray) (r : Int × List Int × List ByteArray) (hb : ¬ b = 0) (hi : Int.tmod i b > 0)
    (h0 : 0 ≤ wrap64 (i - 1)) (h1 : wrap64 (i - 1) < (x0.length : Int)) (hp : rdOf ByteArray.empty x0 (wrap64 (i - 1)) = p) (hz : (key.size : Int) ≤ 9223372036854775806) : ∀ (t u pre pre' : List UInt8), key.data.toList = pre ++ t → p.data.toList = pre' ++ u → pre.length = pre'.length →
    Ev (fun k => impl_front.j2 k x0 b i key ((pre.length + common u t : Nat) : Int) x11 x12 x13 false b' ks ts) r →
    Ev (fun k => impl_front.l1 k x0 b i key (pre.length : Int) x11 x12 x13 b' ks ts) r := by
  intro t
  induction t with
  | nil =>
    intro u pre pre' h h' hpp hr
    refine ev_succ ?_
    simp only [impl_front.l1]
    refine ev_neg hb (ev_pos hi (ev_neg (not_lt_size h) ?_))
    simpa [show common u [] = 0 from by cases u <;> rfl] using hr
  | cons c t ih =>
    intro u pre pre' h h' hpp hr
    have hm := lt_size h
    refine ev_succ ?_
    simp only [impl_front.l1, hp]
    refine ev_neg hb (ev_pos hi (ev_pos hm (ev_pos h0 (ev_pos h1 ?_))))
    cases u with
    | nil =>
      refine ev_neg (by rw [hpp]; exact not_lt_size h') ?_
      simpa [common] using hr
    | cons d u =>
      refine ev_pos (by rw [hpp]; exact lt_size h') (ev_pos (by omega) ?_)
      rw [bt_mid h, show ((pre.length : Nat) : Int) = ((pre'.length : Nat) : Int) from by rw [hpp], bt_mid h', ← hpp]
      by_cases e : d = c
      · have e' : ((c.toNat : Int) == (d.toNat : Int)) = true := by simp [e]
        rw [e']
        refine ev_succ ?_
        simp only [impl_front.j2]
        refine ev_pos trivial ?_
        rw [winc (by omega)]
        have := ih u (pre ++ [c]) (pre' ++ [d]) (by rw [h]; simp) (by rw [h']; simp) (by simp [hpp])
        rw [len_one] at this
        refine this ?_
        simp only [common, if_pos e] at hr
        rw [show (pre ++ [c]).length + common u t = pre.length + (common u t + 1) from by simp; omega]
        exact hr
      · have e' : ((c.toNat : Int) == (d.toNat : Int)) = false := by
          rw [beq_eq_false_iff_ne]
          exact fun h => e (u8_eq.1 h).symm
        rw [e']
        simpa [common, e] using hr
theorem impl_front_l0 (x0 : List ByteArray) (b : Int) (hb : ¬ b = 0) (hl : x0.length ≤ 1000000) (hs : ∀ s ∈ x0, (s.size : Int) ≤ 9223372036854775806) : ∀ (t pre : List ByteArray) (ks : List Int) (ts : List ByteArray), x0 = pre ++ t → ks.length = pre.length → ts.length = pre.length →
    Ev (fun k => impl_front.l0 k x0 b x0 (x0.length : Int) (pre.length : Int) b ks ts) (b, ks ++ (frontL b pre.length (lastOf pre) t).map Prod.fst, ts ++ (frontL b pre.length (lastOf pre) t).map Prod.snd) := by
  intro t
  induction t with
  | nil =>
    intro pre ks ts h hk ht
    refine ev_succ ?_
    simp only [impl_front.l0]
    exact ev_neg (by rw [h]; exact not_lt_end) (ev_some (by simp [frontL]))
  | cons s t ih =>
    intro pre ks ts h hk ht
    have hm : ((pre.length : Nat) : Int) < (x0.length : Int) := by rw [h]; exact lt_mid
    have hg : rdOf ByteArray.empty x0 (pre.length : Int) = s := by rw [h]; exact rdOf_mid
    have hsz := hs s (by rw [h]; simp)
    have next := fun n t' => ih (pre ++ [s]) (ks ++ [n]) (ts ++ [t']) (by rw [h]; simp) (by simp [hk]) (by simp [ht])
    simp only [lastOf_one, List.length_append, List.length_cons, List.length_nil, Nat.zero_add] at next
    -- what follows the inner loop
    have tail : ∀ n : Nat, keepOf b pre.length (lastOf pre) s = n → n ≤ s.size →
        Ev (fun k => impl_front.j2 k x0 b (pre.length : Int) s (n : Int) x0 (x0.length : Int) (pre.length : Int) false b ks ts) (b, ks ++ (frontL b pre.length (lastOf pre) (s :: t)).map Prod.fst, ts ++ (frontL b pre.length (lastOf pre) (s :: t)).map Prod.snd) := by
      intro n hn hle
      refine ev_succ ?_
      simp only [impl_front.j2, Option.bind_some, List.length_cons, List.length_nil]
      refine ev_neg (by simp) (ev_pos (by rw [hk]; omega) (ev_pos (by omega) (ev_pos (by omega) (ev_pos (by rw [ht]; omega) ?_))))
      rw [winc (by omega)]
      have m := next (n : Int) (s.extract n s.size)
      simp only [frontL, hn, List.map_cons, Int.toNat_natCast]
      simpa using m
    refine ev_succ ?_
    simp only [impl_front.l0, hg]
    refine ev_pos hm (ev_pos (by omega) (ev_pos hm ?_))
    by_cases c : Int.tmod ((pre.length : Nat) : Int) b > 0
    · obtain ⟨q, p, rfl⟩ := last_split (tmod_pos_len c)
      have hp : rdOf ByteArray.empty x0 ((q.length : Nat) : Int) = p := by rw [h]; exact rdOf_last
      have hw : wrap64 (((q ++ [p]).length : Int) - 1) = (q.length : Int) := by rw [len_one]; exact wdec (by simp at hm; omega)
      have hkeep : keepOf b (q ++ [p]).length (lastOf (q ++ [p])) s = comS p s := by unfold keepOf; rw [if_pos c, lastOf_one]; rfl
      refine impl_front_l1 x0 x0 b _ s p _ _ b ks ts _ hb c (by rw [hw]; omega) (by rw [hw]; simp at hm; omega) (by rw [hw]; exact hp) hsz s.data.toList p.data.toList [] [] rfl rfl rfl ?_
      have m := tail (comS p s) hkeep (comS_le p s)
      simpa [comS] using m
    · have hkeep : keepOf b pre.length (lastOf pre) s = 0 := by unfold keepOf; rw [if_neg c]
      refine ev_succ ?_
      simp only [impl_front.l1]
      refine ev_neg hb (ev_neg c ?_)
      exact tail 0 hkeep (Nat.zero_le _)
theorem impl_front_f (l : List ByteArray) (b : Int) (hb : ¬ b = 0) (hl : l.length ≤ 1000000) (hs : ∀ s ∈ l, (s.size : Int) ≤ 9223372036854775806) : Ev (fun k => impl_front.f k l b) (b, keepsL b l, tailsL b l) := by
  unfold impl_front.f
  exact impl_front_l0 l b hb hl hs l [] [] [] rfl rfl rfl

def blockOk (b : Int) : Bool := decide (1 ≤ b ∧ b ≤ 16)
theorem key_small {l : List ByteArray} (h : areKeysB l = true) : ∀ s ∈ l, (s.size : Int) ≤ 9223372036854775806 := fun s hs => by
  have := (isKeyB_size (areKeysB_all h s hs)).2
  omega
theorem keepsL_len (b : Int) (l : List ByteArray) : (keepsL b l).length = l.length := by simp [keepsL, frontL_len]
theorem tailsL_len (b : Int) (l : List ByteArray) : (tailsL b l).length = l.length := by simp [tailsL, frontL_len]
end Go.Proofs.YtfedgkmklcialaaQ
