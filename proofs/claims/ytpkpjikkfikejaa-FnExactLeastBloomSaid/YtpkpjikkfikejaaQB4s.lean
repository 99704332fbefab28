/- spec.BloomOf: sizes, keys, and the bits of all probes. -/
import Derived.Test.YtpkpjikkfikejaaPAx3
import Derived.Test.YtpkpjikkfikejaaPAx5
import Derived.Test.YtpkpjikkfikejaaPAx6
import Derived.Test.YtpkpjikkfikejaaPAx7
import Derived.Test.YtpkpjikkfikejaaPAx8
import Derived.Test.YtpkpjikkfikejaaQB3
import Derived.Test.YtpkpjikkfikejaaQ2
namespace Go.Proofs.YtpkpjikkfikejaaQ
open Go Go.RowKit Go.Proofs.YtpkpjikkfikejaaW.PrintWords Go.Proofs.YtpkpjikkfikejaaGp Go.Proofs.Ytpkpjikkfikejaa.PA

def sizesB (a0 a1 a2 : Int) : Bool := decide (0 ≤ a0 ∧ a0 ≤ 9999) && decide (1 ≤ a1 ∧ a1 ≤ 8) && decide (1 ≤ a2 ∧ a2 ≤ 512)
theorem sizesB_ok {a0 a1 a2 : Int} (h : sizesB a0 a1 a2 = true) : (0 ≤ a0 ∧ a0 ≤ 9999) ∧ (1 ≤ a1 ∧ a1 ≤ 8) ∧ 1 ≤ a2 ∧ a2 ≤ 512 := by
  simp only [sizesB, Bool.and_eq_true, decide_eq_true_eq] at h
  exact ⟨h.1.1, h.1.2, h.2⟩
def blankV (n : Int) : List Int := List.replicate ((n + 15) / 16).toNat 0
theorem blankV_len {n : Int} (h : 1 ≤ n) : ((blankV n).length : Int) = (n + 15) / 16 := by simp [blankV]; omega
theorem words15 {n : Int} (h0 : 1 ≤ n) (h1 : n ≤ 512) : wrap64 (Int.tdiv (wrap64 (n + 15)) 16) = (n + 15) / 16 := by
  rw [w64 (x := n + 15) (by omega) (by omega), Int.tdiv_eq_ediv_of_nonneg (by omega), w64 (by omega) (by omega)]
def bloomV (a0 a1 a2 : Int) (l : List ByteArray) : Int × Int × Int × List Int × Bool :=
  if (sizesB a0 a1 a2 && areKeysB l) = true then (a0, a1, a2, addK a0 a1.toNat a2 (blankV a2) l, true) else (0, 0, 0, [], false)
theorem bloomV_len (a0 a1 a2 : Int) (l : List ByteArray) : (bloomV a0 a1 a2 l).2.2.2.1.length ≤ 40 := by
  unfold bloomV
  split
  · rename_i h
    rw [Bool.and_eq_true] at h
    obtain ⟨_, _, h2, h3⟩ := sizesB_ok h.1
    simp only [addK_len]
    have := blankV_len h2
    omega
  · simp

theorem spec_fiSize_f (a0 a1 a2 : Int) : spec_fiSize.f a0 a1 a2 = some (sizesB a0 a1 a2) := by
  unfold spec_fiSize.f sizesB
  simp only [spec_in, Option.bind_some]
  by_cases h0 : 0 ≤ a0 ∧ a0 ≤ 9999 <;> by_cases h1 : 1 ≤ a1 ∧ a1 ≤ 8 <;> by_cases h2 : 1 ≤ a2 ∧ a2 ≤ 512 <;> simp [h0, h1, h2]
theorem spec_fiAdd_l1 (x18 : List ByteArray) (x19 x20 a0 a1 n : Int) (l' : List Int) (b0 b1 bn : Int) (x32 : List Int) (hl : (x32.length : Int) ≤ 9223372036854775806) {r : Int × Int × Int × List Int} : ∀ (t pre l : List Int), x32 = pre ++ t → (∀ p ∈ t, 0 ≤ p ∧ p ≤ 1000000 ∧ p / 16 < (l.length : Int)) →
    Ev (fun k => spec_fiAdd.l0 k x18 x19 (wrap64 (x20 + 1)) a0 a1 n l' b0 b1 bn (addP l t)) r →
    Ev (fun k => spec_fiAdd.l1 k x18 x19 x20 x32 (x32.length : Int) (pre.length : Int) a0 a1 n l' b0 b1 bn l) r := by
  intro t
  induction t with
  | nil =>
    intro pre l e hp H
    refine ev_succ ?_
    simp only [spec_fiAdd.l1]
    exact ev_neg (by rw [e]; exact not_lt_end) H
  | cons s t ih =>
    intro pre l e hp H
    have hm : ((pre.length : Nat) : Int) < (x32.length : Int) := by rw [e]; exact lt_mid
    have hg : rd x32 (pre.length : Int) = s := by rw [e]; exact rd_mid
    obtain ⟨p0, p1, p2⟩ := hp s (by simp)
    refine ev_succ ?_
    simp only [spec_fiAdd.l1, hg]
    refine ev_pos hm (ev_pos (by omega) (ev_pos hm (ev_bind (setV l s) (by rw [spec_biSet_f bn l p0 p1 p2]; exact Ev.now _) ?_)))
    rw [winc (by omega)]
    have := ih (pre ++ [s]) (setV l s) (by rw [e]; simp) (fun p h => by rw [setV_len]; exact hp p (by simp [h])) H
    rw [len_one] at this
    exact this
theorem spec_fiAdd_l0 (x18 : List ByteArray) (a0 a1 n : Int) (l' : List Int) (b0 b1 bn : Int) (hl : (x18.length : Int) ≤ 9223372036854775806) (h0 : 0 ≤ a0) (h0' : a0 ≤ 1000000) (h1 : 0 ≤ a1) (h1' : a1 ≤ 1000000) (hn : 1 ≤ n) (hn' : n ≤ 1000000) : ∀ (t pre : List ByteArray) (l : List Int), x18 = pre ++ t → (∀ s ∈ t, (s.size : Int) ≤ 9223372036854775806) → (n + 15) / 16 ≤ (l.length : Int) →
    Ev (fun k => spec_fiAdd.l0 k x18 (x18.length : Int) (pre.length : Int) a0 a1 n l' b0 b1 bn l) (b0, b1, bn, addK a0 a1.toNat n l t) := by
  intro t
  induction t with
  | nil =>
    intro pre l e hz hb
    refine ev_succ ?_
    simp only [spec_fiAdd.l0]
    exact ev_neg (by rw [e]; exact not_lt_end) (ev_some rfl)
  | cons s t ih =>
    intro pre l e hz hb
    have hm : ((pre.length : Nat) : Int) < (x18.length : Int) := by rw [e]; exact lt_mid
    have hg : rdOf ByteArray.empty x18 (pre.length : Int) = s := by rw [e]; exact rdOf_mid
    refine ev_succ ?_
    simp only [spec_fiAdd.l0, hg]
    refine ev_pos hm (ev_pos (by omega) (ev_pos hm (ev_bind _ (spec_fiProbes_f a0 a1 n s (hz s (by simp)) h0 h0' h1 h1') ?_)))
    refine spec_fiAdd_l1 _ _ _ _ _ _ _ _ _ _ _ (by rw [probesL_len]; omega) _ [] l rfl (fun p h => by
      obtain ⟨x, y⟩ := probesL_range a0 s hn hn' _ _ p h
      exact ⟨x, by omega, by omega⟩) ?_
    rw [winc (by omega)]
    have := ih (pre ++ [s]) (addP l (probesL a0 s n a1.toNat 0)) (by rw [e]; simp) (fun s h => hz s (by simp [h])) (by rw [addP_len]; exact hb)
    rw [len_one] at this
    exact this
theorem spec_fiAdd_f (a0 a1 n : Int) (l : List Int) (ks : List ByteArray) (hk : (ks.length : Int) ≤ 9223372036854775806) (hz : ∀ s ∈ ks, (s.size : Int) ≤ 9223372036854775806) (hl : (l.length : Int) ≤ 1000000) (h0 : 0 ≤ a0) (h0' : a0 ≤ 1000000) (h1 : 0 ≤ a1) (h1' : a1 ≤ 1000000) (hn : 1 ≤ n) (hn' : n ≤ 1000000) (hb : (n + 15) / 16 ≤ (l.length : Int)) :
    Ev (fun k => spec_fiAdd.f k a0 a1 n l ks) (a0, a1, n, addK a0 a1.toNat n l ks) := by
  have e : spec_biOwn.f n l = some (n, l) := by
    unfold spec_biOwn.f spec_l1Own.f
    simp only [Option.bind_some, List.length_nil, List.nil_append]
    rw [if_pos (by omega)]
    rfl
  unfold spec_fiAdd.f
  rw [e]
  have := spec_fiAdd_l0 ks a0 a1 n l a0 a1 n hk h0 h0' h1 h1' hn hn' ks [] l rfl hz hb
  exact this
theorem spec_BloomOf_f (a0 a1 a2 : Int) (l : List ByteArray) (hl : (l.length : Int) ≤ 9223372036854775806) (hz : ∀ s ∈ l, (s.size : Int) ≤ 9223372036854775806) :
    Ev (fun k => spec_BloomOf.f k a0 a1 a2 l) (bloomV a0 a1 a2 l) := by
  unfold spec_BloomOf.f
  rw [spec_fiSize_f]
  simp only [Option.bind_some]
  by_cases hs : sizesB a0 a1 a2 = true
  · refine ev_pos hs (ev_bind _ (spec_biKeys_f l hl hz) (ev_succ ?_))
    simp only [spec_BloomOf.j0]
    by_cases hk : areKeysB l = true
    · obtain ⟨⟨p0, p1⟩, ⟨p2, p3⟩, p4, p5⟩ := sizesB_ok hs
      have hb : spec_biNew.f a2 = some (a2, blankV a2) := by
        unfold spec_biNew.f
        rw [words15 p4 p5, if_pos (by omega), if_pos (by omega)]
        rfl
      have hn : spec_fiNew.f a0 a1 a2 = some (a0, a1, a2, blankV a2) := by
        unfold spec_fiNew.f
        rw [hb]
        rfl
      have hbl := blankV_len p4
      rw [hn]
      refine ev_neg (by simp [hk]) ?_
      simp only [Option.bind_some]
      refine ev_bind _ (spec_fiAdd_f a0 a1 a2 (blankV a2) l hl hz (by omega) p0 (by omega) (by omega) (by omega) p4 (by omega) (by omega)) (ev_some ?_)
      simp [bloomV, hs, hk]
    · exact ev_pos (by simp [hk]) (ev_some (by simp [bloomV, hk]))
  · refine ev_neg hs (ev_succ ?_)
    simp only [spec_BloomOf.j0]
    exact ev_pos trivial (ev_some (by simp [bloomV, hs]))
end Go.Proofs.YtpkpjikkfikejaaQ
