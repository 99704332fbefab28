/- impl.BloomOf. -/
import Derived.Test.YtpkpjikkfikejaaPAx2
import Derived.Test.YtpkpjikkfikejaaPAx3
import Derived.Test.YtpkpjikkfikejaaPAx9
import Derived.Test.YtpkpjikkfikejaaPAx10
import Derived.Test.YtpkpjikkfikejaaQB4s
namespace Go.Proofs.YtpkpjikkfikejaaQ
open Go Go.RowKit Go.Proofs.YtpkpjikkfikejaaW.PrintWords Go.Proofs.YtpkpjikkfikejaaGp Go.Proofs.Ytpkpjikkfikejaa.PA

theorem impl_isSeed_f (a0 : Int) : impl_isSeed.f a0 = some (decide (0 ≤ a0 ∧ a0 ≤ 9999)) := by
  unfold impl_isSeed.f
  rw [impl_in]
  rfl
theorem impl_sizesOk_f (a0 a1 a2 : Int) : impl_sizesOk.f a0 a1 a2 = some (sizesB a0 a1 a2) := by
  unfold impl_sizesOk.f sizesB
  simp only [impl_isSeed_f, impl_in, Option.bind_some]
  by_cases h0 : 0 ≤ a0 ∧ a0 ≤ 9999 <;> by_cases h1 : 1 ≤ a1 ∧ a1 ≤ 8 <;> by_cases h2 : 1 ≤ a2 ∧ a2 ≤ 512 <;> simp [h0, h1, h2]
theorem impl_NewBloom_f (a0 a1 a2 : Int) : impl_NewBloom.f a0 a1 a2 = some (if sizesB a0 a1 a2 = true then (a0, a1, a2, blankV a2, true) else (0, 0, 0, [], false)) := by
  unfold impl_NewBloom.f
  rw [impl_sizesOk_f]
  simp only [Option.bind_some]
  by_cases hs : sizesB a0 a1 a2 = true
  · obtain ⟨_, _, p4, p5⟩ := sizesB_ok hs
    have hw : impl_words.f a2 = some ((a2 + 15) / 16) := by
      unfold impl_words.f
      rw [w64 (x := a2 + 16) (by omega) (by omega), w64 (x := a2 + 16 - 1) (by omega) (by omega), Int.tdiv_eq_ediv_of_nonneg (by omega), w64 (by omega) (by omega), show a2 + 16 - 1 = a2 + 15 from by omega]
    have hb : impl_blank.f a2 = some (a2, blankV a2) := by
      unfold impl_blank.f
      rw [hw]
      simp only [Option.bind_some]
      rw [if_pos (by omega), if_pos (by omega)]
      rfl
    rw [hb, if_pos hs, if_pos hs]
    rfl
  · rw [if_neg hs, if_neg hs]
theorem impl_BloomOf_l0 (x29 : List ByteArray) (a0 a1 n : Int) (hl : (x29.length : Int) ≤ 9223372036854775806) (h0 : 0 ≤ a0) (h0' : a0 ≤ 1000000) (h1 : 0 ≤ a1) (h1' : a1 ≤ 1000000) (hn : 1 ≤ n) (hn' : n ≤ 1000000) : ∀ (t pre : List ByteArray) (l : List Int), x29 = pre ++ t → (∀ s ∈ t, (s.size : Int) ≤ 9223372036854775806) → (n + 15) / 16 ≤ (l.length : Int) →
    Ev (fun k => impl_BloomOf.l0 k x29 (x29.length : Int) (pre.length : Int) a0 a1 n l) (a0, a1, n, addK a0 a1.toNat n l t, true) := by
  intro t
  induction t with
  | nil =>
    intro pre l e hz hb
    refine ev_succ ?_
    simp only [impl_BloomOf.l0]
    exact ev_neg (by rw [e]; exact not_lt_end) (ev_some rfl)
  | cons s t ih =>
    intro pre l e hz hb
    have hm : ((pre.length : Nat) : Int) < (x29.length : Int) := by rw [e]; exact lt_mid
    have hg : rdOf ByteArray.empty x29 (pre.length : Int) = s := by rw [e]; exact rdOf_mid
    refine ev_succ ?_
    simp only [impl_BloomOf.l0, hg]
    refine ev_pos hm (ev_pos (by omega) (ev_pos hm (ev_bind _ (impl_put_f a0 a1 n l s (hz s (by simp)) h0 h0' h1 h1' hn hn' hb) ?_)))
    rw [winc (by omega)]
    have := ih (pre ++ [s]) (addP l (probesL a0 s n a1.toNat 0)) (by rw [e]; simp) (fun s h => hz s (by simp [h])) (by rw [addP_len]; exact hb)
    rw [len_one] at this
    exact this
theorem impl_BloomOf_f (a0 a1 a2 : Int) (l : List ByteArray) (hl : (l.length : Int) ≤ 9223372036854775806) (hz : ∀ s ∈ l, (s.size : Int) ≤ 9223372036854775806) :
    Ev (fun k => impl_BloomOf.f k a0 a1 a2 l) (bloomV a0 a1 a2 l) := by
  unfold impl_BloomOf.f
  rw [impl_NewBloom_f]
  simp only [Option.bind_some]
  by_cases hs : sizesB a0 a1 a2 = true
  · obtain ⟨⟨p0, p1⟩, ⟨p2, p3⟩, p4, p5⟩ := sizesB_ok hs
    have hbl := blankV_len p4
    simp only [if_pos hs]
    refine ev_pos trivial (ev_bind _ (impl_AreKeys_f l hl hz) (ev_succ ?_))
    simp only [impl_BloomOf.j0]
    by_cases hk : areKeysB l = true
    · refine ev_neg (by simp [hk]) ?_
      have := impl_BloomOf_l0 l a0 a1 a2 hl p0 (by omega) (by omega) (by omega) p4 (by omega) l [] (blankV a2) rfl hz (by omega)
      simpa [bloomV, hs, hk] using this
    · exact ev_pos (by simp [hk]) (ev_some (by simp [bloomV, hk]))
  · simp only [if_neg hs]
    refine ev_neg (by simp) (ev_succ ?_)
    simp only [impl_BloomOf.j0]
    exact ev_pos trivial (ev_some (by simp [bloomV, hs]))
end Go.Proofs.YtpkpjikkfikejaaQ
