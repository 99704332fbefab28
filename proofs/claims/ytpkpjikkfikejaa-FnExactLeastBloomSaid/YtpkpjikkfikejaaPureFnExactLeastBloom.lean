/- The pure statement behind FnExactLeastBloom: both sides try the sizes in turn, and find the same one. -/
import Derived.Test.YtpkpjikkfikejaaPAx7
import Derived.Test.YtpkpjikkfikejaaPAx32
import Derived.Test.YtpkpjikkfikejaaPAx34
import Derived.Test.YtpkpjikkfikejaaQ1
import Derived.Test.YtpkpjikkfikejaaQB4i
import Derived.Test.YtpkpjikkfikejaaQB9
namespace Go.Proofs.Ytpkpjikkfikejaa.Pure
open Go Go.RowKit Go.Proofs.YtpkpjikkfikejaaW.PrintWords Go.Proofs.YtpkpjikkfikejaaGp Go.Proofs.Ytpkpjikkfikejaa.PA Go.Proofs.YtpkpjikkfikejaaQ

/-- What is left at the size n: whether there are no false answers. -/
def noWrong (a0 a1 n : Int) (ks ts : List ByteArray) : Bool := decide ((wrongL (saysV a0 a1 n (addK a0 a1.toNat n (blankV n) ks)) ks ts 0).length = 0)
/-- The first of m sizes, from n on. -/
def leastL (a0 a1 : Int) (ks ts : List ByteArray) : Nat → Nat → Int × Bool
  | 0, _ => (0, false)
  | m + 1, n => if noWrong a0 a1 (n : Int) ks ts = true then ((n : Int), true) else leastL a0 a1 ks ts m (n + 1)
def leastV (a0 a1 a4 : Int) (ks ts : List ByteArray) : Int × Bool :=
  if (sizesB a0 a1 a4 && (areKeysB ks && textsB ts)) = true then leastL a0 a1 ks ts a4.toNat 1 else (0, false)

section
variable (a0 a1 a4 : Int) (ks ts : List ByteArray) (hk : (ks.length : Int) ≤ 9223372036854775806) (hks : ∀ s ∈ ks, (s.size : Int) ≤ 9223372036854775806) (hts : ∀ s ∈ ts, (s.size : Int) ≤ 9223372036854775806)
include hk hks hts
theorem spec_LeastBloom_l0 (hs : sizesB a0 a1 a4 = true) (ht : ts.length ≤ 300) : ∀ (m n : Nat), 1 ≤ n → ((n + m : Nat) : Int) = a4 + 1 → Ev (fun k => spec_LeastBloom.l0 k a0 a1 ks ts a4 (n : Int)) (leastL a0 a1 ks ts m n) := by
  obtain ⟨⟨p0, p1⟩, ⟨p2, p3⟩, p4, p5⟩ := sizesB_ok hs
  intro m
  induction m with
  | zero =>
    intro n h1 e
    refine ev_succ ?_
    simp only [spec_LeastBloom.l0, leastL]
    exact ev_neg (by omega) (ev_some rfl)
  | succ m ih =>
    intro n h1 e
    have hb : spec_biNew.f (n : Int) = some ((n : Int), blankV (n : Int)) := by
      unfold spec_biNew.f
      rw [words15 (by omega) (by omega), if_pos (by omega), if_pos (by omega)]
      rfl
    have hn : spec_fiNew.f a0 a1 (n : Int) = some (a0, a1, (n : Int), blankV (n : Int)) := by
      unfold spec_fiNew.f
      rw [hb]
      rfl
    have hbl := blankV_len (n := (n : Int)) (by omega)
    have hal := addK_len a0 a1.toNat (n : Int) ks (blankV (n : Int))
    refine ev_succ ?_
    simp only [spec_LeastBloom.l0, leastL, hn, Option.bind_some]
    refine ev_pos (by omega) (ev_bind _ (spec_fiAdd_f a0 a1 (n : Int) (blankV (n : Int)) ks hk hks (by omega) p0 (by omega) (by omega) (by omega) (by omega) (by omega) (by omega)) ?_)
    refine ev_bind _ (spec_fiFalse_f a0 a1 (n : Int) (addK a0 a1.toNat (n : Int) (blankV (n : Int)) ks) ks ts hk p0 (by omega) (by omega) (by omega) (by omega) (by omega) (by omega) ht hts) ?_
    by_cases c : noWrong a0 a1 (n : Int) ks ts = true
    · rw [if_pos c]
      simp only [noWrong, decide_eq_true_eq] at c
      exact ev_pos (by omega) (ev_some rfl)
    · rw [if_neg c]
      simp only [noWrong, decide_eq_true_eq] at c
      refine ev_neg (by omega) ?_
      rw [winc (by omega)]
      exact ih (n + 1) (by omega) (by omega)
theorem impl_LeastBloom_l0 (hs : sizesB a0 a1 a4 = true) (hkk : areKeysB ks = true) (ht : ts.length ≤ 300) : ∀ (m n : Nat), 1 ≤ n → ((n + m : Nat) : Int) = a4 + 1 → Ev (fun k => impl_LeastBloom.l0 k a0 a1 ks ts a4 (n : Int)) (leastL a0 a1 ks ts m n) := by
  obtain ⟨⟨p0, p1⟩, ⟨p2, p3⟩, p4, p5⟩ := sizesB_ok hs
  intro m
  induction m with
  | zero =>
    intro n h1 e
    refine ev_succ ?_
    simp only [impl_LeastBloom.l0, leastL]
    exact ev_neg (by omega) (ev_some rfl)
  | succ m ih =>
    intro n h1 e
    have hv : bloomV a0 a1 (n : Int) ks = (a0, a1, (n : Int), addK a0 a1.toNat (n : Int) (blankV (n : Int)) ks, true) := by
      have : sizesB a0 a1 (n : Int) = true := by
        simp only [sizesB, Bool.and_eq_true, decide_eq_true_eq]
        omega
      simp [bloomV, this, hkk]
    have hbl := blankV_len (n := (n : Int)) (by omega)
    have hal := addK_len a0 a1.toNat (n : Int) ks (blankV (n : Int))
    have hI := impl_BloomOf_f a0 a1 (n : Int) ks hk hks
    rw [hv] at hI
    refine ev_succ ?_
    simp only [impl_LeastBloom.l0, leastL]
    refine ev_pos (by omega) (ev_bind _ hI ?_)
    refine ev_bind _ (impl_wrong_f a0 a1 (n : Int) (addK a0 a1.toNat (n : Int) (blankV (n : Int)) ks) ks ts hk p0 (by omega) (by omega) (by omega) (by omega) (by omega) (by omega) ht hts) ?_
    by_cases c : noWrong a0 a1 (n : Int) ks ts = true
    · rw [if_pos c]
      simp only [noWrong, decide_eq_true_eq] at c
      exact ev_pos (by omega) (ev_some rfl)
    · rw [if_neg c]
      simp only [noWrong, decide_eq_true_eq] at c
      refine ev_neg (by omega) ?_
      rw [winc (by omega)]
      exact ih (n + 1) (by omega) (by omega)
theorem spec_LeastBloom_f (ht : (ts.length : Int) ≤ 9223372036854775806) : Ev (fun k => spec_LeastBloom.f k a0 a1 ks ts a4) (leastV a0 a1 a4 ks ts) := by
  unfold spec_LeastBloom.f
  rw [spec_fiSize_f]
  simp only [Option.bind_some]
  by_cases hs : sizesB a0 a1 a4 = true
  · obtain ⟨⟨p0, p1⟩, ⟨p2, p3⟩, p4, p5⟩ := sizesB_ok hs
    refine ev_pos hs (ev_bind _ (spec_biKeys_f ks hk hks) ?_)
    by_cases hkk : areKeysB ks = true
    · refine ev_pos hkk (ev_bind _ (spec_fiKeys_f ts ht hts) (ev_succ ?_))
      simp only [spec_LeastBloom.j0]
      by_cases htt : textsB ts = true
      · refine ev_neg (by simp [htt]) ?_
        have := spec_LeastBloom_l0 a0 a1 a4 ks ts hk hks hts hs (textsB_len htt) a4.toNat 1 (by omega) (by omega)
        simpa [leastV, hs, hkk, htt] using this
      · exact ev_pos (by simp [htt]) (ev_some (by simp [leastV, htt]))
    · refine ev_neg hkk (ev_succ ?_)
      simp only [spec_LeastBloom.j0]
      exact ev_pos (by trivial) (ev_some (by simp [leastV, hkk]))
  · refine ev_neg hs (ev_succ ?_)
    simp only [spec_LeastBloom.j0]
    exact ev_pos (by trivial) (ev_some (by simp [leastV, hs]))
theorem impl_LeastBloom_f : Ev (fun k => impl_LeastBloom.f k a0 a1 ks ts a4) (leastV a0 a1 a4 ks ts) := by
  unfold impl_LeastBloom.f
  rw [impl_sizesOk_f]
  simp only [Option.bind_some]
  by_cases hs : sizesB a0 a1 a4 = true
  · obtain ⟨⟨p0, p1⟩, ⟨p2, p3⟩, p4, p5⟩ := sizesB_ok hs
    refine ev_pos hs (ev_bind _ (impl_AreKeys_f ks hk hks) ?_)
    by_cases hkk : areKeysB ks = true
    · refine ev_pos hkk (ev_bind _ (impl_areTexts_f ts hts) (ev_succ ?_))
      simp only [impl_LeastBloom.j0]
      by_cases htt : textsB ts = true
      · refine ev_neg (by simp [htt]) ?_
        have := impl_LeastBloom_l0 a0 a1 a4 ks ts hk hks hts hs hkk (textsB_len htt) a4.toNat 1 (by omega) (by omega)
        simpa [leastV, hs, hkk, htt] using this
      · exact ev_pos (by simp [htt]) (ev_some (by simp [leastV, htt]))
    · refine ev_neg hkk (ev_succ ?_)
      simp only [impl_LeastBloom.j0]
      exact ev_pos (by trivial) (ev_some (by simp [leastV, hkk]))
  · refine ev_neg hs (ev_succ ?_)
    simp only [impl_LeastBloom.j0]
    exact ev_pos (by trivial) (ev_some (by simp [leastV, hs]))
end

theorem FnExactLeastBloom : laws_FnExactLeastBloom.Pure := by
  intro a0 a1 ks ts a4 ha0 ha1 hkl hks htl hts ha4
  refine Ev.rounds (r := true) ?_
  unfold laws_FnExactLeastBloom.f
  refine ev_bind _ (szStringS_f ks 1048576 hkl hks (by omega) (by omega)) ?_
  by_cases c : left1 1048576 ks < 0
  · exact ev_pos c (Ev.now _)
  obtain ⟨e1, hz⟩ := left1_ok c
  have hp := sumSz_nonneg ks
  refine ev_neg c (ev_bind _ (szStringS_f ts _ htl hts (by omega) (by omega)) ?_)
  by_cases c2 : left1 (left1 1048576 ks) ts < 0
  · exact ev_pos c2 (Ev.now _)
  obtain ⟨_, hz2⟩ := left1_ok c2
  have hp2 := sumSz_nonneg ts
  have hs1 : ∀ s ∈ ks, (s.size : Int) ≤ 9223372036854775806 := fun s h => by have := size_le_sumSz h; omega
  have hs2 : ∀ s ∈ ts, (s.size : Int) ≤ 9223372036854775806 := fun s h => by have := size_le_sumSz h; omega
  have hT1 := toStringS_f ks (by omega)
  have hT2 := toStringS_f ts (by omega)
  have hS := spec_LeastBloom_f a0 a1 a4 ks ts (by omega) hs1 hs2 (by omega)
  have hI := impl_LeastBloom_f a0 a1 a4 ks ts (by omega) hs1 hs2
  refine ev_neg c2 (ev_bind _ hT1 (ev_bind _ hT2 (ev_bind _ hS (ev_bind _ hT1 (ev_bind _ hT2 (ev_bind _ hI (ev_pos rfl (ev_succ ?_))))))))
  simp only [laws_FnExactLeastBloom.j0, bne_self_eq_false, Bool.false_eq_true, if_false]
  exact ev_bind _ hT1 (ev_bind true (by simpa using eqStringS_f ks ks (by omega)) (ev_pos rfl (ev_bind _ hT2 (ev_bind true (by simpa using eqStringS_f ts ts (by omega)) (ev_pos rfl (Ev.now _))))))
end Go.Proofs.Ytpkpjikkfikejaa.Pure
