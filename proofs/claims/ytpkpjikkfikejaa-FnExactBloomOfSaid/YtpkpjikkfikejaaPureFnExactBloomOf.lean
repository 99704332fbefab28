/- The pure statement behind FnExactBloomOf: both sides come to the same filter, and its marks are held. -/
import Derived.Test.YtpkpjikkfikejaaPAx18
import Derived.Test.YtpkpjikkfikejaaQ1m
import Derived.Test.YtpkpjikkfikejaaQB5
import Derived.Test.YtpkpjikkfikejaaQB4i
namespace Go.Proofs.Ytpkpjikkfikejaa.Pure
open Go Go.RowKit Go.Proofs.YtpkpjikkfikejaaW.PrintWords Go.Proofs.YtpkpjikkfikejaaGp Go.Proofs.Ytpkpjikkfikejaa.PA Go.Proofs.YtpkpjikkfikejaaQ

theorem FnExactBloomOf : laws_FnExactBloomOf.Pure := by
  intro a0 a1 a2 l ha0 ha1 ha2 hl hs
  refine Ev.rounds (r := true) ?_
  unfold laws_FnExactBloomOf.f
  refine ev_bind _ (szStringS_f l 1048576 hl hs (by omega) (by omega)) ?_
  by_cases c : left1 1048576 l < 0
  · exact ev_pos c (Ev.now _)
  · obtain ⟨_, hz⟩ := left1_ok c
    have hp := sumSz_nonneg l
    have hl' : (l.length : Int) ≤ 1048576 := by omega
    have hs' : ∀ s ∈ l, (s.size : Int) ≤ 9223372036854775806 := fun s h => by have := size_le_sumSz h; omega
    have hT := toStringS_f l hl'
    have hI := impl_BloomOf_f a0 a1 a2 l (by omega) hs'
    have hS := spec_BloomOf_f a0 a1 a2 l (by omega) hs'
    have hn := bloomV_len a0 a1 a2 l
    refine ev_neg c (ev_bind _ hT (ev_bind _ hS (ev_bind _ hT (ev_bind _ hI ?_))))
    generalize bloomV a0 a1 a2 l = R at *
    obtain ⟨g0, g1, g2, ks, ok⟩ := R
    simp only at hn
    have hE := eqBloom_same g0 g1 g2 ks (by omega)
    refine ev_bind _ hE (ev_pos rfl (ev_succ ?_))
    simp only [laws_FnExactBloomOf.j0, bne_self_eq_false, Bool.false_eq_true, if_false]
    refine ev_bind _ hT (ev_bind true (by simpa using eqStringS_f l l (by omega)) (ev_pos rfl (ev_bind _ (markStringS_f l 1 (by omega) (by omega)) (ev_neg (by simp only; omega) (ev_bind _ hE (ev_pos rfl (ev_succ ?_)))))))
    simp only [laws_FnExactBloomOf.j1, Bool.false_eq_true, if_false]
    refine ev_bind _ (markBloom_f g0 g1 g2 ks 1 (by omega) (by omega)) (ev_bind _ (heldBloom_f g0 g1 g2 ks.length 1 (by omega) (by omega)) (ev_neg (by omega) (ev_pos rfl (ev_bind _ hT (ev_bind _ hI (ev_bind _ hE (ev_pos rfl (ev_succ ?_))))))))
    simp only [laws_FnExactBloomOf.j2, bne_self_eq_false, Bool.false_eq_true, if_false]
    exact ev_bind _ (heldBloom_f g0 g1 g2 ks.length 1 (by omega) (by omega)) (ev_neg (by omega) (ev_pos rfl (Ev.now _)))
end Go.Proofs.Ytpkpjikkfikejaa.Pure
