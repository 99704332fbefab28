/- The pure statement behind FnExactBuildFront, for all lists of strings and all blocks: both sides come to the same front, and its marks are held. -/
import Derived.Test.YtfedgkmklcialaaPAx4
import Derived.Test.YtfedgkmklcialaaQ5m
import Derived.Test.YtfedgkmklcialaaQ3b
namespace Go.Proofs.Ytfedgkmklcialaa.Pure
open Go Go.RowKit Go.Proofs.YtfedgkmklcialaaW.PrintWords Go.Proofs.YtfedgkmklcialaaGp Go.Proofs.Ytfedgkmklcialaa.PA Go.Proofs.YtfedgkmklcialaaQ

theorem FnExactBuildFront : laws_FnExactBuildFront.Pure := by
  intro l b hl hs hb
  refine Ev.rounds (r := true) ?_
  unfold laws_FnExactBuildFront.f
  refine ev_bind _ (szStringS_f l 1048576 hl hs (by omega) (by omega)) ?_
  by_cases c : left1 1048576 l < 0
  · exact ev_pos c (Ev.now _)
  · obtain ⟨_, hz⟩ := left1_ok c
    have hp := sumSz_nonneg l
    have hl' : (l.length : Int) ≤ 1048576 := by omega
    have hs' : ∀ s ∈ l, (s.size : Int) ≤ 9223372036854775806 := fun s h => by have := size_le_sumSz h; omega
    obtain ⟨s1, s2⟩ := buildFrontL_small l b
    have hT := toStringS_f l hl'
    have hI := impl_BuildFront_f l b (by omega) hs'
    refine ev_neg c (ev_bind _ hT (ev_bind _ (spec_BuildFront_f l b (by omega) hs') (ev_bind _ hT (ev_bind _ hI ?_))))
    generalize buildFrontL l b = R at *
    obtain ⟨g0, ks, ts, ok⟩ := R
    simp only at s1 s2
    have hE := eqFront_same g0 ks ts (by omega) (by omega)
    refine ev_bind _ hE (ev_pos rfl (ev_succ ?_))
    simp only [laws_FnExactBuildFront.j0, bne_self_eq_false, Bool.false_eq_true, if_false]
    refine ev_bind _ hT (ev_bind true (by simpa using eqStringS_f l l (by omega)) (ev_pos rfl (ev_bind _ (markStringS_f l 1 (by omega) (by omega)) (ev_neg (by simp only; omega) (ev_bind _ hE (ev_pos rfl (ev_succ ?_)))))))
    simp only [laws_FnExactBuildFront.j1, Bool.false_eq_true, if_false]
    refine ev_bind _ (markFront_f g0 ks ts 1 (by omega) (by omega)) (ev_bind _ (heldFront_f g0 ks.length ts.length 1 (by omega) (by omega)) (ev_neg (by omega) (ev_pos rfl (ev_bind _ hT (ev_bind _ hI (ev_bind _ hE (ev_pos rfl (ev_succ ?_))))))))
    simp only [laws_FnExactBuildFront.j2, bne_self_eq_false, Bool.false_eq_true, if_false]
    exact ev_bind _ (heldFront_f g0 ks.length ts.length 1 (by omega) (by omega)) (ev_neg (by omega) (ev_pos rfl (Ev.now _)))
end Go.Proofs.Ytfedgkmklcialaa.Pure
