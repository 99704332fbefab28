/- The pure statement behind FnExactFrontRank, for all fronts and strings: both sides tell the same number. -/
import Derived.Test.YtfedgkmklcialaaPAx12
import Derived.Test.YtfedgkmklcialaaQ12
namespace Go.Proofs.Ytfedgkmklcialaa.Pure
open Go Go.RowKit Go.Proofs.YtfedgkmklcialaaW.PrintWords Go.Proofs.YtfedgkmklcialaaGp Go.Proofs.Ytfedgkmklcialaa.PA Go.Proofs.YtfedgkmklcialaaQ

theorem FnExactFrontRank : laws_FnExactFrontRank.Pure := by
  intro b ks ts s _ hk _ ht hs _
  refine Ev.rounds (r := true) ?_
  unfold laws_FnExactFrontRank.f
  by_cases c0 : (s.size : Int) > 1048576
  · exact ev_pos c0 (Ev.now _)
  refine ev_neg c0 ?_
  obtain ⟨z, hz, hb⟩ := szFront_f b ks ts hk ht hs
  refine ev_bind _ hz ?_
  by_cases c : z < 0
  · exact ev_pos c (Ev.now _)
  · have hb := hb c
    have hp := sumSz_nonneg ts
    have hT := toFront_f b ks ts (by omega) (by omega)
    have hE := eqFront_same b ks ts (by omega) (by omega)
    refine ev_neg c (ev_bind _ hT (ev_bind _ (spec_FrontRank_f b ks ts s) (ev_bind _ hT (ev_bind _ (impl_FrontRank_f b ks ts s) ?_))))
    generalize rankR (frontKeys b ks ts) s = R
    obtain ⟨x, y⟩ := R
    refine ev_pos rfl (ev_succ ?_)
    simp only [laws_FnExactFrontRank.j0, bne_self_eq_false, Bool.false_eq_true, if_false]
    exact ev_bind _ hT (ev_bind _ hE (ev_pos rfl (Ev.now _)))
end Go.Proofs.Ytfedgkmklcialaa.Pure
