/- The pure statement behind FnExactFrontBytes, for all fronts: both sides tell the same number. -/
import Derived.Test.YtfedgkmklcialaaPAx10
import Derived.Test.YtfedgkmklcialaaQ8
namespace Go.Proofs.Ytfedgkmklcialaa.Pure
open Go Go.RowKit Go.Proofs.YtfedgkmklcialaaW.PrintWords Go.Proofs.YtfedgkmklcialaaGp Go.Proofs.Ytfedgkmklcialaa.PA Go.Proofs.YtfedgkmklcialaaQ

theorem FnExactFrontBytes : laws_FnExactFrontBytes.Pure := by
  intro b ks ts _ hk _ ht hs
  refine Ev.rounds (r := true) ?_
  unfold laws_FnExactFrontBytes.f
  obtain ⟨z, hz, hb⟩ := szFront_f b ks ts hk ht hs
  refine ev_bind _ hz ?_
  by_cases c : z < 0
  · exact ev_pos c (Ev.now _)
  · have hb := hb c
    have hp := sumSz_nonneg ts
    have hT := toFront_f b ks ts (by omega) (by omega)
    have hE := eqFront_same b ks ts (by omega) (by omega)
    refine ev_neg c (ev_bind _ hT (ev_bind _ (spec_FrontBytes_f b ks ts hb) (ev_bind _ hT (ev_bind _ (impl_FrontBytes_f b ks ts hb) ?_))))
    generalize bytesR (frontKeys b ks ts).2 ks ts = R
    obtain ⟨x, y⟩ := R
    refine ev_pos rfl (ev_succ ?_)
    simp only [laws_FnExactFrontBytes.j0, bne_self_eq_false, Bool.false_eq_true, if_false]
    exact ev_bind _ hT (ev_bind _ hE (ev_pos rfl (Ev.now _)))
end Go.Proofs.Ytfedgkmklcialaa.Pure
