/- The pure statement behind FnExactFrontKey, for all fronts and indices: both sides tell the same key. -/
import Derived.Test.YtfedgkmklcialaaPAx9
import Derived.Test.YtfedgkmklcialaaQ7k
namespace Go.Proofs.Ytfedgkmklcialaa.Pure
open Go Go.RowKit Go.Proofs.YtfedgkmklcialaaW.PrintWords Go.Proofs.YtfedgkmklcialaaGp Go.Proofs.Ytfedgkmklcialaa.PA Go.Proofs.YtfedgkmklcialaaQ

theorem FnExactFrontKey : laws_FnExactFrontKey.Pure := by
  intro b ks ts a _ hk _ ht hs _
  refine Ev.rounds (r := true) ?_
  unfold laws_FnExactFrontKey.f
  obtain ⟨z, hz, hb⟩ := szFront_f b ks ts hk ht hs
  refine ev_bind _ hz ?_
  by_cases c : z < 0
  · exact ev_pos c (Ev.now _)
  · have hb := hb c
    have hp := sumSz_nonneg ts
    have hT := toFront_f b ks ts (by omega) (by omega)
    have hE := eqFront_same b ks ts (by omega) (by omega)
    refine ev_neg c (ev_bind _ hT (ev_bind _ (spec_FrontKey_f b ks ts a) (ev_bind _ hT (ev_bind _ (impl_FrontKey_f b ks ts a) ?_))))
    generalize keyAtR (frontKeys b ks ts) a = R
    obtain ⟨x, y⟩ := R
    refine ev_pos rfl (ev_succ ?_)
    simp only [laws_FnExactFrontKey.j0, bne_self_eq_false, Bool.false_eq_true, if_false]
    exact ev_bind _ hT (ev_bind _ hE (ev_pos rfl (Ev.now _)))
end Go.Proofs.Ytfedgkmklcialaa.Pure
