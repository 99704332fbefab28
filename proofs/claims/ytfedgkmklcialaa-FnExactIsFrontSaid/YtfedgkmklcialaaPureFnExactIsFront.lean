/- The pure statement behind FnExactIsFront, for all fronts: both sides tell the same. -/
import Derived.Test.YtfedgkmklcialaaPAx8
import Derived.Test.YtfedgkmklcialaaQ7
namespace Go.Proofs.Ytfedgkmklcialaa.Pure
open Go Go.RowKit Go.Proofs.YtfedgkmklcialaaW.PrintWords Go.Proofs.YtfedgkmklcialaaGp Go.Proofs.Ytfedgkmklcialaa.PA Go.Proofs.YtfedgkmklcialaaQ

theorem FnExactIsFront : laws_FnExactIsFront.Pure := by
  intro b ks ts _ hk _ ht hs
  refine Ev.rounds (r := true) ?_
  unfold laws_FnExactIsFront.f
  obtain ⟨z, hz, hb⟩ := szFront_f b ks ts hk ht hs
  refine ev_bind _ hz ?_
  by_cases c : z < 0
  · exact ev_pos c (Ev.now _)
  · have hb := hb c
    have hp := sumSz_nonneg ts
    have hT := toFront_f b ks ts (by omega) (by omega)
    have hE := eqFront_same b ks ts (by omega) (by omega)
    refine ev_neg c (ev_bind _ hT (ev_bind _ (spec_IsFront_f b ks ts) (ev_bind _ hT (ev_bind _ (impl_IsFront_f b ks ts) ?_))))
    exact ev_neg (by simp) (ev_bind _ hT (ev_bind _ hE (ev_pos rfl (Ev.now _))))
end Go.Proofs.Ytfedgkmklcialaa.Pure
