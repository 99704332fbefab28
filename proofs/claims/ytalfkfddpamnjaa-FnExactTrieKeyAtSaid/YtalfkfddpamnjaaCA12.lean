import Derived.Test.YtalfkfddpamnjaaCA9
import Derived.Test.YtalfkfddpamnjaaCA11
namespace Go.Proofs.Ytalfkfddpamnjaa.Pure
open Go Go.RowKit Go.Proofs.YtalfkfddpamnjaaW.PrintWords Go.Proofs.YtalfkfddpamnjaaW.PrintMore Go.Proofs.YtalfkfddpamnjaaGp Go.Proofs.Ytalfkfddpamnjaa.PA Go.Proofs.YtalfkfddpamnjaaQ

theorem FnExactTrieKeyAt : laws_FnExactTrieKeyAt.Pure := by
  intro nB lB nE lE lab a1 hnB hlB hwB hnE hlE hwE hlab ha1
  refine Ev.rounds (r := true) ?_
  unfold laws_FnExactTrieKeyAt.f
  obtain ⟨v, ev, hv⟩ := szTrie_f nB lB nE lE lab hlB hlE hlab
  rw [ev]
  refine ev_bind _ (Ev.now _) ?_
  by_cases c : v < 0
  · exact ev_pos c (Ev.now _)
  obtain ⟨hB, hE, hL⟩ := hv c
  have hT := toTrie_f nB lB nE lE lab hB hE
  have hK := kept_f nB lB nE lE lab hB hE
  refine ev_neg c (ev_bind _ hT ?_)
  have both : ∃ r, Ev (fun k => spec_TrieKeyAt.f k nB lB nE lE lab a1) r ∧ Ev (fun k => impl_TrieKeyAt.f k nB lB nE lE lab a1) r := by
    rcases trie_both nB lB nE lE lab hB hE with ⟨K, Y⟩ | ⟨KS, Y⟩
    · have hk := areKeysB_len Y.keys
      have hl := keys_len Y.keys
      obtain ⟨n1, n2⟩ := nodes_len Y.keys
      have w : wrap64 ((K.length : Int) - 1) = (K.length : Int) - 1 := w64 (by omega) (by omega)
      have hI := impl_TrieKeyAt_l0 Y a1 ((nodesL (bytesL K)).map mkS) [] rfl
      have hv := keyAt_val K a1 ((nodesL (bytesL K)).map mkS) 0
      refine ⟨keyAtK K a1 0 ((nodesL (bytesL K)).map mkS), ?_, ?_⟩
      · unfold spec_TrieKeyAt.f
        refine ev_bind _ Y.sK (ev_pos rfl ?_)
        rw [spec_in, w, hv, hl]
        refine ev_bind _ (Ev.now _) ?_
        by_cases c : 0 ≤ a1 ∧ a1 ≤ (K.length : Int) - 1
        · have hb := spec_trByNode_l0 K ((nodesL (bytesL K)).map mkS) (by omega) (by omega) ((nodesL (bytesL K)).map mkS) [] [] rfl (by rw [List.length_nil]; omega)
          rw [List.nil_append] at hb
          have hb2 : Ev (fun k => spec_trByNode.f k K) (((nodesL (bytesL K)).map mkS).filter (hasS K)) := by
            unfold spec_trByNode.f
            exact ev_bind _ (spec_trNodes_f K (by omega)) hb
          rw [if_pos (by omega)]
          refine ev_pos (decide_eq_true c) (ev_bind _ hb2 (ev_pos c.1 (ev_pos (by omega) (ev_some ?_))))
          rw [show a1 - ((0 : Nat) : Int) = a1 from by omega]
        · rw [if_neg (by omega)]
          exact ev_neg (by simpa using c) (Ev.now _)
      · unfold impl_TrieKeyAt.f
        exact ev_bind _ Y.iN hI
    · refine ⟨((⟨#[]⟩ : ByteArray), false), ?_, ?_⟩
      · unfold spec_TrieKeyAt.f
        exact ev_bind _ Y.sK (ev_neg (by simp) (Ev.now _))
      · unfold impl_TrieKeyAt.f
        refine ev_bind _ Y.iN (ev_succ ?_)
        simp only [impl_TrieKeyAt.l0]
        exact ev_neg (by simp) (Ev.now _)
  obtain ⟨r, hS, hI⟩ := both
  refine ev_bind _ hS (ev_bind _ hT (ev_bind _ hI (ev_pos rfl (ev_succ ?_))))
  simp only [laws_FnExactTrieKeyAt.j0]
  exact ev_neg (by simp) hK
end Go.Proofs.Ytalfkfddpamnjaa.Pure
