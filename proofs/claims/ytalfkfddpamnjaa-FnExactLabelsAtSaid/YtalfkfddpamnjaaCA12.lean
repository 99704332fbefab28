import Derived.Test.YtalfkfddpamnjaaCA10
import Derived.Test.YtalfkfddpamnjaaCA11
namespace Go.Proofs.Ytalfkfddpamnjaa.Pure
open Go Go.RowKit Go.Proofs.YtalfkfddpamnjaaW.PrintWords Go.Proofs.YtalfkfddpamnjaaW.PrintMore Go.Proofs.YtalfkfddpamnjaaGp Go.Proofs.Ytalfkfddpamnjaa.PA Go.Proofs.YtalfkfddpamnjaaQ

theorem FnExactLabelsAt : laws_FnExactLabelsAt.Pure := by
  intro nB lB nE lE lab a1 hnB hlB hwB hnE hlE hwE hlab ha1
  refine Ev.rounds (r := true) ?_
  unfold laws_FnExactLabelsAt.f
  obtain ⟨v, ev, hv⟩ := szTrie_f nB lB nE lE lab hlB hlE hlab
  rw [ev]
  refine ev_bind _ (Ev.now _) ?_
  by_cases c : v < 0
  · exact ev_pos c (Ev.now _)
  obtain ⟨hB, hE, hL⟩ := hv c
  have hT := toTrie_f nB lB nE lE lab hB hE
  have hK := kept_f nB lB nE lE lab hB hE
  refine ev_neg c (ev_bind _ hT ?_)
  have both : ∃ r, Ev (fun k => spec_LabelsAt.f k nB lB nE lE lab a1) r ∧ Ev (fun k => impl_LabelsAt.f k nB lB nE lE lab a1) r := by
    have bad : ∀ xs, Ev (fun k => spec_LabelsAt.j0 k a1 xs true) ((⟨#[]⟩ : ByteArray), false) := fun xs => by
      refine ev_succ ?_
      simp only [spec_LabelsAt.j0]
      exact ev_pos trivial (Ev.now _)
    rcases trie_both nB lB nE lE lab hB hE with ⟨K, Y⟩ | ⟨KS, Y⟩
    · obtain ⟨n1, n2⟩ := nodes_len Y.keys
      rcases nodeAt_yes Y a1 with ⟨i, hi, hl, e, hN⟩ | ⟨e, hN⟩
      · have hz : ∀ x ∈ (nodesL (bytesL K)).map mkS, x.size ≤ 1000000 := fun x hx => by
          obtain ⟨b, hb, rfl⟩ := List.mem_map.1 hx
          have := nodesL_short (keys_sbl Y.keys) hb
          rw [size_len, mkS_data]; omega
        have hs : (rdOf ByteArray.empty ((nodesL (bytesL K)).map mkS) a1).size ≤ 1000000 := by
          rw [hi, rdOf_get hl]; exact hz _ (List.getElem_mem hl)
        have h1 := spec_LabelsAt_l0 ((nodesL (bytesL K)).map mkS) a1 _ (by omega) (by omega) rfl hz hs (by omega) ((nodesL (bytesL K)).map mkS) [] [] rfl (by rw [List.length_nil]; omega)
        have h2 := impl_LabelsAt_l0 ((nodesL (bytesL K)).map mkS) _ hz hs (by omega) ((nodesL (bytesL K)).map mkS) [] (⟨#[]⟩ : ByteArray) rfl (by have : (⟨#[]⟩ : ByteArray).size = 0 := rfl; omega)
        have e3 : (⟨#[]⟩ : ByteArray).data.toList = [] := rfl
        rw [List.nil_append, str_labs] at h1
        rw [e3, List.nil_append] at h2
        have hI : Ev (fun k => impl_LabelsAt.f k nB lB nE lE lab a1) (mkS (labsOf (rdOf ByteArray.empty ((nodesL (bytesL K)).map mkS) a1) ((nodesL (bytesL K)).map mkS)), true) := by
          unfold impl_LabelsAt.f
          exact ev_bind _ hN (ev_pos rfl h2)
        refine ⟨_, ?_, hI⟩
        unfold spec_LabelsAt.f
        refine ev_bind _ Y.sO (ev_pos rfl ?_)
        rw [e]
        refine ev_bind _ (Ev.now _) (ev_succ ?_)
        simp only [spec_LabelsAt.j0]
        exact ev_neg (by simp) h1
      · have hI : Ev (fun k => impl_LabelsAt.f k nB lB nE lE lab a1) ((⟨#[]⟩ : ByteArray), false) := by
          unfold impl_LabelsAt.f
          exact ev_bind _ hN (ev_neg (by simp) (Ev.now _))
        refine ⟨((⟨#[]⟩ : ByteArray), false), ?_, hI⟩
        unfold spec_LabelsAt.f
        refine ev_bind _ Y.sO (ev_pos rfl ?_)
        rw [e]
        exact ev_bind _ (Ev.now _) (bad _)
    · have hI : Ev (fun k => impl_LabelsAt.f k nB lB nE lE lab a1) ((⟨#[]⟩ : ByteArray), false) := by
        unfold impl_LabelsAt.f
        exact ev_bind _ (nodeAt_no Y a1) (ev_neg (by simp) (Ev.now _))
      refine ⟨((⟨#[]⟩ : ByteArray), false), ?_, hI⟩
      unfold spec_LabelsAt.f
      exact ev_bind _ Y.sO (ev_neg (by simp) (bad _))
  obtain ⟨r, hS, hI⟩ := both
  refine ev_bind _ hS (ev_bind _ hT (ev_bind _ hI (ev_pos rfl (ev_succ ?_))))
  simp only [laws_FnExactLabelsAt.j0]
  exact ev_neg (by simp) hK
end Go.Proofs.Ytalfkfddpamnjaa.Pure
