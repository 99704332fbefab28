/- The pure statement behind FnExactPrintFalse: both sides come to the same places, and their marks are held. -/
import Derived.Test.YtpkpjikkfikejaaPAx12
import Derived.Test.YtpkpjikkfikejaaPAx42
import Derived.Test.YtpkpjikkfikejaaQ1m
import Derived.Test.YtpkpjikkfikejaaQT2
import Derived.Test.YtpkpjikkfikejaaQT3
namespace Go.Proofs.Ytpkpjikkfikejaa.Pure
open Go Go.RowKit Go.Proofs.YtpkpjikkfikejaaW.PrintWords Go.Proofs.YtpkpjikkfikejaaGp Go.Proofs.Ytpkpjikkfikejaa.PA Go.Proofs.YtpkpjikkfikejaaQ

theorem FnExactPrintFalse : laws_FnExactPrintFalse.Pure := by
  intro a0 a1 a2 l ks ts ha0 ha1 ha2 hl hw hkl hks htl hts
  have := maxLen_eq
  refine Ev.rounds (r := true) ?_
  unfold laws_FnExactPrintFalse.f
  rw [szTable_f a0 a1 a2 l 1048576 hl (by omega) (by omega)]
  simp only [Option.bind_some]
  by_cases c0 : leftI 1048576 l < 0
  · exact ev_pos c0 (Ev.now _)
  obtain ⟨e0, hz0⟩ := leftI_ok c0
  refine ev_neg c0 (ev_bind _ (szStringS_f ks _ hkl hks (by omega) (by omega)) ?_)
  by_cases c : left1 (leftI 1048576 l) ks < 0
  · exact ev_pos c (Ev.now _)
  obtain ⟨e1, hz⟩ := left1_ok c
  have hp := sumSz_nonneg ks
  refine ev_neg c (ev_bind _ (szStringS_f ts _ htl hts (by omega) (by omega)) ?_)
  by_cases c2 : left1 (left1 (leftI 1048576 l) ks) ts < 0
  · exact ev_pos c2 (Ev.now _)
  obtain ⟨_, hz2⟩ := left1_ok c2
  have hp2 := sumSz_nonneg ts
  have hs1 : ∀ s ∈ ks, (s.size : Int) ≤ 9223372036854775806 := fun s h => by have := size_le_sumSz h; omega
  have hs2 : ∀ s ∈ ts, (s.size : Int) ≤ 9223372036854775806 := fun s h => by have := size_le_sumSz h; omega
  have hT0 := toTable_f a0 a1 a2 l hz0
  have hT1 := toStringS_f ks (by omega)
  have hT2 := toStringS_f ts (by omega)
  have hS := spec_PrintFalse_f a0 a1 a2 l ks ts (by omega) hs1 hs2 (by omega) (by omega)
  have hI := impl_PrintFalse_f a0 a1 a2 l ks ts (by omega) hs1 hs2 (by omega)
  have hn := printFalseV_len a0 a1 a2 l ks ts
  refine ev_neg c2 (ev_bind _ hT0 (ev_bind _ hT1 (ev_bind _ hT2 (ev_bind _ hS (ev_bind _ hT0 (ev_bind _ hT1 (ev_bind _ hT2 (ev_bind _ hI ?_))))))))
  generalize printFalseV a0 a1 a2 l ks ts = R at *
  obtain ⟨g, ok⟩ := R
  simp only at hn
  have hE : Ev (fun k => laws_eqIntS.f k g g) true := by simpa using eqIntS_f g g (by omega)
  refine ev_bind _ hE (ev_pos rfl (ev_succ ?_))
  simp only [laws_FnExactPrintFalse.j0, bne_self_eq_false, Bool.false_eq_true, if_false]
  refine ev_bind _ hT0 (ev_bind _ (eqTable_same a0 a1 a2 l (by omega)) (ev_pos rfl (ev_bind _ hT1 (ev_bind true (by simpa using eqStringS_f ks ks (by omega)) (ev_pos rfl (ev_bind _ hT2 (ev_bind true (by simpa using eqStringS_f ts ts (by omega)) (ev_pos rfl ?_))))))))
  refine ev_bind _ (markTable_f a0 a1 a2 l 1 (by omega) (by omega)) (ev_bind _ (markStringS_f ks _ (by omega) (by omega)) (ev_bind _ (markStringS_f ts _ (by omega) (by omega)) (ev_neg (by simp only; omega) (ev_bind _ hE (ev_pos rfl (ev_succ ?_))))))
  simp only [laws_FnExactPrintFalse.j1, Bool.false_eq_true, if_false]
  refine ev_bind _ (markIntS_f g 1 (by omega) (by omega)) (ev_bind _ (heldIntS_f g.length 1 (by omega) (by omega)) (ev_neg (by omega) (ev_pos rfl (ev_bind _ hT0 (ev_bind _ hT1 (ev_bind _ hT2 (ev_bind _ hI (ev_bind _ hE (ev_pos rfl (ev_succ ?_))))))))))
  simp only [laws_FnExactPrintFalse.j2, bne_self_eq_false, Bool.false_eq_true, if_false]
  exact ev_bind _ (heldIntS_f g.length 1 (by omega) (by omega)) (ev_neg (by omega) (ev_pos rfl (Ev.now _)))
end Go.Proofs.Ytpkpjikkfikejaa.Pure
