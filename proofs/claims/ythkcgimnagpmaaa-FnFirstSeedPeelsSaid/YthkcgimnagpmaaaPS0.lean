/- Whether a list has a number. -/
import Derived.Test.YthkcgimnagpmaaaPAx2
import Derived.Test.YthkcgimnagpmaaaQ0
namespace Go.Proofs.YthkcgimnagpmaaaQ
open Go Go.RowKit Go.Proofs.YthkcgimnagpmaaaW.PrintWords Go.Proofs.YthkcgimnagpmaaaGp Go.Proofs.Ythkcgimnagpmaaa.PA

theorem spec_l1Has_l0 (x0 : List Int) (a : Int) (hl : (x0.length : Int) ≤ 9223372036854775806) : ∀ (t pre : List Int), x0 = pre ++ t →
    Ev (fun k => spec_l1Has.l0 k a x0 (x0.length : Int) (pre.length : Int)) (t.contains a) := by
  intro t
  induction t with
  | nil =>
    intro pre h
    refine ev_succ ?_
    simp only [spec_l1Has.l0]
    exact ev_neg (by rw [h]; exact not_lt_end) (ev_some (by simp))
  | cons x t ih =>
    intro pre h
    have hm : ((pre.length : Nat) : Int) < (x0.length : Int) := by rw [h]; exact lt_mid
    have hg : rd x0 (pre.length : Int) = x := by rw [h]; exact rd_mid
    refine ev_succ ?_
    simp only [spec_l1Has.l0, hg]
    refine ev_pos hm (ev_pos (by omega) (ev_pos hm ?_))
    by_cases c : x = a
    · exact ev_pos c (ev_some (by simp [c]))
    · refine ev_neg c ?_
      rw [winc (by omega)]
      have := ih (pre ++ [x]) (by rw [h]; simp)
      rw [len_one] at this
      have e : (x :: t).contains a = t.contains a := by simp [Ne.symm c]
      rw [e]
      exact this
theorem spec_l1Has_f (l : List Int) (a : Int) (hl : (l.length : Int) ≤ 9223372036854775806) : Ev (fun k => spec_l1Has.f k l a) (l.contains a) := by
  unfold spec_l1Has.f
  exact spec_l1Has_l0 l a hl l [] rfl
end Go.Proofs.YthkcgimnagpmaaaQ
