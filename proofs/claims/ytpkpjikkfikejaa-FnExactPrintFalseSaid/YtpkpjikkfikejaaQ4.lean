/- The laws' small functions over whole numbers, and over fronts. -/
import Derived.Test.YtpkpjikkfikejaaPAx12
import Derived.Test.YtpkpjikkfikejaaPAx19
import Derived.Test.YtpkpjikkfikejaaQ1
namespace Go.Proofs.YtpkpjikkfikejaaQ
open Go Go.RowKit Go.Proofs.YtpkpjikkfikejaaW.PrintWords Go.Proofs.YtpkpjikkfikejaaGp Go.Proofs.Ytpkpjikkfikejaa.PA

/-! ### copies -/
theorem toIntS_l0 (x0 : List Int) (hl : (x0.length : Int) ≤ 1048576) : ∀ (t pre r : List Int), x0 = pre ++ t → r.length = t.length →
    Ev (fun k => laws_toIntS.l0 k x0 (pre ++ r) (pre.length : Int)) x0 := by
  intro t
  induction t with
  | nil =>
    intro pre r h hr
    obtain rfl := List.length_eq_zero_iff.1 hr
    refine ev_succ ?_
    simp only [laws_toIntS.l0]
    refine ev_neg (by rw [h]; exact not_lt_end) (ev_some h.symm)
  | cons s t ih =>
    intro pre r h hr
    cases r with
    | nil => simp at hr
    | cons q r =>
      have hm : ((pre.length : Nat) : Int) < (x0.length : Int) := by rw [h]; exact lt_mid
      have hg : rd x0 (pre.length : Int) = s := by rw [h]; exact rd_mid
      refine ev_succ ?_
      simp only [laws_toIntS.l0, hg, set_mid]
      refine ev_pos hm (ev_pos (by omega) (ev_pos lt_mid ?_))
      rw [winc (by omega)]
      have := ih (pre ++ [s]) r (by rw [h]; simp) (by simpa using hr)
      rw [len_one, app_one] at this
      exact this
theorem toIntS_f (l : List Int) (hl : (l.length : Int) ≤ 1048576) : Ev (fun k => laws_toIntS.f k l) l := by
  unfold laws_toIntS.f
  refine ev_pos (by omega) (ev_pos (by simp only [Int.toNat_natCast]; omega) ?_)
  simp only [Int.toNat_natCast]
  have := toIntS_l0 l hl l [] (List.replicate l.length (0 : Int)) rfl (by simp)
  exact this

/-! ### comparisons -/
theorem eqIntS_l0 (x0 x1 : List Int) (hl : (x0.length : Int) ≤ 9223372036854775806) : ∀ (t u pre pre' : List Int), x0 = pre ++ t → x1 = pre' ++ u → pre.length = pre'.length → t.length = u.length →
    Ev (fun k => laws_eqIntS.l0 k x0 x1 (pre.length : Int)) (decide (t = u)) := by
  intro t
  induction t with
  | nil =>
    intro u pre pre' h h' hp hu
    obtain rfl := List.length_eq_zero_iff.1 hu.symm
    refine ev_succ ?_
    simp only [laws_eqIntS.l0]
    exact ev_neg (by rw [h]; exact not_lt_end) (ev_some (by simp))
  | cons s t ih =>
    intro u pre pre' h h' hp hu
    cases u with
    | nil => simp at hu
    | cons q u =>
      have hm : ((pre.length : Nat) : Int) < (x0.length : Int) := by rw [h]; exact lt_mid
      have hm' : ((pre.length : Nat) : Int) < (x1.length : Int) := by rw [h', hp]; exact lt_mid
      have hg : rd x0 (pre.length : Int) = s := by rw [h]; exact rd_mid
      have hg' : rd x1 (pre.length : Int) = q := by rw [h', hp]; exact rd_mid
      refine ev_succ ?_
      simp only [laws_eqIntS.l0, hg, hg']
      refine ev_pos hm (ev_pos (by omega) (ev_pos hm' ?_))
      by_cases c : s = q
      · refine ev_pos c ?_
        rw [winc (by omega)]
        have := ih u (pre ++ [s]) (pre' ++ [q]) (by rw [h]; simp) (by rw [h']; simp) (by simp [hp]) (by simpa using hu)
        rw [len_one] at this
        rw [show decide (s :: t = q :: u) = decide (t = u) from by simp [c]]
        exact this
      · exact ev_neg c (ev_some (by simp [c]))
theorem eqIntS_f (a b : List Int) (hl : (a.length : Int) ≤ 9223372036854775806) : Ev (fun k => laws_eqIntS.f k a b) (decide (a = b)) := by
  unfold laws_eqIntS.f
  by_cases c : a.length = b.length
  · refine ev_pos (by omega) ?_
    exact eqIntS_l0 a b hl a b [] [] rfl rfl rfl c
  · exact ev_neg (by omega) (ev_some (by
      have : ¬ a = b := fun e => c (by rw [e])
      simp [this]))

end Go.Proofs.YtpkpjikkfikejaaQ
