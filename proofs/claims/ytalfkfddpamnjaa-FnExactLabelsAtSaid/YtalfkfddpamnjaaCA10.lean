import Derived.Test.YtalfkfddpamnjaaCA2
import Derived.Test.YtalfkfddpamnjaaCA4
import Derived.Test.YtalfkfddpamnjaaCA6
import Derived.Test.YtalfkfddpamnjaaCA3
import Derived.Test.YtalfkfddpamnjaaCA5
import Derived.Test.YtalfkfddpamnjaaCA8
import Derived.Test.YtalfkfddpamnjaaCA9
import Derived.Test.YtalfkfddpamnjaaCA0
import Derived.Lib.Bytes
import Derived.Test.YtalfkfddpamnjaaCA1
import Derived.Laws.BitsLemmas
import Derived.Lib.Strings
-- printed by a program of this session (wip/gp) out of the translation; Lean checks it
namespace Go.Proofs.Ytalfkfddpamnjaa.PA
open Go.RowKit Go.Proofs.YtalfkfddpamnjaaW.PrintWords Go.Proofs.YtalfkfddpamnjaaW.PrintLast Go.Proofs.YtalfkfddpamnjaaW.PrintMore Go.Proofs.YtalfkfddpamnjaaSq
attribute [local go_sem] max2_int min2_int max_two min_two max_three min_three max_four min_four   -- for this text's walks alone
attribute [local go_sem] Go.Proofs.YtalfkfddpamnjaaGp.str_geq Go.Proofs.YtalfkfddpamnjaaGp.str_gtr Go.Proofs.YtalfkfddpamnjaaGp.str_leq
set_option linter.unusedVariables false
set_option linter.unusedSimpArgs false

set_option maxHeartbeats 8000000
set_option maxRecDepth 100000
mutual
def spec_LabelsAt.j0 : Nat → Int → List ByteArray → Bool → Option (ByteArray × Bool)
 | 0, _, _, _ => none
 | k + 1, x1, x6, x25 => if x25 = true then (some ((⟨#[]⟩ : ByteArray), false)) else (spec_LabelsAt.l0 k x1 x6 ([] : List Int) x6 (x6.length : Int) 0)
def spec_LabelsAt.l0 : Nat → Int → List ByteArray → List Int → List ByteArray → Int → Int → Option (ByteArray × Bool)
 | 0, _, _, _, _, _, _ => none
 | k + 1, x1, x6, x8, x26, x27, x28 => if x28 < x27 then (if 0 ≤ x28 then (if x28 < (x26.length : Int) then (if 0 ≤ x1 then (if x1 < (x6.length : Int) then (if ((rdOf ByteArray.empty x26 x28).size : Int) = (wrap64 (((rdOf ByteArray.empty x6 x1).size : Int) + 1)) then ((spec_trBegins.f (rdOf ByteArray.empty x26 x28) (rdOf ByteArray.empty x6 x1)).bind fun t570 => (if t570 = true then (if 0 ≤ (wrap64 (((rdOf ByteArray.empty x26 x28).size : Int) - 1)) then (if (wrap64 (((rdOf ByteArray.empty x26 x28).size : Int) - 1)) < ((rdOf ByteArray.empty x26 x28).size : Int) then (if x8.length < 140737488355328 then (spec_LabelsAt.l0 k x1 x6 (x8 ++ [bt (rdOf ByteArray.empty x26 x28) (wrap64 (((rdOf ByteArray.empty x26 x28).size : Int) - 1))]) x26 x27 (wrap64 (x28 + 1))) else (none)) else (none)) else (none)) else (spec_LabelsAt.l0 k x1 x6 x8 x26 x27 (wrap64 (x28 + 1))))) else (spec_LabelsAt.l0 k x1 x6 x8 x26 x27 (wrap64 (x28 + 1)))) else (none)) else (none)) else (none)) else (none)) else (some (strOfNums x8, true))
end
def spec_LabelsAt.f (k : Nat) (a0_0 : Int) (l0_1 : List Int) (a0_2 : Int) (l0_3 : List Int) (a0_4 : ByteArray) (a1 : Int) : Option (ByteArray × Bool) := (spec_trOk.f k a0_0 l0_1 a0_2 l0_3 a0_4).bind fun bt562 => (if bt562.2 = true then ((spec_l1In.f a1 0 (wrap64 ((bt562.1.length : Int) - 1))).bind fun t566 => (spec_LabelsAt.j0 k a1 bt562.1 (!t566))) else (spec_LabelsAt.j0 k a1 bt562.1 true))
theorem spec_LabelsAt.mono_l : ∀ k, (∀ y0 y1 y2, LeO (spec_LabelsAt.j0 k y0 y1 y2) (spec_LabelsAt.j0 (k + 1) y0 y1 y2)) ∧ (∀ y0 y1 y2 y3 y4 y5, LeO (spec_LabelsAt.l0 k y0 y1 y2 y3 y4 y5) (spec_LabelsAt.l0 (k + 1) y0 y1 y2 y3 y4 y5))
 | 0 => ⟨fun _ _ _ r h => by simp [spec_LabelsAt.j0] at h, fun _ _ _ _ _ _ r h => by simp [spec_LabelsAt.l0] at h⟩
 | k + 1 => by
  obtain ⟨ih0, ih1⟩ := spec_LabelsAt.mono_l k; refine ⟨?_, ?_⟩
  ·intro y0 y1 y2
   unfold spec_LabelsAt.j0
   repeat' first | (with_reducible first | exact ih0 _ _ _ | exact ih1 _ _ _ _ _ _ | exact spec_trOk.mono _ _ _ _ _ _ | exact LeO.refl _ | exact LeO.none _ | refine LeO.ite ?_ ?_ | refine LeO.bind ?_ (fun _ => ?_)) | exact LeO.none _ | refine LeO.ite ?_ ?_ | refine LeO.bind ?_ (fun _ => ?_)
  ·intro y0 y1 y2 y3 y4 y5
   unfold spec_LabelsAt.l0
   repeat' first | (with_reducible first | exact ih0 _ _ _ | exact ih1 _ _ _ _ _ _ | exact spec_trOk.mono _ _ _ _ _ _ | exact LeO.refl _ | exact LeO.none _ | refine LeO.ite ?_ ?_ | refine LeO.bind ?_ (fun _ => ?_)) | exact LeO.none _ | refine LeO.ite ?_ ?_ | refine LeO.bind ?_ (fun _ => ?_)
theorem spec_LabelsAt.mono : ∀ a0 a1 a2 a3 a4 a5 k, LeO (spec_LabelsAt.f k a0 a1 a2 a3 a4 a5) (spec_LabelsAt.f (k + 1) a0 a1 a2 a3 a4 a5) := by
 intro a0 a1 a2 a3 a4 a5 k; obtain ⟨ih0, ih1⟩ := spec_LabelsAt.mono_l k
 unfold spec_LabelsAt.f
 repeat' first | (with_reducible first | exact ih0 _ _ _ | exact ih1 _ _ _ _ _ _ | exact spec_trOk.mono _ _ _ _ _ _ | exact LeO.refl _ | exact LeO.none _ | refine LeO.ite ?_ ?_ | refine LeO.bind ?_ (fun _ => ?_)) | exact LeO.none _ | refine LeO.ite ?_ ?_ | refine LeO.bind ?_ (fun _ => ?_)
theorem spec_LabelsAt.calls (k : Nat) (a0_0 : Int) (A0_1 : Option Addr) (c0_1 : Nat) (l0_1 : List Int) (a0_2 : Int) (A0_3 : Option Addr) (c0_3 : Nat) (l0_3 : List Int) (a0_4 : ByteArray) (a1 : Int) (r1 : ByteArray) (r2 : Bool) (w : World) (hr0_1 : Kd.C (Kd.int .i64) w A0_1 l0_1.length l0_1) (hc0_1 : l0_1.length ≤ c0_1) (hr0_3 : Kd.C (Kd.int .i64) w A0_3 l0_3.length l0_3) (hc0_3 : l0_3.length ≤ c0_3) (h : spec_LabelsAt.f k a0_0 l0_1 a0_2 l0_3 a0_4 a1 = some (r1, r2)) :
  Calls Try.prog 19 #[.agg #[.int .i64 a0_0, .slice A0_1 l0_1.length c0_1, .int .i64 a0_2, .slice A0_3 l0_3.length c0_3, .string a0_4], .int .i64 a1] w fun e w' => e = .returned (.tuple #[.string r1, .bool r2]) ∧ Below w.heap.size w w' := by
 have hu32 := Try.underlying32; have HR0_1 := am hr0_1; have HC0_1 := am hc0_1; clear hr0_1 hc0_1; have HR0_3 := am hr0_3; have HC0_3 := am hc0_3; clear hr0_3 hc0_3; have HB := am (Below.refl w.heap.size w); have H : ((spec_trOk.f k a0_0 l0_1 a0_2 l0_3 a0_4).bind fun bt562 => (if bt562.2 = true then ((spec_l1In.f a1 0 (wrap64 ((bt562.1.length : Int) - 1))).bind fun t566 => (spec_LabelsAt.j0 k a1 bt562.1 (!t566))) else (spec_LabelsAt.j0 k a1 bt562.1 true))) = some (r1, r2) := h; clear h; replace H := Option.bind_eq_some_iff.mp H; obtain ⟨⟨t562, t565⟩, A30, H⟩ := H; (try dsimp -simprocs only at H); have A3 := am A30; clear A30; have HC4 := am H; clear H
 go_enter Try.func19, Try.ntmps19
 go_upto_region 2 with (first | ((with_reducible refine gate_dst (N := 2) rfl ?_); (try (refine gate_guard (by rfl) ?_; dsimp only)); refine bE 2 #[.int .i64 a0_0, .slice A0_1 l0_1.length c0_1, .int .i64 a0_2, .slice A0_3 l0_3.length c0_3, .string a0_4] 32 ?_; intro gb561 hg w5 hbox hb; have n0_ := Bb HB hb; have n1_ := am (hbox); have n2_ := Gl HB hg; have n3_ := Gl HB hg; clear HB; revert n0_ n1_ n2_ n3_; intro HB BK561 GW561 GE561; clear hb hbox hg; obtain ⟨hcz6_0, hcz6_1, hcz6_2, hcz6_3, hcz6_4, hfz6_0, hfz6_1, hfz6_2, hfz6_3, hfz6_4⟩ := cf5 (w := w5) BK561) | ((with_reducible refine gate_callee (f := 51) rfl ?_); refine gL (some 13) Try.func51 #[.agg #[.int .i64 a0_0, .slice A0_1 l0_1.length c0_1, .int .i64 a0_2, .slice A0_3 l0_3.length c0_3, .string a0_4]] ?_; (with_reducible refine (spec_trOk.calls k a0_0 _ _ l0_1 a0_2 _ _ l0_3 a0_4 t562 t565 _ ?side1 ?side2 ?side3 ?side4 A3.out).mono ?_); (case side1 => exact Cz (Kd.C_below HR0_1.out HB.out)); (case side2 => exact HC0_1.out); (case side3 => exact Cz (Kd.C_below HR0_3.out HB.out)); (case side4 => exact HC0_3.out); rintro e w7 ⟨v563, rfl, ho0, hb⟩; refine ⟨_, rfl, ?_⟩; have n0_ := Rm ho0 HB; have n1_ := Kb BK561 hb; have n2_ := Bc HB hb; clear BK561 HB; revert n0_ n1_ n2_; intro HO564 BK561 HB; (try clear hb); (try clear hb2); (try clear hk); (try clear hi); (try clear ho0)))
 (try simp only [aP])
 go_cut [25] (fun v25 wc => ∃ (kq : Nat) (x25_3 : Bool), v25 = .bool x25_3 ∧ Aside0 (spec_LabelsAt.j0 kq a1 t562 x25_3 = some (r1, r2)) ∧ Aside0 (kq ≤ k) ∧ Aside0 (Kd.R Kd.string 9 wc w.heap.size (fun _ => True) v563 t562) ∧ Aside0 (wc.heap[gb561]? = some (.cells #[.int .i64 a0_0, (.slice A0_1 l0_1.length c0_1), .int .i64 a0_2, (.slice A0_3 l0_3.length c0_3), .string a0_4] 32 (0, 0))) ∧ Aside0 (Below w.heap.size w wc))
 case first =>
  have H := HC4.out; clear HC4
  by_cases c8 : t565 = true
  ·subst c8
   rw [if_pos rfl] at H; replace H := Option.bind_eq_some_iff.mp H; obtain ⟨t566, A90, H⟩ := H; (try dsimp -simprocs only at H); have A9 := am A90; clear A90; have H' := am H; clear H; obtain ⟨Ao10, co10, eo10⟩ := Kd.R_slice HO564.out; subst eo10
   go_wp2_with (first | (go_at_call 46; (with_reducible refine (spec_l1In.calls a1 0 (wrap64 ((t562.length : Int) - 1)) t566 _ A9.out).mono ?_); rintro e w' ⟨rfl, ⟨nd, rfl⟩⟩))
   go_meet
   case rel => exact ⟨_, (!t566), wZ, H', ⟨by first | omega | exact Nat.le_refl _⟩, ⟨Rz HO564.out⟩, ⟨Kz BK561.out⟩, ⟨Bq⟩⟩
  ·replace c8 := Bool.eq_false_iff.mpr c8
   subst c8
   rw [if_neg (show ¬ (false = true) by decide)] at H; have H' := am H; clear H
   go_wp2
   go_meet
   case rel => exact ⟨_, (true), wZ, H', ⟨by first | omega | exact Nat.le_refl _⟩, ⟨Rz HO564.out⟩, ⟨Kz BK561.out⟩, ⟨Bq⟩⟩
 case rest =>
  clear HC4
  try clear c1
  try clear p2
  try clear c5
  try clear p6
  try clear c8
  try clear hcz6_0
  try clear hcz6_1
  try clear hcz6_2
  try clear hcz6_3
  try clear hcz6_4
  try clear hfz6_0
  try clear hfz6_1
  try clear hfz6_2
  try clear hfz6_3
  try clear hfz6_4
  obtain ⟨kq, x25_3, rfl, HA, HJ3, HO_6, BK561, HB⟩ := hcut; cases kq with
  | zero => exact absurd HA.out (by simp [spec_LabelsAt.j0])
  | succ kj3 =>
   have H := HA.out; clear HA
   simp only [spec_LabelsAt.j0] at H
   by_cases c11 : x25_3 = true
   ·subst c11
    rw [if_pos rfl] at H
    simp only [Option.some.injEq, Prod.mk.injEq] at H
    obtain ⟨rfl, rfl⟩ := H
    go_wp2
    go_ret2
    exact ⟨eZ, Bq⟩
   ·replace c11 := Bool.eq_false_iff.mpr c11
    subst c11
    rw [if_neg (show ¬ (false = true) by decide)] at H; have H' := am H; clear H; obtain ⟨Ao12, co12, eo12⟩ := Kd.R_slice HO_6.out; subst eo12
    go_wp2
    go_loopg [8, 28] kj3 (fun kq v8 v28 w' => ∃ (x8_2 : List Int) (x28_2 : Int), v28 = .int .i64 x28_2 ∧ Aside0 (spec_LabelsAt.l0 kq a1 t562 x8_2 t562 (t562.length : Int) x28_2 = some (r1, r2)) ∧ Aside0 (kq ≤ kj3) ∧ Aside0 (Kd.R Kd.string 9 w' w.heap.size (fun _ => True) (.slice Ao12 t562.length co12) t562) ∧ Aside0 (Kd.R (Kd.int .u8) 5 w' w.heap.size (fun _ => True) v8 x8_2) ∧ Aside0 (Kd.R Kd.string 9 w' w.heap.size (fun _ => True) (.slice Ao12 t562.length co12) t562) ∧ Aside0 (w'.heap[gb561]? = some (.cells #[.int .i64 a0_0, (.slice A0_1 l0_1.length c0_1), .int .i64 a0_2, (.slice A0_3 l0_3.length c0_3), .string a0_4] 32 (0, 0))) ∧ Aside0 (Below w.heap.size w w'))
    case atStart => exact ⟨(([] : List Int)), (0), wZ, H', ⟨Nat.le_refl _⟩, ⟨Rz HO_6.out⟩, ⟨nZ⟩, ⟨Rz HO_6.out⟩, ⟨Kz BK561.out⟩, ⟨Bq⟩⟩
    case round =>
     clear H'
     try clear c1
     try clear p2
     try clear c5
     try clear p6
     try clear c8
     try clear c11
     try clear hcz6_0
     try clear hcz6_1
     try clear hcz6_2
     try clear hcz6_3
     try clear hcz6_4
     try clear hfz6_0
     try clear hfz6_1
     try clear hfz6_2
     try clear hfz6_3
     try clear hfz6_4
     try clear p2
     try clear p6
     obtain ⟨x8_2, x28_2, rfl, HA, HK2, HO_6, HO_8, HO_26, BK561, HB⟩ := hrel; cases gk with
     | zero => exact absurd HA.out (by simp [spec_LabelsAt.l0])
     | succ k2 =>
      have H := HA.out; clear HA
      simp only [spec_LabelsAt.l0] at H
      by_cases c13 : x28_2 < (t562.length : Int)
      ·rw [if_pos c13] at H
       have c13b0 : decide (x28_2 < (t562.length : Int)) = true := decide_eq_true c13; clear c13
       by_cases c14 : 0 ≤ x28_2
       ·rw [if_pos c14] at H
        have c14b0 : decide (0 ≤ x28_2) = true := decide_eq_true c14; clear c14
        by_cases c15 : x28_2 < (t562.length : Int)
        ·rw [if_pos c15] at H
         have c15b0 : decide (x28_2 < (t562.length : Int)) = true := decide_eq_true c15; clear c15
         by_cases c16 : 0 ≤ a1
         ·rw [if_pos c16] at H
          have c16b0 : decide (0 ≤ a1) = true := decide_eq_true c16; clear c16
          by_cases c17 : a1 < (t562.length : Int)
          ·rw [if_pos c17] at H
           have c17b0 : decide (a1 < (t562.length : Int)) = true := decide_eq_true c17; clear c17
           by_cases c18 : ((rdOf ByteArray.empty t562 x28_2).size : Int) = (wrap64 (((rdOf ByteArray.empty t562 a1).size : Int) + 1))
           ·rw [if_pos c18] at H
            have c18b0 : (((rdOf ByteArray.empty t562 x28_2).size : Int) == (wrap64 (((rdOf ByteArray.empty t562 a1).size : Int) + 1))) = true := beq_iff_eq.mpr c18; have c18b1 : (((rdOf ByteArray.empty t562 x28_2).size : Int) != (wrap64 (((rdOf ByteArray.empty t562 a1).size : Int) + 1))) = false := bne_eq_false_iff_eq.mpr c18; clear c18; replace H := Option.bind_eq_some_iff.mp H; obtain ⟨t570, A190, H⟩ := H; (try dsimp -simprocs only at H); have A19 := am A190; clear A190
            by_cases c20 : t570 = true
            ·subst c20
             rw [if_pos rfl] at H; obtain ⟨ji21, hji21⟩ : ∃ j_ : Int, (wrap64 (((rdOf ByteArray.empty t562 x28_2).size : Int) - 1)) = j_ := ⟨_, rfl⟩
             replace H : (if 0 ≤ (ji21) then (if (ji21) < ((rdOf ByteArray.empty t562 x28_2).size : Int) then (if x8_2.length < 140737488355328 then (spec_LabelsAt.l0 k2 a1 t562 (x8_2 ++ [bt (rdOf ByteArray.empty t562 x28_2) (ji21)]) t562 (t562.length : Int) (wrap64 (x28_2 + 1))) else (none)) else (none)) else (none)) = some (r1, r2) := by first | (rw [hji21] at H; exact H) | (simp only [hji21] at H ⊢; exact H)
             (try rw [hji21] at A19)
             have hji21w : (IntKind.i64.wrap (((rdOf ByteArray.empty t562 x28_2).size : Int) - 1)) = ji21 := (i64_w _).trans hji21
             by_cases c22 : 0 ≤ (ji21)
             ·rw [if_pos c22] at H
              have c22b0 : decide (0 ≤ (ji21)) = true := decide_eq_true c22; clear c22
              by_cases c23 : (ji21) < ((rdOf ByteArray.empty t562 x28_2).size : Int)
              ·rw [if_pos c23] at H
               have c23b0 : decide ((ji21) < ((rdOf ByteArray.empty t562 x28_2).size : Int)) = true := decide_eq_true c23; clear c23
               by_cases c25 : x8_2.length < 140737488355328
               ·rw [if_pos c25] at H
                have LMc25 := am c25; clear c25; obtain ⟨y571, hy571⟩ : ∃ y_ : List Int, y_ = (x8_2 ++ [bt (rdOf ByteArray.empty t562 x28_2) (ji21)]) := ⟨_, rfl⟩
                replace H : (spec_LabelsAt.l0 k2 a1 t562 y571 t562 (t562.length : Int) (wrap64 (x28_2 + 1))) = some (r1, r2) := by first | (rw [hy571]; with_reducible exact H) | (have H2_ := (Option.bind_some _ _).symm.trans H; rw [hy571]; with_reducible exact H2_) | (have H2_ := (Option.bind_some _ _).symm.trans H; with_reducible exact H2_) | with_reducible exact H | (rw [hy571]; exact H) | exact H
                have Ny571 := am hy571; clear hy571; have H' := am H; clear H; obtain ⟨ad567, e567, hx567_0⟩ := Kd.at_string (Kd.R_reads' HO_26.out).2.2 x28_2 dT dT; cases e567; have p567 := eT (0 ≤ (x28_2 : Int)); have q567 := eT (x28_2 < (t562.length : Int)); have p568 : 0 ≤ (a1 : Int) := dT; have q568 : a1 < (t562.length : Int) := dT; obtain ⟨ad568, e568, hx568_0⟩ := Kd.at_string (Kd.R_reads' HO_6.out).2.2 a1 p568 q568; obtain rfl : ad567 = ad568 := (by injection e568); replace p568 := eq_true p568; replace q568 := eq_true q568; have p569 : 0 ≤ (a1 : Int) := dT; have q569 : a1 < (t562.length : Int) := dT; obtain ⟨ad569, e569, hx569_0⟩ := Kd.at_string (Kd.R_reads' HO_6.out).2.2 a1 p569 q569; obtain rfl : ad567 = ad569 := (by injection e569); replace p569 := eq_true p569; replace q569 := eq_true q569
                go_wp2_with (first | (go_at_call 41; (with_reducible refine (spec_trBegins.calls (rdOf ByteArray.empty t562 x28_2) (rdOf ByteArray.empty t562 a1) true _ A19.out).mono ?_); rintro e w' ⟨rfl, ⟨nd, rfl⟩⟩; have p24 : 0 ≤ ((ji21) : Int) := dT; have q24 : (ji21) < ((rdOf ByteArray.empty t562 x28_2).size : Int) := dT; have hx24 := bt_at (rdOf ByteArray.empty t562 x28_2) (ji21); replace p24 := eq_true p24; replace q24 := eq_true q24) | ((with_reducible refine gate_builtin (b := .append) (xs := #[.tmp 49, .tmp 55]) rfl ?_); (try (refine gate_guard (by rfl) ?_; dsimp only)); at_builtin; refine Kd.R_append (Kd.int .u8) (w0 := w) w.heap.size rfl (.tmp 49) (.tmp 55) 63 5 (.int .u8 0) 1 rfl Try.underlying63 info5 rfl (by decide) (by omega) u8 x8_2 (bt (rdOf ByteArray.empty t562 x28_2) (ji21)) [.int .u8 (bt (rdOf ByteArray.empty t562 x28_2) (ji21))] (fun _ => True) (fun _ => False) rfl rfl ?aP (fun _ hk => hk.elim) ?aF ?aO ?aB ?aS ?aL ?_; (case aP => exact rfl); (case aB => exact (Bq)); (case aF => exact (fun _ _ => trivial)); (case aO => exact (Rz HO_8.out)); (case aS => exact (below_size (w := w) (Bq))); (case aL => have := LMc25.out; omega); intro v572 w26 ho hb hg hat; rw [← Ny571.out] at ho; have n0_ := am (Kd.R_over' (Rz HO_6.out) (Kd.R_typed (Rz HO_8.out)) (by decide) hg); have n1_ := am (Kd.R_over' (Rz HO_26.out) (Kd.R_typed (Rz HO_8.out)) (by decide) hg); have n2_ := am (blk_grown (g := gb561) (o := .cells #[.int .i64 a0_0, .slice A0_1 l0_1.length c0_1, .int .i64 a0_2, .slice A0_3 l0_3.length c0_3, .string a0_4] 32 (0, 0)) (Kz BK561.out) hg (Kd.R_ne HO_8.out BK561.out (by decide))); have n3_ := am (hb); have n4_ := am (ho); clear HO_6 HO_26 BK561 HB HO_8; revert n0_ n1_ n2_ n3_ n4_; intro HO_6 HO_26 BK561 HB HO573; clear ho hb hg hat))
                go_roundg k2
                case measure => have := HJ3.out; have := HK2.out; omega
                case rel => exact ⟨(y571), (wrap64 (x28_2 + 1)), wZ, H', ⟨by have := HJ3.out; have := HK2.out; omega⟩, ⟨Rz HO_6.out⟩, ⟨Rz HO573.out⟩, ⟨Rz HO_26.out⟩, ⟨Kz BK561.out⟩, ⟨Bq⟩⟩
               ·rw [if_neg c25] at H
                exact absurd H (by simp)
              ·rw [if_neg c23] at H
               exact absurd H (by simp)
             ·rw [if_neg c22] at H
              exact absurd H (by simp)
            ·replace c20 := Bool.eq_false_iff.mpr c20
             subst c20
             rw [if_neg (show ¬ (false = true) by decide)] at H; have H' := am H; clear H; obtain ⟨ad567, e567, hx567_0⟩ := Kd.at_string (Kd.R_reads' HO_26.out).2.2 x28_2 dT dT; cases e567; have p567 := eT (0 ≤ (x28_2 : Int)); have q567 := eT (x28_2 < (t562.length : Int)); have p568 : 0 ≤ (a1 : Int) := dT; have q568 : a1 < (t562.length : Int) := dT; obtain ⟨ad568, e568, hx568_0⟩ := Kd.at_string (Kd.R_reads' HO_6.out).2.2 a1 p568 q568; obtain rfl : ad567 = ad568 := (by injection e568); replace p568 := eq_true p568; replace q568 := eq_true q568; have p569 : 0 ≤ (a1 : Int) := dT; have q569 : a1 < (t562.length : Int) := dT; obtain ⟨ad569, e569, hx569_0⟩ := Kd.at_string (Kd.R_reads' HO_6.out).2.2 a1 p569 q569; obtain rfl : ad567 = ad569 := (by injection e569); replace p569 := eq_true p569; replace q569 := eq_true q569
             go_wp2_with (first | (go_at_call 41; (with_reducible refine (spec_trBegins.calls (rdOf ByteArray.empty t562 x28_2) (rdOf ByteArray.empty t562 a1) false _ A19.out).mono ?_); rintro e w' ⟨rfl, ⟨nd, rfl⟩⟩))
             go_roundg k2
             case measure => have := HJ3.out; have := HK2.out; omega
             case rel => exact ⟨(x8_2), (wrap64 (x28_2 + 1)), wZ, H', ⟨by have := HJ3.out; have := HK2.out; omega⟩, ⟨Rz HO_6.out⟩, ⟨Rz HO_8.out⟩, ⟨Rz HO_26.out⟩, ⟨Kz BK561.out⟩, ⟨Bq⟩⟩
           ·rw [if_neg c18] at H
            have c18b0 : (((rdOf ByteArray.empty t562 x28_2).size : Int) == (wrap64 (((rdOf ByteArray.empty t562 a1).size : Int) + 1))) = false := beq_eq_false_iff_ne.mpr c18; have c18b1 : (((rdOf ByteArray.empty t562 x28_2).size : Int) != (wrap64 (((rdOf ByteArray.empty t562 a1).size : Int) + 1))) = true := bne_iff_ne.mpr c18; have H' := am H; clear H; obtain ⟨ad567, e567, hx567_0⟩ := Kd.at_string (Kd.R_reads' HO_26.out).2.2 x28_2 dT dT; cases e567; have p567 := eT (0 ≤ (x28_2 : Int)); have q567 := eT (x28_2 < (t562.length : Int)); have p568 : 0 ≤ (a1 : Int) := dT; have q568 : a1 < (t562.length : Int) := dT; obtain ⟨ad568, e568, hx568_0⟩ := Kd.at_string (Kd.R_reads' HO_6.out).2.2 a1 p568 q568; obtain rfl : ad567 = ad568 := (by injection e568); replace p568 := eq_true p568; replace q568 := eq_true q568
            go_wp2
            go_roundg k2
            case measure => have := HJ3.out; have := HK2.out; omega
            case rel => exact ⟨(x8_2), (wrap64 (x28_2 + 1)), wZ, H', ⟨by have := HJ3.out; have := HK2.out; omega⟩, ⟨Rz HO_6.out⟩, ⟨Rz HO_8.out⟩, ⟨Rz HO_26.out⟩, ⟨Kz BK561.out⟩, ⟨Bq⟩⟩
          ·rw [if_neg c17] at H
           exact absurd H (by simp)
         ·rw [if_neg c16] at H
          exact absurd H (by simp)
        ·rw [if_neg c15] at H
         exact absurd H (by simp)
       ·rw [if_neg c14] at H
        exact absurd H (by simp)
      ·rw [if_neg c13] at H
       have c13b0 : decide (x28_2 < (t562.length : Int)) = false := decide_eq_false c13; clear c13
       simp only [Option.some.injEq, Prod.mk.injEq] at H
       obtain ⟨rfl, rfl⟩ := H; have hcv27 := own_string (P := Try.prog) Try.underlying63 Try.underlying5 Try.underlying9 (Kd.own_of_R HO_8.out)
       go_wp2
       go_ret2
       exact ⟨eZ, Bq⟩

def impl_LabelsAt.l0 : Nat → ByteArray → ByteArray → List ByteArray → Int → Int → Option (ByteArray × Bool)
 | 0, _, _, _, _, _ => none
 | k + 1, x6, x9, x20, x21, x22 => if x22 < x21 then (if 0 ≤ x22 then (if x22 < (x20.length : Int) then (if ((rdOf ByteArray.empty x20 x22).size : Int) = (wrap64 ((x6.size : Int) + 1)) then ((strings_HasPrefix.f (rdOf ByteArray.empty x20 x22) x6).bind fun t586 => (if t586 = true then (if 0 ≤ (x6.size : Int) then (if (x6.size : Int) ≤ ((rdOf ByteArray.empty x20 x22).size : Int) then (if x9.size + ((rdOf ByteArray.empty x20 x22).extract ((x6.size : Int) : Int).toNat (rdOf ByteArray.empty x20 x22).size).size ≤ 9223372036854775807 then (impl_LabelsAt.l0 k x6 (x9 ++ ((rdOf ByteArray.empty x20 x22).extract ((x6.size : Int) : Int).toNat (rdOf ByteArray.empty x20 x22).size)) x20 x21 (wrap64 (x22 + 1))) else (none)) else (none)) else (none)) else (impl_LabelsAt.l0 k x6 x9 x20 x21 (wrap64 (x22 + 1))))) else (impl_LabelsAt.l0 k x6 x9 x20 x21 (wrap64 (x22 + 1)))) else (none)) else (none)) else (some (x9, true))
def impl_LabelsAt.f (k : Nat) (a0_0 : Int) (l0_1 : List Int) (a0_2 : Int) (l0_3 : List Int) (a0_4 : ByteArray) (a1 : Int) : Option (ByteArray × Bool) := (impl_Trie_nodeAt.f k a0_0 l0_1 a0_2 l0_3 a0_4 a1).bind fun bt580 => (if bt580.2.2 = true then (impl_LabelsAt.l0 k bt580.1 (⟨#[]⟩ : ByteArray) bt580.2.1 (bt580.2.1.length : Int) 0) else (some ((⟨#[]⟩ : ByteArray), false)))
theorem impl_LabelsAt.mono_l : ∀ k, (∀ y0 y1 y2 y3 y4, LeO (impl_LabelsAt.l0 k y0 y1 y2 y3 y4) (impl_LabelsAt.l0 (k + 1) y0 y1 y2 y3 y4))
 | 0 => fun _ _ _ _ _ r h => by simp [impl_LabelsAt.l0] at h
 | k + 1 => by
  have ih0 := impl_LabelsAt.mono_l k
  ·intro y0 y1 y2 y3 y4
   unfold impl_LabelsAt.l0
   repeat' first | (with_reducible first | exact ih0 _ _ _ _ _ | exact impl_Trie_nodeAt.mono _ _ _ _ _ _ _ | exact LeO.refl _ | exact LeO.none _ | refine LeO.ite ?_ ?_ | refine LeO.bind ?_ (fun _ => ?_)) | exact LeO.none _ | refine LeO.ite ?_ ?_ | refine LeO.bind ?_ (fun _ => ?_)
theorem impl_LabelsAt.mono : ∀ a0 a1 a2 a3 a4 a5 k, LeO (impl_LabelsAt.f k a0 a1 a2 a3 a4 a5) (impl_LabelsAt.f (k + 1) a0 a1 a2 a3 a4 a5) := by
 intro a0 a1 a2 a3 a4 a5 k; have ih0 := impl_LabelsAt.mono_l k
 unfold impl_LabelsAt.f
 repeat' first | (with_reducible first | exact ih0 _ _ _ _ _ | exact impl_Trie_nodeAt.mono _ _ _ _ _ _ _ | exact LeO.refl _ | exact LeO.none _ | refine LeO.ite ?_ ?_ | refine LeO.bind ?_ (fun _ => ?_)) | exact LeO.none _ | refine LeO.ite ?_ ?_ | refine LeO.bind ?_ (fun _ => ?_)
theorem impl_LabelsAt.calls (k : Nat) (a0_0 : Int) (A0_1 : Option Addr) (c0_1 : Nat) (l0_1 : List Int) (a0_2 : Int) (A0_3 : Option Addr) (c0_3 : Nat) (l0_3 : List Int) (a0_4 : ByteArray) (a1 : Int) (r1 : ByteArray) (r2 : Bool) (w : World) (hr0_1 : Kd.C (Kd.int .i64) w A0_1 l0_1.length l0_1) (hc0_1 : l0_1.length ≤ c0_1) (hr0_3 : Kd.C (Kd.int .i64) w A0_3 l0_3.length l0_3) (hc0_3 : l0_3.length ≤ c0_3) (h : impl_LabelsAt.f k a0_0 l0_1 a0_2 l0_3 a0_4 a1 = some (r1, r2)) :
  Calls Try.prog 20 #[.agg #[.int .i64 a0_0, .slice A0_1 l0_1.length c0_1, .int .i64 a0_2, .slice A0_3 l0_3.length c0_3, .string a0_4], .int .i64 a1] w fun e w' => e = .returned (.tuple #[.string r1, .bool r2]) ∧ Below w.heap.size w w' := by
 have hu32 := Try.underlying32; have HR0_1 := am hr0_1; have HC0_1 := am hc0_1; clear hr0_1 hc0_1; have HR0_3 := am hr0_3; have HC0_3 := am hc0_3; clear hr0_3 hc0_3; have HB := am (Below.refl w.heap.size w); have H : ((impl_Trie_nodeAt.f k a0_0 l0_1 a0_2 l0_3 a0_4 a1).bind fun bt580 => (if bt580.2.2 = true then (impl_LabelsAt.l0 k bt580.1 (⟨#[]⟩ : ByteArray) bt580.2.1 (bt580.2.1.length : Int) 0) else (some ((⟨#[]⟩ : ByteArray), false)))) = some (r1, r2) := h; clear h; replace H := Option.bind_eq_some_iff.mp H; obtain ⟨⟨t580, t581, t582⟩, A30, H⟩ := H; (try dsimp -simprocs only at H); have A3 := am A30; clear A30
 by_cases c4 : t582 = true
 ·subst c4
  rw [if_pos rfl] at H; have H' := am H; clear H
  go_enter Try.func20, Try.ntmps20
  go_wp2_with (first | ((with_reducible refine gate_dst (N := 2) rfl ?_); refine bE 2 #[.int .i64 a0_0, .slice A0_1 l0_1.length c0_1, .int .i64 a0_2, .slice A0_3 l0_3.length c0_3, .string a0_4] 32 ?_; intro gb579 hg w5 hbox hb; have n0_ := Bb HB hb; have n1_ := am (hbox); have n2_ := Gl HB hg; have n3_ := Gl HB hg; clear HB; revert n0_ n1_ n2_ n3_; intro HB BK579 GW579 GE579; clear hb hbox hg) | ((with_reducible refine gate_callee (f := 52) rfl ?_); refine gL (some 14) Try.func52 #[.pointer (some ⟨gb579, 0, none⟩), .int .i64 a1] ?_; (with_reducible refine (impl_Trie_nodeAt.calls k gb579 a0_0 A0_1 c0_1 l0_1 a0_2 A0_3 c0_3 l0_3 a0_4 a1 t580 t581 true _ ?side1 ?side2 ?side3 ?side4 ?side5 A3.out).mono ?_); (case side1 => exact Kz BK579.out); (case side2 => exact Cz (Kd.C_below HR0_1.out HB.out)); (case side3 => exact HC0_1.out); (case side4 => exact Cz (Kd.C_below HR0_3.out HB.out)); (case side5 => exact HC0_3.out); rintro e w6 ⟨v583, rfl, ho0, hb⟩; refine ⟨_, rfl, ?_⟩; have n0_ := Rm ho0 HB; have n1_ := Kb BK579 hb; have n2_ := Bc HB hb; clear BK579 HB; revert n0_ n1_ n2_; intro HO584 BK579 HB; (try clear hb); (try clear hb2); (try clear hk); (try clear hi); (try clear ho0); obtain ⟨Ao7, co7, eo7⟩ := Kd.R_slice HO584.out; subst eo7))
  (try simp only [aP])
  go_loopg [9, 22] k (fun kq v9 v22 w' => ∃ (x9_1 : ByteArray) (x22_1 : Int), v9 = .string x9_1 ∧ v22 = .int .i64 x22_1 ∧ Aside0 (impl_LabelsAt.l0 kq t580 x9_1 t581 (t581.length : Int) x22_1 = some (r1, r2)) ∧ Aside0 (kq ≤ k) ∧ Aside0 (Kd.R Kd.string 9 w' w.heap.size (fun _ => True) (.slice Ao7 t581.length co7) t581) ∧ Aside0 (w'.heap[gb579]? = some (.cells #[.int .i64 a0_0, (.slice A0_1 l0_1.length c0_1), .int .i64 a0_2, (.slice A0_3 l0_3.length c0_3), .string a0_4] 32 (0, 0))) ∧ Aside0 (Below w.heap.size w w'))
  case atStart => exact ⟨((⟨#[]⟩ : ByteArray)), (0), wZ, wZ, H', ⟨Nat.le_refl _⟩, ⟨Rz HO584.out⟩, ⟨Kz BK579.out⟩, ⟨Bq⟩⟩
  case round =>
   clear H'
   try clear c2
   try clear p2
   try clear c4
   try clear c5
   obtain ⟨x9_1, x22_1, rfl, rfl, HA, HK1, HO_20, BK579, HB⟩ := hrel; cases gk with
   | zero => exact absurd HA.out (by simp [impl_LabelsAt.l0])
   | succ k1 =>
    have H := HA.out; clear HA
    simp only [impl_LabelsAt.l0] at H
    by_cases c8 : x22_1 < (t581.length : Int)
    ·rw [if_pos c8] at H
     have c8b0 : decide (x22_1 < (t581.length : Int)) = true := decide_eq_true c8; clear c8
     by_cases c9 : 0 ≤ x22_1
     ·rw [if_pos c9] at H
      have c9b0 : decide (0 ≤ x22_1) = true := decide_eq_true c9; clear c9
      by_cases c10 : x22_1 < (t581.length : Int)
      ·rw [if_pos c10] at H
       have c10b0 : decide (x22_1 < (t581.length : Int)) = true := decide_eq_true c10; clear c10
       by_cases c11 : ((rdOf ByteArray.empty t581 x22_1).size : Int) = (wrap64 ((t580.size : Int) + 1))
       ·rw [if_pos c11] at H
        have c11b0 : (((rdOf ByteArray.empty t581 x22_1).size : Int) == (wrap64 ((t580.size : Int) + 1))) = true := beq_iff_eq.mpr c11; have c11b1 : (((rdOf ByteArray.empty t581 x22_1).size : Int) != (wrap64 ((t580.size : Int) + 1))) = false := bne_eq_false_iff_eq.mpr c11; clear c11; replace H := Option.bind_eq_some_iff.mp H; obtain ⟨t586, A120, H⟩ := H; (try dsimp -simprocs only at H); have A12 := am A120; clear A120
        by_cases c13 : t586 = true
        ·subst c13
         rw [if_pos rfl] at H
         by_cases c14 : 0 ≤ (t580.size : Int)
         ·rw [if_pos c14] at H
          have c14b0 := eq_true c14; have c14b1 : decide (0 ≤ (t580.size : Int)) = true := decide_eq_true c14; clear c14
          by_cases c15 : (t580.size : Int) ≤ ((rdOf ByteArray.empty t581 x22_1).size : Int)
          ·rw [if_pos c15] at H
           have c15b0 := eq_true c15; have c15b1 : decide ((t580.size : Int) ≤ ((rdOf ByteArray.empty t581 x22_1).size : Int)) = true := decide_eq_true c15; clear c15
           by_cases c16 : x9_1.size + ((rdOf ByteArray.empty t581 x22_1).extract ((t580.size : Int) : Int).toNat (rdOf ByteArray.empty t581 x22_1).size).size ≤ 9223372036854775807
           ·rw [if_pos c16] at H
            have c16b0 := eq_true c16; have c16b1 : decide (x9_1.size + ((rdOf ByteArray.empty t581 x22_1).extract ((t580.size : Int) : Int).toNat (rdOf ByteArray.empty t581 x22_1).size).size ≤ 9223372036854775807) = true := decide_eq_true c16
            try have c16b2 : (9223372036854775807 < x9_1.size + ((rdOf ByteArray.empty t581 x22_1).extract ((t580.size : Int) : Int).toNat (rdOf ByteArray.empty t581 x22_1).size).size) = False := eq_false (Nat.not_lt.2 c16)
            (try (have c16b3 := c16b2; simp only [ByteArray.size_extract, Int.toNat_natCast, Nat.min_self] at c16b3))
            have H' := am H; clear H; obtain ⟨ad585, e585, hx585_0⟩ := Kd.at_string (Kd.R_reads' HO_20.out).2.2 x22_1 dT dT; cases e585; have p585 := eT (0 ≤ (x22_1 : Int)); have q585 := eT (x22_1 < (t581.length : Int))
            go_wp2_with (first | (go_at_call 44; (with_reducible refine (strings_HasPrefix.calls (rdOf ByteArray.empty t581 x22_1) t580 true _ A12.out).mono ?_); rintro e w' ⟨rfl, ⟨nd, rfl⟩⟩))
            go_roundg k1
            case measure => have := HK1.out; omega
            case rel => exact ⟨(x9_1 ++ ((rdOf ByteArray.empty t581 x22_1).extract ((t580.size : Int) : Int).toNat (rdOf ByteArray.empty t581 x22_1).size)), (wrap64 (x22_1 + 1)), wZ, wZ, H', ⟨by have := HK1.out; omega⟩, ⟨Rz HO_20.out⟩, ⟨Kz BK579.out⟩, ⟨Bq⟩⟩
           ·rw [if_neg c16] at H
            exact absurd H (by simp)
          ·rw [if_neg c15] at H
           exact absurd H (by simp)
         ·rw [if_neg c14] at H
          exact absurd H (by simp)
        ·replace c13 := Bool.eq_false_iff.mpr c13
         subst c13
         rw [if_neg (show ¬ (false = true) by decide)] at H; have H' := am H; clear H; obtain ⟨ad585, e585, hx585_0⟩ := Kd.at_string (Kd.R_reads' HO_20.out).2.2 x22_1 dT dT; cases e585; have p585 := eT (0 ≤ (x22_1 : Int)); have q585 := eT (x22_1 < (t581.length : Int))
         go_wp2_with (first | (go_at_call 44; (with_reducible refine (strings_HasPrefix.calls (rdOf ByteArray.empty t581 x22_1) t580 false _ A12.out).mono ?_); rintro e w' ⟨rfl, ⟨nd, rfl⟩⟩))
         go_roundg k1
         case measure => have := HK1.out; omega
         case rel => exact ⟨(x9_1), (wrap64 (x22_1 + 1)), wZ, wZ, H', ⟨by have := HK1.out; omega⟩, ⟨Rz HO_20.out⟩, ⟨Kz BK579.out⟩, ⟨Bq⟩⟩
       ·rw [if_neg c11] at H
        have c11b0 : (((rdOf ByteArray.empty t581 x22_1).size : Int) == (wrap64 ((t580.size : Int) + 1))) = false := beq_eq_false_iff_ne.mpr c11; have c11b1 : (((rdOf ByteArray.empty t581 x22_1).size : Int) != (wrap64 ((t580.size : Int) + 1))) = true := bne_iff_ne.mpr c11; have H' := am H; clear H; obtain ⟨ad585, e585, hx585_0⟩ := Kd.at_string (Kd.R_reads' HO_20.out).2.2 x22_1 dT dT; cases e585; have p585 := eT (0 ≤ (x22_1 : Int)); have q585 := eT (x22_1 < (t581.length : Int))
        go_wp2
        go_roundg k1
        case measure => have := HK1.out; omega
        case rel => exact ⟨(x9_1), (wrap64 (x22_1 + 1)), wZ, wZ, H', ⟨by have := HK1.out; omega⟩, ⟨Rz HO_20.out⟩, ⟨Kz BK579.out⟩, ⟨Bq⟩⟩
      ·rw [if_neg c10] at H
       exact absurd H (by simp)
     ·rw [if_neg c9] at H
      exact absurd H (by simp)
    ·rw [if_neg c8] at H
     have c8b0 : decide (x22_1 < (t581.length : Int)) = false := decide_eq_false c8; clear c8
     simp only [Option.some.injEq, Prod.mk.injEq] at H
     obtain ⟨rfl, rfl⟩ := H
     go_wp2
     go_ret2
     exact ⟨eZ, Bq⟩
 ·replace c4 := Bool.eq_false_iff.mpr c4
  subst c4
  rw [if_neg (show ¬ (false = true) by decide)] at H
  simp only [Option.some.injEq, Prod.mk.injEq] at H
  obtain ⟨rfl, rfl⟩ := H
  go_enter Try.func20, Try.ntmps20
  go_wp2_with (first | ((with_reducible refine gate_dst (N := 2) rfl ?_); refine bE 2 #[.int .i64 a0_0, .slice A0_1 l0_1.length c0_1, .int .i64 a0_2, .slice A0_3 l0_3.length c0_3, .string a0_4] 32 ?_; intro gb579 hg w17 hbox hb; have n0_ := Bb HB hb; have n1_ := am (hbox); have n2_ := Gl HB hg; have n3_ := Gl HB hg; clear HB; revert n0_ n1_ n2_ n3_; intro HB BK579 GW579 GE579; clear hb hbox hg) | ((with_reducible refine gate_callee (f := 52) rfl ?_); refine gL (some 14) Try.func52 #[.pointer (some ⟨gb579, 0, none⟩), .int .i64 a1] ?_; (with_reducible refine (impl_Trie_nodeAt.calls k gb579 a0_0 A0_1 c0_1 l0_1 a0_2 A0_3 c0_3 l0_3 a0_4 a1 t580 t581 false _ ?side1 ?side2 ?side3 ?side4 ?side5 A3.out).mono ?_); (case side1 => exact Kz BK579.out); (case side2 => exact Cz (Kd.C_below HR0_1.out HB.out)); (case side3 => exact HC0_1.out); (case side4 => exact Cz (Kd.C_below HR0_3.out HB.out)); (case side5 => exact HC0_3.out); rintro e w18 ⟨v583, rfl, ho0, hb⟩; refine ⟨_, rfl, ?_⟩; have n0_ := Rm ho0 HB; have n1_ := Kb BK579 hb; have n2_ := Bc HB hb; clear BK579 HB; revert n0_ n1_ n2_; intro HO584 BK579 HB; (try clear hb); (try clear hb2); (try clear hk); (try clear hi); (try clear ho0)))
  go_ret2
  exact ⟨eZ, Bq⟩

def laws_FnExactLabelsAt.j0 : Nat → Bool → Int → List Int → Int → List Int → ByteArray → Int → List Int → Int → List Int → ByteArray → Option (Bool)
 | 0, _, _, _, _, _, _, _, _, _, _, _ => none
 | k + 1, x38, x588000, x588001, x588002, x588003, x588004, x610000, x610001, x610002, x610003, x610004 => if x38 = true then (some false) else ((laws_toTrie.f k x588000 x588001 x588002 x588003 x588004).bind fun bt612 => ((laws_eqTrie.f k x610000 x610001 x610002 x610003 x610004 bt612.1 bt612.2.1 bt612.2.2.1 bt612.2.2.2.1 bt612.2.2.2.2).bind fun t621 => (if t621 = true then (some true) else (some false))))
def laws_FnExactLabelsAt.f (k : Nat) (a0_0 : Int) (l0_1 : List Int) (a0_2 : Int) (l0_3 : List Int) (a0_4 : ByteArray) (a1 : Int) : Option (Bool) := (laws_szTrie.f a0_0 l0_1 a0_2 l0_3 a0_4 1048576).bind fun t588 => (if t588 < 0 then (some true) else ((laws_toTrie.f k a0_0 l0_1 a0_2 l0_3 a0_4).bind fun bt589 => ((spec_LabelsAt.f k bt589.1 bt589.2.1 bt589.2.2.1 bt589.2.2.2.1 bt589.2.2.2.2 a1).bind fun bt598 => ((laws_toTrie.f k a0_0 l0_1 a0_2 l0_3 a0_4).bind fun bt600 => ((impl_LabelsAt.f k bt600.1 bt600.2.1 bt600.2.2.1 bt600.2.2.2.1 bt600.2.2.2.2 a1).bind fun bt610 => (if bt610.1.toList = bt598.1.toList then (laws_FnExactLabelsAt.j0 k (bt610.2 != bt598.2) a0_0 l0_1 a0_2 l0_3 a0_4 bt600.1 bt600.2.1 bt600.2.2.1 bt600.2.2.2.1 bt600.2.2.2.2) else (laws_FnExactLabelsAt.j0 k true a0_0 l0_1 a0_2 l0_3 a0_4 bt600.1 bt600.2.1 bt600.2.2.1 bt600.2.2.2.1 bt600.2.2.2.2)))))))
theorem laws_FnExactLabelsAt.mono_l : ∀ k, (∀ y0 y1 y2 y3 y4 y5 y6 y7 y8 y9 y10, LeO (laws_FnExactLabelsAt.j0 k y0 y1 y2 y3 y4 y5 y6 y7 y8 y9 y10) (laws_FnExactLabelsAt.j0 (k + 1) y0 y1 y2 y3 y4 y5 y6 y7 y8 y9 y10))
 | 0 => fun _ _ _ _ _ _ _ _ _ _ _ r h => by simp [laws_FnExactLabelsAt.j0] at h
 | k + 1 => by
  have ih0 := laws_FnExactLabelsAt.mono_l k
  ·intro y0 y1 y2 y3 y4 y5 y6 y7 y8 y9 y10
   unfold laws_FnExactLabelsAt.j0
   repeat' first | (with_reducible first | exact ih0 _ _ _ _ _ _ _ _ _ _ _ | exact impl_LabelsAt.mono _ _ _ _ _ _ _ | exact laws_eqTrie.mono _ _ _ _ _ _ _ _ _ _ _ | exact laws_toTrie.mono _ _ _ _ _ _ | exact spec_LabelsAt.mono _ _ _ _ _ _ _ | exact LeO.refl _ | exact LeO.none _ | refine LeO.ite ?_ ?_ | refine LeO.bind ?_ (fun _ => ?_)) | exact LeO.none _ | refine LeO.ite ?_ ?_ | refine LeO.bind ?_ (fun _ => ?_)
theorem laws_FnExactLabelsAt.mono : ∀ a0 a1 a2 a3 a4 a5 k, LeO (laws_FnExactLabelsAt.f k a0 a1 a2 a3 a4 a5) (laws_FnExactLabelsAt.f (k + 1) a0 a1 a2 a3 a4 a5) := by
 intro a0 a1 a2 a3 a4 a5 k; have ih0 := laws_FnExactLabelsAt.mono_l k
 unfold laws_FnExactLabelsAt.f
 repeat' first | (with_reducible first | exact ih0 _ _ _ _ _ _ _ _ _ _ _ | exact impl_LabelsAt.mono _ _ _ _ _ _ _ | exact laws_eqTrie.mono _ _ _ _ _ _ _ _ _ _ _ | exact laws_toTrie.mono _ _ _ _ _ _ | exact spec_LabelsAt.mono _ _ _ _ _ _ _ | exact LeO.refl _ | exact LeO.none _ | refine LeO.ite ?_ ?_ | refine LeO.bind ?_ (fun _ => ?_)) | exact LeO.none _ | refine LeO.ite ?_ ?_ | refine LeO.bind ?_ (fun _ => ?_)
theorem laws_FnExactLabelsAt.calls (k : Nat) (a0_0 : Int) (A0_1 : Option Addr) (c0_1 : Nat) (l0_1 : List Int) (a0_2 : Int) (A0_3 : Option Addr) (c0_3 : Nat) (l0_3 : List Int) (a0_4 : ByteArray) (a1 : Int) (r : Bool) (w : World) (hr0_1 : Kd.C (Kd.int .i64) w A0_1 l0_1.length l0_1) (hc0_1 : l0_1.length ≤ c0_1) (hr0_3 : Kd.C (Kd.int .i64) w A0_3 l0_3.length l0_3) (hc0_3 : l0_3.length ≤ c0_3) (h : laws_FnExactLabelsAt.f k a0_0 l0_1 a0_2 l0_3 a0_4 a1 = some r) :
  Calls Try.prog 5 #[.agg #[.int .i64 a0_0, .slice A0_1 l0_1.length c0_1, .int .i64 a0_2, .slice A0_3 l0_3.length c0_3, .string a0_4], .int .i64 a1] w fun e w' => e = .returned (.bool r) ∧ Below w.heap.size w w' := by
 have hu26 := Try.underlying26; have hu32 := Try.underlying32; have HR0_1 := am hr0_1; have HC0_1 := am hc0_1; clear hr0_1 hc0_1; have HR0_3 := am hr0_3; have HC0_3 := am hc0_3; clear hr0_3 hc0_3; have HB := am (Below.refl w.heap.size w); have H : ((laws_szTrie.f a0_0 l0_1 a0_2 l0_3 a0_4 1048576).bind fun t588 => (if t588 < 0 then (some true) else ((laws_toTrie.f k a0_0 l0_1 a0_2 l0_3 a0_4).bind fun bt589 => ((spec_LabelsAt.f k bt589.1 bt589.2.1 bt589.2.2.1 bt589.2.2.2.1 bt589.2.2.2.2 a1).bind fun bt598 => ((laws_toTrie.f k a0_0 l0_1 a0_2 l0_3 a0_4).bind fun bt600 => ((impl_LabelsAt.f k bt600.1 bt600.2.1 bt600.2.2.1 bt600.2.2.2.1 bt600.2.2.2.2 a1).bind fun bt610 => (if bt610.1.toList = bt598.1.toList then (laws_FnExactLabelsAt.j0 k (bt610.2 != bt598.2) a0_0 l0_1 a0_2 l0_3 a0_4 bt600.1 bt600.2.1 bt600.2.2.1 bt600.2.2.2.1 bt600.2.2.2.2) else (laws_FnExactLabelsAt.j0 k true a0_0 l0_1 a0_2 l0_3 a0_4 bt600.1 bt600.2.1 bt600.2.2.1 bt600.2.2.2.1 bt600.2.2.2.2)))))))) = some r := h; clear h; replace H := Option.bind_eq_some_iff.mp H; obtain ⟨t588, A30, H⟩ := H; (try dsimp -simprocs only at H); have A3 := am A30; clear A30
 by_cases c4 : t588 < 0
 ·rw [if_pos c4] at H
  have c4b0 : decide (t588 < 0) = true := decide_eq_true c4; clear c4; obtain rfl := Option.some.inj H
  go_enter Try.func5, Try.ntmps5
  go_wp2_with (first | ((with_reducible refine gate_dst (N := 2) rfl ?_); refine bE 2 #[.int .i64 a0_0, .slice A0_1 l0_1.length c0_1, .int .i64 a0_2, .slice A0_3 l0_3.length c0_3, .string a0_4] 26 ?_; intro gb587 hg w5 hbox hb; have n0_ := Bb HB hb; have n1_ := am (hbox); have n2_ := Gl HB hg; have n3_ := Gl HB hg; clear HB; revert n0_ n1_ n2_ n3_; intro HB BK587 GW587 GE587; clear hb hbox hg; obtain ⟨hcz6_0, hcz6_1, hcz6_2, hcz6_3, hcz6_4, hfz6_0, hfz6_1, hfz6_2, hfz6_3, hfz6_4⟩ := cf5 (w := w5) BK587) | ((with_reducible refine gate_callee (f := 12) rfl ?_); refine gL (some 13) Try.func12 #[.agg #[.int .i64 a0_0, .slice A0_1 l0_1.length c0_1, .int .i64 a0_2, .slice A0_3 l0_3.length c0_3, .string a0_4], .int .i64 1048576] ?_; (with_reducible refine (laws_szTrie.calls a0_0 _ _ l0_1 a0_2 _ _ l0_3 a0_4 1048576 t588 _ ?side1 ?side2 ?side3 ?side4 A3.out).mono ?_); (case side1 => exact Cz (Kd.C_below HR0_1.out HB.out)); (case side2 => exact HC0_1.out); (case side3 => exact Cz (Kd.C_below HR0_3.out HB.out)); (case side4 => exact HC0_3.out); rintro e w7 ⟨rfl, hb⟩; refine ⟨_, rfl, ?_⟩; have n0_ := Kb BK587 hb; have n1_ := Bc HB hb; clear BK587 HB; revert n0_ n1_; intro BK587 HB; (try clear hb); (try clear hb2); (try clear hk); (try clear hi)))
  go_ret
  exact ⟨eZ, Bq⟩
 ·rw [if_neg c4] at H
  have c4b0 : decide (t588 < 0) = false := decide_eq_false c4; clear c4; replace H := Option.bind_eq_some_iff.mp H; obtain ⟨⟨t589, t590, t593, t594, t597⟩, A80, H⟩ := H; (try dsimp -simprocs only at H); have A8 := am A80; clear A80; replace H := Option.bind_eq_some_iff.mp H; obtain ⟨⟨t598, t599⟩, A90, H⟩ := H; (try dsimp -simprocs only at H); have A9 := am A90; clear A90; replace H := Option.bind_eq_some_iff.mp H; obtain ⟨⟨t600, t601, t604, t605, t608⟩, A100, H⟩ := H; (try dsimp -simprocs only at H); have A10 := am A100; clear A100; replace H := Option.bind_eq_some_iff.mp H; obtain ⟨⟨t610, t611⟩, A110, H⟩ := H; (try dsimp -simprocs only at H); have A11 := am A110; clear A110; have HC12 := am H; clear H
  go_enter Try.func5, Try.ntmps5
  go_upto_region 8 with (first | ((with_reducible refine gate_dst (N := 2) rfl ?_); refine bE 2 #[.int .i64 a0_0, .slice A0_1 l0_1.length c0_1, .int .i64 a0_2, .slice A0_3 l0_3.length c0_3, .string a0_4] 26 ?_; intro gb587 hg w13 hbox hb; have n0_ := Bb HB hb; have n1_ := am (hbox); have n2_ := Gl HB hg; have n3_ := Gl HB hg; clear HB; revert n0_ n1_ n2_ n3_; intro HB BK587 GW587 GE587; clear hb hbox hg; obtain ⟨hcz14_0, hcz14_1, hcz14_2, hcz14_3, hcz14_4, hfz14_0, hfz14_1, hfz14_2, hfz14_3, hfz14_4⟩ := cf5 (w := w13) BK587) | ((with_reducible refine gate_callee (f := 12) rfl ?_); refine gL (some 13) Try.func12 #[.agg #[.int .i64 a0_0, .slice A0_1 l0_1.length c0_1, .int .i64 a0_2, .slice A0_3 l0_3.length c0_3, .string a0_4], .int .i64 1048576] ?_; (with_reducible refine (laws_szTrie.calls a0_0 _ _ l0_1 a0_2 _ _ l0_3 a0_4 1048576 t588 _ ?side1 ?side2 ?side3 ?side4 A3.out).mono ?_); (case side1 => exact Cz (Kd.C_below HR0_1.out HB.out)); (case side2 => exact HC0_1.out); (case side3 => exact Cz (Kd.C_below HR0_3.out HB.out)); (case side4 => exact HC0_3.out); rintro e w15 ⟨rfl, hb⟩; refine ⟨_, rfl, ?_⟩; have n0_ := Kb BK587 hb; have n1_ := Bc HB hb; clear BK587 HB; revert n0_ n1_; intro BK587 HB; (try clear hb); (try clear hb2); (try clear hk); (try clear hi); obtain ⟨hcz16_0, hcz16_1, hcz16_2, hcz16_3, hcz16_4, hfz16_0, hfz16_1, hfz16_2, hfz16_3, hfz16_4⟩ := cf5 (w := w15) BK587) | ((with_reducible refine gate_callee (f := 14) rfl ?_); refine gL (some 18) Try.func14 #[.agg #[.int .i64 a0_0, .slice A0_1 l0_1.length c0_1, .int .i64 a0_2, .slice A0_3 l0_3.length c0_3, .string a0_4]] ?_; (with_reducible refine (laws_toTrie.calls k a0_0 _ _ l0_1 a0_2 _ _ l0_3 a0_4 t589 t590 t593 t594 t597 _ ?side1 ?side2 ?side3 ?side4 A8.out).mono ?_); (case side1 => exact Cz (Kd.C_below HR0_1.out HB.out)); (case side2 => exact HC0_1.out); (case side3 => exact Cz (Kd.C_below HR0_3.out HB.out)); (case side4 => exact HC0_3.out); rintro e w17 ⟨v591, v595, rfl, ho0, ho1, hb⟩; refine ⟨_, rfl, ?_⟩; have n0_ := Rm ho0 HB; have n1_ := Rm ho1 HB; have n2_ := Kb BK587 hb; have n3_ := Bc HB hb; clear BK587 HB; revert n0_ n1_ n2_ n3_; intro HO592 HO596 BK587 HB; (try clear hb); (try clear hb2); (try clear hk); (try clear hi); (try clear ho0); (try clear ho1); obtain ⟨Ao18, co18, eo18⟩ := Kd.R_slice HO592.out; subst eo18; obtain ⟨Ao19, co19, eo19⟩ := Kd.R_slice HO596.out; subst eo19) | ((with_reducible refine gate_callee (f := 19) rfl ?_); refine gL (some 20) Try.func19 #[.agg #[.int .i64 t589, .slice Ao18 t590.length co18, .int .i64 t593, .slice Ao19 t594.length co19, .string t597], .int .i64 a1] ?_; (with_reducible refine (spec_LabelsAt.calls k t589 _ _ t590 t593 _ _ t594 t597 a1 t598 t599 _ ?side1 ?side2 ?side3 ?side4 A9.out).mono ?_); (case side1 => exact Cz ((Kd.R_reads' HO592.out).2.2)); (case side2 => exact (Kd.R_reads' HO592.out).2.1); (case side3 => exact Cz ((Kd.R_reads' HO596.out).2.2)); (case side4 => exact (Kd.R_reads' HO596.out).2.1); rintro e w20 ⟨rfl, hb⟩; refine ⟨_, rfl, ?_⟩; have n0_ := Rb HO592 hb; have n1_ := Rb HO596 hb; have n2_ := Kb BK587 hb; have n3_ := Bc HB hb; clear HO592 HO596 BK587 HB; revert n0_ n1_ n2_ n3_; intro HO592 HO596 BK587 HB; (try clear hb); (try clear hb2); (try clear hk); (try clear hi); obtain ⟨hcz21_0, hcz21_1, hcz21_2, hcz21_3, hcz21_4, hfz21_0, hfz21_1, hfz21_2, hfz21_3, hfz21_4⟩ := cf5 (w := w20) BK587) | ((with_reducible refine gate_callee (f := 14) rfl ?_); refine gL (some 24) Try.func14 #[.agg #[.int .i64 a0_0, .slice A0_1 l0_1.length c0_1, .int .i64 a0_2, .slice A0_3 l0_3.length c0_3, .string a0_4]] ?_; (with_reducible refine (laws_toTrie.calls k a0_0 _ _ l0_1 a0_2 _ _ l0_3 a0_4 t600 t601 t604 t605 t608 _ ?side1 ?side2 ?side3 ?side4 A10.out).mono ?_); (case side1 => exact Cz (Kd.C_below HR0_1.out HB.out)); (case side2 => exact HC0_1.out); (case side3 => exact Cz (Kd.C_below HR0_3.out HB.out)); (case side4 => exact HC0_3.out); rintro e w22 ⟨v602, v606, rfl, ho0, ho1, hb⟩; refine ⟨_, rfl, ?_⟩; have n0_ := am (Kd.R_mono (Kd.R_told (Kd.R_told (Kd.R_old (Rz HO592.out) hb) (Kd.R_base ho0)) (Kd.R_base ho1)) (fun _ h_ => h_.1)); have n1_ := am (Kd.R_mono (Kd.R_told (Kd.R_told (Kd.R_old (Rz HO596.out) hb) (Kd.R_base ho0)) (Kd.R_base ho1)) (fun _ h_ => h_.1)); have n2_ := Rm (Kd.R_new' (Kd.R_new' ho0 (Kd.R_lt (Rz HO592.out))) (Kd.R_lt (Rz HO596.out))) HB; have n3_ := Rm (Kd.R_new' (Kd.R_new' ho1 (Kd.R_lt (Rz HO592.out))) (Kd.R_lt (Rz HO596.out))) HB; have n4_ := Kb BK587 hb; have n5_ := Bc HB hb; clear HO592 HO596 BK587 HB; revert n0_ n1_ n2_ n3_ n4_ n5_; intro HO592 HO596 HO603 HO607 BK587 HB; (try clear hb); (try clear hb2); (try clear hk); (try clear hi); (try clear ho0); (try clear ho1)) | ((with_reducible refine gate_dst (N := 8) rfl ?_); refine bE 8 #[.int .i64 0, .slice none 0 0, .int .i64 0, .slice none 0 0, .string (⟨#[]⟩ : ByteArray)] 32 ?_; intro gb609 hg w23 hbox hb; have n0_ := Rb HO592 hb; have n1_ := Rb HO596 hb; have n2_ := Rb HO603 hb; have n3_ := Rb HO607 hb; have n4_ := Kb BK587 hb; have n5_ := Bc HB hb; have n6_ := am (hbox); have n7_ := Gm HB hg; have n8_ := Gm HB hg; have n9_ := Nl BK587 hg; have n10_ := Ng BK587 hg; clear HO592 HO596 HO603 HO607 BK587 HB; revert n0_ n1_ n2_ n3_ n4_ n5_ n6_ n7_ n8_ n9_ n10_; intro HO592 HO596 HO603 HO607 BK587 HB BK609 GW609 GE609 NB587_609 NB609_587; clear hb hbox hg; have hnb24 := NB609_587.out; have hnc24 := NB587_609.out; obtain ⟨hcz25_0, hcz25_1, hcz25_2, hcz25_3, hcz25_4, hfz25_0, hfz25_1, hfz25_2, hfz25_3, hfz25_4⟩ := cf5 (w := w23) BK609; obtain ⟨Ao26, co26, eo26⟩ := Kd.R_slice HO603.out; subst eo26; obtain ⟨Ao27, co27, eo27⟩ := Kd.R_slice HO607.out; subst eo27) | ((with_reducible refine gate_callee (f := 20) rfl ?_); refine gL (some 28) Try.func20 #[.agg #[.int .i64 t600, .slice Ao26 t601.length co26, .int .i64 t604, .slice Ao27 t605.length co27, .string t608], .int .i64 a1] ?_; (with_reducible refine (impl_LabelsAt.calls k t600 _ _ t601 t604 _ _ t605 t608 a1 t610 t611 _ ?side1 ?side2 ?side3 ?side4 A11.out).mono ?_); (case side1 => refine (Kd.R_reads' (e := 3) (base := w.heap.size) (ok := fun k_ => ((some k_ ≠ (.slice Ao27 t605.length co27 : Value).ownBlock ∧ some k_ ≠ (.slice Ao18 t590.length co18 : Value).ownBlock) ∧ some k_ ≠ (.slice Ao19 t594.length co19 : Value).ownBlock)) (n := t601.length) (c := co26) ?_).2.2; exact (Rz (Kd.R_mono (Kd.R_far (p := ⟨gb609, 4, none⟩) (Kd.R_far (p := ⟨gb609, 3, none⟩) (Kd.R_far (p := ⟨gb609, 2, none⟩) (Kd.R_far (p := ⟨gb609, 1, none⟩) (Kd.R_far (p := ⟨gb609, 0, none⟩) (Kd.R_types HO603.out BK609.out (by decide)) (fun _ hk => hk.2) (.int .i64 t600)) (fun _ hk => hk.2) (.slice Ao26 t601.length co26)) (fun _ hk => hk.2) (.int .i64 t604)) (fun _ hk => hk.2) (.slice Ao27 t605.length co27)) (fun _ hk => hk.2) (.string t608)) (fun _ h_ => h_.1)))); (case side2 => exact (Kd.R_reads' HO603.out).2.1); (case side3 => refine (Kd.R_reads' (e := 3) (base := w.heap.size) (ok := fun k_ => ((some k_ ≠ (.slice Ao26 t601.length co26 : Value).ownBlock ∧ some k_ ≠ (.slice Ao18 t590.length co18 : Value).ownBlock) ∧ some k_ ≠ (.slice Ao19 t594.length co19 : Value).ownBlock)) (n := t605.length) (c := co27) ?_).2.2; exact (Rz (Kd.R_mono (Kd.R_far (p := ⟨gb609, 4, none⟩) (Kd.R_far (p := ⟨gb609, 3, none⟩) (Kd.R_far (p := ⟨gb609, 2, none⟩) (Kd.R_far (p := ⟨gb609, 1, none⟩) (Kd.R_far (p := ⟨gb609, 0, none⟩) (Kd.R_types HO607.out BK609.out (by decide)) (fun _ hk => hk.2) (.int .i64 t600)) (fun _ hk => hk.2) (.slice Ao26 t601.length co26)) (fun _ hk => hk.2) (.int .i64 t604)) (fun _ hk => hk.2) (.slice Ao27 t605.length co27)) (fun _ hk => hk.2) (.string t608)) (fun _ h_ => h_.1)))); (case side4 => exact (Kd.R_reads' HO607.out).2.1); rintro e w28 ⟨rfl, hb⟩; refine ⟨_, rfl, ?_⟩; have n0_ := am (Kd.R_below (Rz (Kd.R_mono (Kd.R_far (p := ⟨gb609, 4, none⟩) (Kd.R_far (p := ⟨gb609, 3, none⟩) (Kd.R_far (p := ⟨gb609, 2, none⟩) (Kd.R_far (p := ⟨gb609, 1, none⟩) (Kd.R_far (p := ⟨gb609, 0, none⟩) (Kd.R_types HO592.out BK609.out (by decide)) (fun _ hk => hk.2) (.int .i64 t600)) (fun _ hk => hk.2) (.slice Ao26 t601.length co26)) (fun _ hk => hk.2) (.int .i64 t604)) (fun _ hk => hk.2) (.slice Ao27 t605.length co27)) (fun _ hk => hk.2) (.string t608)) (fun _ h_ => h_.1))) hb); have n1_ := am (Kd.R_below (Rz (Kd.R_mono (Kd.R_far (p := ⟨gb609, 4, none⟩) (Kd.R_far (p := ⟨gb609, 3, none⟩) (Kd.R_far (p := ⟨gb609, 2, none⟩) (Kd.R_far (p := ⟨gb609, 1, none⟩) (Kd.R_far (p := ⟨gb609, 0, none⟩) (Kd.R_types HO596.out BK609.out (by decide)) (fun _ hk => hk.2) (.int .i64 t600)) (fun _ hk => hk.2) (.slice Ao26 t601.length co26)) (fun _ hk => hk.2) (.int .i64 t604)) (fun _ hk => hk.2) (.slice Ao27 t605.length co27)) (fun _ hk => hk.2) (.string t608)) (fun _ h_ => h_.1))) hb); have n2_ := am (Kd.R_below (Rz (Kd.R_mono (Kd.R_far (p := ⟨gb609, 4, none⟩) (Kd.R_far (p := ⟨gb609, 3, none⟩) (Kd.R_far (p := ⟨gb609, 2, none⟩) (Kd.R_far (p := ⟨gb609, 1, none⟩) (Kd.R_far (p := ⟨gb609, 0, none⟩) (Kd.R_types HO603.out BK609.out (by decide)) (fun _ hk => hk.2) (.int .i64 t600)) (fun _ hk => hk.2) (.slice Ao26 t601.length co26)) (fun _ hk => hk.2) (.int .i64 t604)) (fun _ hk => hk.2) (.slice Ao27 t605.length co27)) (fun _ hk => hk.2) (.string t608)) (fun _ h_ => h_.1))) hb); have n3_ := am (Kd.R_below (Rz (Kd.R_mono (Kd.R_far (p := ⟨gb609, 4, none⟩) (Kd.R_far (p := ⟨gb609, 3, none⟩) (Kd.R_far (p := ⟨gb609, 2, none⟩) (Kd.R_far (p := ⟨gb609, 1, none⟩) (Kd.R_far (p := ⟨gb609, 0, none⟩) (Kd.R_types HO607.out BK609.out (by decide)) (fun _ hk => hk.2) (.int .i64 t600)) (fun _ hk => hk.2) (.slice Ao26 t601.length co26)) (fun _ hk => hk.2) (.int .i64 t604)) (fun _ hk => hk.2) (.slice Ao27 t605.length co27)) (fun _ hk => hk.2) (.string t608)) (fun _ h_ => h_.1))) hb); have n4_ := am (blk_below (g := gb587) (o := .cells #[.int .i64 a0_0, .slice A0_1 l0_1.length c0_1, .int .i64 a0_2, .slice A0_3 l0_3.length c0_3, .string a0_4] 26 (0, 0)) (by (with_reducible repeat (first | refine blk_drewN ?_ _ | refine blk_drew ?_ | refine blk_alloc ?_ _)); refine blk_far ?_ NB587_609.out _; (with_reducible repeat (first | refine blk_drewN ?_ _ | refine blk_drew ?_ | refine blk_alloc ?_ _)); refine blk_far ?_ NB587_609.out _; (with_reducible repeat (first | refine blk_drewN ?_ _ | refine blk_drew ?_ | refine blk_alloc ?_ _)); refine blk_far ?_ NB587_609.out _; (with_reducible repeat (first | refine blk_drewN ?_ _ | refine blk_drew ?_ | refine blk_alloc ?_ _)); refine blk_far ?_ NB587_609.out _; (with_reducible repeat (first | refine blk_drewN ?_ _ | refine blk_drew ?_ | refine blk_alloc ?_ _)); refine blk_far ?_ NB587_609.out _; exact Kz BK587.out) hb); have n5_ := am (blk_below (g := gb609) (o := .cells #[.int .i64 t600, .slice Ao26 t601.length co26, .int .i64 t604, .slice Ao27 t605.length co27, .string t608] 32 (0, 0)) (by (with_reducible repeat (first | refine blk_drewN ?_ _ | refine blk_drew ?_ | refine blk_alloc ?_ _)); refine blk_put (cs := #[.int .i64 t600, .slice Ao26 t601.length co26, .int .i64 t604, .slice Ao27 t605.length co27, .string (⟨#[]⟩ : ByteArray)]) ?_ 4 _ rfl; (with_reducible repeat (first | refine blk_drewN ?_ _ | refine blk_drew ?_ | refine blk_alloc ?_ _)); refine blk_put (cs := #[.int .i64 t600, .slice Ao26 t601.length co26, .int .i64 t604, .slice none 0 0, .string (⟨#[]⟩ : ByteArray)]) ?_ 3 _ rfl; (with_reducible repeat (first | refine blk_drewN ?_ _ | refine blk_drew ?_ | refine blk_alloc ?_ _)); refine blk_put (cs := #[.int .i64 t600, .slice Ao26 t601.length co26, .int .i64 0, .slice none 0 0, .string (⟨#[]⟩ : ByteArray)]) ?_ 2 _ rfl; (with_reducible repeat (first | refine blk_drewN ?_ _ | refine blk_drew ?_ | refine blk_alloc ?_ _)); refine blk_put (cs := #[.int .i64 t600, .slice none 0 0, .int .i64 0, .slice none 0 0, .string (⟨#[]⟩ : ByteArray)]) ?_ 1 _ rfl; (with_reducible repeat (first | refine blk_drewN ?_ _ | refine blk_drew ?_ | refine blk_alloc ?_ _)); refine blk_put (cs := #[.int .i64 0, .slice none 0 0, .int .i64 0, .slice none 0 0, .string (⟨#[]⟩ : ByteArray)]) ?_ 0 _ rfl; exact Kz BK609.out) hb); have n6_ := Bc HB hb; clear HO592 HO596 HO603 HO607 BK587 BK609 HB; revert n0_ n1_ n2_ n3_ n4_ n5_ n6_; intro HO592 HO596 HO603 HO607 BK587 BK609 HB; (try clear hb); (try clear hb2); (try clear hk); (try clear hi)))
  (try simp only [aP])
  go_cut [38] (fun v38 wc => ∃ (kq : Nat) (x38_11 : Bool), v38 = .bool x38_11 ∧ Aside0 (laws_FnExactLabelsAt.j0 kq x38_11 a0_0 l0_1 a0_2 l0_3 a0_4 t600 t601 t604 t605 t608 = some r) ∧ Aside0 (kq ≤ k) ∧ Aside0 (Kd.R (Kd.int .i64) 3 wc w.heap.size (fun k_ => some k_ ≠ ((.slice Ao27 t605.length co27) : Value).ownBlock) (.slice Ao26 t601.length co26) t601) ∧ Aside0 (Kd.R (Kd.int .i64) 3 wc w.heap.size (fun k_ => some k_ ≠ ((.slice Ao26 t601.length co26) : Value).ownBlock) (.slice Ao27 t605.length co27) t605) ∧ Aside0 (wc.heap[gb587]? = some (.cells #[.int .i64 a0_0, (.slice A0_1 l0_1.length c0_1), .int .i64 a0_2, (.slice A0_3 l0_3.length c0_3), .string a0_4] 26 (0, 0))) ∧ Aside0 (wc.heap[gb609]? = some (.cells #[.int .i64 t600, (.slice Ao26 t601.length co26), .int .i64 t604, (.slice Ao27 t605.length co27), .string t608] 32 (0, 0))) ∧ Aside0 (Below w.heap.size w wc))
  case first =>
   have H := HC12.out; clear HC12
   by_cases c29 : t610.toList = t598.toList
   ·rw [if_pos c29] at H
    have c29b0 : (t610.toList == t598.toList) = true := beq_iff_eq.mpr c29; have c29b1 : (t610.toList != t598.toList) = false := bne_eq_false_iff_eq.mpr c29; clear c29
    (first | rw [c29b0] | (simp only [i64_w, i32_w]; rw [c29b0]) | skip)
    have H' := am H; clear H
    go_wp2
    go_meet
    case rel => exact ⟨_, ((t611 != t599)), wZ, H', ⟨by first | omega | exact Nat.le_refl _⟩, ⟨Rz (Kd.R_mono HO603.out (fun _ hk => hk.1.1))⟩, ⟨Rz (Kd.R_mono HO607.out (fun _ hk => hk.1.1))⟩, ⟨Kz BK587.out⟩, ⟨Kz BK609.out⟩, ⟨Bq⟩⟩
   ·rw [if_neg c29] at H
    have c29b0 : (t610.toList == t598.toList) = false := beq_eq_false_iff_ne.mpr c29; have c29b1 : (t610.toList != t598.toList) = true := bne_iff_ne.mpr c29
    (first | rw [c29b0] | (simp only [i64_w, i32_w]; rw [c29b0]) | skip)
    have H' := am H; clear H
    go_wp2
    go_meet
    case rel => exact ⟨_, (true), wZ, H', ⟨by first | omega | exact Nat.le_refl _⟩, ⟨Rz (Kd.R_mono HO603.out (fun _ hk => hk.1.1))⟩, ⟨Rz (Kd.R_mono HO607.out (fun _ hk => hk.1.1))⟩, ⟨Kz BK587.out⟩, ⟨Kz BK609.out⟩, ⟨Bq⟩⟩
  case rest =>
   clear HC12
   try clear c1
   try clear c2
   try clear p2
   try clear c4
   try clear c4b0
   try clear c5
   try clear c12
   try clear c14
   try clear c19
   try clear c20
   try clear c24
   try clear c29
   try clear c29b0
   try clear c29b1
   try clear hcz14_0
   try clear hcz14_1
   try clear hcz14_2
   try clear hcz14_3
   try clear hcz14_4
   try clear hcz16_0
   try clear hcz16_1
   try clear hcz16_2
   try clear hcz16_3
   try clear hcz16_4
   try clear hcz21_0
   try clear hcz21_1
   try clear hcz21_2
   try clear hcz21_3
   try clear hcz21_4
   try clear hcz25_0
   try clear hcz25_1
   try clear hcz25_2
   try clear hcz25_3
   try clear hcz25_4
   try clear hcz6_0
   try clear hcz6_1
   try clear hcz6_2
   try clear hcz6_3
   try clear hcz6_4
   try clear hfz14_0
   try clear hfz14_1
   try clear hfz14_2
   try clear hfz14_3
   try clear hfz14_4
   try clear hfz16_0
   try clear hfz16_1
   try clear hfz16_2
   try clear hfz16_3
   try clear hfz16_4
   try clear hfz21_0
   try clear hfz21_1
   try clear hfz21_2
   try clear hfz21_3
   try clear hfz21_4
   try clear hfz25_0
   try clear hfz25_1
   try clear hfz25_2
   try clear hfz25_3
   try clear hfz25_4
   try clear hfz6_0
   try clear hfz6_1
   try clear hfz6_2
   try clear hfz6_3
   try clear hfz6_4
   obtain ⟨kq, x38_11, rfl, HA, HJ11, HO_610001, HO_610003, BK587, BK609, HB⟩ := hcut; cases kq with
   | zero => exact absurd HA.out (by simp [laws_FnExactLabelsAt.j0])
   | succ kj11 =>
    have H := HA.out; clear HA
    simp only [laws_FnExactLabelsAt.j0] at H
    by_cases c30 : x38_11 = true
    ·subst c30
     rw [if_pos rfl] at H; obtain rfl := Option.some.inj H
     go_wp2
     go_ret
     exact ⟨eZ, Bq⟩
    ·replace c30 := Bool.eq_false_iff.mpr c30
     subst c30
     rw [if_neg (show ¬ (false = true) by decide)] at H; replace H := Option.bind_eq_some_iff.mp H; obtain ⟨⟨t612, t613, t616, t617, t620⟩, A310, H⟩ := H; (try dsimp -simprocs only at H); have A31 := am A310; clear A310; replace H := Option.bind_eq_some_iff.mp H; obtain ⟨t621, A320, H⟩ := H; (try dsimp -simprocs only at H); have A32 := am A320; clear A320
     by_cases c33 : t621 = true
     ·subst c33
      rw [if_pos rfl] at H; obtain rfl := Option.some.inj H
      try go_wp2
      have n0_ := am (Kd.R_drew HO_610001.out); have n1_ := am (Kd.R_drew HO_610003.out); have n2_ := am (blk_drew BK587.out); have n3_ := am (blk_drew BK609.out); have n4_ := am (below_drew1 HB.out); clear HO_610001 HO_610003 BK587 BK609 HB; revert n0_ n1_ n2_ n3_ n4_; intro HO_610001 HO_610003 BK587 BK609 HB; refine start_ (n := 5) (S := fun w' => w'.cell? ⟨gb609, 0, none⟩ = some (.int .i64 t600) ∧ w'.cell? ⟨gb609, 1, none⟩ = some (.slice Ao26 t601.length co26) ∧ w'.cell? ⟨gb609, 2, none⟩ = some (.int .i64 t604) ∧ w'.cell? ⟨gb609, 3, none⟩ = some (.slice Ao27 t605.length co27) ∧ w'.cell? ⟨gb609, 4, none⟩ = some (.string t608) ∧ w'.cell? ⟨gb587, 0, none⟩ = some (.int .i64 a0_0) ∧ w'.cell? ⟨gb587, 1, none⟩ = some (.slice A0_1 l0_1.length c0_1) ∧ w'.cell? ⟨gb587, 2, none⟩ = some (.int .i64 a0_2) ∧ w'.cell? ⟨gb587, 3, none⟩ = some (.slice A0_3 l0_3.length c0_3) ∧ w'.cell? ⟨gb587, 4, none⟩ = some (.string a0_4)) (ds := []) (bA 5 0) (by kernel_rfl) rfl rfl ⟨cz BK609 0, cz BK609 1, cz BK609 2, cz BK609 3, cz BK609 4, cz BK587 0, cz BK587 1, cz BK587 2, cz BK587 3, cz BK587 4⟩ (fun hHeld => ?_); generalize wc.drew = w34 at HO_610001 HO_610003 BK587 BK609 HB hHeld ⊢; refine take_ (i := 0) (N := some 39) (v := ?_) (a' := ?_) (bA 5 1) rfl rfl (by kernel_rfl) (fun _ _ _ h => h) (Or.inl ⟨by rfl, ?_⟩) hHeld ?_ ?_
      rotate_left
      ·rintro w' ⟨s0, s1, s2, s3, s4, s5, s6, s7, s8, s9⟩
       go_simp
       with_reducible rfl
      rotate_left
      ·simp only [aP, i64_w, i32_w]
       rfl
      refine take_ (i := 1) (N := some 40) (v := ?_) (a' := ?_) (bA 5 3) rfl rfl (by kernel_rfl) (fun _ _ _ h => h) (Or.inl ⟨by rfl, ?_⟩) hHeld ?_ ?_
      rotate_left
      ·rintro w' ⟨s0, s1, s2, s3, s4, s5, s6, s7, s8, s9⟩
       go_simp
       with_reducible rfl
      rotate_left
      ·simp only [aP, i64_w, i32_w]
       rfl
      refine one_ (i := 2) (N := some 41) (bA 5 7) rfl rfl (by kernel_rfl) (by decide) (fun K hK => ?_); refine gZ Try.func14 #[.agg #[.int .i64 a0_0, .slice A0_1 l0_1.length c0_1, .int .i64 a0_2, .slice A0_3 l0_3.length c0_3, .string a0_4]] ?_
      with_reducible refine (laws_toTrie.calls kj11 a0_0 _ _ l0_1 a0_2 _ _ l0_3 a0_4 t612 t613 t616 t617 t620 _ ?side1 ?side2 ?side3 ?side4 A31.out).mono ?_
      (case side1 => exact Cz (Kd.C_below HR0_1.out HB.out))
      (case side2 => exact HC0_1.out)
      (case side3 => exact Cz (Kd.C_below HR0_3.out HB.out))
      (case side4 => exact HC0_3.out)
      rintro e w35 ⟨v614, v618, rfl, ho0, ho1, hb⟩; refine ⟨_, rfl, ?_⟩; have n0_ := am (Kd.R_mono (Kd.R_told (Kd.R_told (Kd.R_old (Rz HO_610001.out) hb) (Kd.R_base ho0)) (Kd.R_base ho1)) (fun _ h_ => h_.1)); have n1_ := am (Kd.R_mono (Kd.R_told (Kd.R_told (Kd.R_old (Rz HO_610003.out) hb) (Kd.R_base ho0)) (Kd.R_base ho1)) (fun _ h_ => h_.1)); have n2_ := Rm (Kd.R_new' (Kd.R_new' ho0 (Kd.R_lt (Rz HO_610001.out))) (Kd.R_lt (Rz HO_610003.out))) HB; have n3_ := Rm (Kd.R_new' (Kd.R_new' ho1 (Kd.R_lt (Rz HO_610001.out))) (Kd.R_lt (Rz HO_610003.out))) HB; have n4_ := Kb BK587 hb; have n5_ := Kb BK609 hb; have n6_ := Bc HB hb; clear HO_610001 HO_610003 BK587 BK609 HB; revert n0_ n1_ n2_ n3_ n4_ n5_ n6_; intro HO_610001 HO_610003 HO615 HO619 BK587 BK609 HB
      (try clear hb)
      (try clear hb2)
      (try clear hk)
      (try clear hi)
      (try clear ho0)
      (try clear ho1)
      obtain ⟨Ao36, co36, eo36⟩ := Kd.R_slice HO615.out
      (first | subst eo36 | (injection eo36 with f1_ f2_ f3_; have f4_ := f1_.symm; have f5_ := f3_.symm; clear f1_ f2_ f3_; subst f4_; subst f5_))
      obtain ⟨Ao37, co37, eo37⟩ := Kd.R_slice HO619.out
      (first | subst eo37 | (injection eo37 with f1_ f2_ f3_; have f4_ := f1_.symm; have f5_ := f3_.symm; clear f1_ f2_ f3_; subst f4_; subst f5_))
      refine hK.out _ _ ⟨cz BK609 0, cz BK609 1, cz BK609 2, cz BK609 3, cz BK609 4, cz BK587 0, cz BK587 1, cz BK587 2, cz BK587 3, cz BK587 4⟩ (fun hHeld => ?_); clear hK K; refine norm_ (a' := ?_) ?_ ?_; rotate_left; show Act.put _ (some 41) _ = _; simp only [aP, i64_w, i32_w]; rfl; refine one_ (i := 3) (N := some 42) (bA 5 15) rfl rfl (by kernel_rfl) (by decide) (fun K hK => ?_); refine gZ Try.func16 #[.agg #[.int .i64 t600, .slice Ao26 t601.length co26, .int .i64 t604, .slice Ao27 t605.length co27, .string t608], .agg #[.int .i64 t612, .slice Ao36 t613.length co36, .int .i64 t616, .slice Ao37 t617.length co37, .string t620]] ?_
      with_reducible refine (laws_eqTrie.calls kj11 t600 _ _ t601 t604 _ _ t605 t608 t612 _ _ t613 t616 _ _ t617 t620 true _ ?side1 ?side2 ?side3 ?side4 ?side5 ?side6 ?side7 ?side8 A32.out).mono ?_
      (case side1 => exact Cz ((Kd.R_reads' HO_610001.out).2.2))
      (case side2 => exact (Kd.R_reads' HO_610001.out).2.1)
      (case side3 => exact Cz ((Kd.R_reads' HO_610003.out).2.2))
      (case side4 => exact (Kd.R_reads' HO_610003.out).2.1)
      (case side5 => exact Cz ((Kd.R_reads' HO615.out).2.2))
      (case side6 => exact (Kd.R_reads' HO615.out).2.1)
      (case side7 => exact Cz ((Kd.R_reads' HO619.out).2.2))
      (case side8 => exact (Kd.R_reads' HO619.out).2.1)
      rintro e w38 ⟨rfl, hb⟩; refine ⟨_, rfl, ?_⟩; have n0_ := Rb HO_610001 hb; have n1_ := Rb HO_610003 hb; have n2_ := Rb HO615 hb; have n3_ := Rb HO619 hb; have n4_ := Kb BK587 hb; have n5_ := Kb BK609 hb; have n6_ := Bc HB hb; clear HO_610001 HO_610003 HO615 HO619 BK587 BK609 HB; revert n0_ n1_ n2_ n3_ n4_ n5_ n6_; intro HO_610001 HO_610003 HO615 HO619 BK587 BK609 HB
      (try clear hb)
      (try clear hb2)
      (try clear hk)
      (try clear hi)
      refine hK.out _ _ ⟨cz BK609 0, cz BK609 1, cz BK609 2, cz BK609 3, cz BK609 4, cz BK587 0, cz BK587 1, cz BK587 2, cz BK587 3, cz BK587 4⟩ (fun hHeld => ?_); clear hK K; refine norm_ (a' := ?_) ?_ ?_; rotate_left; show Act.put _ (some 42) _ = _; simp only [aP, i64_w, i32_w]; rfl; refine pure_ (i := 4) (N := some 43) (v := ?_) (a' := ?_) (bA 5 31) rfl rfl (by kernel_rfl) (fun _ _ _ h => h) (Or.inl ⟨by rfl, ?_⟩) ?_ ?_
      rotate_left
      ·intro w'
       go_simp
       with_reducible rfl
      rotate_left
      ·simp only [aP, i64_w, i32_w]
       rfl
      refine done_ (by kernel_rfl) ?_
      try go_wp2
      go_ret
      exact ⟨eZ, Bq⟩
     ·replace c33 := Bool.eq_false_iff.mpr c33
      subst c33
      rw [if_neg (show ¬ (false = true) by decide)] at H; obtain rfl := Option.some.inj H
      try go_wp2
      have n0_ := am (Kd.R_drew HO_610001.out); have n1_ := am (Kd.R_drew HO_610003.out); have n2_ := am (blk_drew BK587.out); have n3_ := am (blk_drew BK609.out); have n4_ := am (below_drew1 HB.out); clear HO_610001 HO_610003 BK587 BK609 HB; revert n0_ n1_ n2_ n3_ n4_; intro HO_610001 HO_610003 BK587 BK609 HB; refine start_ (n := 5) (S := fun w' => w'.cell? ⟨gb609, 0, none⟩ = some (.int .i64 t600) ∧ w'.cell? ⟨gb609, 1, none⟩ = some (.slice Ao26 t601.length co26) ∧ w'.cell? ⟨gb609, 2, none⟩ = some (.int .i64 t604) ∧ w'.cell? ⟨gb609, 3, none⟩ = some (.slice Ao27 t605.length co27) ∧ w'.cell? ⟨gb609, 4, none⟩ = some (.string t608) ∧ w'.cell? ⟨gb587, 0, none⟩ = some (.int .i64 a0_0) ∧ w'.cell? ⟨gb587, 1, none⟩ = some (.slice A0_1 l0_1.length c0_1) ∧ w'.cell? ⟨gb587, 2, none⟩ = some (.int .i64 a0_2) ∧ w'.cell? ⟨gb587, 3, none⟩ = some (.slice A0_3 l0_3.length c0_3) ∧ w'.cell? ⟨gb587, 4, none⟩ = some (.string a0_4)) (ds := []) (bA 5 0) (by kernel_rfl) rfl rfl ⟨cz BK609 0, cz BK609 1, cz BK609 2, cz BK609 3, cz BK609 4, cz BK587 0, cz BK587 1, cz BK587 2, cz BK587 3, cz BK587 4⟩ (fun hHeld => ?_); generalize wc.drew = w39 at HO_610001 HO_610003 BK587 BK609 HB hHeld ⊢; refine take_ (i := 0) (N := some 39) (v := ?_) (a' := ?_) (bA 5 1) rfl rfl (by kernel_rfl) (fun _ _ _ h => h) (Or.inl ⟨by rfl, ?_⟩) hHeld ?_ ?_
      rotate_left
      ·rintro w' ⟨s0, s1, s2, s3, s4, s5, s6, s7, s8, s9⟩
       go_simp
       with_reducible rfl
      rotate_left
      ·simp only [aP, i64_w, i32_w]
       rfl
      refine take_ (i := 1) (N := some 40) (v := ?_) (a' := ?_) (bA 5 3) rfl rfl (by kernel_rfl) (fun _ _ _ h => h) (Or.inl ⟨by rfl, ?_⟩) hHeld ?_ ?_
      rotate_left
      ·rintro w' ⟨s0, s1, s2, s3, s4, s5, s6, s7, s8, s9⟩
       go_simp
       with_reducible rfl
      rotate_left
      ·simp only [aP, i64_w, i32_w]
       rfl
      refine one_ (i := 2) (N := some 41) (bA 5 7) rfl rfl (by kernel_rfl) (by decide) (fun K hK => ?_); refine gZ Try.func14 #[.agg #[.int .i64 a0_0, .slice A0_1 l0_1.length c0_1, .int .i64 a0_2, .slice A0_3 l0_3.length c0_3, .string a0_4]] ?_
      with_reducible refine (laws_toTrie.calls kj11 a0_0 _ _ l0_1 a0_2 _ _ l0_3 a0_4 t612 t613 t616 t617 t620 _ ?side1 ?side2 ?side3 ?side4 A31.out).mono ?_
      (case side1 => exact Cz (Kd.C_below HR0_1.out HB.out))
      (case side2 => exact HC0_1.out)
      (case side3 => exact Cz (Kd.C_below HR0_3.out HB.out))
      (case side4 => exact HC0_3.out)
      rintro e w40 ⟨v614, v618, rfl, ho0, ho1, hb⟩; refine ⟨_, rfl, ?_⟩; have n0_ := am (Kd.R_mono (Kd.R_told (Kd.R_told (Kd.R_old (Rz HO_610001.out) hb) (Kd.R_base ho0)) (Kd.R_base ho1)) (fun _ h_ => h_.1)); have n1_ := am (Kd.R_mono (Kd.R_told (Kd.R_told (Kd.R_old (Rz HO_610003.out) hb) (Kd.R_base ho0)) (Kd.R_base ho1)) (fun _ h_ => h_.1)); have n2_ := Rm (Kd.R_new' (Kd.R_new' ho0 (Kd.R_lt (Rz HO_610001.out))) (Kd.R_lt (Rz HO_610003.out))) HB; have n3_ := Rm (Kd.R_new' (Kd.R_new' ho1 (Kd.R_lt (Rz HO_610001.out))) (Kd.R_lt (Rz HO_610003.out))) HB; have n4_ := Kb BK587 hb; have n5_ := Kb BK609 hb; have n6_ := Bc HB hb; clear HO_610001 HO_610003 BK587 BK609 HB; revert n0_ n1_ n2_ n3_ n4_ n5_ n6_; intro HO_610001 HO_610003 HO615 HO619 BK587 BK609 HB
      (try clear hb)
      (try clear hb2)
      (try clear hk)
      (try clear hi)
      (try clear ho0)
      (try clear ho1)
      obtain ⟨Ao41, co41, eo41⟩ := Kd.R_slice HO615.out
      (first | subst eo41 | (injection eo41 with f1_ f2_ f3_; have f4_ := f1_.symm; have f5_ := f3_.symm; clear f1_ f2_ f3_; subst f4_; subst f5_))
      obtain ⟨Ao42, co42, eo42⟩ := Kd.R_slice HO619.out
      (first | subst eo42 | (injection eo42 with f1_ f2_ f3_; have f4_ := f1_.symm; have f5_ := f3_.symm; clear f1_ f2_ f3_; subst f4_; subst f5_))
      refine hK.out _ _ ⟨cz BK609 0, cz BK609 1, cz BK609 2, cz BK609 3, cz BK609 4, cz BK587 0, cz BK587 1, cz BK587 2, cz BK587 3, cz BK587 4⟩ (fun hHeld => ?_); clear hK K; refine norm_ (a' := ?_) ?_ ?_; rotate_left; show Act.put _ (some 41) _ = _; simp only [aP, i64_w, i32_w]; rfl; refine one_ (i := 3) (N := some 42) (bA 5 15) rfl rfl (by kernel_rfl) (by decide) (fun K hK => ?_); refine gZ Try.func16 #[.agg #[.int .i64 t600, .slice Ao26 t601.length co26, .int .i64 t604, .slice Ao27 t605.length co27, .string t608], .agg #[.int .i64 t612, .slice Ao41 t613.length co41, .int .i64 t616, .slice Ao42 t617.length co42, .string t620]] ?_
      with_reducible refine (laws_eqTrie.calls kj11 t600 _ _ t601 t604 _ _ t605 t608 t612 _ _ t613 t616 _ _ t617 t620 false _ ?side1 ?side2 ?side3 ?side4 ?side5 ?side6 ?side7 ?side8 A32.out).mono ?_
      (case side1 => exact Cz ((Kd.R_reads' HO_610001.out).2.2))
      (case side2 => exact (Kd.R_reads' HO_610001.out).2.1)
      (case side3 => exact Cz ((Kd.R_reads' HO_610003.out).2.2))
      (case side4 => exact (Kd.R_reads' HO_610003.out).2.1)
      (case side5 => exact Cz ((Kd.R_reads' HO615.out).2.2))
      (case side6 => exact (Kd.R_reads' HO615.out).2.1)
      (case side7 => exact Cz ((Kd.R_reads' HO619.out).2.2))
      (case side8 => exact (Kd.R_reads' HO619.out).2.1)
      rintro e w43 ⟨rfl, hb⟩; refine ⟨_, rfl, ?_⟩; have n0_ := Rb HO_610001 hb; have n1_ := Rb HO_610003 hb; have n2_ := Rb HO615 hb; have n3_ := Rb HO619 hb; have n4_ := Kb BK587 hb; have n5_ := Kb BK609 hb; have n6_ := Bc HB hb; clear HO_610001 HO_610003 HO615 HO619 BK587 BK609 HB; revert n0_ n1_ n2_ n3_ n4_ n5_ n6_; intro HO_610001 HO_610003 HO615 HO619 BK587 BK609 HB
      (try clear hb)
      (try clear hb2)
      (try clear hk)
      (try clear hi)
      refine hK.out _ _ ⟨cz BK609 0, cz BK609 1, cz BK609 2, cz BK609 3, cz BK609 4, cz BK587 0, cz BK587 1, cz BK587 2, cz BK587 3, cz BK587 4⟩ (fun hHeld => ?_); clear hK K; refine norm_ (a' := ?_) ?_ ?_; rotate_left; show Act.put _ (some 42) _ = _; simp only [aP, i64_w, i32_w]; rfl; refine pure_ (i := 4) (N := some 43) (v := ?_) (a' := ?_) (bA 5 31) rfl rfl (by kernel_rfl) (fun _ _ _ h => h) (Or.inl ⟨by rfl, ?_⟩) ?_ ?_
      rotate_left
      ·intro w'
       go_simp
       with_reducible rfl
      rotate_left
      ·simp only [aP, i64_w, i32_w]
       rfl
      refine done_ (by kernel_rfl) ?_
      try go_wp2
      go_ret
      exact ⟨eZ, Bq⟩

def laws_FnExactLabelsAt.Pure : Prop := ∀ (a0_0 : Int) (l0_1 : List Int) (a0_2 : Int) (l0_3 : List Int) (a0_4 : ByteArray) (a1 : Int), (Lit.int .i64 a0_0).wf = true → l0_1.length ≤ maxLen → (∀ x ∈ l0_1, (Lit.int .i64 x).wf = true) → (Lit.int .i64 a0_2).wf = true → l0_3.length ≤ maxLen → (∀ x ∈ l0_3, (Lit.int .i64 x).wf = true) → a0_4.size ≤ maxLen → (Lit.int .i64 a1).wf = true → ∃ k, laws_FnExactLabelsAt.f k a0_0 l0_1 a0_2 l0_3 a0_4 a1 = some true
theorem laws_FnExactLabelsAt.walk (P : laws_FnExactLabelsAt.Pure) (a0_0 : Int) (A0_1 : Option Addr) (c0_1 : Nat) (l0_1 : List Int) (a0_2 : Int) (A0_3 : Option Addr) (c0_3 : Nat) (l0_3 : List Int) (a0_4 : ByteArray) (a1 : Int) (w : World) (hw0_0 : (Lit.int .i64 a0_0).wf = true) (hr0_1 : Kd.C (Kd.int .i64) w A0_1 l0_1.length l0_1) (hc0_1 : l0_1.length ≤ c0_1) (hm0_1 : l0_1.length ≤ maxLen) (hw0_1 : ∀ x ∈ l0_1, (Lit.int .i64 x).wf = true) (hw0_2 : (Lit.int .i64 a0_2).wf = true) (hr0_3 : Kd.C (Kd.int .i64) w A0_3 l0_3.length l0_3) (hc0_3 : l0_3.length ≤ c0_3) (hm0_3 : l0_3.length ≤ maxLen) (hw0_3 : ∀ x ∈ l0_3, (Lit.int .i64 x).wf = true) (hw0_4 : a0_4.size ≤ maxLen) (hw1 : (Lit.int .i64 a1).wf = true) :
  Calls Try.prog 5 #[.agg #[.int .i64 a0_0, .slice A0_1 l0_1.length c0_1, .int .i64 a0_2, .slice A0_3 l0_3.length c0_3, .string a0_4], .int .i64 a1] w fun e w' => e = .returned (.bool true) ∧ Below w.heap.size w w' := by
 obtain ⟨k, h⟩ := P a0_0 l0_1 a0_2 l0_3 a0_4 a1 hw0_0 hm0_1 hw0_1 hw0_2 hm0_3 hw0_3 hw0_4 hw1; refine (laws_FnExactLabelsAt.calls k a0_0 A0_1 c0_1 l0_1 a0_2 A0_3 c0_3 l0_3 a0_4 a1 true w hr0_1 hc0_1 hr0_3 hc0_3 h).mono ?_; rintro e w' ⟨rfl, hd⟩; exact ⟨rfl, hd⟩

end Go.Proofs.Ytalfkfddpamnjaa.PA
-- printed by a program of this session (wip/gp) out of the translation; Lean checks it
namespace Go.Proofs.Ytalfkfddpamnjaa.PA
open Go.RowKit Go.Proofs.YtalfkfddpamnjaaW.PrintWords Go.Proofs.YtalfkfddpamnjaaW.PrintLast Go.Proofs.YtalfkfddpamnjaaW.PrintMore Go.Proofs.YtalfkfddpamnjaaSq
attribute [local go_sem] max2_int min2_int max_two min_two max_three min_three max_four min_four   -- for this text's walks alone
attribute [local go_sem] Go.Proofs.YtalfkfddpamnjaaGp.str_geq Go.Proofs.YtalfkfddpamnjaaGp.str_gtr Go.Proofs.YtalfkfddpamnjaaGp.str_leq
set_option linter.unusedVariables false
set_option linter.unusedSimpArgs false

set_option maxHeartbeats 8000000
set_option maxRecDepth 100000
def impl_Trie_keys.f (k : Nat) (a0_0 : Int) (l0_1 : List Int) (a0_2 : Int) (l0_3 : List Int) (a0_4 : ByteArray) : Option (List ByteArray × Bool) := (impl_Trie_nodes.f k a0_0 l0_1 a0_2 l0_3 a0_4).bind fun t428 => (if (t428.length : Int) = 0 then (some (([] : List ByteArray), false)) else ((impl_Trie_ends.f k a0_0 l0_1 a0_2 l0_3 a0_4 t428).bind fun t431 => (some (t431, true))))
theorem impl_Trie_keys.mono : ∀ a0 a1 a2 a3 a4 k, LeO (impl_Trie_keys.f k a0 a1 a2 a3 a4) (impl_Trie_keys.f (k + 1) a0 a1 a2 a3 a4) := by
 intro a0 a1 a2 a3 a4 k
 unfold impl_Trie_keys.f
 repeat' first | (with_reducible first | exact impl_Trie_ends.mono _ _ _ _ _ _ _ | exact impl_Trie_nodes.mono _ _ _ _ _ _ | exact LeO.refl _ | exact LeO.none _ | refine LeO.ite ?_ ?_ | refine LeO.bind ?_ (fun _ => ?_)) | exact LeO.none _ | refine LeO.ite ?_ ?_ | refine LeO.bind ?_ (fun _ => ?_)
theorem impl_Trie_keys.calls (k : Nat) (g0 : Nat) (a0_0 : Int) (A0_1 : Option Addr) (c0_1 : Nat) (l0_1 : List Int) (a0_2 : Int) (A0_3 : Option Addr) (c0_3 : Nat) (l0_3 : List Int) (a0_4 : ByteArray) (r1 : List ByteArray) (r2 : Bool) (w : World) (hb0 : w.heap[g0]? = some (.cells #[.int .i64 a0_0, .slice A0_1 l0_1.length c0_1, .int .i64 a0_2, .slice A0_3 l0_3.length c0_3, .string a0_4] 32 (0, 0))) (hr0_1 : Kd.C (Kd.int .i64) w A0_1 l0_1.length l0_1) (hc0_1 : l0_1.length ≤ c0_1) (hr0_3 : Kd.C (Kd.int .i64) w A0_3 l0_3.length l0_3) (hc0_3 : l0_3.length ≤ c0_3) (h : impl_Trie_keys.f k a0_0 l0_1 a0_2 l0_3 a0_4 = some (r1, r2)) :
  Calls Try.prog 43 #[.pointer (some ⟨g0, 0, none⟩)] w fun e w' => ∃ v0_ : Value, e = .returned (.tuple #[v0_, .bool r2]) ∧ Kd.R Kd.string 9 w' w.heap.size (fun _ => True) v0_ r1 ∧ Below w.heap.size w w' := by
 have HR0_1 := am hr0_1; have HC0_1 := am hc0_1; clear hr0_1 hc0_1; have HR0_3 := am hr0_3; have HC0_3 := am hc0_3; clear hr0_3 hc0_3; have BK0 := am hb0; clear hb0; have HB := am (Below.refl w.heap.size w); have H : ((impl_Trie_nodes.f k a0_0 l0_1 a0_2 l0_3 a0_4).bind fun t428 => (if (t428.length : Int) = 0 then (some (([] : List ByteArray), false)) else ((impl_Trie_ends.f k a0_0 l0_1 a0_2 l0_3 a0_4 t428).bind fun t431 => (some (t431, true))))) = some (r1, r2) := h; clear h; replace H := Option.bind_eq_some_iff.mp H; obtain ⟨t428, A20, H⟩ := H; (try dsimp -simprocs only at H); have A2 := am A20; clear A20
 by_cases c3 : (t428.length : Int) = 0
 ·rw [if_pos c3] at H
  have c3b0 : ((t428.length : Int) == 0) = true := beq_iff_eq.mpr c3; have c3b1 : ((t428.length : Int) != 0) = false := bne_eq_false_iff_eq.mpr c3; clear c3
  simp only [Option.some.injEq, Prod.mk.injEq] at H
  obtain ⟨rfl, rfl⟩ := H
  go_enter Try.func43, Try.ntmps43
  go_wp2_with (first | ((with_reducible refine gate_callee (f := 48) rfl ?_); refine gL (some 6) Try.func48 #[.pointer (some ⟨g0, 0, none⟩)] ?_; (with_reducible refine (impl_Trie_nodes.calls k g0 a0_0 A0_1 c0_1 l0_1 a0_2 A0_3 c0_3 l0_3 a0_4 t428 _ ?side1 ?side2 ?side3 ?side4 ?side5 A2.out).mono ?_); (case side1 => exact Kz BK0.out); (case side2 => exact Cz HR0_1.out); (case side3 => exact HC0_1.out); (case side4 => exact Cz HR0_3.out); (case side5 => exact HC0_3.out); rintro e w4 ⟨⟨v429, rfl, ho0, hb⟩, hnil_v429⟩; refine ⟨_, rfl, ?_⟩; have n0_ := Rm ho0 HB; have n1_ := Kb BK0 hb; have n2_ := Bc HB hb; clear BK0 HB; revert n0_ n1_ n2_; intro HO430 BK0 HB; (try clear hb); (try clear hb2); (try clear hk); (try clear hi); (try clear ho0); have eno5 : (v429 : Value) = .slice none 0 0 := Ending.returned.inj (hnil_v429 (List.length_eq_zero_iff.1 (by have h_ : ((t428.length : Int) : Int) = 0 := eq_of_beq (by first | (with_reducible assumption) | assumption); omega))); subst eno5; have qo5 : ∀ (w_ : World) (n_ c_ : Nat), (binOp .eql 38 (.slice none n_ c_) (.slice none 0 0)).run Try.prog w_ = .ok (.bool true) w_ := fun w_ _ _ => (Go.Proofs.YtalfkfddpamnjaaGp.run_eql_nil_ w_ 38 _ _ _ _ Try.underlying38).trans rfl))
  go_ret2
  exact ⟨_, eZ, nZ, Bq⟩
 ·rw [if_neg c3] at H
  have c3b0 : ((t428.length : Int) == 0) = false := beq_eq_false_iff_ne.mpr c3; have c3b1 : ((t428.length : Int) != 0) = true := bne_iff_ne.mpr c3
  have c3b2 : ¬ (t428 = []) := fun h_ => c3 (by rw [h_]; rfl)
  replace H := Option.bind_eq_some_iff.mp H; obtain ⟨t431, A60, H⟩ := H; (try dsimp -simprocs only at H); have A6 := am A60; clear A60
  simp only [Option.some.injEq, Prod.mk.injEq] at H
  obtain ⟨rfl, rfl⟩ := H
  go_enter Try.func43, Try.ntmps43
  go_wp2_with (first | ((with_reducible refine gate_callee (f := 48) rfl ?_); refine gL (some 6) Try.func48 #[.pointer (some ⟨g0, 0, none⟩)] ?_; (with_reducible refine (impl_Trie_nodes.calls k g0 a0_0 A0_1 c0_1 l0_1 a0_2 A0_3 c0_3 l0_3 a0_4 t428 _ ?side1 ?side2 ?side3 ?side4 ?side5 A2.out).mono ?_); (case side1 => exact Kz BK0.out); (case side2 => exact Cz HR0_1.out); (case side3 => exact HC0_1.out); (case side4 => exact Cz HR0_3.out); (case side5 => exact HC0_3.out); rintro e w7 ⟨⟨v429, rfl, ho0, hb⟩, hnil_v429⟩; refine ⟨_, rfl, ?_⟩; have n0_ := Rm ho0 HB; have n1_ := Kb BK0 hb; have n2_ := Bc HB hb; clear BK0 HB; revert n0_ n1_ n2_; intro HO430 BK0 HB; (try clear hb); (try clear hb2); (try clear hk); (try clear hi); (try clear ho0); obtain ⟨goo8, coo8, eoo8, gbo8, glo8, clo8, HGo8⟩ := Kd.R_form HO430.out (by omega); (first | cases eoo8 | (injection eoo8 with ea_ en_ ec_; (first | subst ea_ | (injection ea_ with ea_; subst ea_)); subst ec_; clear en_)); have GBo8 := am gbo8; have GGo8 := am HGo8; clear gbo8 glo8 HGo8; have qo8 : ∀ (w_ : World) (n_ c_ : Nat), (binOp .eql 38 (.slice (some ⟨goo8, 0, none⟩) n_ c_) (.slice none 0 0)).run Try.prog w_ = .ok (.bool false) w_ := fun w_ _ _ => (Go.Proofs.YtalfkfddpamnjaaGp.run_eql_nil_ w_ 38 _ _ _ _ Try.underlying38).trans rfl) | ((with_reducible refine gate_callee (f := 69) rfl ?_); refine gL (some 11) Try.func69 #[.pointer (some ⟨g0, 0, none⟩), .slice (some ⟨goo8, 0, none⟩) t428.length coo8] ?_; (with_reducible refine (impl_Trie_ends.calls k g0 a0_0 A0_1 c0_1 l0_1 a0_2 A0_3 c0_3 l0_3 a0_4 _ _ t428 t431 _ ?side1 ?side2 ?side3 ?side4 ?side5 ?side6 ?side7 A6.out).mono ?_); (case side1 => exact Kz BK0.out); (case side2 => exact Cz (Kd.C_below HR0_1.out HB.out)); (case side3 => exact HC0_1.out); (case side4 => exact Cz (Kd.C_below HR0_3.out HB.out)); (case side5 => exact HC0_3.out); (case side6 => exact Cz ((Kd.R_reads' HO430.out).2.2)); (case side7 => exact (Kd.R_reads' HO430.out).2.1); rintro e w9 ⟨v432, rfl, ho0, hb⟩; refine ⟨_, rfl, ?_⟩; have n0_ := Re HO430 (Kd.R_base ho0) hb; have n1_ := Rm (Kd.R_new' ho0 (Kd.R_lt (Rz HO430.out))) HB; have n2_ := Kb BK0 hb; have n3_ := Bc HB hb; clear HO430 BK0 HB; revert n0_ n1_ n2_ n3_; intro HO430 HO433 BK0 HB; (try clear hb); (try clear hb2); (try clear hk); (try clear hi); (try clear ho0)))
  go_ret2
  exact ⟨_, eZ, Rz (Kd.R_mono HO433.out (fun _ hk => trivial)), Bq⟩

end Go.Proofs.Ytalfkfddpamnjaa.PA
namespace Go.Proofs.YtalfkfddpamnjaaQ
open Go Go.RowKit Go.Proofs.YtalfkfddpamnjaaW.PrintWords Go.Proofs.YtalfkfddpamnjaaGp

theorem ev_succ {α : Type} {g : Nat → Option α} {r : α} (h : Ev (fun k => g (k + 1)) r) : Ev g r := Ev.step (f := fun k => g (k + 1)) (fun _ => rfl) h
theorem ev_some {α : Type} {a r : α} (h : a = r) : Ev (fun _ => some a) r := h ▸ Ev.now a
theorem ev_pos {α : Type} {c : Prop} [Decidable c] {f g : Nat → Option α} {r : α} (h : c) (k : Ev f r) : Ev (fun n => if c then f n else g n) r := by simpa only [if_pos h] using k
theorem ev_neg {α : Type} {c : Prop} [Decidable c] {f g : Nat → Option α} {r : α} (h : ¬ c) (k : Ev g r) : Ev (fun n => if c then f n else g n) r := by simpa only [if_neg h] using k
theorem ev_bind {α β : Type} {g : Nat → Option α} {f : Nat → α → Option β} {r : β} (a : α) (h : Ev g a) (k : Ev (fun n => f n a) r) : Ev (fun n => (g n).bind (f n)) r := Ev.bind h k
theorem ev_inj {α : Type} {g : Nat → Option α} {r r' : α} (h : Ev g r) (h' : Ev g r') : r = r' := by
  obtain ⟨K, h⟩ := h
  obtain ⟨K', h'⟩ := h'
  have a := h (max K K') (Nat.le_max_left _ _)
  have b := h' (max K K') (Nat.le_max_right _ _)
  exact Option.some.inj (a.symm.trans b)

theorem w64 {x : Int} (h0 : -9223372036854775808 ≤ x) (h1 : x ≤ 9223372036854775807) : wrap64 x = x := by unfold wrap64; omega
theorem winc {i : Nat} (h : (i : Int) < 9223372036854775807) : wrap64 ((i : Int) + 1) = ((i + 1 : Nat) : Int) := by unfold wrap64; omega
theorem wdec {i : Nat} (h : (i : Int) < 9223372036854775807) : wrap64 (((i + 1 : Nat) : Int) - 1) = (i : Int) := by unfold wrap64; omega
theorem wdec' {i : Nat} (h : (i : Int) < 9223372036854775807) : wrap64 ((i : Int) + 1 - 1) = (i : Int) := by unfold wrap64; omega
theorem maxLen_eq : maxLen = 9223372036854775807 := by unfold maxLen; rfl
theorem wf64 {n : Int} (h : (Lit.int .i64 n).wf = true) : -9223372036854775808 ≤ n ∧ n ≤ 9223372036854775807 := by
  simp only [Lit.wf, Bool.and_eq_true, decide_eq_true_eq] at h
  exact h

section
variable {α : Type} {d : α} {pre t : List α} {s : α}
theorem rdOf_mid : rdOf d (pre ++ s :: t) ((pre.length : Nat) : Int) = s := by simp [rdOf]
theorem rdOf_last {p : α} : rdOf d ((pre ++ [p]) ++ s :: t) ((pre.length : Nat) : Int) = p := by simp [rdOf]
theorem rdOf_get {xs : List α} {i : Nat} (h : i < xs.length) : rdOf d xs (i : Int) = xs[i] := by simp [rdOf, h]
theorem lt_mid : ((pre.length : Nat) : Int) < ((pre ++ s :: t).length : Int) := by simp; omega
theorem not_lt_end : ¬ ((pre.length : Nat) : Int) < ((pre ++ ([] : List α)).length : Int) := by simp
theorem set_mid {x : α} : (pre ++ s :: t).set ((pre.length : Nat) : Int).toNat x = pre ++ x :: t := by simp
theorem app_one : (pre ++ [s]) ++ t = pre ++ s :: t := by simp
theorem len_one : ((pre ++ [s]).length : Int) = ((pre.length + 1 : Nat) : Int) := by simp
end
theorem rd_mid {pre t : List Int} {s : Int} : rd (pre ++ s :: t) ((pre.length : Nat) : Int) = s := by simp [rd]
theorem rd_get {xs : List Int} {i : Nat} (h : i < xs.length) : rd xs (i : Int) = xs[i] := by simp [rd, h]

theorem tl (s : ByteArray) : s.toList = s.data.toList := Lib.toList_data s
theorem tl_inj {x y : ByteArray} : x.toList = y.toList ↔ x = y := by
  rw [tl, tl]
  exact ⟨fun h => ByteArray.ext (Array.toList_inj.1 h), fun h => h ▸ rfl⟩
theorem size_len (s : ByteArray) : s.size = s.data.toList.length := (data_length s).symm
theorem bt_mid {s : ByteArray} {pre t : List UInt8} {c : UInt8} (h : s.data.toList = pre ++ c :: t) : bt s ((pre.length : Nat) : Int) = (c.toNat : Int) := by
  have hs : pre.length < s.size := by rw [size_len, h]; simp
  have hg : s[pre.length]'hs = c := by
    have : s.data.toList[pre.length]'(by rw [h]; simp) = c := by simp [h]
    rw [← this]; rfl
  unfold bt
  rw [dif_pos (by simpa using hs)]
  simp only [Int.toNat_natCast, hg]
theorem lt_size {s : ByteArray} {pre t : List UInt8} {c : UInt8} (h : s.data.toList = pre ++ c :: t) : ((pre.length : Nat) : Int) < (s.size : Int) := by rw [size_len, h]; simp; omega
theorem not_lt_size {s : ByteArray} {pre : List UInt8} (h : s.data.toList = pre ++ []) : ¬ ((pre.length : Nat) : Int) < (s.size : Int) := by rw [size_len, h]; simp
theorem bt_get {s : ByteArray} {i : Nat} (h : i < s.data.toList.length) : bt s (i : Int) = ((s.data.toList[i]'h).toNat : Int) := by
  have hs : i < s.size := by rw [size_len]; exact h
  unfold bt
  rw [dif_pos (by simpa using hs)]
  rfl
theorem ext_len {s : ByteArray} {n : Nat} : (s.extract 0 n).size = min n s.size := by simp

def lessS (a b : ByteArray) : Bool := Op.bytesLess a.toList b.toList
theorem lessS_irrefl (a : ByteArray) : lessS a a = false := bl_irrefl _
theorem bl_trans : ∀ a b c : List UInt8, Op.bytesLess a b = true → Op.bytesLess b c = true → Op.bytesLess a c = true
  | [], _, [], _, h => by cases ‹List UInt8› <;> simp [Op.bytesLess] at h
  | [], _, _ :: _, _, _ => by simp [Op.bytesLess]
  | _ :: _, [], _, h, _ => by simp [Op.bytesLess] at h
  | _ :: _, _ :: _, [], _, h => by simp [Op.bytesLess] at h
  | a :: l, b :: m, c :: n, h1, h2 => by
    have ih := bl_trans l m n
    simp only [Op.bytesLess, Bool.or_eq_true, Bool.and_eq_true, decide_eq_true_eq, beq_iff_eq, UInt8.lt_iff_toNat_lt] at h1 h2 ⊢
    rcases h1 with h1 | ⟨rfl, h1⟩
    · rcases h2 with h2 | ⟨rfl, h2⟩
      · exact .inl (by omega)
      · exact .inl h1
    · rcases h2 with h2 | ⟨rfl, h2⟩
      · exact .inl h2
      · exact .inr ⟨rfl, ih h1 h2⟩
theorem lessS_trans {a b c : ByteArray} (h1 : lessS a b = true) (h2 : lessS b c = true) : lessS a c = true := bl_trans _ _ _ h1 h2
theorem lessS_total (a b : ByteArray) (h : lessS a b = false) : lessS b a = true ∨ a = b := by
  have t := bl_total a.toList b.toList
  unfold lessS at h ⊢
  rw [h] at t
  by_cases e : a = b
  · exact .inr e
  · left
    have : (a.toList == b.toList) = false := by simpa [tl_inj] using e
    rw [this] at t
    have t2 := bl_total b.toList a.toList
    cases hb : Op.bytesLess b.toList a.toList
    · rw [hb, h] at t2
      simp only [Bool.false_or, Bool.not_false] at t2
      exact absurd (tl_inj.1 (by simpa using t2)) (fun e' => e e'.symm)
    · rfl
theorem lessS_asymm {a b : ByteArray} (h : lessS a b = true) : lessS b a = false := by
  cases hb : lessS b a
  · rfl
  · have := lessS_trans h hb
    rw [lessS_irrefl] at this
    cases this
theorem lessS_ne {a b : ByteArray} (h : lessS a b = true) : a ≠ b := by
  rintro rfl
  rw [lessS_irrefl] at h
  cases h
end Go.Proofs.YtalfkfddpamnjaaQ
namespace Go.Proofs.YtalfkfddpamnjaaQ
open Go Go.RowKit Go.Proofs.YtalfkfddpamnjaaW.PrintWords Go.Proofs.YtalfkfddpamnjaaGp Go.Proofs.Ytalfkfddpamnjaa.PA

theorem eqIntS_l0 (x0 x1 : List Int) (hl : (x0.length : Int) ≤ 9223372036854775806) : ∀ (t u pre pre' : List Int), x0 = pre ++ t → x1 = pre' ++ u → pre.length = pre'.length → t.length = u.length →
    Ev (fun k => laws_eqIntS.l0 k x0 x1 (pre.length : Int)) (decide (t = u)) := by
  intro t
  induction t with
  | nil =>
    intro u pre pre' h h' hp hu
    obtain rfl := List.length_eq_zero_iff.1 hu.symm
    refine ev_succ ?_
    simp only [laws_eqIntS.l0]
    exact ev_neg (by rw [h]; exact not_lt_end) (ev_some (by simp))
  | cons s t ih =>
    intro u pre pre' h h' hp hu
    cases u with
    | nil => simp at hu
    | cons q u =>
      have hm : ((pre.length : Nat) : Int) < (x0.length : Int) := by rw [h]; exact lt_mid
      have hm' : ((pre.length : Nat) : Int) < (x1.length : Int) := by rw [h', hp]; exact lt_mid
      have hg : rd x0 (pre.length : Int) = s := by rw [h]; exact rd_mid
      have hg' : rd x1 (pre.length : Int) = q := by rw [h', hp]; exact rd_mid
      refine ev_succ ?_
      simp only [laws_eqIntS.l0, hg, hg']
      refine ev_pos hm (ev_pos (by omega) (ev_pos hm' ?_))
      by_cases c : s = q
      · refine ev_pos c ?_
        rw [winc (by omega)]
        have := ih u (pre ++ [s]) (pre' ++ [q]) (by rw [h]; simp) (by rw [h']; simp) (by simp [hp]) (by simpa using hu)
        rw [len_one] at this
        rw [show decide (s :: t = q :: u) = decide (t = u) from by simp [c]]
        exact this
      · exact ev_neg c (ev_some (by simp [c]))
theorem eqIntS_f (a b : List Int) (hl : (a.length : Int) ≤ 9223372036854775806) : Ev (fun k => laws_eqIntS.f k a b) (decide (a = b)) := by
  unfold laws_eqIntS.f
  by_cases c : a.length = b.length
  · refine ev_pos (by omega) ?_
    exact eqIntS_l0 a b hl a b [] [] rfl rfl rfl c
  · exact ev_neg (by omega) (ev_some (by
      have : ¬ a = b := fun e => c (by rw [e])
      simp [this]))

end Go.Proofs.YtalfkfddpamnjaaQ
namespace Go.Proofs.YtalfkfddpamnjaaQ
open Go Go.RowKit Go.Proofs.YtalfkfddpamnjaaW.PrintWords Go.Proofs.YtalfkfddpamnjaaGp Go.Proofs.Ytalfkfddpamnjaa.PA

theorem toIntS_l0 (x0 : List Int) (hl : (x0.length : Int) ≤ 1048576) : ∀ (t pre r : List Int), x0 = pre ++ t → r.length = t.length →
    Ev (fun k => laws_toIntS.l0 k x0 (pre ++ r) (pre.length : Int)) x0 := by
  intro t
  induction t with
  | nil =>
    intro pre r h hr
    obtain rfl := List.length_eq_zero_iff.1 hr
    refine ev_succ ?_
    simp only [laws_toIntS.l0]
    refine ev_neg (by rw [h]; exact not_lt_end) (ev_some h.symm)
  | cons s t ih =>
    intro pre r h hr
    cases r with
    | nil => simp at hr
    | cons q r =>
      have hm : ((pre.length : Nat) : Int) < (x0.length : Int) := by rw [h]; exact lt_mid
      have hg : rd x0 (pre.length : Int) = s := by rw [h]; exact rd_mid
      refine ev_succ ?_
      simp only [laws_toIntS.l0, hg, set_mid]
      refine ev_pos hm (ev_pos (by omega) (ev_pos lt_mid ?_))
      rw [winc (by omega)]
      have := ih (pre ++ [s]) r (by rw [h]; simp) (by simpa using hr)
      rw [len_one, app_one] at this
      exact this
theorem toIntS_f (l : List Int) (hl : (l.length : Int) ≤ 1048576) : Ev (fun k => laws_toIntS.f k l) l := by
  unfold laws_toIntS.f
  refine ev_pos (by omega) (ev_pos (by simp only [Int.toNat_natCast]; omega) ?_)
  simp only [Int.toNat_natCast]
  have := toIntS_l0 l hl l [] (List.replicate l.length (0 : Int)) rfl (by simp)
  exact this
end Go.Proofs.YtalfkfddpamnjaaQ
namespace Go.Proofs.YtalfkfddpamnjaaQ
open Go Go.RowKit Go.Proofs.YtalfkfddpamnjaaW.PrintWords Go.Proofs.YtalfkfddpamnjaaGp Go.Proofs.Ytalfkfddpamnjaa.PA

theorem spec_in (n a b : Int) : spec_l1In.f n a b = some (decide (a ≤ n ∧ n ≤ b)) := by
  unfold spec_l1In.f
  by_cases h : a ≤ n <;> by_cases h' : n ≤ b <;> simp [h, h']
theorem impl_in (n a b : Int) : impl_in.f n a b = some (decide (a ≤ n ∧ n ≤ b)) := by
  unfold impl_in.f
  by_cases h : a ≤ n <;> by_cases h' : n ≤ b <;> simp [h, h']

def byteOk (c : UInt8) : Bool := decide (33 ≤ (c.toNat : Int) ∧ (c.toNat : Int) ≤ 125)
def isKeyB (s : ByteArray) : Bool := s.data.toList.all byteOk && decide (1 ≤ (s.size : Int) ∧ (s.size : Int) ≤ 12)
theorem spec_IsKey_l0 (x0 : ByteArray) (hz : (x0.size : Int) ≤ 9223372036854775806) : ∀ (t pre : List UInt8), x0.data.toList = pre ++ t →
    Ev (fun k => spec_IsKey.l0 k x0 (pre.length : Int)) (t.all byteOk && decide (1 ≤ (x0.size : Int) ∧ (x0.size : Int) ≤ 12)) := by
  intro t
  induction t with
  | nil =>
    intro pre h
    refine ev_succ ?_
    simp only [spec_IsKey.l0, spec_in, Option.bind_some]
    exact ev_neg (not_lt_size h) (ev_some (by simp))
  | cons c t ih =>
    intro pre h
    have hm := lt_size h
    refine ev_succ ?_
    simp only [spec_IsKey.l0, bt_mid h]
    refine ev_pos hm (ev_pos (by omega) ?_)
    by_cases c1 : (c.toNat : Int) < 33
    · exact ev_pos c1 (ev_some (by simp [byteOk]; omega))
    · refine ev_neg c1 ?_
      by_cases c2 : (c.toNat : Int) > 125
      · exact ev_pos c2 (ev_some (by simp [byteOk]; omega))
      · refine ev_neg c2 ?_
        rw [winc (by omega)]
        have := ih (pre ++ [c]) (by rw [h]; simp)
        rw [len_one] at this
        have hb : byteOk c = true := by simp [byteOk]; omega
        simpa [hb] using this
theorem spec_IsKey_f (s : ByteArray) (hz : (s.size : Int) ≤ 9223372036854775806) : Ev (fun k => spec_IsKey.f k s) (isKeyB s) := by
  unfold spec_IsKey.f
  exact spec_IsKey_l0 s hz s.data.toList [] rfl
theorem impl_IsKey_l0 (x0 : ByteArray) (hz : (x0.size : Int) ≤ 9223372036854775806) : ∀ (t pre : List UInt8), x0.data.toList = pre ++ t →
    Ev (fun k => impl_IsKey.l0 k x0 (x0.size : Int) (pre.length : Int)) (t.all byteOk && decide (1 ≤ (x0.size : Int) ∧ (x0.size : Int) ≤ 12)) := by
  intro t
  induction t with
  | nil =>
    intro pre h
    refine ev_succ ?_
    simp only [impl_IsKey.l0, impl_in, Option.bind_some]
    exact ev_neg (not_lt_size h) (ev_some (by simp))
  | cons c t ih =>
    intro pre h
    have hm := lt_size h
    refine ev_succ ?_
    simp only [impl_IsKey.l0, bt_mid h]
    refine ev_pos hm (ev_pos (by omega) (ev_pos hm ?_))
    by_cases c1 : (c.toNat : Int) < 33
    · exact ev_pos c1 (ev_some (by simp [byteOk]; omega))
    · refine ev_neg c1 ?_
      by_cases c2 : (c.toNat : Int) > 125
      · exact ev_pos c2 (ev_some (by simp [byteOk]; omega))
      · refine ev_neg c2 ?_
        rw [winc (by omega)]
        have := ih (pre ++ [c]) (by rw [h]; simp)
        rw [len_one] at this
        have hb : byteOk c = true := by simp [byteOk]; omega
        simpa [hb] using this
theorem impl_IsKey_f (s : ByteArray) (hz : (s.size : Int) ≤ 9223372036854775806) : Ev (fun k => impl_IsKey.f k s) (isKeyB s) := by
  unfold impl_IsKey.f
  exact impl_IsKey_l0 s hz s.data.toList [] rfl
theorem isKeyB_size {s : ByteArray} (h : isKeyB s = true) : 1 ≤ s.size ∧ s.size ≤ 12 := by
  simp [isKeyB] at h
  omega

def keysFrom : Option ByteArray → List ByteArray → Bool
  | _, [] => true
  | p, s :: t => isKeyB s && (match p with | none => true | some q => lessS q s) && keysFrom (some s) t
def areKeysB (l : List ByteArray) : Bool := keysFrom none l && decide ((l.length : Int) ≤ 40)
def lastOf (pre : List ByteArray) : Option ByteArray := pre.getLast?
theorem lastOf_one (pre : List ByteArray) (s : ByteArray) : lastOf (pre ++ [s]) = some s := by simp [lastOf]
theorem lastOf_nil : lastOf [] = none := rfl
theorem last_split {pre : List ByteArray} (h : 0 < pre.length) : ∃ q p, pre = q ++ [p] := by
  obtain ⟨x, hx⟩ : ∃ x, pre.getLast? = some x := by
    cases hp : pre.getLast? with
    | none => rw [List.getLast?_eq_none_iff] at hp; subst hp; simp at h
    | some x => exact ⟨x, rfl⟩
  obtain ⟨q, hq⟩ := List.getLast?_eq_some_iff.1 hx
  exact ⟨q, x, hq⟩

theorem spec_biKeys_l0 (x0 : List ByteArray) (hl : (x0.length : Int) ≤ 9223372036854775806) : ∀ (t pre : List ByteArray), x0 = pre ++ t → (∀ s ∈ t, (s.size : Int) ≤ 9223372036854775806) →
    Ev (fun k => spec_biKeys.l0 k x0 x0 (x0.length : Int) (pre.length : Int)) (keysFrom (lastOf pre) t && decide ((x0.length : Int) ≤ 40)) := by
  intro t
  induction t with
  | nil =>
    intro pre h hs
    refine ev_succ ?_
    simp only [spec_biKeys.l0]
    exact ev_neg (by rw [h]; exact not_lt_end) (ev_some (by simp [keysFrom]))
  | cons s t ih =>
    intro pre h hs
    have hm : ((pre.length : Nat) : Int) < (x0.length : Int) := by rw [h]; exact lt_mid
    have hg : rdOf ByteArray.empty x0 (pre.length : Int) = s := by rw [h]; exact rdOf_mid
    have next := ih (pre ++ [s]) (by rw [h]; simp) (fun x hx => hs x (by simp [hx]))
    rw [len_one, lastOf_one] at next
    refine ev_succ ?_
    simp only [spec_biKeys.l0, hg]
    refine ev_pos hm (ev_pos (by omega) (ev_pos hm (ev_bind _ (spec_IsKey_f s (hs s (by simp))) ?_)))
    cases hk : isKeyB s with
    | false => exact ev_neg (by simp) (ev_some (by simp [keysFrom, hk]))
    | true =>
      refine ev_pos rfl ?_
      by_cases c : 0 < pre.length
      · obtain ⟨q, p, rfl⟩ := last_split c
        have hp : rdOf ByteArray.empty x0 ((q.length : Nat) : Int) = p := by rw [h]; exact rdOf_last
        have hw : wrap64 (((q ++ [p]).length : Int) - 1) = (q.length : Int) := by rw [len_one]; exact wdec (by simp at hm; omega)
        simp only [hw, hp, lastOf_one, keysFrom, hk, Bool.true_and]
        refine ev_pos (by omega) (ev_pos (by omega) (ev_pos (by simp at hm; omega) ?_))
        by_cases c2 : lessS p s = true
        · refine ev_pos c2 ?_
          rw [winc (by omega), c2, Bool.true_and]
          exact next
        · refine ev_neg c2 (ev_some ?_)
          simp only [Bool.not_eq_true] at c2
          simp [c2]
      · obtain rfl := List.length_eq_zero_iff.1 (show pre.length = 0 by omega)
        refine ev_neg (by simp) ?_
        rw [winc (by omega)]
        simp only [lastOf_nil, keysFrom, hk, Bool.true_and]
        exact next
theorem spec_biKeys_f (l : List ByteArray) (hl : (l.length : Int) ≤ 9223372036854775806) (hs : ∀ s ∈ l, (s.size : Int) ≤ 9223372036854775806) : Ev (fun k => spec_biKeys.f k l) (areKeysB l) := by
  unfold spec_biKeys.f
  exact spec_biKeys_l0 l hl l [] rfl hs
theorem impl_AreKeys_l0 (x0 : List ByteArray) (hl : (x0.length : Int) ≤ 9223372036854775806) : ∀ (t pre : List ByteArray), x0 = pre ++ t → (∀ s ∈ t, (s.size : Int) ≤ 9223372036854775806) →
    Ev (fun k => impl_AreKeys.l0 k x0 x0 (x0.length : Int) (pre.length : Int)) (keysFrom (lastOf pre) t && decide ((x0.length : Int) ≤ 40)) := by
  intro t
  induction t with
  | nil =>
    intro pre h hs
    refine ev_succ ?_
    simp only [impl_AreKeys.l0]
    exact ev_neg (by rw [h]; exact not_lt_end) (ev_some (by simp [keysFrom]))
  | cons s t ih =>
    intro pre h hs
    have hm : ((pre.length : Nat) : Int) < (x0.length : Int) := by rw [h]; exact lt_mid
    have hg : rdOf ByteArray.empty x0 (pre.length : Int) = s := by rw [h]; exact rdOf_mid
    have next := ih (pre ++ [s]) (by rw [h]; simp) (fun x hx => hs x (by simp [hx]))
    rw [len_one, lastOf_one] at next
    refine ev_succ ?_
    simp only [impl_AreKeys.l0, hg]
    refine ev_pos hm (ev_pos (by omega) (ev_pos hm (ev_bind _ (impl_IsKey_f s (hs s (by simp))) ?_)))
    cases hk : isKeyB s with
    | false => exact ev_neg (by simp) (ev_some (by simp [keysFrom, hk]))
    | true =>
      refine ev_pos rfl ?_
      by_cases c : 0 < pre.length
      · obtain ⟨q, p, rfl⟩ := last_split c
        have hp : rdOf ByteArray.empty x0 ((q.length : Nat) : Int) = p := by rw [h]; exact rdOf_last
        have hw : wrap64 (((q ++ [p]).length : Int) - 1) = (q.length : Int) := by rw [len_one]; exact wdec (by simp at hm; omega)
        simp only [hw, hp, lastOf_one, keysFrom, hk, Bool.true_and]
        refine ev_pos (by omega) (ev_pos (by omega) (ev_pos (by simp at hm; omega) ?_))
        by_cases c2 : lessS p s = true
        · refine ev_pos c2 ?_
          rw [winc (by omega), c2, Bool.true_and]
          exact next
        · refine ev_neg c2 (ev_some ?_)
          simp only [Bool.not_eq_true] at c2
          simp [c2]
      · obtain rfl := List.length_eq_zero_iff.1 (show pre.length = 0 by omega)
        refine ev_neg (by simp) ?_
        rw [winc (by omega)]
        simp only [lastOf_nil, keysFrom, hk, Bool.true_and]
        exact next
theorem impl_AreKeys_f (l : List ByteArray) (hl : (l.length : Int) ≤ 9223372036854775806) (hs : ∀ s ∈ l, (s.size : Int) ≤ 9223372036854775806) : Ev (fun k => impl_AreKeys.f k l) (areKeysB l) := by
  unfold impl_AreKeys.f
  exact impl_AreKeys_l0 l hl l [] rfl hs
theorem areKeysB_len {l : List ByteArray} (h : areKeysB l = true) : l.length ≤ 40 := by
  simp [areKeysB] at h
  omega
theorem keysFrom_all : ∀ (p : Option ByteArray) (l : List ByteArray), keysFrom p l = true → ∀ s ∈ l, isKeyB s = true
  | _, [], _, s, h => by simp at h
  | p, x :: t, hk, s, h => by
    simp only [keysFrom, Bool.and_eq_true] at hk
    rcases List.mem_cons.1 h with rfl | h
    · exact hk.1.1
    · exact keysFrom_all _ t hk.2 s h
theorem areKeysB_all {l : List ByteArray} (h : areKeysB l = true) : ∀ s ∈ l, isKeyB s = true := by
  simp only [areKeysB, Bool.and_eq_true] at h
  exact keysFrom_all _ _ h.1
theorem areKeysB_from {l : List ByteArray} (h : areKeysB l = true) : keysFrom none l = true := by
  simp only [areKeysB, Bool.and_eq_true] at h
  exact h.1
theorem keysFrom_less : ∀ (q : ByteArray) (l : List ByteArray), keysFrom (some q) l = true → ∀ s ∈ l, lessS q s = true
  | _, [], _, s, h => by simp at h
  | q, x :: t, hk, s, h => by
    simp only [keysFrom, Bool.and_eq_true] at hk
    rcases List.mem_cons.1 h with rfl | h
    · exact hk.1.2
    · exact lessS_trans hk.1.2 (keysFrom_less x t hk.2 s h)
end Go.Proofs.YtalfkfddpamnjaaQ
namespace Go.Proofs.YtalfkfddpamnjaaQ
open Go Go.RowKit Go.Proofs.YtalfkfddpamnjaaW.PrintWords Go.Proofs.YtalfkfddpamnjaaGp Go.Proofs.Ytalfkfddpamnjaa.PA

def hasS (l : List ByteArray) (s : ByteArray) : Bool := l.any fun x => decide (x = s)
theorem hasS_iff {l : List ByteArray} {s : ByteArray} : hasS l s = true ↔ s ∈ l := by simp [hasS]
theorem spec_l1HasS_l0 (x0 : List ByteArray) (s : ByteArray) (hl : (x0.length : Int) ≤ 9223372036854775806) : ∀ (t pre : List ByteArray), x0 = pre ++ t →
    Ev (fun k => spec_l1HasS.l0 k s x0 (x0.length : Int) (pre.length : Int)) (hasS t s) := by
  intro t
  induction t with
  | nil =>
    intro pre h
    refine ev_succ ?_
    simp only [spec_l1HasS.l0]
    exact ev_neg (by rw [h]; exact not_lt_end) (ev_some (by simp [hasS]))
  | cons x t ih =>
    intro pre h
    have hm : ((pre.length : Nat) : Int) < (x0.length : Int) := by rw [h]; exact lt_mid
    have hg : rdOf ByteArray.empty x0 (pre.length : Int) = x := by rw [h]; exact rdOf_mid
    refine ev_succ ?_
    simp only [spec_l1HasS.l0, hg, tl_inj]
    refine ev_pos hm (ev_pos (by omega) (ev_pos hm ?_))
    by_cases c : x = s
    · exact ev_pos c (ev_some (by simp [hasS, c]))
    · refine ev_neg c ?_
      rw [winc (by omega)]
      have := ih (pre ++ [x]) (by rw [h]; simp)
      rw [len_one] at this
      have e : hasS (x :: t) s = hasS t s := by simp [hasS, c]
      rw [e]
      exact this
theorem spec_l1HasS_f (l : List ByteArray) (s : ByteArray) (hl : (l.length : Int) ≤ 9223372036854775806) : Ev (fun k => spec_l1HasS.f k l s) (hasS l s) := by
  unfold spec_l1HasS.f
  exact spec_l1HasS_l0 l s hl l [] rfl
def idxS : List ByteArray → ByteArray → Nat → Int
  | [], _, _ => -1
  | x :: t, s, i => if x = s then (i : Int) else idxS t s (i + 1)
theorem idxS_mem : ∀ (l : List ByteArray) (s : ByteArray) (i : Nat), 0 ≤ idxS l s i ↔ s ∈ l
  | [], s, i => by simp [idxS]
  | x :: t, s, i => by
    simp only [idxS]
    split
    · rename_i c; simp [c]
    · rename_i c; rw [idxS_mem t s (i + 1)]; simp [Ne.symm c]
theorem slices_Index_string_string_l0 (x0 : List ByteArray) (s : ByteArray) (hl : (x0.length : Int) ≤ 9223372036854775806) : ∀ (t pre : List ByteArray), x0 = pre ++ t →
    Ev (fun k => slices_Index_string_string.l0 k x0 s (x0.length : Int) (pre.length : Int)) (idxS t s pre.length) := by
  intro t
  induction t with
  | nil =>
    intro pre h
    refine ev_succ ?_
    simp only [slices_Index_string_string.l0]
    exact ev_neg (by rw [h]; exact not_lt_end) (ev_some (by simp [idxS]))
  | cons x t ih =>
    intro pre h
    have hm : ((pre.length : Nat) : Int) < (x0.length : Int) := by rw [h]; exact lt_mid
    have hg : rdOf ByteArray.empty x0 (pre.length : Int) = x := by rw [h]; exact rdOf_mid
    refine ev_succ ?_
    simp only [slices_Index_string_string.l0, hg, tl_inj]
    refine ev_pos hm (ev_pos (by omega) (ev_pos hm ?_))
    by_cases c : s = x
    · exact ev_pos c (ev_some (by simp [idxS, c]))
    · refine ev_neg c ?_
      rw [winc (by omega)]
      have := ih (pre ++ [x]) (by rw [h]; simp)
      rw [len_one] at this
      have e : idxS (x :: t) s pre.length = idxS t s (pre ++ [x]).length := by simp [idxS, Ne.symm c]
      rw [e]
      exact this
theorem slices_Index_string_string_f (l : List ByteArray) (s : ByteArray) (hl : (l.length : Int) ≤ 9223372036854775806) : Ev (fun k => slices_Index_string_string.f k l s) (idxS l s 0) := by
  unfold slices_Index_string_string.f
  exact slices_Index_string_string_l0 l s hl l [] rfl
theorem slices_Contains_string_string_f (l : List ByteArray) (s : ByteArray) (hl : (l.length : Int) ≤ 9223372036854775806) : Ev (fun k => slices_Contains_string_string.f k l s) (hasS l s) := by
  unfold slices_Contains_string_string.f
  refine ev_bind _ (slices_Index_string_string_f l s hl) (ev_some ?_)
  rw [Bool.eq_iff_iff, hasS_iff, decide_eq_true_eq]
  exact idxS_mem l s 0
end Go.Proofs.YtalfkfddpamnjaaQ
namespace Go.Proofs.YtalfkfddpamnjaaQ
open Go Go.RowKit Go.Proofs.YtalfkfddpamnjaaW.PrintWords Go.Proofs.YtalfkfddpamnjaaW.PrintMore Go.Proofs.YtalfkfddpamnjaaGp

theorem wraps_i64 (n : Int) (h0 : 0 ≤ n) (h1 : n < 2 ^ 62) : IntKind.i64.wrap n = n := by
  rw [IntKind.wrap_i64]
  have : (2 : Int) ^ 62 = 4611686018427387904 := by decide
  omega
theorem bits64 (a b : Nat) (ha : a < 2 ^ 62) (hb : b < 2 ^ 62) : Go.bits .and .i64 a b = ((a &&& b : Nat) : Int) ∧ Go.bits .or .i64 a b = ((a ||| b : Nat) : Int) :=
  bits_nat .i64 62 (by decide) wraps_i64 a b ha hb
theorem two62 : (2 : Nat) ^ 62 = 4611686018427387904 := by decide
theorem two64 : (2 : Nat) ^ 64 = 18446744073709551616 := by decide
theorem pow16 {j : Nat} (h : j < 16) : 2 ^ j < 65536 := by
  have : 2 ^ j ≤ 2 ^ 15 := Nat.pow_le_pow_right (by decide) (by omega)
  have e : (2 : Nat) ^ 15 = 32768 := by decide
  omega
theorem shl1 {j : Nat} (h : j < 16) : shl .i64 1 (j : Int) = ((2 ^ j : Nat) : Int) := by
  unfold shl
  have hj : min (j : Int).toNat IntKind.i64.bits = j := by simp [IntKind.bits]; omega
  rw [hj, Int.one_mul, show ((2 : Int) ^ j) = ((2 ^ j : Nat) : Int) from by simp]
  have hp := pow16 h
  generalize 2 ^ j = z at hp ⊢
  refine wraps_i64 _ (by omega) ?_
  have : (2 : Int) ^ 62 = 4611686018427387904 := by decide
  omega
theorem shrN {w j : Nat} (h : j < 16) : shr .i64 (w : Int) (j : Int) = ((w / 2 ^ j : Nat) : Int) := by
  unfold shr
  have hj : min (j : Int).toNat IntKind.i64.bits = j := by simp [IntKind.bits]; omega
  rw [hj]
  simp
theorem and1 {w j : Nat} (hw : w < 65536) (h : j < 16) : (Go.bits .and .i64 (shr .i64 (w : Int) (j : Int)) 1 == 1) = w.testBit j := by
  have hd : w / 2 ^ j ≤ w := Nat.div_le_self _ _
  have e : Go.bits .and .i64 ((w / 2 ^ j : Nat) : Int) ((1 : Nat) : Int) = (((w / 2 ^ j) &&& 1 : Nat) : Int) := (bits64 _ _ (by rw [two62]; omega) (by rw [two62]; omega)).1
  rw [shrN h, show (1 : Int) = ((1 : Nat) : Int) from rfl, e, Nat.and_one_is_mod, Nat.testBit_eq_decide_div_mod_eq]
  rw [Bool.eq_iff_iff]
  simp only [beq_iff_eq, decide_eq_true_eq]
  omega
theorem or1 {w j : Nat} (hw : w < 65536) (h : j < 16) : Go.bits .or .i64 (w : Int) (shl .i64 1 (j : Int)) = ((w ||| 2 ^ j : Nat) : Int) := by
  have := pow16 h
  rw [shl1 h]
  exact (bits64 _ _ (by rw [two62]; omega) (by rw [two62]; omega)).2
theorem or1_lt {w j : Nat} (hw : w < 65536) (h : j < 16) : w ||| 2 ^ j < 65536 := by
  have e : (65536 : Nat) = 2 ^ 16 := by decide
  rw [e] at hw ⊢
  have := pow16 h
  exact Nat.or_lt_two_pow hw (by omega)
theorem clr1 {w j : Nat} (hw : w < 65536) (h : j < 16) (hz : w.testBit j = false) : Go.bits .andNot .i64 (w : Int) (shl .i64 1 (j : Int)) = (w : Int) := by
  rw [shl1 h]
  have e : Go.bits .andNot .i64 (w : Int) ((2 ^ j : Nat) : Int) = IntKind.i64.wrap (((BitVec.ofInt 64 (w : Int) &&& ~~~ BitVec.ofInt 64 ((2 ^ j : Nat) : Int) : BitVec 64)).toNat : Int) := by unfold Go.bits; rfl
  have z : (BitVec.ofInt 64 (w : Int) &&& ~~~ BitVec.ofInt 64 ((2 ^ j : Nat) : Int) : BitVec 64) = BitVec.ofInt 64 (w : Int) := by
    rw [BitVec.ofInt_natCast, BitVec.ofInt_natCast]
    apply BitVec.eq_of_getLsbD_eq
    intro i hi
    simp only [BitVec.getLsbD_and, BitVec.getLsbD_not, BitVec.getLsbD_ofNat, hi, decide_true, Bool.true_and, Nat.testBit_two_pow]
    by_cases c : j = i
    · subst c; simp [hz]
    · simp [c]
  rw [e, z, BitVec.ofInt_natCast, BitVec.toNat_ofNat, Nat.mod_eq_of_lt (by rw [two64]; omega)]
  refine wraps_i64 _ (by omega) ?_
  have : (2 : Int) ^ 62 = 4611686018427387904 := by decide
  omega

def atV (l : List Int) (p : Int) : Bool := Go.bits .and .i64 (shr .i64 (rd l (p / 16)) (p % 16)) 1 == 1
def setV (l : List Int) (p : Int) : List Int := l.set (p / 16).toNat (Go.bits .or .i64 (rd l (p / 16)) (shl .i64 1 (p % 16)))
theorem setV_len (l : List Int) (p : Int) : (setV l p).length = l.length := by simp [setV]
def okW (l : List Int) : Prop := ∀ w ∈ l, 0 ≤ w ∧ w ≤ 65535
def bitN (l : List Int) (p : Nat) : Bool := (l.getD (p / 16) 0).toNat.testBit (p % 16)
theorem rdN {l : List Int} {p : Nat} (h : p / 16 < l.length) : rd l ((p : Int) / 16) = l.getD (p / 16) 0 := by
  have : ((p : Int) / 16) = ((p / 16 : Nat) : Int) := by omega
  rw [this, rd_get h, List.getD_eq_getElem?_getD, List.getElem?_eq_getElem h]
  rfl
theorem okW_get {l : List Int} (hl : okW l) {i : Nat} (h : i < l.length) : ∃ w : Nat, l.getD i 0 = (w : Int) ∧ w < 65536 := by
  have hm := hl _ (List.getElem_mem h)
  rw [List.getD_eq_getElem?_getD, List.getElem?_eq_getElem h]
  exact ⟨l[i].toNat, by simp; omega, by omega⟩
theorem atV_bit {l : List Int} (hl : okW l) {p : Nat} (h : p / 16 < l.length) : atV l (p : Int) = bitN l p := by
  obtain ⟨w, hw, hw2⟩ := okW_get hl h
  unfold atV bitN
  rw [rdN h, hw, show ((p : Int) % 16) = ((p % 16 : Nat) : Int) from by omega, and1 hw2 (by omega)]
  simp
theorem setV_get {l : List Int} (hl : okW l) {p : Nat} (h : p / 16 < l.length) : ∃ w : Nat, w < 65536 ∧ l.getD (p / 16) 0 = (w : Int) ∧ setV l (p : Int) = l.set (p / 16) ((w ||| 2 ^ (p % 16) : Nat) : Int) := by
  obtain ⟨w, hw, hw2⟩ := okW_get hl h
  refine ⟨w, hw2, hw, ?_⟩
  unfold setV
  rw [rdN h, hw, show ((p : Int) % 16) = ((p % 16 : Nat) : Int) from by omega, or1 hw2 (by omega)]
  congr 1
theorem okW_setV {l : List Int} (hl : okW l) {p : Nat} (h : p / 16 < l.length) : okW (setV l (p : Int)) := by
  obtain ⟨w, hw, _, e⟩ := setV_get hl h
  rw [e]
  intro x hx
  rcases List.mem_or_eq_of_mem_set hx with hx | rfl
  · exact hl x hx
  · have := or1_lt hw (show p % 16 < 16 by omega)
    omega
theorem bit_setV {l : List Int} (hl : okW l) {p q : Nat} (h : p / 16 < l.length) : bitN (setV l (p : Int)) q = (decide (p = q) || bitN l q) := by
  obtain ⟨w, hw, hg, e⟩ := setV_get hl h
  rw [e]
  unfold bitN
  by_cases c : p / 16 = q / 16
  · rw [← c, List.getD_eq_getElem?_getD, List.getElem?_set_self (by simpa using h), hg]
    simp only [Option.getD_some, Int.toNat_natCast, Nat.testBit_or, Nat.testBit_two_pow]
    rw [show decide (p % 16 = q % 16) = decide (p = q) from by
      rw [Bool.eq_iff_iff]; simp; omega, Bool.or_comm]
  · rw [List.getD_eq_getElem?_getD, List.getElem?_set_ne c, ← List.getD_eq_getElem?_getD, decide_eq_false (by omega), Bool.false_or]
theorem clrV {l : List Int} (hl : okW l) {p : Nat} (h : p / 16 < l.length) (hz : bitN l p = false) : l.set ((p : Int) / 16).toNat (Go.bits .andNot .i64 (rd l ((p : Int) / 16)) (shl .i64 1 ((p : Int) % 16))) = l := by
  obtain ⟨w, hw, hw2⟩ := okW_get hl h
  unfold bitN at hz
  rw [hw] at hz
  rw [rdN h, hw, show ((p : Int) % 16) = ((p % 16 : Nat) : Int) from by omega, clr1 hw2 (by omega) (by simpa using hz), show ((p : Int) / 16).toNat = p / 16 from by omega, ← hw]
  apply List.ext_getElem?
  intro i
  by_cases c : p / 16 = i
  · subst c
    rw [List.getElem?_set_self (by simpa using h), List.getD_eq_getElem?_getD, List.getElem?_eq_getElem h]
    rfl
  · rw [List.getElem?_set_ne c]

def packFrom : List Bool → Nat → List Int → List Int
  | [], _, l => l
  | b :: t, i, l => packFrom t (i + 1) (if b = true then setV l (i : Int) else l)
def blankW (n : Nat) : List Int := List.replicate ((n + 15) / 16) 0
def packB (B : List Bool) : List Int := packFrom B 0 (blankW B.length)
theorem packFrom_len : ∀ (B : List Bool) (i : Nat) (l : List Int), (packFrom B i l).length = l.length
  | [], _, _ => rfl
  | b :: t, i, l => by rw [packFrom, packFrom_len]; split <;> simp [setV_len]
theorem packFrom_ok : ∀ (B : List Bool) (i : Nat) (l : List Int), okW l → i + B.length ≤ 16 * l.length → okW (packFrom B i l) ∧ ∀ q, bitN (packFrom B i l) q = (bitN l q || (decide (i ≤ q) && B.getD (q - i) false))
  | [], i, l, h, _ => ⟨h, fun q => by simp [packFrom]⟩
  | b :: t, i, l, h, hl => by
    simp only [List.length_cons] at hl
    have hi : i / 16 < l.length := by omega
    rw [packFrom]
    by_cases c : b = true
    · rw [if_pos c]
      obtain ⟨h1, h2⟩ := packFrom_ok t (i + 1) (setV l (i : Int)) (okW_setV h hi) (by rw [setV_len]; omega)
      refine ⟨h1, fun q => ?_⟩
      rw [h2, bit_setV h hi]
      by_cases e : i = q
      · subst e; simp [c]
      · by_cases e2 : i ≤ q
        · rw [show q - i = (q - (i + 1)) + 1 from by omega, List.getD_cons_succ, decide_eq_false e, decide_eq_true e2, decide_eq_true (show i + 1 ≤ q by omega)]
          simp
        · simp [e, e2, show ¬ i + 1 ≤ q by omega]
    · rw [if_neg c]
      obtain ⟨h1, h2⟩ := packFrom_ok t (i + 1) l h (by omega)
      refine ⟨h1, fun q => ?_⟩
      rw [h2]
      have hb : b = false := by simpa using c
      subst hb
      by_cases e : i = q
      · subst e; simp [show ¬ i + 1 ≤ i by omega]
      · by_cases e2 : i ≤ q
        · rw [show q - i = (q - (i + 1)) + 1 from by omega, List.getD_cons_succ, decide_eq_true e2, decide_eq_true (show i + 1 ≤ q by omega)]
        · simp [e2, show ¬ i + 1 ≤ q by omega]
theorem okW_blank (n : Nat) : okW (blankW n) := fun w hw => by rw [List.eq_of_mem_replicate hw]; omega
theorem bit_blank (n q : Nat) : bitN (blankW n) q = false := by
  unfold bitN blankW
  rw [List.getD_eq_getElem?_getD, List.getElem?_replicate]
  split <;> simp
theorem packB_ok (B : List Bool) : okW (packB B) ∧ ∀ q, bitN (packB B) q = B.getD q false := by
  obtain ⟨h1, h2⟩ := packFrom_ok B 0 (blankW B.length) (okW_blank _) (by simp [blankW]; omega)
  exact ⟨h1, fun q => by rw [packB, h2, bit_blank]; simp⟩
theorem packB_len (B : List Bool) : (packB B).length = (B.length + 15) / 16 := by simp [packB, packFrom_len, blankW]
def bitsL (n : Int) (l : List Int) : List Bool := (List.range n.toNat).map fun (i : Nat) => atV l (i : Int)
theorem bitsL_len (n : Int) (l : List Int) : (bitsL n l).length = n.toNat := by simp [bitsL]
theorem bitsL_pack (B : List Bool) : bitsL (B.length : Int) (packB B) = B := by
  obtain ⟨h1, h2⟩ := packB_ok B
  apply List.ext_getElem
  · simp [bitsL]
  · intro i hi hi2
    have hp : i / 16 < (packB B).length := by rw [packB_len]; omega
    simp only [bitsL, List.getElem_map, List.getElem_range]
    rw [atV_bit h1 hp, h2, List.getD_eq_getElem?_getD, List.getElem?_eq_getElem hi2]
    rfl
end Go.Proofs.YtalfkfddpamnjaaQ
namespace Go.Proofs.YtalfkfddpamnjaaQ
open Go Go.RowKit Go.Proofs.YtalfkfddpamnjaaW.PrintWords Go.Proofs.YtalfkfddpamnjaaW.PrintMore Go.Proofs.YtalfkfddpamnjaaGp Go.Proofs.Ytalfkfddpamnjaa.PA

theorem div16' {p : Int} (h0 : 0 ≤ p) (h1 : p ≤ 1000000) : wrap64 (Int.tdiv p 16) = p / 16 ∧ Int.tmod p 16 = p % 16 := by
  rw [Int.tdiv_eq_ediv_of_nonneg h0, Int.tmod_eq_emod_of_nonneg h0, w64 (by omega) (by omega)]
  exact ⟨rfl, rfl⟩
theorem ofInt_wrap (a : BitVec 64) : BitVec.ofInt 64 (IntKind.i64.wrap (a.toNat : Int)) = a := by
  have h : a.toNat < 2 ^ 64 := a.isLt
  apply BitVec.eq_of_toNat_eq
  rw [BitVec.toNat_ofInt]
  show ((IntKind.i64.wrap (a.toNat : Int)) % ((2 ^ 64 : Nat) : Int)).toNat = a.toNat
  have e : IntKind.i64.wrap (a.toNat : Int) = if (a.toNat : Int) % 18446744073709551616 ≥ 9223372036854775808 then (a.toNat : Int) % 18446744073709551616 - 18446744073709551616 else (a.toNat : Int) % 18446744073709551616 := by
    unfold IntKind.wrap
    simp [IntKind.bits, IntKind.signed]
  rw [e]
  have h2 : (2 : Nat) ^ 64 = 18446744073709551616 := by decide
  rw [h2] at h ⊢
  split <;> omega
theorem or_andNot (x b : Int) : Go.bits .or .i64 (Go.bits .andNot .i64 x b) b = Go.bits .or .i64 x b := by
  have e : ∀ op y, Go.bits op .i64 y b = IntKind.i64.wrap (((match op with | .and => BitVec.ofInt 64 y &&& BitVec.ofInt 64 b | .or => BitVec.ofInt 64 y ||| BitVec.ofInt 64 b | .xor => BitVec.ofInt 64 y ^^^ BitVec.ofInt 64 b | _ => BitVec.ofInt 64 y &&& ~~~(BitVec.ofInt 64 b)) : BitVec 64).toNat : Int) := fun op y => by
    unfold Go.bits; cases op <;> rfl
  rw [e .or, e .or, e .andNot]
  simp only
  rw [ofInt_wrap]
  congr 2
  apply congrArg
  apply BitVec.eq_of_getLsbD_eq
  intro i hi
  simp only [BitVec.getLsbD_or, BitVec.getLsbD_and, BitVec.getLsbD_not, hi, decide_true, Bool.true_and]
  cases (BitVec.ofInt 64 x).getLsbD i <;> cases (BitVec.ofInt 64 b).getLsbD i <;> rfl

theorem rd_set {l : List Int} {i : Nat} {v : Int} (h : i < l.length) : rd (l.set i v) (i : Int) = v := by simp [rd, h]
theorem spec_biSet_f (n : Int) (l : List Int) {p : Int} (h0 : 0 ≤ p) (h1 : p ≤ 1000000) (h2 : p / 16 < (l.length : Int)) : spec_biSet.f n l p = some (setV l p) := by
  unfold spec_biSet.f
  rw [(div16' h0 h1).1, (div16' h0 h1).2, if_pos (by omega), if_pos h2, if_pos (by omega)]
  rfl
theorem impl_Bits_set_f (n : Int) (l : List Int) {p : Int} (h0 : 0 ≤ p) (h1 : p ≤ 1000000) (h2 : p / 16 < (l.length : Int)) : impl_Bits_set.f n l p true = some (setV l p) := by
  unfold impl_Bits_set.f
  rw [(div16' h0 h1).1, (div16' h0 h1).2, if_pos (by omega), if_pos h2, if_pos (by omega)]
  simp only [Option.bind_some, if_true]
  obtain ⟨q, hq⟩ : ∃ q : Nat, p / 16 = (q : Int) := ⟨(p / 16).toNat, by omega⟩
  unfold setV
  rw [hq] at h2 ⊢
  simp only [Int.toNat_natCast]
  rw [rd_set (by omega), List.set_set, or_andNot]

theorem impl_Bits_set_any (n : Int) {l : List Int} (hl : okW l) {p : Nat} (h1 : p ≤ 1000000) (h2 : p / 16 < l.length) (hz : bitN l p = false) (b : Bool) : impl_Bits_set.f n l (p : Int) b = some (if b = true then setV l (p : Int) else l) := by
  by_cases c : b = true
  · subst c
    exact impl_Bits_set_f n l (by omega) (by omega) (by omega)
  · have cb : b = false := by simpa using c
    subst cb
    have hc := clrV hl h2 hz
    unfold impl_Bits_set.f
    rw [(div16' (p := (p : Int)) (by omega) (by omega)).1, (div16' (p := (p : Int)) (by omega) (by omega)).2, if_pos (by omega), if_pos (by omega), if_pos (by omega), hc]
    rfl
def all16 (l : List Int) : Bool := l.all (fun x => decide (0 ≤ x ∧ x ≤ 65535))
def bitsB (n : Int) (l : List Int) : Bool :=
  decide (0 ≤ n ∧ n ≤ 4096) && (decide ((l.length : Int) = (n + 15) / 16) && (all16 l && (decide (n % 16 = 0) || (shr .i64 (rd l ((l.length : Int) - 1)) (n % 16) == 0))))
theorem bitsB_len {n : Int} {l : List Int} (h : bitsB n l = true) : 0 ≤ n ∧ n ≤ 4096 ∧ (l.length : Int) = (n + 15) / 16 := by
  simp only [bitsB, Bool.and_eq_true, decide_eq_true_eq] at h
  exact ⟨h.1.1, h.1.2, h.2.1⟩
theorem spec_biSome_l0 (B : List Bool) (n : Int) (hB : B.length ≤ 1000000) : ∀ (t pre : List Bool) (l : List Int), B = pre ++ t → B.length ≤ 16 * l.length →
    Ev (fun k => spec_biSome.l0 k B (B.length : Int) (pre.length : Int) n l) (n, packFrom t pre.length l) := by
  intro t
  induction t with
  | nil =>
    intro pre l h _
    refine ev_succ ?_
    simp only [spec_biSome.l0]
    exact ev_neg (by rw [h]; exact not_lt_end) (ev_some rfl)
  | cons b t ih =>
    intro pre l h hl
    have hm : ((pre.length : Nat) : Int) < (B.length : Int) := by rw [h]; exact lt_mid
    have hg : rdOf false B (pre.length : Int) = b := by rw [h]; exact rdOf_mid
    have hle : pre.length < B.length := by omega
    refine ev_succ ?_
    simp only [spec_biSome.l0, hg]
    refine ev_pos hm (ev_pos (by omega) (ev_pos hm ?_))
    rw [winc (by omega)]
    by_cases c : b = true
    · refine ev_pos c ?_
      rw [spec_biSet_f n l (by omega) (by omega) (by omega)]
      refine ev_bind _ (Ev.now _) ?_
      have := ih (pre ++ [b]) (setV l (pre.length : Int)) (by rw [h]; simp) (by rw [setV_len]; exact hl)
      rw [len_one] at this
      simpa [packFrom, c] using this
    · refine ev_neg c ?_
      have := ih (pre ++ [b]) l (by rw [h]; simp) hl
      rw [len_one] at this
      simpa [packFrom, c] using this
theorem spec_biSome_f (B : List Bool) (hB : B.length ≤ 1000000) : Ev (fun k => spec_biSome.f k B) ((B.length : Int), packB B) := by
  unfold spec_biSome.f
  have e : spec_biNew.f (B.length : Int) = some ((B.length : Int), blankW B.length) := by
    unfold spec_biNew.f
    have w : wrap64 (Int.tdiv (wrap64 ((B.length : Int) + 15)) 16) = (((B.length + 15) / 16 : Nat) : Int) := by
      rw [w64 (x := (B.length : Int) + 15) (by omega) (by omega), Int.tdiv_eq_ediv_of_nonneg (by omega), w64 (by omega) (by omega)]
      omega
    rw [w, if_pos (by omega), if_pos (by omega), Int.toNat_natCast]
    rfl
  rw [e]
  refine ev_bind _ (Ev.now _) ?_
  exact spec_biSome_l0 B (B.length : Int) hB B [] (blankW B.length) rfl (by simp [blankW]; omega)
theorem impl_blank_f (n : Nat) (h : n ≤ 1000000) : impl_blank.f (n : Int) = some ((n : Int), blankW n) := by
  unfold impl_blank.f impl_words.f
  have w : wrap64 (Int.tdiv (wrap64 (wrap64 ((n : Int) + 16) - 1)) 16) = (((n + 15) / 16 : Nat) : Int) := by
    rw [w64 (x := (n : Int) + 16) (by omega) (by omega), w64 (x := (n : Int) + 16 - 1) (by omega) (by omega), Int.tdiv_eq_ediv_of_nonneg (by omega), w64 (by omega) (by omega)]
    omega
  rw [w]
  simp only [Option.bind_some]
  rw [if_pos (by omega), if_pos (by omega), Int.toNat_natCast]
  rfl
end Go.Proofs.YtalfkfddpamnjaaQ
namespace Go.Proofs.YtalfkfddpamnjaaQ
open Go Go.Proofs.YtalfkfddpamnjaaGp

abbrev Str := List UInt8
def ll (a b : Str) : Bool := decide (a.length < b.length) || (decide (a.length = b.length) && Op.bytesLess a b)
theorem ll_irrefl (a : Str) : ll a a = false := by simp [ll, bl_irrefl]
theorem ll_iff {a b : Str} : ll a b = true ↔ a.length < b.length ∨ (a.length = b.length ∧ Op.bytesLess a b = true) := by simp [ll]
theorem ll_trans {a b c : Str} (h1 : ll a b = true) (h2 : ll b c = true) : ll a c = true := by
  rw [ll_iff] at *
  rcases h1 with h1 | ⟨e1, h1⟩ <;> rcases h2 with h2 | ⟨e2, h2⟩
  · left; omega
  · left; omega
  · left; omega
  · exact .inr ⟨by omega, bl_trans _ _ _ h1 h2⟩
theorem bl_tri (a b : Str) : Op.bytesLess a b = true ∨ a = b ∨ Op.bytesLess b a = true := by
  have t := bl_total a b
  cases h : Op.bytesLess b a
  · rw [h] at t
    simp only [Bool.not_false, Bool.or_eq_true, beq_iff_eq] at t
    rcases t with t | t
    · exact .inl t
    · exact .inr (.inl t)
  · exact .inr (.inr rfl)
theorem bl_asymm {a b : Str} (h : Op.bytesLess a b = true) : Op.bytesLess b a = false := by
  cases hb : Op.bytesLess b a
  · rfl
  · have := bl_trans _ _ _ h hb
    rw [bl_irrefl] at this
    cases this
theorem ll_tri (a b : Str) : ll a b = true ∨ a = b ∨ ll b a = true := by
  rw [ll_iff, ll_iff]
  rcases Nat.lt_trichotomy a.length b.length with h | h | h
  · exact .inl (.inl h)
  · rcases bl_tri a b with h' | h' | h'
    · exact .inl (.inr ⟨h, h'⟩)
    · exact .inr (.inl h')
    · exact .inr (.inr (.inr ⟨h.symm, h'⟩))
  · exact .inr (.inr (.inl h))
theorem ll_asymm {a b : Str} (h : ll a b = true) : ll b a = false := by
  cases hb : ll b a
  · rfl
  · have := ll_trans h hb
    rw [ll_irrefl] at this
    cases this

abbrev SLL (l : List Str) : Prop := l.Pairwise fun a b => ll a b = true
theorem sll_ext : ∀ {l m : List Str}, SLL l → SLL m → (∀ x, x ∈ l ↔ x ∈ m) → l = m
  | [], [], _, _, _ => rfl
  | [], b :: m, _, _, h => by have := (h b).2 (by simp); simp at this
  | a :: l, [], _, _, h => by have := (h a).1 (by simp); simp at this
  | a :: l, b :: m, hl, hm, h => by
    obtain ⟨ha, hl'⟩ := List.pairwise_cons.1 hl
    obtain ⟨hb, hm'⟩ := List.pairwise_cons.1 hm
    have e : a = b := by
      rcases List.mem_cons.1 ((h a).1 (by simp)) with e | ia
      · exact e
      · rcases List.mem_cons.1 ((h b).2 (by simp)) with e | ib
        · exact e.symm
        · have := ll_trans (ha b ib) (hb a ia)
          rw [ll_irrefl] at this
          cases this
    subst e
    have : l = m := sll_ext hl' hm' fun x => by
      constructor
      · intro hx
        rcases List.mem_cons.1 ((h x).1 (by simp [hx])) with e | i
        · subst e
          have := ha x hx
          rw [ll_irrefl] at this
          cases this
        · exact i
      · intro hx
        rcases List.mem_cons.1 ((h x).2 (by simp [hx])) with e | i
        · subst e
          have := hb x hx
          rw [ll_irrefl] at this
          cases this
        · exact i
    rw [this]
theorem sll_nodup {l : List Str} (h : SLL l) : l.Nodup := h.imp fun {a b} hab e => by
  subst e
  rw [ll_irrefl] at hab
  cases hab

def lvl (n : Nat) : Str → List Str → List Str
  | _, [] => []
  | p, s :: t => if n ≤ s.length ∧ s.take n ≠ p then s.take n :: lvl n (s.take n) t else lvl n p t
theorem lvl_mem {n : Nat} : ∀ {t : List Str} {p x : Str}, x ∈ lvl n p t → x.length = n ∧ ∃ s ∈ t, x <+: s
  | [], p, x, h => by simp [lvl] at h
  | s :: t, p, x, h => by
    unfold lvl at h
    split at h
    · rename_i c
      rcases List.mem_cons.1 h with rfl | h
      · exact ⟨by simp; omega, s, by simp, List.take_prefix n s⟩
      · obtain ⟨h1, s', h2, h3⟩ := lvl_mem h
        exact ⟨h1, s', by simp [h2], h3⟩
    · obtain ⟨h1, s', h2, h3⟩ := lvl_mem h
      exact ⟨h1, s', by simp [h2], h3⟩
theorem take_of_prefix {x s : Str} (h : x <+: s) : s.take x.length = x := by
  obtain ⟨t, rfl⟩ := h
  simp
theorem lvl_all {n : Nat} : ∀ {t : List Str} {p s x : Str}, s ∈ t → x <+: s → x.length = n → x = p ∨ x ∈ lvl n p t
  | s' :: t, p, s, x, hs, hx, hn => by
    unfold lvl
    rcases List.mem_cons.1 hs with rfl | hs
    · have hl := hx.length_le
      have ht := take_of_prefix hx
      rw [hn] at ht
      rw [ht]
      by_cases c : x = p
      · exact .inl c
      · rw [if_pos ⟨by omega, c⟩]
        exact .inr (by simp)
    · split
      · rcases lvl_all hs hx hn (p := s'.take n) with h | h
        · exact .inr (by simp [h])
        · exact .inr (by simp [h])
      · exact lvl_all hs hx hn
theorem bl_take : ∀ (n : Nat) (a b : Str), Op.bytesLess a b = true → n ≤ a.length → n ≤ b.length → a.take n = b.take n ∨ Op.bytesLess (a.take n) (b.take n) = true
  | 0, _, _, _, _, _ => by simp
  | n + 1, [], _, _, h, _ => by simp at h
  | n + 1, _ :: _, [], _, _, h => by simp at h
  | n + 1, a :: l, b :: m, h, h1, h2 => by
    simp only [List.length_cons] at h1 h2
    simp only [Op.bytesLess, Bool.or_eq_true, Bool.and_eq_true, decide_eq_true_eq, beq_iff_eq] at h
    simp only [List.take_succ_cons, Op.bytesLess, Bool.or_eq_true, Bool.and_eq_true, decide_eq_true_eq, beq_iff_eq, List.cons.injEq]
    rcases h with h | ⟨rfl, h⟩
    · exact .inr (.inl h)
    · rcases bl_take n l m h (by omega) (by omega) with h' | h'
      · exact .inl ⟨rfl, h'⟩
      · exact .inr (.inr ⟨rfl, h'⟩)
abbrev SBL (l : List Str) : Prop := l.Pairwise fun a b => Op.bytesLess a b = true
theorem lvl_sorted {n : Nat} : ∀ {t : List Str} {p : Str}, SBL t → (p.length = n → ∀ s ∈ t, n ≤ s.length → s.take n = p ∨ Op.bytesLess p (s.take n) = true) →
    SBL (lvl n p t) ∧ (p.length = n → ∀ x ∈ lvl n p t, Op.bytesLess p x = true)
  | [], p, _, _ => by simp [lvl]
  | s :: t, p, hs, hp => by
    obtain ⟨h1, h2⟩ := List.pairwise_cons.1 hs
    unfold lvl
    split
    · rename_i c
      have hq : (s.take n).length = n := by simp; omega
      obtain ⟨i1, i2⟩ := lvl_sorted (t := t) (p := s.take n) h2 (fun _ s' hs' hl => by
        rcases bl_take n s s' (h1 s' hs') c.1 hl with e | e
        · exact .inl e.symm
        · exact .inr e)
      refine ⟨List.pairwise_cons.2 ⟨i2 hq, i1⟩, fun e x hx => ?_⟩
      rcases hp e s (by simp) c.1 with e' | e'
      · exact absurd e' c.2
      · rcases List.mem_cons.1 hx with rfl | hx
        · exact e'
        · exact bl_trans _ _ _ e' (i2 hq x hx)
    · exact lvl_sorted h2 (fun e s' hs' hl => hp e s' (by simp [hs']) hl)
def levels (K : List Str) : Nat → Nat → List Str → List Str
  | 0, _, out => out
  | m + 1, n, out => levels K m (n + 1) (out ++ lvl n (out.getLastD []) K)
theorem levels_ok {K : List Str} (hK : SBL K) : ∀ (m n : Nat) (out : List Str), 1 ≤ n → SLL out → (∀ x, x ∈ out ↔ x = [] ∨ (x.length < n ∧ ∃ s ∈ K, x <+: s)) →
    SLL (levels K m n out) ∧ ∀ x, x ∈ levels K m n out ↔ x = [] ∨ (x.length < n + m ∧ ∃ s ∈ K, x <+: s)
  | 0, n, out, _, h1, h2 => ⟨h1, h2⟩
  | m + 1, n, out, hn, h1, h2 => by
    have hne : out ≠ [] := fun e => by have := (h2 []).2 (.inl rfl); rw [e] at this; simp at this
    have hlast : (out.getLastD []).length < n := by
      have hm : out.getLastD [] ∈ out := by
        rw [List.getLastD_eq_getLast?, List.getLast?_eq_some_getLast hne]
        exact List.getLast_mem hne
      rcases (h2 _).1 hm with e | e
      · rw [e]; simp; omega
      · exact e.1
    obtain ⟨s1, _⟩ := lvl_sorted (n := n) (t := K) (p := out.getLastD []) hK (fun e => by omega)
    have := levels_ok hK m (n + 1) (out ++ lvl n (out.getLastD []) K) (by omega) (by
      refine List.pairwise_append.2 ⟨h1, s1.imp_of_mem fun {a b} ha hb hab => ll_iff.2 (.inr ⟨by rw [(lvl_mem ha).1, (lvl_mem hb).1], hab⟩), fun a ha b hb => ll_iff.2 (.inl ?_)⟩
      rw [(lvl_mem hb).1]
      rcases (h2 a).1 ha with e | e
      · rw [e]; simp; omega
      · exact e.1) (fun x => by
      rw [List.mem_append, h2]
      constructor
      · rintro ((h | ⟨h, h'⟩) | h)
        · exact .inl h
        · exact .inr ⟨by omega, h'⟩
        · obtain ⟨e, h'⟩ := lvl_mem h
          exact .inr ⟨by omega, h'⟩
      · rintro (h | ⟨h, s, hs, hx⟩)
        · exact .inl (.inl h)
        · by_cases c : x.length = n
          · rcases lvl_all hs hx c (p := out.getLastD []) with e | e
            · rw [e] at c; omega
            · exact .inr e
          · exact .inl (.inr ⟨by omega, s, hs, hx⟩))
    rw [show n + (m + 1) = n + 1 + m from by omega]
    exact this
def nodesL (K : List Str) : List Str := levels K 12 1 [[]]
theorem nodesL_ok {K : List Str} (hK : SBL K) : SLL (nodesL K) ∧ ∀ x, x ∈ nodesL K ↔ x = [] ∨ (x.length < 13 ∧ ∃ s ∈ K, x <+: s) :=
  levels_ok hK 12 1 [[]] (Nat.le_refl _) (by simp) (fun x => by
    constructor
    · intro h
      exact .inl (by simpa using h)
    · rintro (h | ⟨h, _⟩)
      · simp [h]
      · have : x = [] := List.length_eq_zero_iff.1 (by omega)
        simp [this])

def isChild (s c : Str) : Bool := decide (c.length = s.length + 1) && s.isPrefixOf c
theorem isChild_iff {s c : Str} : isChild s c = true ↔ ∃ a, c = s ++ [a] := by
  simp only [isChild, Bool.and_eq_true, decide_eq_true_eq, List.isPrefixOf_iff_prefix]
  constructor
  · rintro ⟨h, t, rfl⟩
    simp only [List.length_append] at h
    obtain ⟨a, rfl⟩ := List.length_eq_one_iff.1 (show t.length = 1 by omega)
    exact ⟨a, rfl⟩
  · rintro ⟨a, rfl⟩
    exact ⟨by simp, [a], rfl⟩
def kids (N : List Str) (s : Str) : List Str := N.filter (isChild s)
structure Tree (N T : List Str) : Prop where
  sll : SLL N
  hd : N = [] :: T
  pc : ∀ x ∈ T, x.dropLast ∈ N
theorem Tree.ne {N T : List Str} (h : Tree N T) {x : Str} (hx : x ∈ T) : x ≠ [] := by
  have := h.sll
  rw [h.hd] at this
  have := (List.pairwise_cons.1 this).1 x hx
  intro e
  rw [e, ll_irrefl] at this
  cases this
theorem bl_app : ∀ {a b : Str} (c d : Str), a.length = b.length → Op.bytesLess a b = true → Op.bytesLess (a ++ c) (b ++ d) = true
  | [], [], _, _, _, h => by simp [Op.bytesLess] at h
  | [], _ :: _, _, _, h, _ => by simp at h
  | _ :: _, [], _, _, h, _ => by simp at h
  | a :: l, b :: m, c, d, e, h => by
    simp only [Op.bytesLess, Bool.or_eq_true, Bool.and_eq_true, decide_eq_true_eq, beq_iff_eq, List.cons_append] at h ⊢
    rcases h with h | ⟨rfl, h⟩
    · exact .inl h
    · exact .inr ⟨rfl, bl_app c d (by simpa using e) h⟩
theorem kids_all {N T : List Str} (h : Tree N T) : N.flatMap (kids N) = T := by
  have hT : SLL T := by have := h.sll; rw [h.hd] at this; exact (List.pairwise_cons.1 this).2
  refine sll_ext ?_ hT fun x => ?_
  · refine List.pairwise_flatMap.2 ⟨fun s _ => h.sll.filter _, h.sll.imp fun {s s'} hs x hx y hy => ?_⟩
    obtain ⟨a, rfl⟩ := isChild_iff.1 (List.mem_filter.1 hx).2
    obtain ⟨b, rfl⟩ := isChild_iff.1 (List.mem_filter.1 hy).2
    rw [ll_iff] at hs ⊢
    rcases hs with hs | ⟨e, hs⟩
    · exact .inl (by simp; omega)
    · exact .inr ⟨by simp [e], bl_app _ _ e hs⟩
  · simp only [List.mem_flatMap, kids, List.mem_filter]
    constructor
    · rintro ⟨s, _, hx, hc⟩
      obtain ⟨a, rfl⟩ := isChild_iff.1 hc
      rw [h.hd] at hx
      rcases List.mem_cons.1 hx with e | hx
      · simp at e
      · exact hx
    · intro hx
      refine ⟨x.dropLast, h.pc x hx, by rw [h.hd]; simp [hx], isChild_iff.2 ⟨x.getLast (h.ne hx), (List.dropLast_concat_getLast (h.ne hx)).symm⟩⟩

def lastB (s : Str) : UInt8 := s.getLastD 0
def dec (lim : Bool) (lab : Str) : List Bool → Nat → List Str → Option (List Str)
  | [], _, out => some out
  | b :: bs, k, out =>
    if k < out.length then
      if b = true then
        if out.length ≤ lab.length ∧ ¬ (lim = true ∧ (out.getD k []).length = 12) then dec lim lab bs k (out ++ [out.getD k [] ++ [lab.getD (out.length - 1) 0]])
        else none
      else dec lim lab bs (k + 1) out
    else none
def encB (N : List Str) : List Str → List Bool
  | [] => []
  | s :: t => List.replicate (kids N s).length true ++ false :: encB N t
theorem getD_of_get? {α : Type} {l : List α} {i : Nat} {x d : α} (h : l[i]? = some x) : l.getD i d = x := by rw [List.getD_eq_getElem?_getD, h]; rfl
theorem get?_of_mid {α : Type} {pre post : List α} {s : α} : (pre ++ s :: post)[pre.length]? = some s := by simp
theorem room_at {N T : List Str} (h : Tree N T) (pre post : List Str) (s : Str) (hN : N = pre ++ s :: post) (A : List Str) (hA : A = pre.flatMap (kids N)) (B : List Str) (hT : T = A ++ B) : pre.length < A.length + 1 := by
  cases hp0 : pre with
  | nil => simp
  | cons p pre' =>
    have hNT : N.length = T.length + 1 := by rw [h.hd]; simp
    have e0 : T[pre'.length]? = some s := by
      have e := h.hd
      rw [hN, hp0] at e
      simp only [List.cons_append, List.cons.injEq] at e
      rw [← e.2]
      exact get?_of_mid
    have hs : s ∈ T := List.mem_of_getElem? e0
    have hp := h.pc s hs
    have hne := h.ne hs
    have hll : ll s.dropLast s = true := ll_iff.2 (.inl (by
      have := List.length_pos_iff.2 hne
      simp; omega))
    have hpre : s.dropLast ∈ pre := by
      rw [hN] at hp
      rcases List.mem_append.1 hp with hp | hp
      · exact hp
      · have hS := h.sll
        rw [hN] at hS
        have h2 := (List.pairwise_append.1 hS).2.1
        rcases List.mem_cons.1 hp with e' | hp
        · rw [e', ll_irrefl] at hll; cases hll
        · have := ll_trans hll ((List.pairwise_cons.1 h2).1 _ hp)
          rw [ll_irrefl] at this; cases this
    have hin : s ∈ A := by
      rw [hA]
      exact List.mem_flatMap.2 ⟨_, hpre, List.mem_filter.2 ⟨by rw [h.hd]; simp [hs], isChild_iff.2 ⟨s.getLast hne, (List.dropLast_concat_getLast hne).symm⟩⟩⟩
    obtain ⟨i, hi, hi'⟩ := List.getElem_of_mem hin
    have hnd : T.Nodup := sll_nodup (by have := h.sll; rw [h.hd] at this; exact (List.pairwise_cons.1 this).2)
    have hiT : i < T.length := by rw [hT, List.length_append]; omega
    have e1 : T[i]? = some s := by rw [hT, List.getElem?_append_left hi, List.getElem?_eq_getElem hi, hi']
    have : i = pre'.length := (List.getElem?_inj hiT hnd).1 (e1.trans e0.symm)
    simp only [List.length_cons]
    omega
theorem dec_kids {N T : List Str} (h : Tree N T) {lim : Bool} (hl : lim = true → ∀ x ∈ N, x.length ≤ 12) (pre post : List Str) (s : Str) (hN : N = pre ++ s :: post) (bs : List Bool) (A B : List Str) (hA : A = pre.flatMap (kids N)) (hB : B = post.flatMap (kids N)) :
    ∀ (c2 c1 : List Str), kids N s = c1 ++ c2 →
      dec lim (T.map lastB) (List.replicate c2.length true ++ false :: bs) pre.length ([] :: (A ++ c1)) = dec lim (T.map lastB) bs (pre.length + 1) ([] :: (A ++ kids N s)) := by
  have hall : T = A ++ (kids N s ++ B) := by
    have e := kids_all h
    have : N.flatMap (kids N) = (pre ++ s :: post).flatMap (kids N) := congrArg (fun l => l.flatMap (kids N)) hN
    rw [this, List.flatMap_append, List.flatMap_cons, ← hA, ← hB] at e
    exact e.symm
  have hroom := room_at h pre post s hN A hA _ hall
  intro c2
  induction c2 with
  | nil =>
    intro c1 hc
    simp only [List.length_nil, List.replicate_zero, List.nil_append, dec]
    rw [if_pos (by simp only [List.length_cons, List.length_append]; omega), if_neg (by simp), hc, List.append_nil]
  | cons c c2 ih =>
    intro c1 hc
    have hT : T = (A ++ c1) ++ c :: (c2 ++ B) := by rw [hall, hc]; simp
    have hval : ([] :: (A ++ c1)).getD pre.length [] = s := by
      have hN2 : N = ([] :: (A ++ c1)) ++ (c :: (c2 ++ B)) := by rw [List.cons_append, ← hT]; exact h.hd
      have e1 : N[pre.length]? = some s := by rw [hN]; exact get?_of_mid
      rw [hN2, List.getElem?_append_left (by simp only [List.length_cons, List.length_append]; omega)] at e1
      exact getD_of_get? e1
    have hcm : c ∈ kids N s := by rw [hc]; simp
    obtain ⟨a, ha⟩ := isChild_iff.1 (List.mem_filter.1 hcm).2
    have hcN : c ∈ N := (List.mem_filter.1 hcm).1
    have hlen : T.length = (A ++ c1).length + (1 + (c2 ++ B).length) := by rw [hT]; simp only [List.length_append, List.length_cons]; omega
    have hlab : (T.map lastB).getD ((A ++ c1).length + 1 - 1) 0 = a := by
      refine getD_of_get? ?_
      rw [Nat.add_sub_cancel, List.getElem?_map, hT, get?_of_mid]
      simp [lastB, ha]
    simp only [List.length_cons, List.replicate_succ, List.cons_append, dec]
    rw [if_pos (by simp only [List.length_append]; omega), if_pos trivial, hval, hlab, if_pos ⟨by simp only [List.length_map]; omega, fun hh => by
      have := hl hh.1 c hcN
      rw [ha, List.length_append, hh.2] at this
      simp at this⟩, ← ha]
    have := ih (c1 ++ [c]) (by rw [hc]; simp)
    rw [← List.append_assoc] at this
    exact this
theorem dec_enc {N T : List Str} (h : Tree N T) {lim : Bool} (hl : lim = true → ∀ x ∈ N, x.length ≤ 12) : ∀ (post pre : List Str), N = pre ++ post →
    dec lim (T.map lastB) (encB N post) pre.length ([] :: pre.flatMap (kids N)) = some N
  | [], pre, hN => by
    simp only [encB, dec]
    rw [List.append_nil] at hN
    rw [← hN, kids_all h, ← h.hd]
  | s :: post, pre, hN => by
    have := dec_kids h hl pre post s hN (encB N post) _ _ rfl rfl (kids N s) [] rfl
    simp only [encB]
    rw [List.append_nil] at this
    rw [this]
    have := dec_enc h hl post (pre ++ [s]) (by rw [hN]; simp)
    simpa using this
theorem dec_nodes {N T : List Str} (h : Tree N T) {lim : Bool} (hl : lim = true → ∀ x ∈ N, x.length ≤ 12) : dec lim (T.map lastB) (encB N N) 0 [[]] = some N := dec_enc h hl N [] rfl
theorem nodesL_tree {K : List Str} (hK : SBL K) : ∃ T, Tree (nodesL K) T := by
  obtain ⟨h1, h2⟩ := nodesL_ok hK
  have h0 : [] ∈ nodesL K := (h2 []).2 (.inl rfl)
  obtain ⟨x, T, hx⟩ := List.exists_cons_of_ne_nil (List.ne_nil_of_mem h0)
  have e : x = [] := by
    rw [hx] at h0 h1
    rcases List.mem_cons.1 h0 with e | e
    · exact e.symm
    · have := (List.pairwise_cons.1 h1).1 _ e
      rw [ll_iff] at this
      simp only [List.length_nil, Nat.not_lt_zero, false_or] at this
      exact List.length_eq_zero_iff.1 this.1
  subst e
  refine ⟨T, h1, hx, fun y hy => ?_⟩
  have hy' : y ∈ nodesL K := by rw [hx]; simp [hy]
  rw [h2] at hy' ⊢
  rcases hy' with rfl | ⟨hl, s, hs, hp⟩
  · exact .inl rfl
  · exact .inr ⟨by simp; omega, s, hs, (List.dropLast_prefix y).trans hp⟩
end Go.Proofs.YtalfkfddpamnjaaQ
namespace Go.Proofs.YtalfkfddpamnjaaQ
open Go Go.RowKit Go.Proofs.YtalfkfddpamnjaaW.PrintWords Go.Proofs.YtalfkfddpamnjaaGp Go.Proofs.Ytalfkfddpamnjaa.PA

def mkS (b : List UInt8) : ByteArray := ⟨b.toArray⟩
theorem mkS_data (b : List UInt8) : (mkS b).data.toList = b := by simp [mkS]
theorem data_mkS (s : ByteArray) : mkS s.data.toList = s := by simp [mkS]
theorem bytesL_mk (l : List Str) : bytesL (l.map mkS) = l := by
  unfold bytesL; rw [List.map_map]
  exact (List.map_congr_left fun b _ => mkS_data b).trans (List.map_id _)
theorem mk_bytesL (l : List ByteArray) : (bytesL l).map mkS = l := by
  unfold bytesL; rw [List.map_map]
  exact (List.map_congr_left fun b _ => data_mkS b).trans (List.map_id _)
theorem bytesL_app (a b : List ByteArray) : bytesL (a ++ b) = bytesL a ++ bytesL b := by simp [bytesL]
theorem bytesL_len (a : List ByteArray) : (bytesL a).length = a.length := by simp [bytesL]
theorem bytesL_inj {a b : List ByteArray} (h : bytesL a = bytesL b) : a = b := by rw [← mk_bytesL a, h, mk_bytesL]
theorem ext0 (s : ByteArray) (n : Nat) : (s.extract 0 n).data.toList = s.data.toList.take n := by rw [Lib.extract_data]; simp
theorem ext0_mk (s : ByteArray) (n : Nat) : s.extract 0 n = mkS (s.data.toList.take n) := by rw [← ext0, data_mkS]
theorem beq_tl {a b : ByteArray} : (a.toList = b.toList) ↔ a.data.toList = b.data.toList := by rw [tl, tl]

theorem spec_trNodes_l1 (x0 : List ByteArray) (n : Nat) (h1 : 1 ≤ n) (h12 : n ≤ 12) (hl : x0.length ≤ 1000000) (r : List ByteArray) : ∀ (t pre out : List ByteArray), x0 = pre ++ t → out ≠ [] → out.length + t.length ≤ 8000000 →
    (∀ out', bytesL out' = bytesL out ++ lvl n ((bytesL out).getLastD []) (bytesL t) → Ev (fun k => spec_trNodes.l0 k x0 out' ((n + 1 : Nat) : Int)) r) →
    Ev (fun k => spec_trNodes.l1 k x0 out (n : Int) x0 (x0.length : Int) (pre.length : Int)) r := by
  intro t
  induction t with
  | nil =>
    intro pre out h hne hb hc
    refine ev_succ ?_
    simp only [spec_trNodes.l1]
    refine ev_neg (by rw [h]; exact not_lt_end) ?_
    rw [winc (by omega)]
    exact hc out (by simp [bytesL, lvl])
  | cons s t ih =>
    intro pre out h hne hb hc
    have hm : ((pre.length : Nat) : Int) < (x0.length : Int) := by rw [h]; exact lt_mid
    have hg : rdOf ByteArray.empty x0 (pre.length : Int) = s := by rw [h]; exact rdOf_mid
    have hpos : 0 < out.length := List.length_pos_iff.2 hne
    simp only [List.length_cons] at hb
    have hbs : bytesL (s :: t) = s.data.toList :: bytesL t := rfl
    have hlast : (rdOf ByteArray.empty out (wrap64 ((out.length : Int) - 1))).data.toList = (bytesL out).getLastD [] := by
      obtain ⟨q, p, rfl⟩ := last_split (pre := out) hpos
      have e : wrap64 (((q ++ [p]).length : Int) - 1) = (q.length : Int) := by
        rw [w64 (by omega) (by omega)]; simp
      rw [e, rdOf_mid, bytesL_app]
      simp [bytesL]
    have hw : wrap64 ((out.length : Int) - 1) = (out.length : Int) - 1 := w64 (by omega) (by omega)
    refine ev_succ ?_
    simp only [spec_trNodes.l1, hg, beq_tl, ext0, Int.toNat_natCast, hlast]
    refine ev_pos hm (ev_pos (by omega) (ev_pos hm ?_))
    rw [winc (i := pre.length) (by omega)]
    have next := fun out' hne' hb' hc' => ih (pre ++ [s]) out' (by rw [h]; simp) hne' hb' hc'
    rw [len_one] at next
    by_cases c : n ≤ s.data.toList.length
    · have c' := c
      rw [← size_len] at c'
      refine ev_pos (by omega) (ev_pos (by omega) (ev_pos (by omega) (ev_pos (by rw [hw]; omega) (ev_pos (by rw [hw]; omega) ?_))))
      by_cases e : s.data.toList.take n = (bytesL out).getLastD []
      · refine ev_pos e (next out hne (by omega) fun out' ho => hc out' ?_)
        rw [ho, hbs, lvl, if_neg (by rintro ⟨_, hh⟩; exact hh e)]
      · refine ev_neg e (ev_pos (by omega) (next _ (by simp) (by simp; omega) fun out' ho => hc out' ?_))
        rw [ho, hbs, lvl, if_pos ⟨c, e⟩, bytesL_app]
        simp [bytesL]
    · have c' := c
      rw [← size_len] at c'
      refine ev_neg (by omega) (next out hne (by omega) fun out' ho => hc out' ?_)
      rw [ho, hbs, lvl, if_neg (by rintro ⟨hh, _⟩; exact c hh)]
theorem lvl_len (n : Nat) : ∀ (t : List Str) (p : Str), (lvl n p t).length ≤ t.length
  | [], _ => by simp [lvl]
  | s :: t, p => by
    unfold lvl
    split
    · have := lvl_len n t (s.take n); simp; omega
    · have := lvl_len n t p; simp; omega
theorem spec_trNodes_l0 (x0 : List ByteArray) (hl : x0.length ≤ 100000) : ∀ (m n : Nat) (out : List ByteArray), n + m = 13 → 1 ≤ n → out ≠ [] → out.length ≤ 1 + n * 100000 →
    Ev (fun k => spec_trNodes.l0 k x0 out (n : Int)) ((levels (bytesL x0) m n (bytesL out)).map mkS) := by
  intro m
  induction m with
  | zero =>
    intro n out hn h1 hne hb
    refine ev_succ ?_
    simp only [spec_trNodes.l0]
    exact ev_neg (by omega) (ev_some (by rw [levels, mk_bytesL]))
  | succ m ih =>
    intro n out hn h1 hne hb
    refine ev_succ ?_
    simp only [spec_trNodes.l0]
    refine ev_pos (by omega) ?_
    refine spec_trNodes_l1 x0 n h1 (by omega) (by omega) _ x0 [] out rfl hne (by omega) fun out' ho => ?_
    have hlen := congrArg List.length ho
    rw [bytesL_len, List.length_append, bytesL_len] at hlen
    have := lvl_len n (bytesL x0) ((bytesL out).getLastD [])
    rw [bytesL_len] at this
    have hne' : out' ≠ [] := fun e => by
      rw [e] at hlen
      have := List.length_pos_iff.2 hne
      simp at hlen; omega
    have := ih (n + 1) out' (by omega) (by omega) hne' (by omega)
    rw [levels, ← ho]
    exact this
theorem spec_trNodes_f (l : List ByteArray) (hl : l.length ≤ 100000) : Ev (fun k => spec_trNodes.f k l) ((nodesL (bytesL l)).map mkS) := by
  unfold spec_trNodes.f
  have := spec_trNodes_l0 l hl 12 1 [(⟨#[]⟩ : ByteArray)] rfl (Nat.le_refl _) (by simp) (by simp)
  exact this

theorem llH_ll : llH = ll := rfl
theorem le_trans (a b c : Str) (h1 : (!ll b a) = true) (h2 : (!ll c b) = true) : (!ll c a) = true := by
  simp only [Bool.not_eq_true'] at *
  cases h : ll c a
  · rfl
  · rcases ll_tri b a with t | t | t
    · rw [t] at h1; cases h1
    · subst t; rw [h] at h2; cases h2
    · have := ll_trans h t
      rw [this] at h2; cases h2
theorem le_total (a b : Str) : (!ll b a || !ll a b) = true := by
  cases h : ll b a
  · rfl
  · rw [ll_asymm h]; rfl
theorem compact_sll (zs : List Str) (hs : zs.Pairwise fun a b => (!ll b a) = true) : ∀ m, m ≤ zs.length →
    SLL (Lib.compactUpTo zs.toArray m) ∧ ∀ x, x ∈ Lib.compactUpTo zs.toArray m ↔ ∃ j, j < m ∧ zs[j]? = some x
  | 0, _ => by simp [Lib.compactUpTo]
  | m + 1, h => by
    obtain ⟨h1, h2⟩ := compact_sll zs hs m (by omega)
    have hd : ∀ j, (hj : j < zs.length) → zs.toArray[j]! = zs[j] := fun j hj => by simp [hj]
    rw [Lib.compactUpTo_succ]
    by_cases c : m = 0 ∨ zs.toArray[m]! ≠ zs.toArray[m - 1]!
    · have hk : Lib.keeps zs.toArray m = true := by simpa [Lib.keeps] using c
      rw [hk, if_pos rfl, hd m (by omega)]
      refine ⟨List.pairwise_append.2 ⟨h1, by simp, fun a ha b hb => ?_⟩, fun x => ?_⟩
      · obtain rfl : b = zs[m] := by simpa using hb
        obtain ⟨j, hj, hja⟩ := (h2 a).1 ha
        rcases c with c | c
        · omega
        · rw [hd m (by omega), hd (m - 1) (by omega)] at c
          have hle : (!ll zs[m] zs[m - 1]) = true := List.pairwise_iff_getElem.1 hs (m - 1) m (by omega) (by omega) (by omega)
          have hlt : ll zs[m - 1] zs[m] = true := by
            rcases ll_tri zs[m - 1] zs[m] with t | t | t
            · exact t
            · exact absurd t.symm c
            · rw [t] at hle; cases hle
          rw [List.getElem?_eq_getElem (by omega)] at hja
          obtain rfl := Option.some.inj hja
          by_cases e : j = m - 1
          · subst e; exact hlt
          · have hle2 : (!ll zs[m - 1] zs[j]) = true := List.pairwise_iff_getElem.1 hs j (m - 1) (by omega) (by omega) (by omega)
            rcases ll_tri zs[j] zs[m - 1] with t | t | t
            · exact ll_trans t hlt
            · rw [t]; exact hlt
            · rw [t] at hle2; cases hle2
      · rw [List.mem_append, h2]
        constructor
        · rintro (⟨j, hj, hx⟩ | hx)
          · exact ⟨j, by omega, hx⟩
          · obtain rfl : x = zs[m] := by simpa using hx
            exact ⟨m, by omega, List.getElem?_eq_getElem (by omega)⟩
        · rintro ⟨j, hj, hx⟩
          by_cases e : j = m
          · subst e
            rw [List.getElem?_eq_getElem (by omega)] at hx
            exact .inr (by simpa using (Option.some.inj hx).symm)
          · exact .inl ⟨j, by omega, hx⟩
    · have hk : Lib.keeps zs.toArray m = false := by simpa [Lib.keeps] using c
      rw [hk, if_neg (by simp), List.append_nil]
      refine ⟨h1, fun x => ?_⟩
      rw [h2]
      constructor
      · rintro ⟨j, hj, hx⟩; exact ⟨j, by omega, hx⟩
      · rintro ⟨j, hj, hx⟩
        by_cases e : j = m
        · have c1 : ¬ m = 0 := fun e => c (.inl e)
          have c2 : zs.toArray[m]! = zs.toArray[m - 1]! := by
            by_cases hh : zs.toArray[m]! = zs.toArray[m - 1]!
            · exact hh
            · exact absurd (.inr hh) c
          rw [hd m (by omega), hd (m - 1) (by omega)] at c2
          subst e
          refine ⟨j - 1, by omega, ?_⟩
          rw [List.getElem?_eq_getElem (by omega)] at hx ⊢
          rw [← c2]; exact hx
        · exact ⟨j, by omega, hx⟩
theorem compact_sorted (zs : List Str) : SLL (Lib.compact (zs.mergeSort fun x y => !ll y x)) ∧ ∀ x, x ∈ Lib.compact (zs.mergeSort fun x y => !ll y x) ↔ x ∈ zs := by
  have hp := List.pairwise_mergeSort (le := fun x y => !ll y x) (fun a b c h1 h2 => le_trans a b c h1 h2) (fun a b => le_total a b) zs
  obtain ⟨h1, h2⟩ := compact_sll _ hp _ (Nat.le_refl _)
  refine ⟨h1, fun x => ?_⟩
  show x ∈ Lib.compactUpTo _ _ ↔ _
  rw [h2, ← List.mem_mergeSort (le := fun x y => !ll y x) (l := zs)]
  constructor
  · rintro ⟨j, _, hx⟩; exact List.mem_of_getElem? hx
  · intro hx
    obtain ⟨j, hj, e⟩ := List.getElem_of_mem hx
    exact ⟨j, hj, by rw [List.getElem?_eq_getElem hj, e]⟩
def begs (s : Str) : List Str := (List.range s.length).map fun i => s.take (i + 1)
theorem begs_mem {s x : Str} : x ∈ begs s ↔ x ≠ [] ∧ x <+: s := by
  simp only [begs, List.mem_map, List.mem_range]
  constructor
  · rintro ⟨i, hi, rfl⟩
    refine ⟨fun e => ?_, List.take_prefix _ _⟩
    have := congrArg List.length e
    rw [List.length_take, List.length_nil] at this; omega
  · rintro ⟨hne, hp⟩
    have := List.length_pos_iff.2 hne
    have := hp.length_le
    refine ⟨x.length - 1, by omega, ?_⟩
    rw [show x.length - 1 + 1 = x.length from by omega]
    exact take_of_prefix hp
theorem impl_nodesFor_l1 (x0 : List ByteArray) (s : ByteArray) (n10 : Nat) (r : List ByteArray) (hs : s.size ≤ 1000) : ∀ (d i : Nat) (out : List ByteArray), i + d = s.size → out.length + d ≤ 8000000 →
    (∀ out', bytesL out' = bytesL out ++ (begs s.data.toList).drop i → Ev (fun k => impl_nodesFor.l0 k out' x0 (x0.length : Int) (wrap64 ((n10 : Int) + 1))) r) →
    Ev (fun k => impl_nodesFor.l1 k out s x0 (x0.length : Int) (n10 : Int) (s.size : Int) (i : Int)) r := by
  intro d
  induction d with
  | zero =>
    intro i out hi hb hc
    refine ev_succ ?_
    simp only [impl_nodesFor.l1]
    exact ev_neg (by omega) (hc out (by rw [List.drop_of_length_le (by simp only [begs, List.length_map, List.length_range, ← size_len]; omega), List.append_nil]))
  | succ d ih =>
    intro i out hi hb hc
    refine ev_succ ?_
    simp only [impl_nodesFor.l1]
    rw [winc (i := i) (by omega)]
    refine ev_pos (by omega) (ev_pos (by omega) (ev_pos (by omega) (ev_pos (by omega) ?_)))
    rw [Int.toNat_natCast]
    refine ih (i + 1) _ (by omega) (by simp; omega) fun out' ho => hc out' ?_
    have hi2 : i < (begs s.data.toList).length := by simp only [begs, List.length_map, List.length_range, ← size_len]; omega
    have hg : (begs s.data.toList)[i] = s.data.toList.take (i + 1) := by simp [begs]
    have hone : bytesL [s.extract 0 (i + 1)] = [s.data.toList.take (i + 1)] := by simp [bytesL]
    rw [ho, bytesL_app, hone, List.drop_eq_getElem_cons hi2, hg, List.append_assoc]
    rfl
def nodesH (K : List Str) : List Str := Lib.compact ((([] : Str) :: K.flatMap begs).mergeSort fun x y => !ll y x)
theorem impl_nodesFor_l0 (x0 : List ByteArray) (hl : x0.length ≤ 1000) (hs : ∀ s ∈ x0, s.size ≤ 1000) : ∀ (t pre out : List ByteArray), x0 = pre ++ t → out.length ≤ 1 + pre.length * 1000 →
    bytesL out = [] :: (bytesL pre).flatMap begs →
    Ev (fun k => impl_nodesFor.l0 k out x0 (x0.length : Int) (pre.length : Int)) ((nodesH (bytesL x0)).map mkS) := by
  intro t
  induction t with
  | nil =>
    intro pre out h hb ho
    refine ev_succ ?_
    simp only [impl_nodesFor.l0]
    refine ev_neg (by rw [h]; exact not_lt_end) ?_
    rw [List.append_nil] at h
    have e : slices_SortFunc_string_string_at_impl_nodesFor_1.f out = some (sortN out) := by
      unfold slices_SortFunc_string_string_at_impl_nodesFor_1.f
      have : pre.length ≤ 1000 := by rw [← h]; exact hl
      rw [if_pos (by omega)]
    rw [e]
    refine ev_bind _ (Ev.now _) (ev_bind _ (Ev.now _) (ev_some ?_))
    unfold compactS sortN nodesH
    have eb : bytesL ((((bytesL out).mergeSort fun x y => !llH y x).map fun b => (⟨b.toArray⟩ : ByteArray))) = (bytesL out).mergeSort fun x y => !llH y x := bytesL_mk _
    rw [eb, llH_ll, ho, h]
    rfl
  | cons s t ih =>
    intro pre out h hb ho
    have hm : ((pre.length : Nat) : Int) < (x0.length : Int) := by rw [h]; exact lt_mid
    have hg : rdOf ByteArray.empty x0 (pre.length : Int) = s := by rw [h]; exact rdOf_mid
    have hz : s.size ≤ 1000 := hs s (by rw [h]; simp)
    have hpl : pre.length < x0.length := by omega
    refine ev_succ ?_
    simp only [impl_nodesFor.l0, hg]
    refine ev_pos hm (ev_pos (by omega) (ev_pos hm ?_))
    refine impl_nodesFor_l1 x0 s pre.length _ hz s.size 0 out (by omega) (by
      have : pre.length * 1000 ≤ 1000 * 1000 := Nat.mul_le_mul_right _ (by omega)
      omega) fun out' ho' => ?_
    rw [winc (by omega)]
    have hlen := congrArg List.length ho'
    rw [List.drop_zero, bytesL_len, List.length_append, bytesL_len] at hlen
    have hbl : (begs s.data.toList).length = s.size := by simp only [begs, List.length_map, List.length_range, size_len]
    have := ih (pre ++ [s]) out' (by rw [h]; simp) (by simp only [List.length_append, List.length_cons, List.length_nil]; omega) (by
      rw [ho', List.drop_zero, ho, bytesL_app, List.flatMap_append]
      simp [bytesL])
    rw [len_one] at this
    exact this
theorem nodesH_eq {K : List Str} (hK : SBL K) (h12 : ∀ s ∈ K, s.length ≤ 12) : nodesH K = nodesL K := by
  obtain ⟨h1, h2⟩ := compact_sorted (([] : Str) :: K.flatMap begs)
  obtain ⟨h3, h4⟩ := nodesL_ok hK
  refine sll_ext h1 h3 fun x => ?_
  unfold nodesH
  rw [h2, h4, List.mem_cons, List.mem_flatMap]
  constructor
  · rintro (h | ⟨s, hs, hx⟩)
    · exact .inl h
    · obtain ⟨_, hp⟩ := begs_mem.1 hx
      have := hp.length_le
      have := h12 s hs
      exact .inr ⟨by omega, s, hs, hp⟩
  · rintro (h | ⟨_, s, hs, hp⟩)
    · exact .inl h
    · by_cases e : x = []
      · exact .inl e
      · exact .inr ⟨s, hs, begs_mem.2 ⟨e, hp⟩⟩

theorem keys_sbl {l : List ByteArray} (h : areKeysB l = true) : SBL (bytesL l) := by
  have hf := areKeysB_from h
  have go : ∀ (p : Option ByteArray) (l : List ByteArray), keysFrom p l = true → SBL (bytesL l) := by
    intro p l
    induction l generalizing p with
    | nil => intro _; simp [bytesL]
    | cons x t ih =>
      intro hk
      simp only [keysFrom, Bool.and_eq_true] at hk
      refine List.pairwise_cons.2 ⟨fun y hy => ?_, ih _ hk.2⟩
      obtain ⟨s, hs, rfl⟩ := List.mem_map.1 hy
      have := keysFrom_less x t hk.2 s hs
      unfold lessS at this
      rw [tl, tl] at this
      exact this
  exact go none l hf
theorem keys_12 {l : List ByteArray} (h : areKeysB l = true) : ∀ s ∈ bytesL l, s.length ≤ 12 := by
  intro s hs
  obtain ⟨x, hx, rfl⟩ := List.mem_map.1 hs
  have := isKeyB_size (areKeysB_all h x hx)
  rw [← size_len]
  exact this.2
theorem impl_nodesFor_f (l : List ByteArray) (h : areKeysB l = true) : Ev (fun k => impl_nodesFor.f k l) ((nodesL (bytesL l)).map mkS) := by
  unfold impl_nodesFor.f
  have hl := areKeysB_len h
  have := impl_nodesFor_l0 l (by omega) (fun s hs => by have := isKeyB_size (areKeysB_all h s hs); omega) l [] [(⟨#[]⟩ : ByteArray)] rfl (by simp) (by simp [bytesL])
  rw [nodesH_eq (keys_sbl h) (keys_12 h)] at this
  exact this
end Go.Proofs.YtalfkfddpamnjaaQ
