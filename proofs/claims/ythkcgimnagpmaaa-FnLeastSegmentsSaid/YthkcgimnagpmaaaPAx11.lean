-- printed by a program of this session (wip/gp) out of the translation; Lean checks it
import Derived.Test.YthkcgimnagpmaaaPAx0
import Derived.Test.YthkcgimnagpmaaaPAx2
import Derived.Test.YthkcgimnagpmaaaPAx3
import Derived.Test.YthkcgimnagpmaaaPAx9
import Derived.Test.YthkcgimnagpmaaaPAx10
import Derived.Test.YthkcgimnagpmaaaPAx12
namespace Go.Proofs.Ythkcgimnagpmaaa.PA
open Go.RowKit Go.Proofs.YthkcgimnagpmaaaW.PrintWords Go.Proofs.YthkcgimnagpmaaaW.PrintLast Go.Proofs.YthkcgimnagpmaaaW.PrintMore Go.Proofs.YthkcgimnagpmaaaSq
attribute [local go_sem] max2_int min2_int max_two min_two max_three min_three max_four min_four   -- for this text's walks alone
attribute [local go_sem] Go.Proofs.YthkcgimnagpmaaaGp.str_geq Go.Proofs.YthkcgimnagpmaaaGp.str_gtr Go.Proofs.YthkcgimnagpmaaaGp.str_leq
set_option linter.unusedVariables false
set_option linter.unusedSimpArgs false

set_option maxHeartbeats 8000000
set_option maxRecDepth 100000
/-! ### spec_DrawLeastSegment: function 37 -/
def spec_DrawLeastSegment.f (k : Nat) (l0 : List Int) : Option (Int × List ByteArray × Int) := (spec_l1Cur_seed9.f l0 0 0).bind fun bt645 => ((spec_l1Cur_anyKeys.f k l0 bt645.2.1 bt645.2.2 8).bind fun bt648 => ((spec_l1Cur_segment.f l0 bt648.2.1 bt648.2.2).bind fun bt653 => (some (bt645.1, bt648.1, bt653.1))))
theorem spec_DrawLeastSegment.mono : ∀ a0 k, LeO (spec_DrawLeastSegment.f k a0) (spec_DrawLeastSegment.f (k + 1) a0) := by
 intro a0 k
 unfold spec_DrawLeastSegment.f
 repeat' first | (with_reducible first | exact spec_l1Cur_anyKeys.mono _ _ _ _ _ | exact LeO.refl _ | exact LeO.none _ | refine LeO.ite ?_ ?_ | refine LeO.bind ?_ (fun _ => ?_)) | exact LeO.none _ | refine LeO.ite ?_ ?_ | refine LeO.bind ?_ (fun _ => ?_)
theorem spec_DrawLeastSegment.calls (k : Nat) (A0 : Option Addr) (c0 : Nat) (l0 : List Int) (r1 : Int) (r2 : List ByteArray) (r3 : Int) (w : World) (hr0 : Kd.C (Kd.int .u8) w A0 l0.length l0) (hc0 : l0.length ≤ c0) (h : spec_DrawLeastSegment.f k l0 = some (r1, r2, r3)) :
  Calls Try.prog 37 #[.slice A0 l0.length c0] w fun e w' => ∃ v1_ : Value, e = .returned (.tuple #[.int .i64 r1, v1_, .int .i64 r3]) ∧ Kd.R Kd.string 9 w' w.heap.size (fun _ => True) v1_ r2 ∧ Below w.heap.size w w' := by
 have hu81 := Try.underlying81; have HR0 := am hr0; have HC0 := am hc0; clear hr0 hc0; have HB := am (Below.refl w.heap.size w); have H : ((spec_l1Cur_seed9.f l0 0 0).bind fun bt645 => ((spec_l1Cur_anyKeys.f k l0 bt645.2.1 bt645.2.2 8).bind fun bt648 => ((spec_l1Cur_segment.f l0 bt648.2.1 bt648.2.2).bind fun bt653 => (some (bt645.1, bt648.1, bt653.1))))) = some (r1, r2, r3) := h; clear h; replace H := Option.bind_eq_some_iff.mp H; obtain ⟨⟨t645, t646, t647⟩, A20, H⟩ := H; (try dsimp -simprocs only at H); have A2 := am A20; clear A20; replace H := Option.bind_eq_some_iff.mp H; obtain ⟨⟨t648, t651, t652⟩, A30, H⟩ := H; (try dsimp -simprocs only at H); have A3 := am A30; clear A30; replace H := Option.bind_eq_some_iff.mp H; obtain ⟨⟨t653, t654, t655⟩, A40, H⟩ := H; (try dsimp -simprocs only at H); have A4 := am A40; clear A40
 simp only [Option.some.injEq, Prod.mk.injEq] at H
 obtain ⟨rfl, rfl, rfl⟩ := H
 go_enter Try.func37, Try.ntmps37
 go_wp2_with (first | ((with_reducible refine gate_dst (N := 8) rfl ?_); refine bE 8 #[.slice A0 l0.length c0, .int .i64 0, .int .u64 0] 81 ?_; intro gb644 hg w5 hbox hb; have n0_ := Bb HB hb; have n1_ := am (hbox); have n2_ := Gl HB hg; have n3_ := Gl HB hg; clear HB; revert n0_ n1_ n2_ n3_; intro HB BK644 GW644 GE644; clear hb hbox hg; have HI644 := am (show IsS81 w _ gb644 l0 0 0 from ⟨A0, c0, BK644.out, GE644.out, HR0.out⟩); clear BK644) | ((with_reducible refine gate_callee (f := 65) rfl ?_); refine gL (some 10) Try.func65 #[.pointer (some ⟨gb644, 0, none⟩)] ?_; (with_reducible refine (spec_l1Cur_seed9.calls gb644 l0 0 0 t645 t646 t647 w _ ?side1 ?side2 A2.out).mono ?_); (case side1 => repeat (first | (with_reducible first | exact HI644.out | apply IsS81.alloc | apply IsS81.drewN | apply IsS81.drew | apply IsS81.set_1 | apply IsS81.set_2) | exact HI644.out)); (case side2 => repeat (first | (with_reducible first | exact HB.out | apply below_alloc | apply pw_below_drewN | apply below_drew1 | refine below_set ?_ (IsS81.ge HI644.out)) | exact HB.out)); rintro e w6 ⟨rfl, hi, hb, hk⟩; refine ⟨_, rfl, ?_⟩; have n0_ := am (hb); have n1_ := am (hi); clear HB HI644; revert n0_ n1_; intro HB HI644; (try clear hb); (try clear hb2); (try clear hk); (try clear hi)) | ((with_reducible refine gate_callee (f := 66) rfl ?_); refine gL (some 12) Try.func66 #[.pointer (some ⟨gb644, 0, none⟩), .int .i64 8] ?_; (with_reducible refine (spec_l1Cur_anyKeys.calls k gb644 l0 t646 t647 8 t648 t651 t652 w _ ?side1 ?side2 A3.out).mono ?_); (case side1 => repeat (first | (with_reducible first | exact HI644.out | apply IsS81.alloc | apply IsS81.drewN | apply IsS81.drew | apply IsS81.set_1 | apply IsS81.set_2) | exact HI644.out)); (case side2 => repeat (first | (with_reducible first | exact HB.out | apply below_alloc | apply pw_below_drewN | apply below_drew1 | refine below_set ?_ (IsS81.ge HI644.out)) | exact HB.out)); rintro e w7 ⟨v649, rfl, ho0, hi, hb, hk⟩; refine ⟨_, rfl, ?_⟩; have n0_ := am (Kd.R_lower ho0 (below_size (by repeat (first | (with_reducible first | exact HB.out | apply below_alloc | apply pw_below_drewN | apply below_drew1 | refine below_set ?_ (IsS81.ge HI644.out)) | exact HB.out)))); have n1_ := am (hb); have n2_ := am (hi); clear HB HI644; revert n0_ n1_ n2_; intro HO650 HB HI644; (try clear hb); (try clear hb2); (try clear hk); (try clear hi); (try clear ho0)) | ((with_reducible refine gate_callee (f := 111) rfl ?_); refine gL (some 14) Try.func111 #[.pointer (some ⟨gb644, 0, none⟩)] ?_; (with_reducible refine (spec_l1Cur_segment.calls gb644 l0 t651 t652 t653 t654 t655 w _ ?side1 ?side2 A4.out).mono ?_); (case side1 => repeat (first | (with_reducible first | exact HI644.out | apply IsS81.alloc | apply IsS81.drewN | apply IsS81.drew | apply IsS81.set_1 | apply IsS81.set_2) | exact HI644.out)); (case side2 => repeat (first | (with_reducible first | exact HB.out | apply below_alloc | apply pw_below_drewN | apply below_drew1 | refine below_set ?_ (IsS81.ge HI644.out)) | exact HB.out)); rintro e w8 ⟨rfl, hi, hb, hk⟩; refine ⟨_, rfl, ?_⟩; have n0_ := am (Kd.R_mono (Kd.R_keep (IsS81.apart (show IsS81 w _ gb644 l0 t651 t652 from by repeat (first | (with_reducible first | exact HI644.out | apply IsS81.alloc | apply IsS81.drewN | apply IsS81.drew | apply IsS81.set_1 | apply IsS81.set_2) | exact HI644.out)) (Rz HO650.out) (by decide)) hk (fun _ h => h.2)) (fun _ h => h.1)); have n1_ := am (hb); have n2_ := am (hi); clear HO650 HB HI644; revert n0_ n1_ n2_; intro HO650 HB HI644; (try clear hb); (try clear hb2); (try clear hk); (try clear hi)))
 go_ret3
 exact ⟨_, eZ, Rz HO650.out, by repeat (first | (with_reducible first | exact HB.out | apply below_alloc | apply pw_below_drewN | apply below_drew1 | refine below_set ?_ (IsS81.ge HI644.out)) | exact HB.out)⟩

/-! ### impl_LeastSegment: function 38 -/
mutual
def impl_LeastSegment.j0 : Nat → Int → List ByteArray → Int → Bool → Option (Int × Bool)
 | 0, _, _, _, _ => none
 | k + 1, x0, x1, x2, x21 => if x21 = true then (some (0, false)) else (impl_LeastSegment.l0 k x0 x1 x2 1)
def impl_LeastSegment.l0 : Nat → Int → List ByteArray → Int → Int → Option (Int × Bool)
 | 0, _, _, _, _ => none
 | k + 1, x0, x1, x2, x8 => if x8 ≤ x2 then ((impl_peels.f k x0 x1 x8).bind fun t697 => (if t697 = true then (some (x8, true)) else (impl_LeastSegment.l0 k x0 x1 x2 (wrap64 (x8 + 1))))) else (some (0, false))
end
def impl_LeastSegment.f (k : Nat) (a0 : Int) (l1 : List ByteArray) (a2 : Int) : Option (Int × Bool) := (impl_isSeed.f a0).bind fun t694 => (if t694 = true then ((impl_AreKeys.f k l1).bind fun t695 => (if t695 = true then ((impl_segmentOk.f a2).bind fun t696 => (impl_LeastSegment.j0 k a0 l1 a2 (!t696))) else (impl_LeastSegment.j0 k a0 l1 a2 true))) else (impl_LeastSegment.j0 k a0 l1 a2 true))
theorem impl_LeastSegment.mono_l : ∀ k, (∀ y0 y1 y2 y3, LeO (impl_LeastSegment.j0 k y0 y1 y2 y3) (impl_LeastSegment.j0 (k + 1) y0 y1 y2 y3)) ∧ (∀ y0 y1 y2 y3, LeO (impl_LeastSegment.l0 k y0 y1 y2 y3) (impl_LeastSegment.l0 (k + 1) y0 y1 y2 y3))
 | 0 => ⟨fun _ _ _ _ r h => by simp [impl_LeastSegment.j0] at h, fun _ _ _ _ r h => by simp [impl_LeastSegment.l0] at h⟩
 | k + 1 => by
  obtain ⟨ih0, ih1⟩ := impl_LeastSegment.mono_l k; refine ⟨?_, ?_⟩
  ·intro y0 y1 y2 y3
   unfold impl_LeastSegment.j0
   repeat' first | (with_reducible first | exact ih0 _ _ _ _ | exact ih1 _ _ _ _ | exact impl_AreKeys.mono _ _ | exact impl_peels.mono _ _ _ _ | exact LeO.refl _ | exact LeO.none _ | refine LeO.ite ?_ ?_ | refine LeO.bind ?_ (fun _ => ?_)) | exact LeO.none _ | refine LeO.ite ?_ ?_ | refine LeO.bind ?_ (fun _ => ?_)
  ·intro y0 y1 y2 y3
   unfold impl_LeastSegment.l0
   repeat' first | (with_reducible first | exact ih0 _ _ _ _ | exact ih1 _ _ _ _ | exact impl_AreKeys.mono _ _ | exact impl_peels.mono _ _ _ _ | exact LeO.refl _ | exact LeO.none _ | refine LeO.ite ?_ ?_ | refine LeO.bind ?_ (fun _ => ?_)) | exact LeO.none _ | refine LeO.ite ?_ ?_ | refine LeO.bind ?_ (fun _ => ?_)
theorem impl_LeastSegment.mono : ∀ a0 a1 a2 k, LeO (impl_LeastSegment.f k a0 a1 a2) (impl_LeastSegment.f (k + 1) a0 a1 a2) := by
 intro a0 a1 a2 k; obtain ⟨ih0, ih1⟩ := impl_LeastSegment.mono_l k
 unfold impl_LeastSegment.f
 repeat' first | (with_reducible first | exact ih0 _ _ _ _ | exact ih1 _ _ _ _ | exact impl_AreKeys.mono _ _ | exact impl_peels.mono _ _ _ _ | exact LeO.refl _ | exact LeO.none _ | refine LeO.ite ?_ ?_ | refine LeO.bind ?_ (fun _ => ?_)) | exact LeO.none _ | refine LeO.ite ?_ ?_ | refine LeO.bind ?_ (fun _ => ?_)
theorem impl_LeastSegment.calls (k : Nat) (a0 : Int) (A1 : Option Addr) (c1 : Nat) (l1 : List ByteArray) (a2 : Int) (r1 : Int) (r2 : Bool) (w : World) (hr1 : Kd.C Kd.string w A1 l1.length l1) (hc1 : l1.length ≤ c1) (h : impl_LeastSegment.f k a0 l1 a2 = some (r1, r2)) :
  Calls Try.prog 38 #[.int .i64 a0, .slice A1 l1.length c1, .int .i64 a2] w fun e w' => e = .returned (.tuple #[.int .i64 r1, .bool r2]) ∧ Below w.heap.size w w' := by
 have HR1 := am hr1; have HC1 := am hc1; clear hr1 hc1; have HB := am (Below.refl w.heap.size w); have H : ((impl_isSeed.f a0).bind fun t694 => (if t694 = true then ((impl_AreKeys.f k l1).bind fun t695 => (if t695 = true then ((impl_segmentOk.f a2).bind fun t696 => (impl_LeastSegment.j0 k a0 l1 a2 (!t696))) else (impl_LeastSegment.j0 k a0 l1 a2 true))) else (impl_LeastSegment.j0 k a0 l1 a2 true))) = some (r1, r2) := h; clear h; have HC4 := am H; clear H
 go_enter Try.func38, Try.ntmps38
 go_upto_region 1 with (fail)
 go_cut [21] (fun v21 wc => ∃ (kq : Nat) (x21_3 : Bool), v21 = .bool x21_3 ∧ Aside0 (impl_LeastSegment.j0 kq a0 l1 a2 x21_3 = some (r1, r2)) ∧ Aside0 (kq ≤ k) ∧ Aside0 (Below w.heap.size w wc))
 case first =>
  have H := HC4.out; clear HC4; replace H := Option.bind_eq_some_iff.mp H; obtain ⟨t694, A50, H⟩ := H; (try dsimp -simprocs only at H); have A5 := am A50; clear A50
  by_cases c6 : t694 = true
  ·subst c6
   rw [if_pos rfl] at H; replace H := Option.bind_eq_some_iff.mp H; obtain ⟨t695, A70, H⟩ := H; (try dsimp -simprocs only at H); have A7 := am A70; clear A70
   by_cases c8 : t695 = true
   ·subst c8
    rw [if_pos rfl] at H; replace H := Option.bind_eq_some_iff.mp H; obtain ⟨t696, A90, H⟩ := H; (try dsimp -simprocs only at H); have A9 := am A90; clear A90; have H' := am H; clear H
    go_wp2_with (first | ((with_reducible refine gate_callee (f := 80) rfl ?_); refine gL (some 10) Try.func80 #[.int .i64 a0] ?_; (with_reducible refine (impl_isSeed.calls a0 true _ A5.out).mono ?_); rintro e w' ⟨rfl, ⟨nd, rfl⟩⟩; refine ⟨_, rfl, ?_⟩) | (go_at_call 69; (with_reducible refine (impl_AreKeys.calls k _ _ l1 true _ ?side1 ?side2 A7.out).mono ?_); (case side1 => exact Kd.C_below HR1.out (Bz HB.out)); (case side2 => exact HC1.out); rintro e w' ⟨rfl, ⟨nd, rfl⟩⟩) | (go_at_call 112; (with_reducible refine (impl_segmentOk.calls a2 t696 _ A9.out).mono ?_); rintro e w' ⟨rfl, ⟨nd, rfl⟩⟩))
    go_meet
    case rel => exact ⟨_, (!t696), wZ, H', ⟨by first | omega | exact Nat.le_refl _⟩, ⟨Bz HB.out⟩⟩
   ·replace c8 := Bool.eq_false_iff.mpr c8
    subst c8
    rw [if_neg (show ¬ (false = true) by decide)] at H; have H' := am H; clear H
    go_wp2_with (first | ((with_reducible refine gate_callee (f := 80) rfl ?_); refine gL (some 10) Try.func80 #[.int .i64 a0] ?_; (with_reducible refine (impl_isSeed.calls a0 true _ A5.out).mono ?_); rintro e w' ⟨rfl, ⟨nd, rfl⟩⟩; refine ⟨_, rfl, ?_⟩) | (go_at_call 69; (with_reducible refine (impl_AreKeys.calls k _ _ l1 false _ ?side1 ?side2 A7.out).mono ?_); (case side1 => exact Kd.C_below HR1.out (Bz HB.out)); (case side2 => exact HC1.out); rintro e w' ⟨rfl, ⟨nd, rfl⟩⟩))
    go_meet
    case rel => exact ⟨_, (true), wZ, H', ⟨by first | omega | exact Nat.le_refl _⟩, ⟨Bz HB.out⟩⟩
  ·replace c6 := Bool.eq_false_iff.mpr c6
   subst c6
   rw [if_neg (show ¬ (false = true) by decide)] at H; have H' := am H; clear H
   go_wp2_with (first | ((with_reducible refine gate_callee (f := 80) rfl ?_); refine gL (some 10) Try.func80 #[.int .i64 a0] ?_; (with_reducible refine (impl_isSeed.calls a0 false _ A5.out).mono ?_); rintro e w' ⟨rfl, ⟨nd, rfl⟩⟩; refine ⟨_, rfl, ?_⟩))
   go_meet
   case rel => exact ⟨_, (true), wZ, H', ⟨by first | omega | exact Nat.le_refl _⟩, ⟨Bz HB.out⟩⟩
 case rest =>
  clear HC4
  try clear c1
  try clear p2
  try clear c3
  try clear c6
  try clear c8
  obtain ⟨kq, x21_3, rfl, HA, HJ3, HB⟩ := hcut; cases kq with
  | zero => exact absurd HA.out (by simp [impl_LeastSegment.j0])
  | succ kj3 =>
   have H := HA.out; clear HA
   simp only [impl_LeastSegment.j0] at H
   by_cases c10 : x21_3 = true
   ·subst c10
    rw [if_pos rfl] at H
    simp only [Option.some.injEq, Prod.mk.injEq] at H
    obtain ⟨rfl, rfl⟩ := H
    go_wp2
    go_ret2
    exact ⟨eZ, Bz HB.out⟩
   ·replace c10 := Bool.eq_false_iff.mpr c10
    subst c10
    rw [if_neg (show ¬ (false = true) by decide)] at H; have H' := am H; clear H
    go_wp2
    go_loopg [8] kj3 (fun kq v8 w' => ∃ (x8_2 : Int), v8 = .int .i64 x8_2 ∧ Aside0 (impl_LeastSegment.l0 kq a0 l1 a2 x8_2 = some (r1, r2)) ∧ Aside0 (kq ≤ kj3) ∧ Aside0 (Below w.heap.size w w'))
    case atStart => exact ⟨(1), wZ, H', ⟨Nat.le_refl _⟩, ⟨Bz HB.out⟩⟩
    case round =>
     clear H'
     try clear c1
     try clear p2
     try clear c3
     try clear c6
     try clear c8
     try clear c10
     try clear p2
     obtain ⟨x8_2, rfl, HA, HK2, HB⟩ := hrel; cases gk with
     | zero => exact absurd HA.out (by simp [impl_LeastSegment.l0])
     | succ k2 =>
      have H := HA.out; clear HA
      simp only [impl_LeastSegment.l0] at H
      by_cases c11 : x8_2 ≤ a2
      ·rw [if_pos c11] at H
       have c11b0 : decide (x8_2 ≤ a2) = true := decide_eq_true c11; clear c11; replace H := Option.bind_eq_some_iff.mp H; obtain ⟨t697, A120, H⟩ := H; (try dsimp -simprocs only at H); have A12 := am A120; clear A120
       by_cases c13 : t697 = true
       ·subst c13
        rw [if_pos rfl] at H
        simp only [Option.some.injEq, Prod.mk.injEq] at H
        obtain ⟨rfl, rfl⟩ := H
        go_wp2_with (first | ((with_reducible refine gate_callee (f := 113) rfl ?_); refine gL (some 30) Try.func113 #[.int .i64 a0, .slice A1 l1.length c1, .int .i64 x8_2] ?_; (with_reducible refine (impl_peels.calls k2 a0 _ _ l1 x8_2 true _ ?side1 ?side2 A12.out).mono ?_); (case side1 => exact Cz (Kd.C_below HR1.out HB.out)); (case side2 => exact HC1.out); rintro e w14 ⟨rfl, hb⟩; refine ⟨_, rfl, ?_⟩; have n0_ := Bb HB hb; clear HB; revert n0_; intro HB; (try clear hb); (try clear hb2); (try clear hk); (try clear hi)))
        go_ret2
        exact ⟨eZ, Bz HB.out⟩
       ·replace c13 := Bool.eq_false_iff.mpr c13
        subst c13
        rw [if_neg (show ¬ (false = true) by decide)] at H; have H' := am H; clear H
        go_wp2_with (first | ((with_reducible refine gate_callee (f := 113) rfl ?_); refine gL (some 30) Try.func113 #[.int .i64 a0, .slice A1 l1.length c1, .int .i64 x8_2] ?_; (with_reducible refine (impl_peels.calls k2 a0 _ _ l1 x8_2 false _ ?side1 ?side2 A12.out).mono ?_); (case side1 => exact Cz (Kd.C_below HR1.out HB.out)); (case side2 => exact HC1.out); rintro e w15 ⟨rfl, hb⟩; refine ⟨_, rfl, ?_⟩; have n0_ := Bb HB hb; clear HB; revert n0_; intro HB; (try clear hb); (try clear hb2); (try clear hk); (try clear hi)))
        go_roundg k2
        case measure => have := HJ3.out; have := HK2.out; omega
        case rel => exact ⟨(wrap64 (x8_2 + 1)), wZ, H', ⟨by have := HJ3.out; have := HK2.out; omega⟩, ⟨Bz HB.out⟩⟩
      ·rw [if_neg c11] at H
       have c11b0 : decide (x8_2 ≤ a2) = false := decide_eq_false c11; clear c11
       simp only [Option.some.injEq, Prod.mk.injEq] at H
       obtain ⟨rfl, rfl⟩ := H
       go_wp2
       go_ret2
       exact ⟨eZ, Bz HB.out⟩

/-! ### spec_LeastSegment: function 39 -/
def spec_LeastSegment.l0 : Nat → Int → List ByteArray → Int → Int → Option (Int × Bool)
 | 0, _, _, _, _ => none
 | k + 1, x0, x1, x2, x8 => if x8 ≤ x2 then ((spec_pePeels.f k x0 x1 x8).bind fun t720 => (if t720 = true then (some (x8, true)) else (spec_LeastSegment.l0 k x0 x1 x2 (wrap64 (x8 + 1))))) else (some (0, false))
def spec_LeastSegment.f (k : Nat) (a0 : Int) (l1 : List ByteArray) (a2 : Int) : Option (Int × Bool) := (spec_peKeyed.f k a0 l1 a2).bind fun t719 => (if t719 = true then (spec_LeastSegment.l0 k a0 l1 a2 1) else (some (0, false)))
theorem spec_LeastSegment.mono_l : ∀ k, (∀ y0 y1 y2 y3, LeO (spec_LeastSegment.l0 k y0 y1 y2 y3) (spec_LeastSegment.l0 (k + 1) y0 y1 y2 y3))
 | 0 => fun _ _ _ _ r h => by simp [spec_LeastSegment.l0] at h
 | k + 1 => by
  have ih0 := spec_LeastSegment.mono_l k
  ·intro y0 y1 y2 y3
   unfold spec_LeastSegment.l0
   repeat' first | (with_reducible first | exact ih0 _ _ _ _ | exact spec_peKeyed.mono _ _ _ _ | exact spec_pePeels.mono _ _ _ _ | exact LeO.refl _ | exact LeO.none _ | refine LeO.ite ?_ ?_ | refine LeO.bind ?_ (fun _ => ?_)) | exact LeO.none _ | refine LeO.ite ?_ ?_ | refine LeO.bind ?_ (fun _ => ?_)
theorem spec_LeastSegment.mono : ∀ a0 a1 a2 k, LeO (spec_LeastSegment.f k a0 a1 a2) (spec_LeastSegment.f (k + 1) a0 a1 a2) := by
 intro a0 a1 a2 k; have ih0 := spec_LeastSegment.mono_l k
 unfold spec_LeastSegment.f
 repeat' first | (with_reducible first | exact ih0 _ _ _ _ | exact spec_peKeyed.mono _ _ _ _ | exact spec_pePeels.mono _ _ _ _ | exact LeO.refl _ | exact LeO.none _ | refine LeO.ite ?_ ?_ | refine LeO.bind ?_ (fun _ => ?_)) | exact LeO.none _ | refine LeO.ite ?_ ?_ | refine LeO.bind ?_ (fun _ => ?_)
theorem spec_LeastSegment.calls (k : Nat) (a0 : Int) (A1 : Option Addr) (c1 : Nat) (l1 : List ByteArray) (a2 : Int) (r1 : Int) (r2 : Bool) (w : World) (hr1 : Kd.C Kd.string w A1 l1.length l1) (hc1 : l1.length ≤ c1) (h : spec_LeastSegment.f k a0 l1 a2 = some (r1, r2)) :
  Calls Try.prog 39 #[.int .i64 a0, .slice A1 l1.length c1, .int .i64 a2] w fun e w' => e = .returned (.tuple #[.int .i64 r1, .bool r2]) ∧ Below w.heap.size w w' := by
 have HR1 := am hr1; have HC1 := am hc1; clear hr1 hc1; have HB := am (Below.refl w.heap.size w); have H : ((spec_peKeyed.f k a0 l1 a2).bind fun t719 => (if t719 = true then (spec_LeastSegment.l0 k a0 l1 a2 1) else (some (0, false)))) = some (r1, r2) := h; clear h; replace H := Option.bind_eq_some_iff.mp H; obtain ⟨t719, A40, H⟩ := H; (try dsimp -simprocs only at H); have A4 := am A40; clear A40
 by_cases c5 : t719 = true
 ·subst c5
  rw [if_pos rfl] at H; have H' := am H; clear H
  go_enter Try.func39, Try.ntmps39
  go_wp2_with (first | ((with_reducible refine gate_callee (f := 114) rfl ?_); refine gL (some 12) Try.func114 #[.int .i64 a0, .slice A1 l1.length c1, .int .i64 a2] ?_; (with_reducible refine (spec_peKeyed.calls k a0 _ _ l1 a2 true _ ?side1 ?side2 A4.out).mono ?_); (case side1 => exact Cz HR1.out); (case side2 => exact HC1.out); rintro e w' ⟨rfl, ⟨nd, rfl⟩⟩; refine ⟨_, rfl, ?_⟩))
  (try simp only [aP])
  go_loopg [8] k (fun kq v8 w' => ∃ (x8_1 : Int), v8 = .int .i64 x8_1 ∧ Aside0 (spec_LeastSegment.l0 kq a0 l1 a2 x8_1 = some (r1, r2)) ∧ Aside0 (kq ≤ k) ∧ Aside0 (Below w.heap.size w w'))
  case atStart => exact ⟨(1), wZ, H', ⟨Nat.le_refl _⟩, ⟨Bz HB.out⟩⟩
  case round =>
   clear H'
   try clear c1
   try clear p2
   try clear c3
   try clear c5
   obtain ⟨x8_1, rfl, HA, HK1, HB⟩ := hrel; cases gk with
   | zero => exact absurd HA.out (by simp [spec_LeastSegment.l0])
   | succ k1 =>
    have H := HA.out; clear HA
    simp only [spec_LeastSegment.l0] at H
    by_cases c6 : x8_1 ≤ a2
    ·rw [if_pos c6] at H
     have c6b0 : decide (x8_1 ≤ a2) = true := decide_eq_true c6; clear c6; replace H := Option.bind_eq_some_iff.mp H; obtain ⟨t720, A70, H⟩ := H; (try dsimp -simprocs only at H); have A7 := am A70; clear A70
     by_cases c8 : t720 = true
     ·subst c8
      rw [if_pos rfl] at H
      simp only [Option.some.injEq, Prod.mk.injEq] at H
      obtain ⟨rfl, rfl⟩ := H
      go_wp2_with (first | ((with_reducible refine gate_callee (f := 115) rfl ?_); refine gL (some 22) Try.func115 #[.int .i64 a0, .slice A1 l1.length c1, .int .i64 x8_1] ?_; (with_reducible refine (spec_pePeels.calls k1 a0 _ _ l1 x8_1 true _ ?side1 ?side2 A7.out).mono ?_); (case side1 => exact Cz (Kd.C_below HR1.out HB.out)); (case side2 => exact HC1.out); rintro e w9 ⟨rfl, hb⟩; refine ⟨_, rfl, ?_⟩; have n0_ := Bb HB hb; clear HB; revert n0_; intro HB; (try clear hb); (try clear hb2); (try clear hk); (try clear hi)))
      go_ret2
      exact ⟨eZ, Bz HB.out⟩
     ·replace c8 := Bool.eq_false_iff.mpr c8
      subst c8
      rw [if_neg (show ¬ (false = true) by decide)] at H; have H' := am H; clear H
      go_wp2_with (first | ((with_reducible refine gate_callee (f := 115) rfl ?_); refine gL (some 22) Try.func115 #[.int .i64 a0, .slice A1 l1.length c1, .int .i64 x8_1] ?_; (with_reducible refine (spec_pePeels.calls k1 a0 _ _ l1 x8_1 false _ ?side1 ?side2 A7.out).mono ?_); (case side1 => exact Cz (Kd.C_below HR1.out HB.out)); (case side2 => exact HC1.out); rintro e w10 ⟨rfl, hb⟩; refine ⟨_, rfl, ?_⟩; have n0_ := Bb HB hb; clear HB; revert n0_; intro HB; (try clear hb); (try clear hb2); (try clear hk); (try clear hi)))
      go_roundg k1
      case measure => have := HK1.out; omega
      case rel => exact ⟨(wrap64 (x8_1 + 1)), wZ, H', ⟨by have := HK1.out; omega⟩, ⟨Bz HB.out⟩⟩
    ·rw [if_neg c6] at H
     have c6b0 : decide (x8_1 ≤ a2) = false := decide_eq_false c6; clear c6
     simp only [Option.some.injEq, Prod.mk.injEq] at H
     obtain ⟨rfl, rfl⟩ := H
     go_wp2
     go_ret2
     exact ⟨eZ, Bz HB.out⟩
 ·replace c5 := Bool.eq_false_iff.mpr c5
  subst c5
  rw [if_neg (show ¬ (false = true) by decide)] at H
  simp only [Option.some.injEq, Prod.mk.injEq] at H
  obtain ⟨rfl, rfl⟩ := H
  go_enter Try.func39, Try.ntmps39
  go_wp2_with (first | ((with_reducible refine gate_callee (f := 114) rfl ?_); refine gL (some 12) Try.func114 #[.int .i64 a0, .slice A1 l1.length c1, .int .i64 a2] ?_; (with_reducible refine (spec_peKeyed.calls k a0 _ _ l1 a2 false _ ?side1 ?side2 A4.out).mono ?_); (case side1 => exact Cz HR1.out); (case side2 => exact HC1.out); rintro e w' ⟨rfl, ⟨nd, rfl⟩⟩; refine ⟨_, rfl, ?_⟩))
  go_ret2
  exact ⟨eZ, Bz HB.out⟩

/-! ### laws_FnLeastSegments: function 7 -/
mutual
def laws_FnLeastSegments.j0 : Nat → Int → List ByteArray → Int → Int → Bool → Bool → Option (Bool)
 | 0, _, _, _, _, _, _ => none
 | k + 1, x5, x6, x7, x8, x11, x47 => if x47 = true then (some false) else (if x11 = true then (laws_FnLeastSegments.l0 k x5 x6 x7 x8 1) else (some true))
def laws_FnLeastSegments.l0 : Nat → Int → List ByteArray → Int → Int → Int → Option (Bool)
 | 0, _, _, _, _, _ => none
 | k + 1, x5, x6, x7, x8, x12 => if x12 ≤ x8 then ((impl_HyperOf.f k x5 x6 x12).bind fun bt745 => ((impl_PeelOrder.f k bt745.1 bt745.2.1).bind fun bt751 => (if bt745.2.2 = true then ((impl_IsHyper.f k bt745.1 bt745.2.1).bind fun t755 => (if t755 = true then (if (bt751.2 != (x12 == x8)) = true then (some false) else (laws_FnLeastSegments.l0 k x5 x6 x7 x8 (wrap64 (x12 + 1)))) else (some false))) else (some false)))) else (some (decide (x8 ≤ x7)))
end
def laws_FnLeastSegments.f (k : Nat) (l0 : List Int) (l1 : List Int) : Option (Bool) := (laws_big.f l0 l1).bind fun t735 => (if t735 = true then (some true) else ((spec_DrawLeastSegment.f k l0).bind fun bt736 => ((impl_LeastSegment.f k bt736.1 bt736.2.1 bt736.2.2).bind fun bt741 => ((spec_LeastSegment.f k bt736.1 bt736.2.1 bt736.2.2).bind fun bt743 => (if (bt741.2 != bt743.2) = true then (laws_FnLeastSegments.j0 k bt736.1 bt736.2.1 bt736.2.2 bt741.1 bt743.2 true) else (laws_FnLeastSegments.j0 k bt736.1 bt736.2.1 bt736.2.2 bt741.1 bt743.2 (bt741.1 != bt743.1)))))))
theorem laws_FnLeastSegments.mono_l : ∀ k, (∀ y0 y1 y2 y3 y4 y5, LeO (laws_FnLeastSegments.j0 k y0 y1 y2 y3 y4 y5) (laws_FnLeastSegments.j0 (k + 1) y0 y1 y2 y3 y4 y5)) ∧ (∀ y0 y1 y2 y3 y4, LeO (laws_FnLeastSegments.l0 k y0 y1 y2 y3 y4) (laws_FnLeastSegments.l0 (k + 1) y0 y1 y2 y3 y4))
 | 0 => ⟨fun _ _ _ _ _ _ r h => by simp [laws_FnLeastSegments.j0] at h, fun _ _ _ _ _ r h => by simp [laws_FnLeastSegments.l0] at h⟩
 | k + 1 => by
  obtain ⟨ih0, ih1⟩ := laws_FnLeastSegments.mono_l k; refine ⟨?_, ?_⟩
  ·intro y0 y1 y2 y3 y4 y5
   unfold laws_FnLeastSegments.j0
   repeat' first | (with_reducible first | exact ih0 _ _ _ _ _ _ | exact ih1 _ _ _ _ _ | exact impl_HyperOf.mono _ _ _ _ | exact impl_IsHyper.mono _ _ _ | exact impl_LeastSegment.mono _ _ _ _ | exact impl_PeelOrder.mono _ _ _ | exact spec_DrawLeastSegment.mono _ _ | exact spec_LeastSegment.mono _ _ _ _ | exact LeO.refl _ | exact LeO.none _ | refine LeO.ite ?_ ?_ | refine LeO.bind ?_ (fun _ => ?_)) | exact LeO.none _ | refine LeO.ite ?_ ?_ | refine LeO.bind ?_ (fun _ => ?_)
  ·intro y0 y1 y2 y3 y4
   unfold laws_FnLeastSegments.l0
   repeat' first | (with_reducible first | exact ih0 _ _ _ _ _ _ | exact ih1 _ _ _ _ _ | exact impl_HyperOf.mono _ _ _ _ | exact impl_IsHyper.mono _ _ _ | exact impl_LeastSegment.mono _ _ _ _ | exact impl_PeelOrder.mono _ _ _ | exact spec_DrawLeastSegment.mono _ _ | exact spec_LeastSegment.mono _ _ _ _ | exact LeO.refl _ | exact LeO.none _ | refine LeO.ite ?_ ?_ | refine LeO.bind ?_ (fun _ => ?_)) | exact LeO.none _ | refine LeO.ite ?_ ?_ | refine LeO.bind ?_ (fun _ => ?_)
theorem laws_FnLeastSegments.mono : ∀ a0 a1 k, LeO (laws_FnLeastSegments.f k a0 a1) (laws_FnLeastSegments.f (k + 1) a0 a1) := by
 intro a0 a1 k; obtain ⟨ih0, ih1⟩ := laws_FnLeastSegments.mono_l k
 unfold laws_FnLeastSegments.f
 repeat' first | (with_reducible first | exact ih0 _ _ _ _ _ _ | exact ih1 _ _ _ _ _ | exact impl_HyperOf.mono _ _ _ _ | exact impl_IsHyper.mono _ _ _ | exact impl_LeastSegment.mono _ _ _ _ | exact impl_PeelOrder.mono _ _ _ | exact spec_DrawLeastSegment.mono _ _ | exact spec_LeastSegment.mono _ _ _ _ | exact LeO.refl _ | exact LeO.none _ | refine LeO.ite ?_ ?_ | refine LeO.bind ?_ (fun _ => ?_)) | exact LeO.none _ | refine LeO.ite ?_ ?_ | refine LeO.bind ?_ (fun _ => ?_)
theorem laws_FnLeastSegments.calls (k : Nat) (A0 : Option Addr) (c0 : Nat) (l0 : List Int) (A1 : Option Addr) (c1 : Nat) (l1 : List Int) (r : Bool) (w : World) (hr0 : Kd.C (Kd.int .u8) w A0 l0.length l0) (hc0 : l0.length ≤ c0) (hr1 : Kd.C (Kd.int .u8) w A1 l1.length l1) (hc1 : l1.length ≤ c1) (h : laws_FnLeastSegments.f k l0 l1 = some r) :
  Calls Try.prog 7 #[.slice A0 l0.length c0, .slice A1 l1.length c1] w fun e w' => e = .returned (.bool r) ∧ Below w.heap.size w w' := by
 have hu37 := Try.underlying37; have HR0 := am hr0; have HC0 := am hc0; clear hr0 hc0; have HR1 := am hr1; have HC1 := am hc1; clear hr1 hc1; have HB := am (Below.refl w.heap.size w); have H : ((laws_big.f l0 l1).bind fun t735 => (if t735 = true then (some true) else ((spec_DrawLeastSegment.f k l0).bind fun bt736 => ((impl_LeastSegment.f k bt736.1 bt736.2.1 bt736.2.2).bind fun bt741 => ((spec_LeastSegment.f k bt736.1 bt736.2.1 bt736.2.2).bind fun bt743 => (if (bt741.2 != bt743.2) = true then (laws_FnLeastSegments.j0 k bt736.1 bt736.2.1 bt736.2.2 bt741.1 bt743.2 true) else (laws_FnLeastSegments.j0 k bt736.1 bt736.2.1 bt736.2.2 bt741.1 bt743.2 (bt741.1 != bt743.1)))))))) = some r := h; clear h; replace H := Option.bind_eq_some_iff.mp H; obtain ⟨t735, A30, H⟩ := H; (try dsimp -simprocs only at H); have A3 := am A30; clear A30
 by_cases c4 : t735 = true
 ·subst c4
  rw [if_pos rfl] at H; obtain rfl := Option.some.inj H
  go_enter Try.func7, Try.ntmps7
  go_wp2_with (first | ((with_reducible refine gate_callee (f := 12) rfl ?_); refine gL (some 19) Try.func12 #[.slice A0 l0.length c0, .slice A1 l1.length c1] ?_; (with_reducible refine (laws_big.calls _ _ l0 _ _ l1 true _ ?side1 ?side2 ?side3 ?side4 A3.out).mono ?_); (case side1 => exact Cz HR0.out); (case side2 => exact HC0.out); (case side3 => exact Cz HR1.out); (case side4 => exact HC1.out); rintro e w' ⟨rfl, ⟨nd, rfl⟩⟩; refine ⟨_, rfl, ?_⟩))
  go_ret
  exact ⟨eZ, Bz HB.out⟩
 ·replace c4 := Bool.eq_false_iff.mpr c4
  subst c4
  rw [if_neg (show ¬ (false = true) by decide)] at H; replace H := Option.bind_eq_some_iff.mp H; obtain ⟨⟨t736, t737, t738⟩, A50, H⟩ := H; (try dsimp -simprocs only at H); have A5 := am A50; clear A50; replace H := Option.bind_eq_some_iff.mp H; obtain ⟨⟨t741, t742⟩, A60, H⟩ := H; (try dsimp -simprocs only at H); have A6 := am A60; clear A60; replace H := Option.bind_eq_some_iff.mp H; obtain ⟨⟨t743, t744⟩, A70, H⟩ := H; (try dsimp -simprocs only at H); have A7 := am A70; clear A70; have HC8 := am H; clear H
  go_enter Try.func7, Try.ntmps7
  go_upto_region 6 with (first | ((with_reducible refine gate_callee (f := 12) rfl ?_); refine gL (some 19) Try.func12 #[.slice A0 l0.length c0, .slice A1 l1.length c1] ?_; (with_reducible refine (laws_big.calls _ _ l0 _ _ l1 false _ ?side1 ?side2 ?side3 ?side4 A3.out).mono ?_); (case side1 => exact Cz HR0.out); (case side2 => exact HC0.out); (case side3 => exact Cz HR1.out); (case side4 => exact HC1.out); rintro e w' ⟨rfl, ⟨nd, rfl⟩⟩; refine ⟨_, rfl, ?_⟩) | ((with_reducible refine gate_callee (f := 37) rfl ?_); refine gL (some 22) Try.func37 #[.slice A0 l0.length c0] ?_; (with_reducible refine (spec_DrawLeastSegment.calls k _ _ l0 t736 t737 t738 _ ?side1 ?side2 A5.out).mono ?_); (case side1 => exact Cz HR0.out); (case side2 => exact HC0.out); rintro e w9 ⟨v739, rfl, ho0, hb⟩; refine ⟨_, rfl, ?_⟩; have n0_ := Rl ho0 HB; have n1_ := Bb HB hb; clear HB; revert n0_ n1_; intro HO740 HB; (try clear hb); (try clear hb2); (try clear hk); (try clear hi); (try clear ho0); obtain ⟨Ao10, co10, eo10⟩ := Kd.R_slice HO740.out; subst eo10) | ((with_reducible refine gate_callee (f := 38) rfl ?_); refine gL (some 30) Try.func38 #[.int .i64 t736, .slice Ao10 t737.length co10, .int .i64 t738] ?_; (with_reducible refine (impl_LeastSegment.calls k t736 _ _ t737 t738 t741 t742 _ ?side1 ?side2 A6.out).mono ?_); (case side1 => exact Cz ((Kd.R_reads' HO740.out).2.2)); (case side2 => exact (Kd.R_reads' HO740.out).2.1); rintro e w11 ⟨rfl, hb⟩; refine ⟨_, rfl, ?_⟩; have n0_ := Rb HO740 hb; have n1_ := Bb HB hb; clear HO740 HB; revert n0_ n1_; intro HO740 HB; (try clear hb); (try clear hb2); (try clear hk); (try clear hi)) | ((with_reducible refine gate_callee (f := 39) rfl ?_); refine gL (some 37) Try.func39 #[.int .i64 t736, .slice Ao10 t737.length co10, .int .i64 t738] ?_; (with_reducible refine (spec_LeastSegment.calls k t736 _ _ t737 t738 t743 t744 _ ?side1 ?side2 A7.out).mono ?_); (case side1 => exact Cz ((Kd.R_reads' HO740.out).2.2)); (case side2 => exact (Kd.R_reads' HO740.out).2.1); rintro e w12 ⟨rfl, hb⟩; refine ⟨_, rfl, ?_⟩; have n0_ := Rb HO740 hb; have n1_ := Bb HB hb; clear HO740 HB; revert n0_ n1_; intro HO740 HB; (try clear hb); (try clear hb2); (try clear hk); (try clear hi)))
  (try simp only [aP])
  go_cut [47] (fun v47 wc => ∃ (kq : Nat) (x47_7 : Bool), v47 = .bool x47_7 ∧ Aside0 (laws_FnLeastSegments.j0 kq t736 t737 t738 t741 t744 x47_7 = some r) ∧ Aside0 (kq ≤ k) ∧ Aside0 (Kd.R Kd.string 9 wc w.heap.size (fun _ => True) (.slice Ao10 t737.length co10) t737) ∧ Aside0 (Below w.heap.size w wc))
  case first =>
   have H := HC8.out; clear HC8
   by_cases c13 : (t742 != t744) = true
   ·rw [if_pos c13] at H
    have c13b0 : (t742 != t744) = true := c13
    (try (have c13b1 : decide (t742 = t744) = false := by simpa using c13))
    (try (have c13b2 : (t742 == t744) = false := by simpa using c13))
    (try (have c13b3 : ¬ (t742 = t744) := by simpa using c13))
    clear c13
    (first | rw [c13b0] | (simp only [i64_w, i32_w]; rw [c13b0]) | skip)
    have H' := am H; clear H
    go_wp2
    go_meet
    case rel => exact ⟨_, (true), wZ, H', ⟨by first | omega | exact Nat.le_refl _⟩, ⟨Rz HO740.out⟩, ⟨Bz HB.out⟩⟩
   ·rw [if_neg c13] at H
    have c13b0 : (t742 != t744) = false := by simpa using c13
    (try (have c13b1 : decide (t742 = t744) = true := by simpa using c13))
    (try (have c13b2 : (t742 == t744) = true := by simpa using c13))
    clear c13
    (first | rw [c13b0] | (simp only [i64_w, i32_w]; rw [c13b0]) | skip)
    have H' := am H; clear H
    go_wp2
    go_meet
    case rel => exact ⟨_, ((t741 != t743)), wZ, H', ⟨by first | omega | exact Nat.le_refl _⟩, ⟨Rz HO740.out⟩, ⟨Bz HB.out⟩⟩
  case rest =>
   clear HC8
   try clear c1
   try clear p2
   try clear c3
   try clear c4
   try clear c7
   try clear c12
   try clear c13
   try clear c13b0
   try clear c13b1
   try clear c13b2
   obtain ⟨kq, x47_7, rfl, HA, HJ7, HO_6, HB⟩ := hcut; cases kq with
   | zero => exact absurd HA.out (by simp [laws_FnLeastSegments.j0])
   | succ kj7 =>
    have H := HA.out; clear HA
    simp only [laws_FnLeastSegments.j0] at H
    by_cases c14 : x47_7 = true
    ·subst c14
     rw [if_pos rfl] at H; obtain rfl := Option.some.inj H
     go_wp2
     go_ret
     exact ⟨eZ, Bz HB.out⟩
    ·replace c14 := Bool.eq_false_iff.mpr c14
     subst c14
     rw [if_neg (show ¬ (false = true) by decide)] at H
     by_cases c15 : t744 = true
     ·subst c15
      rw [if_pos rfl] at H; have H' := am H; clear H
      go_wp2
      go_loopg [12] kj7 (fun kq v12 w' => ∃ (x12_2 : Int), v12 = .int .i64 x12_2 ∧ Aside0 (laws_FnLeastSegments.l0 kq t736 t737 t738 t741 x12_2 = some r) ∧ Aside0 (kq ≤ kj7) ∧ Aside0 (Kd.R Kd.string 9 w' w.heap.size (fun _ => True) (.slice Ao10 t737.length co10) t737) ∧ Aside0 (Below w.heap.size w w'))
      case atStart => exact ⟨(1), wZ, H', ⟨Nat.le_refl _⟩, ⟨Rz HO_6.out⟩, ⟨Bz HB.out⟩⟩
      case round =>
       clear H'
       try clear c1
       try clear p2
       try clear c3
       try clear c4
       try clear c7
       try clear c12
       try clear c13
       try clear c13b0
       try clear c13b1
       try clear c13b2
       try clear c14
       try clear c15
       try clear p2
       obtain ⟨x12_2, rfl, HA, HK2, HO_6, HB⟩ := hrel; cases gk with
       | zero => exact absurd HA.out (by simp [laws_FnLeastSegments.l0])
       | succ k2 =>
        have H := HA.out; clear HA
        simp only [laws_FnLeastSegments.l0] at H
        by_cases c16 : x12_2 ≤ t741
        ·rw [if_pos c16] at H
         have c16b0 : decide (x12_2 ≤ t741) = true := decide_eq_true c16; clear c16; replace H := Option.bind_eq_some_iff.mp H; obtain ⟨⟨t745, t746, t749⟩, A170, H⟩ := H; (try dsimp -simprocs only at H); have A17 := am A170; clear A170; replace H := Option.bind_eq_some_iff.mp H; obtain ⟨⟨t751, t754⟩, A180, H⟩ := H; (try dsimp -simprocs only at H); have A18 := am A180; clear A180
         by_cases c19 : t749 = true
         ·subst c19
          rw [if_pos rfl] at H; replace H := Option.bind_eq_some_iff.mp H; obtain ⟨t755, A200, H⟩ := H; (try dsimp -simprocs only at H); have A20 := am A200; clear A200
          by_cases c21 : t755 = true
          ·subst c21
           rw [if_pos rfl] at H
           by_cases c22 : (t754 != (x12_2 == t741)) = true
           ·rw [if_pos c22] at H
            have c22b0 : (t754 != (x12_2 == t741)) = true := c22
            (try (have c22b1 : decide (t754 = (x12_2 == t741)) = false := by simpa using c22))
            (try (have c22b2 : (t754 == (x12_2 == t741)) = false := by simpa using c22))
            (try (have c22b3 : ¬ (t754 = (x12_2 == t741)) := by simpa using c22))
            clear c22; obtain rfl := Option.some.inj H
            go_wp2_with (first | ((with_reducible refine gate_callee (f := 40) rfl ?_); refine gL (some 59) Try.func40 #[.int .i64 t736, .slice Ao10 t737.length co10, .int .i64 x12_2] ?_; (with_reducible refine (impl_HyperOf.calls k2 t736 _ _ t737 x12_2 t745 t746 true _ ?side1 ?side2 A17.out).mono ?_); (case side1 => exact Cz ((Kd.R_reads' HO_6.out).2.2)); (case side2 => exact (Kd.R_reads' HO_6.out).2.1); rintro e w23 ⟨v747, rfl, ho0, hb⟩; refine ⟨_, rfl, ?_⟩; have n0_ := Rb HO_6 hb; have n1_ := am (Kd.S_lower ho0 (below_size (Bz HB.out))); have n2_ := Bb HB hb; clear HO_6 HB; revert n0_ n1_ n2_; intro HO_6 HO748 HB; (try clear hb); (try clear hb2); (try clear hk); (try clear hi); (try clear ho0)) | ((with_reducible refine gate_dst (N := 13) rfl ?_); refine bE 13 #[.int .i64 0, .slice none 0 0] 37 ?_; intro gb750 hg w24 hbox hb; have n0_ := Rb HO_6 hb; have n1_ := am (Kd.S_below (by (with_reducible repeat (first | apply Kd.S_alloc | apply Kd.S_drewN | apply Kd.S_drew)); exact HO748.out) hb); have n2_ := Bb HB hb; have n3_ := am (hbox); have n4_ := Gl HB hg; have n5_ := Gl HB hg; clear HO_6 HO748 HB; revert n0_ n1_ n2_ n3_ n4_ n5_; intro HO_6 HO748 HB BK750 GW750 GE750; clear hb hbox hg; obtain ⟨hcz25_0, hcz25_1, hfz25_0, hfz25_1⟩ := cf2 (w := w24) BK750; obtain ⟨Ao26, co26, eo26⟩ := Kd.S_slice HO748.out; subst eo26) | ((with_reducible refine gate_callee (f := 41) rfl ?_); refine gL (some 64) Try.func41 #[.agg #[.int .i64 t745, .slice Ao26 t746.length co26]] ?_; (with_reducible refine (impl_PeelOrder.calls k2 t745 _ _ t746 t751 t754 _ ?side1 ?side2 A18.out).mono ?_); (case side1 => refine (Kd.S_reads' (e := 32) (base := w.heap.size) (ok := fun k_ => True) (n := t746.length) (c := co26) ?_).2.2; exact (by (with_reducible repeat (first | apply Kd.S_alloc | apply Kd.S_drewN | apply Kd.S_drew)); exact (Kd.S_mono (Kd.S_far (p := ⟨gb750, 1, none⟩) (Kd.S_far (p := ⟨gb750, 0, none⟩) (Kd.S_types HO748.out BK750.out (by decide)) (fun _ hk => hk.2) (.int .i64 t745)) (fun _ hk => hk.2) (.slice Ao26 t746.length co26)) (fun _ h_ => h_.1)))); (case side2 => exact (Kd.S_reads' HO748.out).2.1); rintro e w27 ⟨v752, rfl, ho0, hb⟩; refine ⟨_, rfl, ?_⟩; have n0_ := am (Kd.R_below (Rz (Kd.R_mono (Kd.R_far (p := ⟨gb750, 1, none⟩) (Kd.R_far (p := ⟨gb750, 0, none⟩) (Kd.R_types HO_6.out BK750.out (by decide)) (fun _ hk => hk.2) (.int .i64 t745)) (fun _ hk => hk.2) (.slice Ao26 t746.length co26)) (fun _ h_ => h_.1))) hb); have n1_ := am (Kd.S_below (by (with_reducible repeat (first | apply Kd.S_alloc | apply Kd.S_drewN | apply Kd.S_drew)); exact (Kd.S_mono (Kd.S_far (p := ⟨gb750, 1, none⟩) (Kd.S_far (p := ⟨gb750, 0, none⟩) (Kd.S_types HO748.out BK750.out (by decide)) (fun _ hk => hk.2) (.int .i64 t745)) (fun _ hk => hk.2) (.slice Ao26 t746.length co26)) (fun _ h_ => h_.1))) hb); have n2_ := Rm ho0 HB; have n3_ := am (blk_below (g := gb750) (o := .cells #[.int .i64 t745, .slice Ao26 t746.length co26] 37 (0, 0)) (by (with_reducible repeat (first | refine blk_drewN ?_ _ | refine blk_drew ?_ | refine blk_alloc ?_ _)); refine blk_put (cs := #[.int .i64 t745, .slice none 0 0]) ?_ 1 _ rfl; (with_reducible repeat (first | refine blk_drewN ?_ _ | refine blk_drew ?_ | refine blk_alloc ?_ _)); refine blk_put (cs := #[.int .i64 0, .slice none 0 0]) ?_ 0 _ rfl; exact Kz BK750.out) hb); have n4_ := Bc HB hb; clear HO_6 HO748 BK750 HB; revert n0_ n1_ n2_ n3_ n4_; intro HO_6 HO748 HO753 BK750 HB; (try clear hb); (try clear hb2); (try clear hk); (try clear hi); (try clear ho0); obtain ⟨hcz28_0, hcz28_1, hfz28_0, hfz28_1⟩ := cf2 (w := w27) BK750) | (go_at_call 42; (with_reducible refine (impl_IsHyper.calls k2 t745 _ _ t746 true _ ?side1 ?side2 A20.out).mono ?_); (case side1 => exact Cz ((Kd.S_reads' HO748.out).2.2)); (case side2 => exact (Kd.S_reads' HO748.out).2.1); rintro e w29 ⟨rfl, hb⟩; have n0_ := Rb HO_6 hb; have n1_ := am (Kd.S_below (by (with_reducible repeat (first | apply Kd.S_alloc | apply Kd.S_drewN | apply Kd.S_drew)); exact HO748.out) hb); have n2_ := Rb HO753 hb; have n3_ := Kb BK750 hb; have n4_ := Bc HB hb; clear HO_6 HO748 HO753 BK750 HB; revert n0_ n1_ n2_ n3_ n4_; intro HO_6 HO748 HO753 BK750 HB; (try clear hb); (try clear hb2); (try clear hk); (try clear hi)))
            go_ret
            exact ⟨eZ, Bq⟩
           ·rw [if_neg c22] at H
            have c22b0 : (t754 != (x12_2 == t741)) = false := by simpa using c22
            (try (have c22b1 : decide (t754 = (x12_2 == t741)) = true := by simpa using c22))
            (try (have c22b2 : (t754 == (x12_2 == t741)) = true := by simpa using c22))
            clear c22; have H' := am H; clear H
            go_wp2_with (first | ((with_reducible refine gate_callee (f := 40) rfl ?_); refine gL (some 59) Try.func40 #[.int .i64 t736, .slice Ao10 t737.length co10, .int .i64 x12_2] ?_; (with_reducible refine (impl_HyperOf.calls k2 t736 _ _ t737 x12_2 t745 t746 true _ ?side1 ?side2 A17.out).mono ?_); (case side1 => exact Cz ((Kd.R_reads' HO_6.out).2.2)); (case side2 => exact (Kd.R_reads' HO_6.out).2.1); rintro e w30 ⟨v747, rfl, ho0, hb⟩; refine ⟨_, rfl, ?_⟩; have n0_ := Rb HO_6 hb; have n1_ := am (Kd.S_lower ho0 (below_size (Bz HB.out))); have n2_ := Bb HB hb; clear HO_6 HB; revert n0_ n1_ n2_; intro HO_6 HO748 HB; (try clear hb); (try clear hb2); (try clear hk); (try clear hi); (try clear ho0)) | ((with_reducible refine gate_dst (N := 13) rfl ?_); refine bE 13 #[.int .i64 0, .slice none 0 0] 37 ?_; intro gb750 hg w31 hbox hb; have n0_ := Rb HO_6 hb; have n1_ := am (Kd.S_below (by (with_reducible repeat (first | apply Kd.S_alloc | apply Kd.S_drewN | apply Kd.S_drew)); exact HO748.out) hb); have n2_ := Bb HB hb; have n3_ := am (hbox); have n4_ := Gl HB hg; have n5_ := Gl HB hg; clear HO_6 HO748 HB; revert n0_ n1_ n2_ n3_ n4_ n5_; intro HO_6 HO748 HB BK750 GW750 GE750; clear hb hbox hg; obtain ⟨hcz32_0, hcz32_1, hfz32_0, hfz32_1⟩ := cf2 (w := w31) BK750; obtain ⟨Ao33, co33, eo33⟩ := Kd.S_slice HO748.out; subst eo33) | ((with_reducible refine gate_callee (f := 41) rfl ?_); refine gL (some 64) Try.func41 #[.agg #[.int .i64 t745, .slice Ao33 t746.length co33]] ?_; (with_reducible refine (impl_PeelOrder.calls k2 t745 _ _ t746 t751 t754 _ ?side1 ?side2 A18.out).mono ?_); (case side1 => refine (Kd.S_reads' (e := 32) (base := w.heap.size) (ok := fun k_ => True) (n := t746.length) (c := co33) ?_).2.2; exact (by (with_reducible repeat (first | apply Kd.S_alloc | apply Kd.S_drewN | apply Kd.S_drew)); exact (Kd.S_mono (Kd.S_far (p := ⟨gb750, 1, none⟩) (Kd.S_far (p := ⟨gb750, 0, none⟩) (Kd.S_types HO748.out BK750.out (by decide)) (fun _ hk => hk.2) (.int .i64 t745)) (fun _ hk => hk.2) (.slice Ao33 t746.length co33)) (fun _ h_ => h_.1)))); (case side2 => exact (Kd.S_reads' HO748.out).2.1); rintro e w34 ⟨v752, rfl, ho0, hb⟩; refine ⟨_, rfl, ?_⟩; have n0_ := am (Kd.R_below (Rz (Kd.R_mono (Kd.R_far (p := ⟨gb750, 1, none⟩) (Kd.R_far (p := ⟨gb750, 0, none⟩) (Kd.R_types HO_6.out BK750.out (by decide)) (fun _ hk => hk.2) (.int .i64 t745)) (fun _ hk => hk.2) (.slice Ao33 t746.length co33)) (fun _ h_ => h_.1))) hb); have n1_ := am (Kd.S_below (by (with_reducible repeat (first | apply Kd.S_alloc | apply Kd.S_drewN | apply Kd.S_drew)); exact (Kd.S_mono (Kd.S_far (p := ⟨gb750, 1, none⟩) (Kd.S_far (p := ⟨gb750, 0, none⟩) (Kd.S_types HO748.out BK750.out (by decide)) (fun _ hk => hk.2) (.int .i64 t745)) (fun _ hk => hk.2) (.slice Ao33 t746.length co33)) (fun _ h_ => h_.1))) hb); have n2_ := Rm ho0 HB; have n3_ := am (blk_below (g := gb750) (o := .cells #[.int .i64 t745, .slice Ao33 t746.length co33] 37 (0, 0)) (by (with_reducible repeat (first | refine blk_drewN ?_ _ | refine blk_drew ?_ | refine blk_alloc ?_ _)); refine blk_put (cs := #[.int .i64 t745, .slice none 0 0]) ?_ 1 _ rfl; (with_reducible repeat (first | refine blk_drewN ?_ _ | refine blk_drew ?_ | refine blk_alloc ?_ _)); refine blk_put (cs := #[.int .i64 0, .slice none 0 0]) ?_ 0 _ rfl; exact Kz BK750.out) hb); have n4_ := Bc HB hb; clear HO_6 HO748 BK750 HB; revert n0_ n1_ n2_ n3_ n4_; intro HO_6 HO748 HO753 BK750 HB; (try clear hb); (try clear hb2); (try clear hk); (try clear hi); (try clear ho0); obtain ⟨hcz35_0, hcz35_1, hfz35_0, hfz35_1⟩ := cf2 (w := w34) BK750) | (go_at_call 42; (with_reducible refine (impl_IsHyper.calls k2 t745 _ _ t746 true _ ?side1 ?side2 A20.out).mono ?_); (case side1 => exact Cz ((Kd.S_reads' HO748.out).2.2)); (case side2 => exact (Kd.S_reads' HO748.out).2.1); rintro e w36 ⟨rfl, hb⟩; have n0_ := Rb HO_6 hb; have n1_ := am (Kd.S_below (by (with_reducible repeat (first | apply Kd.S_alloc | apply Kd.S_drewN | apply Kd.S_drew)); exact HO748.out) hb); have n2_ := Rb HO753 hb; have n3_ := Kb BK750 hb; have n4_ := Bc HB hb; clear HO_6 HO748 HO753 BK750 HB; revert n0_ n1_ n2_ n3_ n4_; intro HO_6 HO748 HO753 BK750 HB; (try clear hb); (try clear hb2); (try clear hk); (try clear hi)))
            go_roundg k2
            case measure => have := HJ7.out; have := HK2.out; omega
            case rel => exact ⟨(wrap64 (x12_2 + 1)), wZ, H', ⟨by have := HJ7.out; have := HK2.out; omega⟩, ⟨Rz HO_6.out⟩, ⟨Bq⟩⟩
          ·replace c21 := Bool.eq_false_iff.mpr c21
           subst c21
           rw [if_neg (show ¬ (false = true) by decide)] at H; obtain rfl := Option.some.inj H
           go_wp2_with (first | ((with_reducible refine gate_callee (f := 40) rfl ?_); refine gL (some 59) Try.func40 #[.int .i64 t736, .slice Ao10 t737.length co10, .int .i64 x12_2] ?_; (with_reducible refine (impl_HyperOf.calls k2 t736 _ _ t737 x12_2 t745 t746 true _ ?side1 ?side2 A17.out).mono ?_); (case side1 => exact Cz ((Kd.R_reads' HO_6.out).2.2)); (case side2 => exact (Kd.R_reads' HO_6.out).2.1); rintro e w37 ⟨v747, rfl, ho0, hb⟩; refine ⟨_, rfl, ?_⟩; have n0_ := Rb HO_6 hb; have n1_ := am (Kd.S_lower ho0 (below_size (Bz HB.out))); have n2_ := Bb HB hb; clear HO_6 HB; revert n0_ n1_ n2_; intro HO_6 HO748 HB; (try clear hb); (try clear hb2); (try clear hk); (try clear hi); (try clear ho0)) | ((with_reducible refine gate_dst (N := 13) rfl ?_); refine bE 13 #[.int .i64 0, .slice none 0 0] 37 ?_; intro gb750 hg w38 hbox hb; have n0_ := Rb HO_6 hb; have n1_ := am (Kd.S_below (by (with_reducible repeat (first | apply Kd.S_alloc | apply Kd.S_drewN | apply Kd.S_drew)); exact HO748.out) hb); have n2_ := Bb HB hb; have n3_ := am (hbox); have n4_ := Gl HB hg; have n5_ := Gl HB hg; clear HO_6 HO748 HB; revert n0_ n1_ n2_ n3_ n4_ n5_; intro HO_6 HO748 HB BK750 GW750 GE750; clear hb hbox hg; obtain ⟨hcz39_0, hcz39_1, hfz39_0, hfz39_1⟩ := cf2 (w := w38) BK750; obtain ⟨Ao40, co40, eo40⟩ := Kd.S_slice HO748.out; subst eo40) | ((with_reducible refine gate_callee (f := 41) rfl ?_); refine gL (some 64) Try.func41 #[.agg #[.int .i64 t745, .slice Ao40 t746.length co40]] ?_; (with_reducible refine (impl_PeelOrder.calls k2 t745 _ _ t746 t751 t754 _ ?side1 ?side2 A18.out).mono ?_); (case side1 => refine (Kd.S_reads' (e := 32) (base := w.heap.size) (ok := fun k_ => True) (n := t746.length) (c := co40) ?_).2.2; exact (by (with_reducible repeat (first | apply Kd.S_alloc | apply Kd.S_drewN | apply Kd.S_drew)); exact (Kd.S_mono (Kd.S_far (p := ⟨gb750, 1, none⟩) (Kd.S_far (p := ⟨gb750, 0, none⟩) (Kd.S_types HO748.out BK750.out (by decide)) (fun _ hk => hk.2) (.int .i64 t745)) (fun _ hk => hk.2) (.slice Ao40 t746.length co40)) (fun _ h_ => h_.1)))); (case side2 => exact (Kd.S_reads' HO748.out).2.1); rintro e w41 ⟨v752, rfl, ho0, hb⟩; refine ⟨_, rfl, ?_⟩; have n0_ := am (Kd.R_below (Rz (Kd.R_mono (Kd.R_far (p := ⟨gb750, 1, none⟩) (Kd.R_far (p := ⟨gb750, 0, none⟩) (Kd.R_types HO_6.out BK750.out (by decide)) (fun _ hk => hk.2) (.int .i64 t745)) (fun _ hk => hk.2) (.slice Ao40 t746.length co40)) (fun _ h_ => h_.1))) hb); have n1_ := am (Kd.S_below (by (with_reducible repeat (first | apply Kd.S_alloc | apply Kd.S_drewN | apply Kd.S_drew)); exact (Kd.S_mono (Kd.S_far (p := ⟨gb750, 1, none⟩) (Kd.S_far (p := ⟨gb750, 0, none⟩) (Kd.S_types HO748.out BK750.out (by decide)) (fun _ hk => hk.2) (.int .i64 t745)) (fun _ hk => hk.2) (.slice Ao40 t746.length co40)) (fun _ h_ => h_.1))) hb); have n2_ := Rm ho0 HB; have n3_ := am (blk_below (g := gb750) (o := .cells #[.int .i64 t745, .slice Ao40 t746.length co40] 37 (0, 0)) (by (with_reducible repeat (first | refine blk_drewN ?_ _ | refine blk_drew ?_ | refine blk_alloc ?_ _)); refine blk_put (cs := #[.int .i64 t745, .slice none 0 0]) ?_ 1 _ rfl; (with_reducible repeat (first | refine blk_drewN ?_ _ | refine blk_drew ?_ | refine blk_alloc ?_ _)); refine blk_put (cs := #[.int .i64 0, .slice none 0 0]) ?_ 0 _ rfl; exact Kz BK750.out) hb); have n4_ := Bc HB hb; clear HO_6 HO748 BK750 HB; revert n0_ n1_ n2_ n3_ n4_; intro HO_6 HO748 HO753 BK750 HB; (try clear hb); (try clear hb2); (try clear hk); (try clear hi); (try clear ho0); obtain ⟨hcz42_0, hcz42_1, hfz42_0, hfz42_1⟩ := cf2 (w := w41) BK750) | (go_at_call 42; (with_reducible refine (impl_IsHyper.calls k2 t745 _ _ t746 false _ ?side1 ?side2 A20.out).mono ?_); (case side1 => exact Cz ((Kd.S_reads' HO748.out).2.2)); (case side2 => exact (Kd.S_reads' HO748.out).2.1); rintro e w43 ⟨rfl, hb⟩; have n0_ := Rb HO_6 hb; have n1_ := am (Kd.S_below (by (with_reducible repeat (first | apply Kd.S_alloc | apply Kd.S_drewN | apply Kd.S_drew)); exact HO748.out) hb); have n2_ := Rb HO753 hb; have n3_ := Kb BK750 hb; have n4_ := Bc HB hb; clear HO_6 HO748 HO753 BK750 HB; revert n0_ n1_ n2_ n3_ n4_; intro HO_6 HO748 HO753 BK750 HB; (try clear hb); (try clear hb2); (try clear hk); (try clear hi)))
           go_ret
           exact ⟨eZ, Bq⟩
         ·replace c19 := Bool.eq_false_iff.mpr c19
          subst c19
          rw [if_neg (show ¬ (false = true) by decide)] at H; obtain rfl := Option.some.inj H
          go_wp2_with (first | ((with_reducible refine gate_callee (f := 40) rfl ?_); refine gL (some 59) Try.func40 #[.int .i64 t736, .slice Ao10 t737.length co10, .int .i64 x12_2] ?_; (with_reducible refine (impl_HyperOf.calls k2 t736 _ _ t737 x12_2 t745 t746 false _ ?side1 ?side2 A17.out).mono ?_); (case side1 => exact Cz ((Kd.R_reads' HO_6.out).2.2)); (case side2 => exact (Kd.R_reads' HO_6.out).2.1); rintro e w44 ⟨v747, rfl, ho0, hb⟩; refine ⟨_, rfl, ?_⟩; have n0_ := Rb HO_6 hb; have n1_ := am (Kd.S_lower ho0 (below_size (Bz HB.out))); have n2_ := Bb HB hb; clear HO_6 HB; revert n0_ n1_ n2_; intro HO_6 HO748 HB; (try clear hb); (try clear hb2); (try clear hk); (try clear hi); (try clear ho0)) | ((with_reducible refine gate_dst (N := 13) rfl ?_); refine bE 13 #[.int .i64 0, .slice none 0 0] 37 ?_; intro gb750 hg w45 hbox hb; have n0_ := Rb HO_6 hb; have n1_ := am (Kd.S_below (by (with_reducible repeat (first | apply Kd.S_alloc | apply Kd.S_drewN | apply Kd.S_drew)); exact HO748.out) hb); have n2_ := Bb HB hb; have n3_ := am (hbox); have n4_ := Gl HB hg; have n5_ := Gl HB hg; clear HO_6 HO748 HB; revert n0_ n1_ n2_ n3_ n4_ n5_; intro HO_6 HO748 HB BK750 GW750 GE750; clear hb hbox hg; obtain ⟨hcz46_0, hcz46_1, hfz46_0, hfz46_1⟩ := cf2 (w := w45) BK750; obtain ⟨Ao47, co47, eo47⟩ := Kd.S_slice HO748.out; subst eo47) | ((with_reducible refine gate_callee (f := 41) rfl ?_); refine gL (some 64) Try.func41 #[.agg #[.int .i64 t745, .slice Ao47 t746.length co47]] ?_; (with_reducible refine (impl_PeelOrder.calls k2 t745 _ _ t746 t751 t754 _ ?side1 ?side2 A18.out).mono ?_); (case side1 => refine (Kd.S_reads' (e := 32) (base := w.heap.size) (ok := fun k_ => True) (n := t746.length) (c := co47) ?_).2.2; exact (by (with_reducible repeat (first | apply Kd.S_alloc | apply Kd.S_drewN | apply Kd.S_drew)); exact (Kd.S_mono (Kd.S_far (p := ⟨gb750, 1, none⟩) (Kd.S_far (p := ⟨gb750, 0, none⟩) (Kd.S_types HO748.out BK750.out (by decide)) (fun _ hk => hk.2) (.int .i64 t745)) (fun _ hk => hk.2) (.slice Ao47 t746.length co47)) (fun _ h_ => h_.1)))); (case side2 => exact (Kd.S_reads' HO748.out).2.1); rintro e w48 ⟨v752, rfl, ho0, hb⟩; refine ⟨_, rfl, ?_⟩; have n0_ := am (Kd.R_below (Rz (Kd.R_mono (Kd.R_far (p := ⟨gb750, 1, none⟩) (Kd.R_far (p := ⟨gb750, 0, none⟩) (Kd.R_types HO_6.out BK750.out (by decide)) (fun _ hk => hk.2) (.int .i64 t745)) (fun _ hk => hk.2) (.slice Ao47 t746.length co47)) (fun _ h_ => h_.1))) hb); have n1_ := am (Kd.S_below (by (with_reducible repeat (first | apply Kd.S_alloc | apply Kd.S_drewN | apply Kd.S_drew)); exact (Kd.S_mono (Kd.S_far (p := ⟨gb750, 1, none⟩) (Kd.S_far (p := ⟨gb750, 0, none⟩) (Kd.S_types HO748.out BK750.out (by decide)) (fun _ hk => hk.2) (.int .i64 t745)) (fun _ hk => hk.2) (.slice Ao47 t746.length co47)) (fun _ h_ => h_.1))) hb); have n2_ := Rm ho0 HB; have n3_ := am (blk_below (g := gb750) (o := .cells #[.int .i64 t745, .slice Ao47 t746.length co47] 37 (0, 0)) (by (with_reducible repeat (first | refine blk_drewN ?_ _ | refine blk_drew ?_ | refine blk_alloc ?_ _)); refine blk_put (cs := #[.int .i64 t745, .slice none 0 0]) ?_ 1 _ rfl; (with_reducible repeat (first | refine blk_drewN ?_ _ | refine blk_drew ?_ | refine blk_alloc ?_ _)); refine blk_put (cs := #[.int .i64 0, .slice none 0 0]) ?_ 0 _ rfl; exact Kz BK750.out) hb); have n4_ := Bc HB hb; clear HO_6 HO748 BK750 HB; revert n0_ n1_ n2_ n3_ n4_; intro HO_6 HO748 HO753 BK750 HB; (try clear hb); (try clear hb2); (try clear hk); (try clear hi); (try clear ho0)))
          go_ret
          exact ⟨eZ, Bq⟩
        ·rw [if_neg c16] at H
         have c16b0 : decide (x12_2 ≤ t741) = false := decide_eq_false c16; clear c16; obtain rfl := Option.some.inj H
         go_wp2
         go_ret
         exact ⟨eZ, Bz HB.out⟩
     ·replace c15 := Bool.eq_false_iff.mpr c15
      subst c15
      rw [if_neg (show ¬ (false = true) by decide)] at H; obtain rfl := Option.some.inj H
      go_wp2
      go_ret
      exact ⟨eZ, Bz HB.out⟩

/-- THE ONE PURE STATEMENT of laws_FnLeastSegments: yours. -/
def laws_FnLeastSegments.Pure : Prop := ∀ (l0 : List Int) (l1 : List Int), l0.length ≤ maxLen → l0.length * 1 ≤ 140737488351232 → (∀ x ∈ l0, (Lit.int .u8 x).wf = true) → l1.length ≤ maxLen → l1.length * 1 ≤ 140737488351232 → (∀ x ∈ l1, (Lit.int .u8 x).wf = true) → ∃ k, laws_FnLeastSegments.f k l0 l1 = some true
theorem laws_FnLeastSegments.walk (P : laws_FnLeastSegments.Pure) (a0 : Option Addr) (len0 cap0 : Nat) (z0 : List Int) (a1 : Option Addr) (len1 cap1 : Nat) (z1 : List Int) (w : World) (w0 : (a0 = none ∧ len0 = 0 ∧ cap0 = 0 ∧ z0 = []) ∨ ∃ x, a0 = some x ∧ len0 ≤ cap0 ∧ cap0 ≤ maxLen ∧ z0.length = cap0 ∧ (∀ i, i < z0.length → w.cell? (x.add i) = some (.int .u8 (z0.getD i 0))) ∧ ∀ n ∈ z0, (Lit.int .u8 n).wf = true) (y0 : len0 * 1 ≤ 140737488351232) (w1 : (a1 = none ∧ len1 = 0 ∧ cap1 = 0 ∧ z1 = []) ∨ ∃ x, a1 = some x ∧ len1 ≤ cap1 ∧ cap1 ≤ maxLen ∧ z1.length = cap1 ∧ (∀ i, i < z1.length → w.cell? (x.add i) = some (.int .u8 (z1.getD i 0))) ∧ ∀ n ∈ z1, (Lit.int .u8 n).wf = true) (y1 : len1 * 1 ≤ 140737488351232) :
  Calls Try.prog 7 #[.slice a0 len0 cap0, .slice a1 len1 cap1] w fun e w' => e = .returned (.bool true) ∧ Below w.heap.size w w' := by
 obtain ⟨l0, rfl, hr0, hm0, hw0, hc0⟩ := ReadsInt.ofRowC w0; obtain ⟨l1, rfl, hr1, hm1, hw1, hc1⟩ := ReadsInt.ofRowC w1; obtain ⟨k, h⟩ := P l0 l1 hm0 y0 hw0 hm1 y1 hw1; refine (laws_FnLeastSegments.calls k _ _ l0 _ _ l1 true w (Kd.C_of_reads (d := (0 : Int)) (h1 := fun _ => rfl) hr0) hc0 (Kd.C_of_reads (d := (0 : Int)) (h1 := fun _ => rfl) hr1) hc1 h).mono ?_; rintro e w' ⟨rfl, hd⟩; exact ⟨rfl, hd⟩

end Go.Proofs.Ythkcgimnagpmaaa.PA
