-- printed by a program of this session (wip/gp) out of the translation; Lean checks it
import Derived.Test.YthkcgimnagpmaaaPAx0
import Derived.Test.YthkcgimnagpmaaaPAx2
import Derived.Test.YthkcgimnagpmaaaPAx3
namespace Go.Proofs.Ythkcgimnagpmaaa.PA
open Go.RowKit Go.Proofs.YthkcgimnagpmaaaW.PrintWords Go.Proofs.YthkcgimnagpmaaaW.PrintLast Go.Proofs.YthkcgimnagpmaaaW.PrintMore Go.Proofs.YthkcgimnagpmaaaSq
attribute [local go_sem] max2_int min2_int max_two min_two max_three min_three max_four min_four   -- for this text's walks alone
attribute [local go_sem] Go.Proofs.YthkcgimnagpmaaaGp.str_geq Go.Proofs.YthkcgimnagpmaaaGp.str_gtr Go.Proofs.YthkcgimnagpmaaaGp.str_leq
set_option linter.unusedVariables false
set_option linter.unusedSimpArgs false

set_option maxHeartbeats 8000000
set_option maxRecDepth 100000
/-! ### spec_peFree: function 89 -/
def spec_peFree.l0 : Nat → List Int → List Int → Int → Int → Option (List Int)
 | 0, _, _, _, _ => none
 | k + 1, x5, x10, x11, x12 => if x12 < x11 then (if 0 ≤ x12 then (if x12 < (x10.length : Int) then (if (rd x10 x12) = 1 then (if x5.length < 17592186044416 then (spec_peFree.l0 k (x5 ++ [x12]) x10 x11 (wrap64 (x12 + 1))) else (none)) else (spec_peFree.l0 k x5 x10 x11 (wrap64 (x12 + 1)))) else (none)) else (none)) else (some x5)
def spec_peFree.f (k : Nat) (a0_0 : Int) (l0_1 : List (List Int)) (l1 : List Int) : Option (List Int) := (spec_peDegrees.f k a0_0 l0_1 l1).bind fun t472 => (spec_peFree.l0 k ([] : List Int) t472 (t472.length : Int) 0)
theorem spec_peFree.mono_l : ∀ k, (∀ y0 y1 y2 y3, LeO (spec_peFree.l0 k y0 y1 y2 y3) (spec_peFree.l0 (k + 1) y0 y1 y2 y3))
 | 0 => fun _ _ _ _ r h => by simp [spec_peFree.l0] at h
 | k + 1 => by
  have ih0 := spec_peFree.mono_l k
  ·intro y0 y1 y2 y3
   unfold spec_peFree.l0
   repeat' first | (with_reducible first | exact ih0 _ _ _ _ | exact spec_peDegrees.mono _ _ _ _ | exact LeO.refl _ | exact LeO.none _ | refine LeO.ite ?_ ?_ | refine LeO.bind ?_ (fun _ => ?_)) | exact LeO.none _ | refine LeO.ite ?_ ?_ | refine LeO.bind ?_ (fun _ => ?_)
theorem spec_peFree.mono : ∀ a0 a1 a2 k, LeO (spec_peFree.f k a0 a1 a2) (spec_peFree.f (k + 1) a0 a1 a2) := by
 intro a0 a1 a2 k; have ih0 := spec_peFree.mono_l k
 unfold spec_peFree.f
 repeat' first | (with_reducible first | exact ih0 _ _ _ _ | exact spec_peDegrees.mono _ _ _ _ | exact LeO.refl _ | exact LeO.none _ | refine LeO.ite ?_ ?_ | refine LeO.bind ?_ (fun _ => ?_)) | exact LeO.none _ | refine LeO.ite ?_ ?_ | refine LeO.bind ?_ (fun _ => ?_)
theorem spec_peFree.calls (k : Nat) (a0_0 : Int) (A0_1 : Option Addr) (c0_1 : Nat) (l0_1 : List (List Int)) (A1 : Option Addr) (c1 : Nat) (l1 : List Int) (r : List Int) (w : World) (hr0_1 : Kd.C (Kd.slice 3 (Kd.int .i64)) w A0_1 l0_1.length l0_1) (hc0_1 : l0_1.length ≤ c0_1) (hr1 : Kd.C (Kd.int .i64) w A1 l1.length l1) (hc1 : l1.length ≤ c1) (h : spec_peFree.f k a0_0 l0_1 l1 = some r) :
  Calls Try.prog 89 #[.agg #[.int .i64 a0_0, .slice A0_1 l0_1.length c0_1], .slice A1 l1.length c1] w fun e w' => ∃ v0_ : Value, e = .returned (v0_) ∧ Kd.R (Kd.int .i64) 3 w' w.heap.size (fun _ => True) v0_ r ∧ Below w.heap.size w w' := by
 have hu37 := Try.underlying37; have HR0_1 := am hr0_1; have HC0_1 := am hc0_1; clear hr0_1 hc0_1; have HR1 := am hr1; have HC1 := am hc1; clear hr1 hc1; have HB := am (Below.refl w.heap.size w); have H : ((spec_peDegrees.f k a0_0 l0_1 l1).bind fun t472 => (spec_peFree.l0 k ([] : List Int) t472 (t472.length : Int) 0)) = some r := h; clear h; replace H := Option.bind_eq_some_iff.mp H; obtain ⟨t472, A30, H⟩ := H; (try dsimp -simprocs only at H); have A3 := am A30; clear A30; have H' := am H; clear H
 go_enter Try.func89, Try.ntmps89
 go_wp2_with (first | ((with_reducible refine gate_dst (N := 2) rfl ?_); refine bE 2 #[.int .i64 a0_0, .slice A0_1 l0_1.length c0_1] 37 ?_; intro gb471 hg w4 hbox hb; have n0_ := Bb HB hb; have n1_ := am (hbox); have n2_ := Gl HB hg; have n3_ := Gl HB hg; clear HB; revert n0_ n1_ n2_ n3_; intro HB BK471 GW471 GE471; clear hb hbox hg; obtain ⟨hcz5_0, hcz5_1, hfz5_0, hfz5_1⟩ := cf2 (w := w4) BK471) | ((with_reducible refine gate_callee (f := 146) rfl ?_); refine gL (some 10) Try.func146 #[.agg #[.int .i64 a0_0, .slice A0_1 l0_1.length c0_1], .slice A1 l1.length c1] ?_; (with_reducible refine (spec_peDegrees.calls k a0_0 _ _ l0_1 _ _ l1 t472 _ ?side1 ?side2 ?side3 ?side4 A3.out).mono ?_); (case side1 => exact Cz (Kd.C_below HR0_1.out HB.out)); (case side2 => exact HC0_1.out); (case side3 => exact Cz (Kd.C_below HR1.out HB.out)); (case side4 => exact HC1.out); rintro e w6 ⟨v473, rfl, ho0, hb⟩; refine ⟨_, rfl, ?_⟩; have n0_ := Rm ho0 HB; have n1_ := Kb BK471 hb; have n2_ := Bc HB hb; clear BK471 HB; revert n0_ n1_ n2_; intro HO474 BK471 HB; (try clear hb); (try clear hb2); (try clear hk); (try clear hi); (try clear ho0); obtain ⟨Ao7, co7, eo7⟩ := Kd.R_slice HO474.out; subst eo7))
 (try simp only [aP])
 go_loopg [5, 12] k (fun kq v5 v12 w' => ∃ (x5_1 : List Int) (x12_1 : Int), v12 = .int .i64 x12_1 ∧ Aside0 (spec_peFree.l0 kq x5_1 t472 (t472.length : Int) x12_1 = some r) ∧ Aside0 (kq ≤ k) ∧ Aside0 (Kd.R (Kd.int .i64) 3 w' w.heap.size (fun k_ => some k_ ≠ ((.slice Ao7 t472.length co7) : Value).ownBlock) v5 x5_1) ∧ Aside0 (Kd.R (Kd.int .i64) 3 w' w.heap.size (fun k_ => some k_ ≠ (v5 : Value).ownBlock) (.slice Ao7 t472.length co7) t472) ∧ Aside0 (w'.heap[gb471]? = some (.cells #[.int .i64 a0_0, (.slice A0_1 l0_1.length c0_1)] 37 (0, 0))) ∧ Aside0 (Below w.heap.size w w'))
 case atStart => exact ⟨(([] : List Int)), (0), wZ, H', ⟨Nat.le_refl _⟩, ⟨nZ⟩, ⟨Rz (Kd.R_mono HO474.out (fun _ hk => (by simp [Value.ownBlock])))⟩, ⟨Kz BK471.out⟩, ⟨Bq⟩⟩
 case round =>
  clear H'
  try clear c1
  try clear p2
  try clear hcz5_0
  try clear hcz5_1
  try clear hfz5_0
  try clear hfz5_1
  obtain ⟨x5_1, x12_1, rfl, HA, HK1, HO_5, HO_10, BK471, HB⟩ := hrel; cases gk with
  | zero => exact absurd HA.out (by simp [spec_peFree.l0])
  | succ k1 =>
   have H := HA.out; clear HA
   simp only [spec_peFree.l0] at H
   by_cases c8 : x12_1 < (t472.length : Int)
   ·rw [if_pos c8] at H
    have c8b0 : decide (x12_1 < (t472.length : Int)) = true := decide_eq_true c8; clear c8
    by_cases c9 : 0 ≤ x12_1
    ·rw [if_pos c9] at H
     have c9b0 : decide (0 ≤ x12_1) = true := decide_eq_true c9; clear c9
     by_cases c10 : x12_1 < (t472.length : Int)
     ·rw [if_pos c10] at H
      have c10b0 : decide (x12_1 < (t472.length : Int)) = true := decide_eq_true c10; clear c10
      by_cases c11 : (rd t472 x12_1) = 1
      ·rw [if_pos c11] at H
       have c11b0 : ((rd t472 x12_1) == 1) = true := beq_iff_eq.mpr c11; have c11b1 : ((rd t472 x12_1) != 1) = false := bne_eq_false_iff_eq.mpr c11; clear c11
       by_cases c12 : x5_1.length < 17592186044416
       ·rw [if_pos c12] at H
        have LMc12 := am c12; clear c12; obtain ⟨y476, hy476⟩ : ∃ y_ : List Int, y_ = (x5_1 ++ [x12_1]) := ⟨_, rfl⟩
        replace H : (spec_peFree.l0 k1 y476 t472 (t472.length : Int) (wrap64 (x12_1 + 1))) = some r := by first | (rw [hy476]; with_reducible exact H) | (have H2_ := (Option.bind_some _ _).symm.trans H; rw [hy476]; with_reducible exact H2_) | (have H2_ := (Option.bind_some _ _).symm.trans H; with_reducible exact H2_) | with_reducible exact H | (rw [hy476]; exact H) | exact H
        have Ny476 := am hy476; clear hy476; have H' := am H; clear H; obtain ⟨ad475, e475, hx475_0⟩ := Kd.at_int (Kd.R_reads' HO_10.out).2.2 x12_1 dT dT; cases e475; have p475 := eT (0 ≤ (x12_1 : Int)); have q475 := eT (x12_1 < (t472.length : Int))
        go_wp2_with (first | ((with_reducible refine gate_builtin (b := .append) (xs := #[.tmp 19, .tmp 21]) rfl ?_); at_builtin; refine Kd.R_append (Kd.int .i64) (w0 := w) w.heap.size rfl (.tmp 19) (.tmp 21) 32 3 (.int .i64 0) 8 rfl Try.underlying32 info3 rfl (by decide) (by omega) u5 x5_1 x12_1 [.int .i64 x12_1] (fun k_ => some k_ ≠ (.slice (some ad475) t472.length co7 : Value).ownBlock) (fun _ => False) rfl rfl ?aP (fun _ hk => hk.elim) ?aF ?aO ?aB ?aS ?aL ?_; (case aP => exact rfl); (case aB => exact (Bq)); (case aF => exact (fun k_ hk => Kd.fresh' (Kd.R_lt (Rz HO_10.out)) k_ hk)); (case aO => exact (Rz HO_5.out)); (case aS => exact (below_size (w := w) (Bq))); (case aL => have := LMc12.out; omega); intro v477 w13 ho hb hg hat; rw [← Ny476.out] at ho; have n0_ := am (Kd.R_after (ok := (fun _ => True)) (Rz (Kd.R_mono HO_10.out (fun _ hk => ⟨trivial, hk⟩))) hg hat); have n1_ := am (blk_grown (g := gb471) (o := .cells #[.int .i64 a0_0, .slice A0_1 l0_1.length c0_1] 37 (0, 0)) (Kz BK471.out) hg (Kd.R_ne HO_5.out BK471.out (by decide))); have n2_ := am (hb); have n3_ := am (ho); clear HO_10 BK471 HB HO_5; revert n0_ n1_ n2_ n3_; intro HO_10 BK471 HB HO478; clear ho hb hg hat))
        go_roundg k1
        case measure => have := HK1.out; omega
        case rel => exact ⟨(y476), (wrap64 (x12_1 + 1)), wZ, H', ⟨by have := HK1.out; omega⟩, ⟨Rz HO478.out⟩, ⟨Rz (Kd.R_mono HO_10.out (fun _ hk => hk.2))⟩, ⟨Kz BK471.out⟩, ⟨Bq⟩⟩
       ·rw [if_neg c12] at H
        exact absurd H (by simp)
      ·rw [if_neg c11] at H
       have c11b0 : ((rd t472 x12_1) == 1) = false := beq_eq_false_iff_ne.mpr c11; have c11b1 : ((rd t472 x12_1) != 1) = true := bne_iff_ne.mpr c11; have H' := am H; clear H; obtain ⟨ad475, e475, hx475_0⟩ := Kd.at_int (Kd.R_reads' HO_10.out).2.2 x12_1 dT dT; cases e475; have p475 := eT (0 ≤ (x12_1 : Int)); have q475 := eT (x12_1 < (t472.length : Int))
       go_wp2
       go_roundg k1
       case measure => have := HK1.out; omega
       case rel => exact ⟨(x5_1), (wrap64 (x12_1 + 1)), wZ, H', ⟨by have := HK1.out; omega⟩, ⟨Rz HO_5.out⟩, ⟨Rz HO_10.out⟩, ⟨Kz BK471.out⟩, ⟨Bq⟩⟩
     ·rw [if_neg c10] at H
      exact absurd H (by simp)
    ·rw [if_neg c9] at H
     exact absurd H (by simp)
   ·rw [if_neg c8] at H
    have c8b0 : decide (x12_1 < (t472.length : Int)) = false := decide_eq_false c8; clear c8; obtain rfl := Option.some.inj H
    go_wp2
    go_ret
    exact ⟨_, eZ, Rz (Kd.R_mono HO_5.out (fun _ hk => trivial)), Bq⟩

/-! ### spec_l1Drop: function 124 -/
def spec_l1Drop.l0 : Nat → Int → List Int → List Int → Int → Int → Option (List Int)
 | 0, _, _, _, _, _ => none
 | k + 1, x1, x5, x8, x9, x10 => if x10 < x9 then (if 0 ≤ x10 then (if x10 < (x8.length : Int) then (if (rd x8 x10) = x1 then (spec_l1Drop.l0 k x1 x5 x8 x9 (wrap64 (x10 + 1))) else (if x5.length < 17592186044416 then (spec_l1Drop.l0 k x1 (x5 ++ [rd x8 x10]) x8 x9 (wrap64 (x10 + 1))) else (none))) else (none)) else (none)) else (some x5)
def spec_l1Drop.f (k : Nat) (l0 : List Int) (a1 : Int) : Option (List Int) := spec_l1Drop.l0 k a1 ([] : List Int) l0 (l0.length : Int) 0
theorem spec_l1Drop.mono_l : ∀ k, (∀ y0 y1 y2 y3 y4, LeO (spec_l1Drop.l0 k y0 y1 y2 y3 y4) (spec_l1Drop.l0 (k + 1) y0 y1 y2 y3 y4))
 | 0 => fun _ _ _ _ _ r h => by simp [spec_l1Drop.l0] at h
 | k + 1 => by
  have ih0 := spec_l1Drop.mono_l k
  ·intro y0 y1 y2 y3 y4
   unfold spec_l1Drop.l0
   repeat' first | (with_reducible first | exact ih0 _ _ _ _ _ | exact LeO.refl _ | exact LeO.none _ | refine LeO.ite ?_ ?_ | refine LeO.bind ?_ (fun _ => ?_)) | exact LeO.none _ | refine LeO.ite ?_ ?_ | refine LeO.bind ?_ (fun _ => ?_)
theorem spec_l1Drop.mono : ∀ a0 a1 k, LeO (spec_l1Drop.f k a0 a1) (spec_l1Drop.f (k + 1) a0 a1) := by
 intro a0 a1 k; have ih0 := spec_l1Drop.mono_l k
 unfold spec_l1Drop.f
 repeat' first | (with_reducible first | exact ih0 _ _ _ _ _ | exact LeO.refl _ | exact LeO.none _ | refine LeO.ite ?_ ?_ | refine LeO.bind ?_ (fun _ => ?_)) | exact LeO.none _ | refine LeO.ite ?_ ?_ | refine LeO.bind ?_ (fun _ => ?_)
theorem spec_l1Drop.calls (k : Nat) (A0 : Option Addr) (c0 : Nat) (l0 : List Int) (a1 : Int) (r : List Int) (w : World) (hr0 : Kd.C (Kd.int .i64) w A0 l0.length l0) (hc0 : l0.length ≤ c0) (h : spec_l1Drop.f k l0 a1 = some r) :
  Calls Try.prog 124 #[.slice A0 l0.length c0, .int .i64 a1] w fun e w' => ∃ v0_ : Value, e = .returned (v0_) ∧ Kd.R (Kd.int .i64) 3 w' w.heap.size (fun _ => True) v0_ r ∧ Below w.heap.size w w' := by
 have HR0 := am hr0; have HC0 := am hc0; clear hr0 hc0; have HB := am (Below.refl w.heap.size w); have H : (spec_l1Drop.l0 k a1 ([] : List Int) l0 (l0.length : Int) 0) = some r := h; clear h; have H' := am H; clear H
 go_enter Try.func124, Try.ntmps124
 go_wp2
 go_loopg [5, 10] k (fun kq v5 v10 w' => ∃ (x5_1 : List Int) (x10_1 : Int), v10 = .int .i64 x10_1 ∧ Aside0 (spec_l1Drop.l0 kq a1 x5_1 l0 (l0.length : Int) x10_1 = some r) ∧ Aside0 (kq ≤ k) ∧ Aside0 (Kd.R (Kd.int .i64) 3 w' w.heap.size (fun _ => True) v5 x5_1) ∧ Aside0 (Below w.heap.size w w'))
 case atStart => exact ⟨(([] : List Int)), (0), wZ, H', ⟨Nat.le_refl _⟩, ⟨nZ⟩, ⟨Bz HB.out⟩⟩
 case round =>
  clear H'
  try clear c1
  try clear p2
  obtain ⟨x5_1, x10_1, rfl, HA, HK1, HO_5, HB⟩ := hrel; cases gk with
  | zero => exact absurd HA.out (by simp [spec_l1Drop.l0])
  | succ k1 =>
   have H := HA.out; clear HA
   simp only [spec_l1Drop.l0] at H
   by_cases c3 : x10_1 < (l0.length : Int)
   ·rw [if_pos c3] at H
    have c3b0 : decide (x10_1 < (l0.length : Int)) = true := decide_eq_true c3; clear c3
    by_cases c4 : 0 ≤ x10_1
    ·rw [if_pos c4] at H
     have c4b0 : decide (0 ≤ x10_1) = true := decide_eq_true c4; clear c4
     by_cases c5 : x10_1 < (l0.length : Int)
     ·rw [if_pos c5] at H
      have c5b0 : decide (x10_1 < (l0.length : Int)) = true := decide_eq_true c5; clear c5
      by_cases c6 : (rd l0 x10_1) = a1
      ·rw [if_pos c6] at H
       have c6b0 : ((rd l0 x10_1) == a1) = true := beq_iff_eq.mpr c6; have c6b1 : ((rd l0 x10_1) != a1) = false := bne_eq_false_iff_eq.mpr c6; clear c6; have H' := am H; clear H; have p479 : 0 ≤ (x10_1 : Int) := dT; have q479 : x10_1 < (l0.length : Int) := dT; obtain ⟨ad479, e479, hx479_0⟩ := Kd.at_int HR0.out x10_1 p479 q479; cases e479; replace hx479_0 := (HB.out.cell (World.block_lt_of_cell? w _ hx479_0)).trans hx479_0; replace p479 := eq_true p479; replace q479 := eq_true q479
       go_wp2
       go_roundg k1
       case measure => have := HK1.out; omega
       case rel => exact ⟨(x5_1), (wrap64 (x10_1 + 1)), wZ, H', ⟨by have := HK1.out; omega⟩, ⟨Rz HO_5.out⟩, ⟨Bz HB.out⟩⟩
      ·rw [if_neg c6] at H
       have c6b0 : ((rd l0 x10_1) == a1) = false := beq_eq_false_iff_ne.mpr c6; have c6b1 : ((rd l0 x10_1) != a1) = true := bne_iff_ne.mpr c6
       by_cases c7 : x5_1.length < 17592186044416
       ·rw [if_pos c7] at H
        have LMc7 := am c7; clear c7; obtain ⟨y480, hy480⟩ : ∃ y_ : List Int, y_ = (x5_1 ++ [rd l0 x10_1]) := ⟨_, rfl⟩
        replace H : (spec_l1Drop.l0 k1 a1 y480 l0 (l0.length : Int) (wrap64 (x10_1 + 1))) = some r := by first | (rw [hy480]; with_reducible exact H) | (have H2_ := (Option.bind_some _ _).symm.trans H; rw [hy480]; with_reducible exact H2_) | (have H2_ := (Option.bind_some _ _).symm.trans H; with_reducible exact H2_) | with_reducible exact H | (rw [hy480]; exact H) | exact H
        have Ny480 := am hy480; clear hy480; have H' := am H; clear H; have p479 : 0 ≤ (x10_1 : Int) := dT; have q479 : x10_1 < (l0.length : Int) := dT; obtain ⟨ad479, e479, hx479_0⟩ := Kd.at_int HR0.out x10_1 p479 q479; cases e479; replace hx479_0 := (HB.out.cell (World.block_lt_of_cell? w _ hx479_0)).trans hx479_0; replace p479 := eq_true p479; replace q479 := eq_true q479
        go_wp2_with (first | ((with_reducible refine gate_builtin (b := .append) (xs := #[.tmp 17, .tmp 19]) rfl ?_); at_builtin; refine Kd.R_append (Kd.int .i64) (w0 := w) w.heap.size rfl (.tmp 17) (.tmp 19) 32 3 (.int .i64 0) 8 rfl Try.underlying32 info3 rfl (by decide) (by omega) u5 x5_1 (rd l0 x10_1) [.int .i64 (rd l0 x10_1)] (fun _ => True) (fun _ => False) rfl rfl ?aP (fun _ hk => hk.elim) ?aF ?aO ?aB ?aS ?aL ?_; (case aP => exact rfl); (case aB => exact (Bz HB.out)); (case aF => exact (fun _ _ => trivial)); (case aO => exact (Rz HO_5.out)); (case aS => exact (below_size (Bz HB.out))); (case aL => have := LMc7.out; omega); intro v481 w8 ho hb hg hat; rw [← Ny480.out] at ho; have n0_ := am (hb); have n1_ := am (ho); clear HB HO_5; revert n0_ n1_; intro HB HO482; clear ho hb hg hat))
        go_roundg k1
        case measure => have := HK1.out; omega
        case rel => exact ⟨(y480), (wrap64 (x10_1 + 1)), wZ, H', ⟨by have := HK1.out; omega⟩, ⟨Rz HO482.out⟩, ⟨Bz HB.out⟩⟩
       ·rw [if_neg c7] at H
        exact absurd H (by simp)
     ·rw [if_neg c5] at H
      exact absurd H (by simp)
    ·rw [if_neg c4] at H
     exact absurd H (by simp)
   ·rw [if_neg c3] at H
    have c3b0 : decide (x10_1 < (l0.length : Int)) = false := decide_eq_false c3; clear c3; obtain rfl := Option.some.inj H
    go_wp2
    go_ret
    exact ⟨_, eZ, Rz HO_5.out, Bz HB.out⟩

/-! ### spec_peWith: function 147 -/
def spec_peWith.l0 : Nat → Int → List Int → Int → Int → Int → List (List Int) → Option (Int)
 | 0, _, _, _, _, _, _ => none
 | k + 1, x2, x9, x10, x11, x485000, x485001 => if x11 < x10 then (if 0 ≤ x11 then (if x11 < (x9.length : Int) then (if 0 ≤ (rd x9 x11) then (if (rd x9 x11) < (x485001.length : Int) then ((spec_l1Has.f k (rd_L2 x485001 (rd x9 x11)) x2).bind fun t487 => (if t487 = true then (some (rd x9 x11)) else (spec_peWith.l0 k x2 x9 x10 (wrap64 (x11 + 1)) x485000 x485001))) else (none)) else (none)) else (none)) else (none)) else (some (-1))
def spec_peWith.f (k : Nat) (a0_0 : Int) (l0_1 : List (List Int)) (l1 : List Int) (a2 : Int) : Option (Int) := spec_peWith.l0 k a2 l1 (l1.length : Int) 0 a0_0 l0_1
theorem spec_peWith.mono_l : ∀ k, (∀ y0 y1 y2 y3 y4 y5, LeO (spec_peWith.l0 k y0 y1 y2 y3 y4 y5) (spec_peWith.l0 (k + 1) y0 y1 y2 y3 y4 y5))
 | 0 => fun _ _ _ _ _ _ r h => by simp [spec_peWith.l0] at h
 | k + 1 => by
  have ih0 := spec_peWith.mono_l k
  ·intro y0 y1 y2 y3 y4 y5
   unfold spec_peWith.l0
   repeat' first | (with_reducible first | exact ih0 _ _ _ _ _ _ | exact spec_l1Has.mono _ _ _ | exact LeO.refl _ | exact LeO.none _ | refine LeO.ite ?_ ?_ | refine LeO.bind ?_ (fun _ => ?_)) | exact LeO.none _ | refine LeO.ite ?_ ?_ | refine LeO.bind ?_ (fun _ => ?_)
theorem spec_peWith.mono : ∀ a0 a1 a2 a3 k, LeO (spec_peWith.f k a0 a1 a2 a3) (spec_peWith.f (k + 1) a0 a1 a2 a3) := by
 intro a0 a1 a2 a3 k; have ih0 := spec_peWith.mono_l k
 unfold spec_peWith.f
 repeat' first | (with_reducible first | exact ih0 _ _ _ _ _ _ | exact spec_l1Has.mono _ _ _ | exact LeO.refl _ | exact LeO.none _ | refine LeO.ite ?_ ?_ | refine LeO.bind ?_ (fun _ => ?_)) | exact LeO.none _ | refine LeO.ite ?_ ?_ | refine LeO.bind ?_ (fun _ => ?_)
theorem spec_peWith.calls (k : Nat) (a0_0 : Int) (A0_1 : Option Addr) (c0_1 : Nat) (l0_1 : List (List Int)) (A1 : Option Addr) (c1 : Nat) (l1 : List Int) (a2 : Int) (r : Int) (w : World) (hr0_1 : Kd.C (Kd.slice 3 (Kd.int .i64)) w A0_1 l0_1.length l0_1) (hc0_1 : l0_1.length ≤ c0_1) (hr1 : Kd.C (Kd.int .i64) w A1 l1.length l1) (hc1 : l1.length ≤ c1) (h : spec_peWith.f k a0_0 l0_1 l1 a2 = some r) :
  Calls Try.prog 147 #[.agg #[.int .i64 a0_0, .slice A0_1 l0_1.length c0_1], .slice A1 l1.length c1, .int .i64 a2] w fun e w' => e = .returned (.int .i64 r) ∧ Below w.heap.size w w' := by
 have hu37 := Try.underlying37; have HR0_1 := am hr0_1; have HC0_1 := am hc0_1; clear hr0_1 hc0_1; have HR1 := am hr1; have HC1 := am hc1; clear hr1 hc1; have HB := am (Below.refl w.heap.size w); have H : (spec_peWith.l0 k a2 l1 (l1.length : Int) 0 a0_0 l0_1) = some r := h; clear h; have H' := am H; clear H
 go_enter Try.func147, Try.ntmps147
 go_wp2_with (first | ((with_reducible refine gate_dst (N := 3) rfl ?_); refine bE 3 #[.int .i64 a0_0, .slice A0_1 l0_1.length c0_1] 37 ?_; intro gb484 hg w4 hbox hb; have n0_ := Bb HB hb; have n1_ := am (hbox); have n2_ := Gl HB hg; have n3_ := Gl HB hg; clear HB; revert n0_ n1_ n2_ n3_; intro HB BK484 GW484 GE484; clear hb hbox hg))
 (try simp only [aP])
 go_loopg [11] k (fun kq v11 w' => ∃ (x11_1 : Int), v11 = .int .i64 x11_1 ∧ Aside0 (spec_peWith.l0 kq a2 l1 (l1.length : Int) x11_1 a0_0 l0_1 = some r) ∧ Aside0 (kq ≤ k) ∧ Aside0 (w'.heap[gb484]? = some (.cells #[.int .i64 a0_0, (.slice A0_1 l0_1.length c0_1)] 37 (0, 0))) ∧ Aside0 (Below w.heap.size w w'))
 case atStart => exact ⟨(0), wZ, H', ⟨Nat.le_refl _⟩, ⟨Kz BK484.out⟩, ⟨Bq⟩⟩
 case round =>
  clear H'
  try clear c1
  try clear p2
  obtain ⟨x11_1, rfl, HA, HK1, BK484, HB⟩ := hrel; cases gk with
  | zero => exact absurd HA.out (by simp [spec_peWith.l0])
  | succ k1 =>
   have H := HA.out; clear HA
   simp only [spec_peWith.l0] at H
   by_cases c5 : x11_1 < (l1.length : Int)
   ·rw [if_pos c5] at H
    have c5b0 : decide (x11_1 < (l1.length : Int)) = true := decide_eq_true c5; clear c5
    by_cases c6 : 0 ≤ x11_1
    ·rw [if_pos c6] at H
     have c6b0 : decide (0 ≤ x11_1) = true := decide_eq_true c6; clear c6
     by_cases c7 : x11_1 < (l1.length : Int)
     ·rw [if_pos c7] at H
      have c7b0 : decide (x11_1 < (l1.length : Int)) = true := decide_eq_true c7; clear c7
      by_cases c8 : 0 ≤ (rd l1 x11_1)
      ·rw [if_pos c8] at H
       have c8b0 : decide (0 ≤ (rd l1 x11_1)) = true := decide_eq_true c8; clear c8
       by_cases c9 : (rd l1 x11_1) < (l0_1.length : Int)
       ·rw [if_pos c9] at H
        have c9b0 : decide ((rd l1 x11_1) < (l0_1.length : Int)) = true := decide_eq_true c9; clear c9; replace H := Option.bind_eq_some_iff.mp H; obtain ⟨t487, A100, H⟩ := H; (try dsimp -simprocs only at H); have A10 := am A100; clear A100
        by_cases c11 : t487 = true
        ·subst c11
         rw [if_pos rfl] at H; obtain rfl := Option.some.inj H; have p485 : 0 ≤ (x11_1 : Int) := dT; have q485 : x11_1 < (l1.length : Int) := dT; obtain ⟨ad485, e485, hx485_0⟩ := Kd.at_int HR1.out x11_1 p485 q485; cases e485; replace hx485_0 := (HB.out.cell (World.block_lt_of_cell? w _ hx485_0)).trans hx485_0; replace p485 := eq_true p485; replace q485 := eq_true q485; obtain ⟨hcz12_0, hcz12_1, hfz12_0, hfz12_1⟩ := cf2 (w := wr) BK484; have p486 : 0 ≤ ((rd l1 x11_1) : Int) := dT; have q486 : (rd l1 x11_1) < (l0_1.length : Int) := dT; obtain ⟨ad486, A486_0, c486_0, e486, hx486_0, hl486_0, hi486_0⟩ := at_L2 HR0_1.out (rd l1 x11_1) p486 q486; cases e486; replace hx486_0 := (HB.out.cell (World.block_lt_of_cell? w _ hx486_0)).trans hx486_0; have HR486_0 := am hi486_0; have HC486_0 := am hl486_0; clear hi486_0 hl486_0; replace p486 := eq_true p486; replace q486 := eq_true q486
         go_wp2_with (first | ((with_reducible refine gate_callee (f := 143) rfl ?_); refine gL (some 21) Try.func143 #[.slice A486_0 (rd_L2 l0_1 (rd l1 x11_1)).length c486_0, .int .i64 a2] ?_; (with_reducible refine (spec_l1Has.calls k1 _ _ (rd_L2 l0_1 (rd l1 x11_1)) a2 true _ ?side1 ?side2 A10.out).mono ?_); (case side1 => exact Cz (Kd.C_below HR486_0.out HB.out)); (case side2 => exact HC486_0.out); rintro e w' ⟨rfl, ⟨nd, rfl⟩⟩; refine ⟨_, rfl, ?_⟩))
         go_ret
         exact ⟨eZ, Bq⟩
        ·replace c11 := Bool.eq_false_iff.mpr c11
         subst c11
         rw [if_neg (show ¬ (false = true) by decide)] at H; have H' := am H; clear H; have p485 : 0 ≤ (x11_1 : Int) := dT; have q485 : x11_1 < (l1.length : Int) := dT; obtain ⟨ad485, e485, hx485_0⟩ := Kd.at_int HR1.out x11_1 p485 q485; cases e485; replace hx485_0 := (HB.out.cell (World.block_lt_of_cell? w _ hx485_0)).trans hx485_0; replace p485 := eq_true p485; replace q485 := eq_true q485; obtain ⟨hcz13_0, hcz13_1, hfz13_0, hfz13_1⟩ := cf2 (w := wr) BK484; have p486 : 0 ≤ ((rd l1 x11_1) : Int) := dT; have q486 : (rd l1 x11_1) < (l0_1.length : Int) := dT; obtain ⟨ad486, A486_0, c486_0, e486, hx486_0, hl486_0, hi486_0⟩ := at_L2 HR0_1.out (rd l1 x11_1) p486 q486; cases e486; replace hx486_0 := (HB.out.cell (World.block_lt_of_cell? w _ hx486_0)).trans hx486_0; have HR486_0 := am hi486_0; have HC486_0 := am hl486_0; clear hi486_0 hl486_0; replace p486 := eq_true p486; replace q486 := eq_true q486
         go_wp2_with (first | ((with_reducible refine gate_callee (f := 143) rfl ?_); refine gL (some 21) Try.func143 #[.slice A486_0 (rd_L2 l0_1 (rd l1 x11_1)).length c486_0, .int .i64 a2] ?_; (with_reducible refine (spec_l1Has.calls k1 _ _ (rd_L2 l0_1 (rd l1 x11_1)) a2 false _ ?side1 ?side2 A10.out).mono ?_); (case side1 => exact Cz (Kd.C_below HR486_0.out HB.out)); (case side2 => exact HC486_0.out); rintro e w' ⟨rfl, ⟨nd, rfl⟩⟩; refine ⟨_, rfl, ?_⟩))
         go_roundg k1
         case measure => have := HK1.out; omega
         case rel => exact ⟨(wrap64 (x11_1 + 1)), wZ, H', ⟨by have := HK1.out; omega⟩, ⟨Kz BK484.out⟩, ⟨Bq⟩⟩
       ·rw [if_neg c9] at H
        exact absurd H (by simp)
      ·rw [if_neg c8] at H
       exact absurd H (by simp)
     ·rw [if_neg c7] at H
      exact absurd H (by simp)
    ·rw [if_neg c6] at H
     exact absurd H (by simp)
   ·rw [if_neg c5] at H
    have c5b0 : decide (x11_1 < (l1.length : Int)) = false := decide_eq_false c5; clear c5; obtain rfl := Option.some.inj H
    go_wp2
    go_ret
    exact ⟨eZ, Bq⟩

/-! ### spec_pePeel: function 98 -/
mutual
def spec_pePeel.l0 : Nat → List Int → Bool → List (S51) → List Int → Int → Int → List (List Int) → Option ((List (S51)) × List Int)
 | 0, _, _, _, _, _, _, _ => none
 | k + 1, x1, x2, x8, x9, x10, x489000, x489001 => if x2 = true then (spec_pePeel.j1 k x1 x2 x8 x9 x10 true x489000 x489001) else (spec_pePeel.j1 k x1 x2 x8 x9 x10 (decide (x10 < (x1.length : Int))) x489000 x489001)
def spec_pePeel.j1 : Nat → List Int → Bool → List (S51) → List Int → Int → Bool → Int → List (List Int) → Option ((List (S51)) × List Int)
 | 0, _, _, _, _, _, _, _, _ => none
 | k + 1, x1, x2, x8, x9, x10, x22, x489000, x489001 => if x22 = true then ((spec_peFree.f k x489000 x489001 x9).bind fun t492 => (if (t492.length : Int) = 0 then (some (x8, x9)) else (if x10 < (x1.length : Int) then (if 0 ≤ x10 then (if 0 ≤ (Int.tmod (rd x1 x10) (t492.length : Int)) then (if (Int.tmod (rd x1 x10) (t492.length : Int)) < (t492.length : Int) then ((spec_peWith.f k x489000 x489001 x9 (rd t492 (Int.tmod (rd x1 x10) (t492.length : Int)))).bind fun t497 => (if x8.length < 8796093022208 then ((spec_l1Drop.f k x9 t497).bind fun t503 => (spec_pePeel.l0 k x1 x2 (x8 ++ [(⟨t497, rd t492 (Int.tmod (rd x1 x10) (t492.length : Int))⟩ : S51)]) t503 (wrap64 (x10 + 1)) x489000 x489001)) else (none))) else (none)) else (none)) else (none)) else (if 0 < (t492.length : Int) then ((spec_peWith.f k x489000 x489001 x9 (rd t492 0)).bind fun t507 => (if x8.length < 8796093022208 then ((spec_l1Drop.f k x9 t507).bind fun t513 => (spec_pePeel.l0 k x1 x2 (x8 ++ [(⟨t507, rd t492 0⟩ : S51)]) t513 (wrap64 (x10 + 1)) x489000 x489001)) else (none))) else (none))))) else (some (x8, x9))
end
def spec_pePeel.f (k : Nat) (a0_0 : Int) (l0_1 : List (List Int)) (l1 : List Int) (a2 : Bool) : Option ((List (S51)) × List Int) := (spec_peAll.f k a0_0 l0_1).bind fun t489 => (spec_pePeel.l0 k l1 a2 ([] : List (S51)) t489 0 a0_0 l0_1)
theorem spec_pePeel.mono_l : ∀ k, (∀ y0 y1 y2 y3 y4 y5 y6, LeO (spec_pePeel.l0 k y0 y1 y2 y3 y4 y5 y6) (spec_pePeel.l0 (k + 1) y0 y1 y2 y3 y4 y5 y6)) ∧ (∀ y0 y1 y2 y3 y4 y5 y6 y7, LeO (spec_pePeel.j1 k y0 y1 y2 y3 y4 y5 y6 y7) (spec_pePeel.j1 (k + 1) y0 y1 y2 y3 y4 y5 y6 y7))
 | 0 => ⟨fun _ _ _ _ _ _ _ r h => by simp [spec_pePeel.l0] at h, fun _ _ _ _ _ _ _ _ r h => by simp [spec_pePeel.j1] at h⟩
 | k + 1 => by
  obtain ⟨ih0, ih1⟩ := spec_pePeel.mono_l k; refine ⟨?_, ?_⟩
  ·intro y0 y1 y2 y3 y4 y5 y6
   unfold spec_pePeel.l0
   repeat' first | (with_reducible first | exact ih0 _ _ _ _ _ _ _ | exact ih1 _ _ _ _ _ _ _ _ | exact spec_l1Drop.mono _ _ _ | exact spec_peAll.mono _ _ _ | exact spec_peFree.mono _ _ _ _ | exact spec_peWith.mono _ _ _ _ _ | exact LeO.refl _ | exact LeO.none _ | refine LeO.ite ?_ ?_ | refine LeO.bind ?_ (fun _ => ?_)) | exact LeO.none _ | refine LeO.ite ?_ ?_ | refine LeO.bind ?_ (fun _ => ?_)
  ·intro y0 y1 y2 y3 y4 y5 y6 y7
   unfold spec_pePeel.j1
   repeat' first | (with_reducible first | exact ih0 _ _ _ _ _ _ _ | exact ih1 _ _ _ _ _ _ _ _ | exact spec_l1Drop.mono _ _ _ | exact spec_peAll.mono _ _ _ | exact spec_peFree.mono _ _ _ _ | exact spec_peWith.mono _ _ _ _ _ | exact LeO.refl _ | exact LeO.none _ | refine LeO.ite ?_ ?_ | refine LeO.bind ?_ (fun _ => ?_)) | exact LeO.none _ | refine LeO.ite ?_ ?_ | refine LeO.bind ?_ (fun _ => ?_)
theorem spec_pePeel.mono : ∀ a0 a1 a2 a3 k, LeO (spec_pePeel.f k a0 a1 a2 a3) (spec_pePeel.f (k + 1) a0 a1 a2 a3) := by
 intro a0 a1 a2 a3 k; obtain ⟨ih0, ih1⟩ := spec_pePeel.mono_l k
 unfold spec_pePeel.f
 repeat' first | (with_reducible first | exact ih0 _ _ _ _ _ _ _ | exact ih1 _ _ _ _ _ _ _ _ | exact spec_l1Drop.mono _ _ _ | exact spec_peAll.mono _ _ _ | exact spec_peFree.mono _ _ _ _ | exact spec_peWith.mono _ _ _ _ _ | exact LeO.refl _ | exact LeO.none _ | refine LeO.ite ?_ ?_ | refine LeO.bind ?_ (fun _ => ?_)) | exact LeO.none _ | refine LeO.ite ?_ ?_ | refine LeO.bind ?_ (fun _ => ?_)
def spec_pePeel.T11 : Bool × List (List Nat × List Nat) := (true, [([], []), ([], []), ([], []), ([], []), ([2, 3], [2, 3]), ([4], [4]), ([0, 1, 5], [0, 1, 5]), ([], []), ([], []), ([7, 8], [7, 8]), ([9], [9]), ([6, 10], [6, 10]), ([], []), ([12, 11, 6, 0, 1, 2, 3, 4, 5, 6, 7, 8, 9, 10, 11, 12], [11, 12])])
def spec_pePeel.B11 : List Nat := [0, 0, 0, 0, 12, 28, 63, 0, 0, 384, 896, 2047, 0, 8191]
theorem spec_pePeel.tab11 : rtab .any (opsOf Try.f98 11) = spec_pePeel.T11 := by kernel_rfl
theorem spec_pePeel.bits11 : waitsOk spec_pePeel.T11.2 spec_pePeel.B11 = true := by kernel_rfl
theorem spec_pePeel.calls (k : Nat) (a0_0 : Int) (A0_1 : Option Addr) (c0_1 : Nat) (l0_1 : List (List Int)) (A1 : Option Addr) (c1 : Nat) (l1 : List Int) (a2 : Bool) (r1 : List (S51)) (r2 : List Int) (w : World) (hr0_1 : Kd.C (Kd.slice 3 (Kd.int .i64)) w A0_1 l0_1.length l0_1) (hc0_1 : l0_1.length ≤ c0_1) (hr1 : Kd.C (Kd.int .i64) w A1 l1.length l1) (hc1 : l1.length ≤ c1) (h : spec_pePeel.f k a0_0 l0_1 l1 a2 = some (r1, r2)) :
  Calls Try.prog 98 #[.agg #[.int .i64 a0_0, .slice A0_1 l0_1.length c0_1], .slice A1 l1.length c1, .bool a2] w fun e w' => ∃ v0_ v1_ : Value, e = .returned (.tuple #[v0_, v1_]) ∧ Kd.R k51 51 w' w.heap.size (fun _ => True) v0_ r1 ∧ Kd.R (Kd.int .i64) 3 w' w.heap.size (fun _ => True) v1_ r2 ∧ Below w.heap.size w w' := by
 have hu37 := Try.underlying37; have hu51 := Try.underlying51; have HR0_1 := am hr0_1; have HC0_1 := am hc0_1; clear hr0_1 hc0_1; have HR1 := am hr1; have HC1 := am hc1; clear hr1 hc1; have HB := am (Below.refl w.heap.size w); have H : ((spec_peAll.f k a0_0 l0_1).bind fun t489 => (spec_pePeel.l0 k l1 a2 ([] : List (S51)) t489 0 a0_0 l0_1)) = some (r1, r2) := h; clear h; replace H := Option.bind_eq_some_iff.mp H; obtain ⟨t489, A40, H⟩ := H; (try dsimp -simprocs only at H); have A4 := am A40; clear A40; have H' := am H; clear H
 go_enter Try.func98, Try.ntmps98
 go_wp2_with (first | ((with_reducible refine gate_dst (N := 3) rfl ?_); (try (refine gate_guard (by rfl) ?_; dsimp only)); refine bE 3 #[.int .i64 a0_0, .slice A0_1 l0_1.length c0_1] 37 ?_; intro gb488 hg w5 hbox hb; have n0_ := Bb HB hb; have n1_ := am (hbox); have n2_ := Gl HB hg; have n3_ := Gl HB hg; clear HB; revert n0_ n1_ n2_ n3_; intro HB BK488 GW488 GE488; clear hb hbox hg; obtain ⟨hcz6_0, hcz6_1, hfz6_0, hfz6_1⟩ := cf2 (w := w5) BK488) | ((with_reducible refine gate_callee (f := 88) rfl ?_); refine gL (some 15) Try.func88 #[.agg #[.int .i64 a0_0, .slice A0_1 l0_1.length c0_1]] ?_; (with_reducible refine (spec_peAll.calls k a0_0 _ _ l0_1 t489 _ ?side1 ?side2 A4.out).mono ?_); (case side1 => exact Cz (Kd.C_below HR0_1.out HB.out)); (case side2 => exact HC0_1.out); rintro e w7 ⟨v490, rfl, ho0, hb⟩; refine ⟨_, rfl, ?_⟩; have n0_ := Rm ho0 HB; have n1_ := Kb BK488 hb; have n2_ := Bc HB hb; clear BK488 HB; revert n0_ n1_ n2_; intro HO491 BK488 HB; (try clear hb); (try clear hb2); (try clear hk); (try clear hi); (try clear ho0)))
 (try simp only [aP])
 go_loopg [8, 9, 10] k (fun kq v8 v9 v10 w' => ∃ (x8_1 : List (S51)) (x9_1 : List Int) (x10_1 : Int), v10 = .int .i64 x10_1 ∧ Aside0 (spec_pePeel.l0 kq l1 a2 x8_1 x9_1 x10_1 a0_0 l0_1 = some (r1, r2)) ∧ Aside0 (kq ≤ k) ∧ Aside0 (Kd.R k51 51 w' w.heap.size (fun _ => True) v8 x8_1) ∧ Aside0 (Kd.R (Kd.int .i64) 3 w' w.heap.size (fun _ => True) v9 x9_1) ∧ Aside0 (w'.heap[gb488]? = some (.cells #[.int .i64 a0_0, (.slice A0_1 l0_1.length c0_1)] 37 (0, 0))) ∧ Aside0 (Below w.heap.size w w'))
 case atStart => exact ⟨(([] : List (S51))), (t489), (0), wZ, H', ⟨Nat.le_refl _⟩, ⟨nZ⟩, ⟨Rz HO491.out⟩, ⟨Kz BK488.out⟩, ⟨Bq⟩⟩
 case round =>
  clear H'
  try clear c1
  try clear p2
  try clear hcz6_0
  try clear hcz6_1
  try clear hfz6_0
  try clear hfz6_1
  obtain ⟨x8_1, x9_1, x10_1, rfl, HA, HK1, HO_8, HO_9, BK488, HB⟩ := hrel; cases gk with
  | zero => exact absurd HA.out (by simp [spec_pePeel.l0])
  | succ k1 =>
   have H := HA.out; clear HA
   simp only [spec_pePeel.l0] at H
   have HC8 := am H; clear H
   go_upto_region 4 with (fail)
   go_cut [22] (fun v22 wc => ∃ (kq : Nat) (x22_7 : Bool), v22 = .bool x22_7 ∧ Aside0 (spec_pePeel.j1 kq l1 a2 x8_1 x9_1 x10_1 x22_7 a0_0 l0_1 = some (r1, r2)) ∧ Aside0 (kq ≤ k1) ∧ Aside0 (Kd.R k51 51 wc w.heap.size (fun _ => True) u8 x8_1) ∧ Aside0 (Kd.R (Kd.int .i64) 3 wc w.heap.size (fun _ => True) u9 x9_1) ∧ Aside0 (wc.heap[gb488]? = some (.cells #[.int .i64 a0_0, (.slice A0_1 l0_1.length c0_1)] 37 (0, 0))) ∧ Aside0 (Below w.heap.size w wc))
   case first =>
    have H := HC8.out; clear HC8
    by_cases c9 : a2 = true
    ·subst c9
     rw [if_pos rfl] at H; have H' := am H; clear H
     go_wp2
     go_meet
     case rel => exact ⟨_, (true), wZ, H', ⟨by have := HK1.out; first | omega | exact Nat.le_refl _⟩, ⟨Rz HO_8.out⟩, ⟨Rz HO_9.out⟩, ⟨Kz BK488.out⟩, ⟨Bq⟩⟩
    ·replace c9 := Bool.eq_false_iff.mpr c9
     subst c9
     rw [if_neg (show ¬ (false = true) by decide)] at H; have H' := am H; clear H
     go_wp2
     go_meet
     case rel => exact ⟨_, (decide (x10_1 < (l1.length : Int))), wZ, H', ⟨by have := HK1.out; first | omega | exact Nat.le_refl _⟩, ⟨Rz HO_8.out⟩, ⟨Rz HO_9.out⟩, ⟨Kz BK488.out⟩, ⟨Bq⟩⟩
   case rest =>
    clear HC8
    try clear c1
    try clear p2
    try clear c8
    try clear c9
    try clear hcz6_0
    try clear hcz6_1
    try clear hfz6_0
    try clear hfz6_1
    try clear p2
    obtain ⟨kq, x22_7, rfl, HA, HJ7, HO_8, HO_9, BK488, HB⟩ := hcut; cases kq with
    | zero => exact absurd HA.out (by simp [spec_pePeel.j1])
    | succ kj7 =>
     have H := HA.out; clear HA
     simp only [spec_pePeel.j1] at H
     by_cases c10 : x22_7 = true
     ·subst c10
      rw [if_pos rfl] at H; replace H := Option.bind_eq_some_iff.mp H; obtain ⟨t492, A110, H⟩ := H; (try dsimp -simprocs only at H); have A11 := am A110; clear A110
      by_cases c12 : (t492.length : Int) = 0
      ·rw [if_pos c12] at H
       have c12b0 : ((t492.length : Int) == 0) = true := beq_iff_eq.mpr c12; have c12b1 : ((t492.length : Int) != 0) = false := bne_eq_false_iff_eq.mpr c12; clear c12
       simp only [Option.some.injEq, Prod.mk.injEq] at H
       obtain ⟨rfl, rfl⟩ := H; obtain ⟨hcz13_0, hcz13_1, hfz13_0, hfz13_1⟩ := cf2 (w := wc) BK488; obtain ⟨Ao14, co14, eo14⟩ := Kd.R_slice HO_9.out; subst eo14
       go_wp2_with (first | ((with_reducible refine gate_callee (f := 89) rfl ?_); refine gL (some 27) Try.func89 #[.agg #[.int .i64 a0_0, .slice A0_1 l0_1.length c0_1], .slice Ao14 x9_1.length co14] ?_; (with_reducible refine (spec_peFree.calls kj7 a0_0 _ _ l0_1 _ _ x9_1 t492 _ ?side1 ?side2 ?side3 ?side4 A11.out).mono ?_); (case side1 => exact Cz (Kd.C_below HR0_1.out HB.out)); (case side2 => exact HC0_1.out); (case side3 => exact Cz ((Kd.R_reads' HO_9.out).2.2)); (case side4 => exact (Kd.R_reads' HO_9.out).2.1); rintro e w15 ⟨v493, rfl, ho0, hb⟩; refine ⟨_, rfl, ?_⟩; have n0_ := Rb HO_8 hb; have n1_ := Re HO_9 (Kd.R_base ho0) hb; have n2_ := Rm (Kd.R_new' ho0 (Kd.R_lt (Rz HO_9.out))) HB; have n3_ := Kb BK488 hb; have n4_ := Bc HB hb; clear HO_8 HO_9 BK488 HB; revert n0_ n1_ n2_ n3_ n4_; intro HO_8 HO_9 HO494 BK488 HB; (try clear hb); (try clear hb2); (try clear hk); (try clear hi); (try clear ho0); obtain ⟨Ao16, co16, eo16⟩ := Kd.R_slice HO494.out; subst eo16))
       go_ret2
       exact ⟨_, _, eZ, Rz HO_8.out, Rz (Kd.R_mono HO_9.out (fun _ hk => trivial)), Bq⟩
      ·rw [if_neg c12] at H
       have c12b0 : ((t492.length : Int) == 0) = false := beq_eq_false_iff_ne.mpr c12; have c12b1 : ((t492.length : Int) != 0) = true := bne_iff_ne.mpr c12
       have c12b2 : ¬ (t492 = []) := fun h_ => c12 (by rw [h_]; rfl)
       by_cases c17 : x10_1 < (l1.length : Int)
       ·rw [if_pos c17] at H
        have c17b0 : decide (x10_1 < (l1.length : Int)) = true := decide_eq_true c17; clear c17
        by_cases c18 : 0 ≤ x10_1
        ·rw [if_pos c18] at H
         have c18b0 : decide (0 ≤ x10_1) = true := decide_eq_true c18; clear c18; obtain ⟨ji19, hji19⟩ : ∃ j_ : Int, (Int.tmod (rd l1 x10_1) (t492.length : Int)) = j_ := ⟨_, rfl⟩
         replace H : (if 0 ≤ (ji19) then (if (ji19) < (t492.length : Int) then ((spec_peWith.f kj7 a0_0 l0_1 x9_1 (rd t492 (ji19))).bind fun t497 => (if x8_1.length < 8796093022208 then ((spec_l1Drop.f kj7 x9_1 t497).bind fun t503 => (spec_pePeel.l0 kj7 l1 a2 (x8_1 ++ [(⟨t497, rd t492 (ji19)⟩ : S51)]) t503 (wrap64 (x10_1 + 1)) a0_0 l0_1)) else (none))) else (none)) else (none)) = some (r1, r2) := by first | (rw [hji19] at H; exact H) | (simp only [hji19] at H ⊢; exact H)
         (try rw [hji19] at A11)
         by_cases c20 : 0 ≤ (ji19)
         ·rw [if_pos c20] at H
          have c20b0 : decide (0 ≤ (ji19)) = true := decide_eq_true c20; clear c20
          by_cases c21 : (ji19) < (t492.length : Int)
          ·rw [if_pos c21] at H
           have c21b0 : decide ((ji19) < (t492.length : Int)) = true := decide_eq_true c21; clear c21; replace H := Option.bind_eq_some_iff.mp H; obtain ⟨t497, A220, H⟩ := H; (try dsimp -simprocs only at H); have A22 := am A220; clear A220
           by_cases c23 : x8_1.length < 8796093022208
           ·rw [if_pos c23] at H
            have LMc23 := am c23; clear c23; obtain ⟨y500, hy500⟩ : ∃ y_ : List (S51), y_ = (x8_1 ++ [(⟨t497, rd t492 (ji19)⟩ : S51)]) := ⟨_, rfl⟩
            replace H : ((spec_l1Drop.f kj7 x9_1 t497).bind fun t503 => (spec_pePeel.l0 kj7 l1 a2 y500 t503 (wrap64 (x10_1 + 1)) a0_0 l0_1)) = some (r1, r2) := by first | (rw [hy500]; with_reducible exact H) | (have H2_ := (Option.bind_some _ _).symm.trans H; rw [hy500]; with_reducible exact H2_) | (have H2_ := (Option.bind_some _ _).symm.trans H; with_reducible exact H2_) | with_reducible exact H | (rw [hy500]; exact H) | exact H
            have Ny500 := am hy500; clear hy500; replace H := Option.bind_eq_some_iff.mp H; obtain ⟨t503, A240, H⟩ := H; (try dsimp -simprocs only at H); have A24 := am A240; clear A240; have H' := am H; clear H; obtain ⟨hcz25_0, hcz25_1, hfz25_0, hfz25_1⟩ := cf2 (w := wc) BK488; obtain ⟨Ao26, co26, eo26⟩ := Kd.R_slice HO_9.out; subst eo26
            try go_wp2_with (first | ((with_reducible refine gate_callee (f := 89) rfl ?_); refine gL (some 27) Try.func89 #[.agg #[.int .i64 a0_0, .slice A0_1 l0_1.length c0_1], .slice Ao26 x9_1.length co26] ?_; (with_reducible refine (spec_peFree.calls kj7 a0_0 _ _ l0_1 _ _ x9_1 t492 _ ?side1 ?side2 ?side3 ?side4 A11.out).mono ?_); (case side1 => exact Cz (Kd.C_below HR0_1.out HB.out)); (case side2 => exact HC0_1.out); (case side3 => exact Cz ((Kd.R_reads' HO_9.out).2.2)); (case side4 => exact (Kd.R_reads' HO_9.out).2.1); rintro e w27 ⟨v493, rfl, ho0, hb⟩; refine ⟨_, rfl, ?_⟩; have n0_ := Rb HO_8 hb; have n1_ := Re HO_9 (Kd.R_base ho0) hb; have n2_ := Rm (Kd.R_new' ho0 (Kd.R_lt (Rz HO_9.out))) HB; have n3_ := Kb BK488 hb; have n4_ := Bc HB hb; clear HO_8 HO_9 BK488 HB; revert n0_ n1_ n2_ n3_ n4_; intro HO_8 HO_9 HO494 BK488 HB; (try clear hb); (try clear hb2); (try clear hk); (try clear hi); (try clear ho0); obtain ⟨Ao28, co28, eo28⟩ := Kd.R_slice HO494.out; subst eo28; have p495 : 0 ≤ (x10_1 : Int) := dT; have q495 : x10_1 < (l1.length : Int) := dT; obtain ⟨ad495, e495, hx495_0⟩ := Kd.at_int HR1.out x10_1 p495 q495; cases e495; replace hx495_0 := (HB.out.cell (World.block_lt_of_cell? w _ hx495_0)).trans hx495_0; replace p495 := eq_true p495; replace q495 := eq_true q495))
            have n0_ := am (Kd.R_drew HO_8.out); have n1_ := am (Kd.R_drew HO_9.out); have n2_ := am (Kd.R_drew HO494.out); have n3_ := am (blk_drew BK488.out); have n4_ := am (below_drew1 HB.out); clear HO_8 HO_9 HO494 BK488 HB; revert n0_ n1_ n2_ n3_ n4_; intro HO_8 HO_9 HO494 BK488 HB; obtain ⟨ad496, e496, hx496_0⟩ := Kd.at_int (Kd.R_reads' HO494.out).2.2 (ji19) dT dT; cases e496; have p496 := eT (0 ≤ ((ji19) : Int)); have q496 := eT ((ji19) < (t492.length : Int)); have p498 : 0 ≤ ((ji19) : Int) := dT; have q498 : (ji19) < (t492.length : Int) := dT; obtain ⟨ad498, e498, hx498_0⟩ := Kd.at_int (Kd.R_reads' HO494.out).2.2 (ji19) p498 q498; obtain rfl : ad496 = ad498 := (by injection e498); replace p498 := eq_true p498; replace q498 := eq_true q498; refine start_ (n := 14) (S := fun w' => w'.cell? ⟨gb488, 0, none⟩ = some (.int .i64 a0_0) ∧ w'.cell? ⟨gb488, 1, none⟩ = some (.slice A0_1 l0_1.length c0_1) ∧ w'.cell? (ad496.add ((ji19)).toNat) = some (.int .i64 (rd t492 (ji19))) ∧ w'.cell? (ad496.add ((ji19)).toNat) = some (.int .i64 (rd t492 (ji19)))) (ds := []) (bA 14 0) (by kernel_rfl) rfl rfl ⟨cz BK488 0, cz BK488 1, hx496_0, hx498_0⟩ (fun hHeld => ?_); refine with_tabW spec_pePeel.tab11 spec_pePeel.bits11 (fun HT_ HW_ => ?_); generalize w27.drew = w29 at HO_8 HO_9 HO494 BK488 HB hx496_0 hx498_0 hHeld ⊢; refine pZ 1 (some 43) (bA 14 2) HT_.out ?_; refine pZ 2 (some 44) (bA 14 6) HT_.out ?_; refine pZ 3 (some 45) (bA 14 14) HT_.out ?_; refine pZ 4 (some 46) (bA 14 30) HT_.out ?_; refine pZ 7 (some 49) (bA 14 158) HT_.out ?_; refine pZ 8 (some 50) (bA 14 414) HT_.out ?_; refine pZ 9 (some 51) (bA 14 926) HT_.out ?_; refine tZ4 0 (some 42) (bA 14 927) HT_.out HW_.out hHeld ?_; refine tZ4 5 (some 47) (bA 14 959) HT_.out HW_.out hHeld ?_; refine tZ4 10 (some 52) (bA 14 1983) HT_.out HW_.out hHeld ?_; refine join_ (σ := Nat) 1 (bA 14 8191) (fun s_ => [(48, .int .i64 t497), (13, .pointer (some ⟨s_, 0, none⟩)), (53, .agg #[.int .i64 t497, .int .i64 (rd t492 (ji19))])]) (fun s_ w' => (w'.cell? ⟨gb488, 0, none⟩ = some (.int .i64 a0_0) ∧ w'.cell? ⟨gb488, 1, none⟩ = some (.slice A0_1 l0_1.length c0_1) ∧ w'.cell? (ad496.add ((ji19)).toNat) = some (.int .i64 (rd t492 (ji19))) ∧ w'.cell? (ad496.add ((ji19)).toNat) = some (.int .i64 (rd t492 (ji19)))) ∧ (Kd.R (Kd.int .i64) 3 w' w.heap.size (fun k_ => some k_ ≠ (.slice Ao26 x9_1.length co26 : Value).ownBlock) (.slice (some ad496) t492.length co28) t492) ∧ (Kd.R k51 51 w' w.heap.size (fun k_ => k_ ≠ s_) u8 x8_1) ∧ (Kd.R (Kd.int .i64) 3 w' w.heap.size (fun k_ => some k_ ≠ (.slice (some ad496) t492.length co28 : Value).ownBlock) (.slice Ao26 x9_1.length co26) x9_1) ∧ (w'.heap[gb488]? = some (.cells #[.int .i64 a0_0, .slice A0_1 l0_1.length c0_1] 37 (0, 0))) ∧ (w'.heap[s_]? = some (.cells #[.int .i64 0, .int .i64 0] 51 (0, 0))) ∧ (w.heap.size ≤ s_) ∧ (w.heap.size ≤ s_) ∧ (gb488 ≠ s_) ∧ (s_ ≠ gb488) ∧ (Below w.heap.size w w')) ?_ ?_
            rotate_left
            ·intro hCont
             refine two_ (i := 6) (j := 12) (Ni := some 48) (Nj := some 13) (bA 14 2047) (bA 14 6079) rfl rfl rfl rfl (two_of HT_.out (by kernel_rfl)) (by decide) (by decide) (fun K hK => ?_) (fun K hK => ?_)
             ·skip
              refine goes_ Try.func147 (by kernel_rfl) rfl #[.agg #[.int .i64 a0_0, .slice A0_1 l0_1.length c0_1], .slice Ao26 x9_1.length co26, .int .i64 (rd t492 (ji19))] (by rfl) rfl rfl (by (try simp only [List.map_toArray, List.map_cons, List.map_nil]); first | done | (simp only [hji19]; rfl) | rfl | (simp only [List.length_drop, List.length_take]; rfl)) ?_
              with_reducible refine (spec_peWith.calls kj7 a0_0 _ _ l0_1 _ _ x9_1 (rd t492 (ji19)) t497 _ ?side1 ?side2 ?side3 ?side4 A22.out).mono ?_
              (case side1 => exact Cz (Kd.C_below HR0_1.out HB.out))
              (case side2 => exact HC0_1.out)
              (case side3 => exact Cz ((Kd.R_reads' HO_9.out).2.2))
              (case side4 => exact (Kd.R_reads' HO_9.out).2.1)
              rintro e w30 ⟨rfl, hb⟩; have HS2_ := (hb.cell (World.block_lt_of_cell? _ _ (hHeld.2.2.1))).trans (hHeld.2.2.1); have HS3_ := (hb.cell (World.block_lt_of_cell? _ _ (hHeld.2.2.2))).trans (hHeld.2.2.2); refine ⟨_, rfl, ?_⟩; have n0_ := Rb HO_8 hb; have n1_ := Rb HO_9 hb; have n2_ := Rb HO494 hb; have n3_ := Kb BK488 hb; have n4_ := Bc HB hb; clear HO_8 HO_9 HO494 BK488 HB; revert n0_ n1_ n2_ n3_ n4_; intro HO_8 HO_9 HO494 BK488 HB
              (try clear hb)
              (try clear hb2)
              (try clear hk)
              (try clear hi)
              refine hK.out _ _ ⟨cz BK488 0, cz BK488 1, HS2_, HS3_⟩ (fun hHeld => ?_); clear hK K; refine norm_ (a' := ?_) ?_ ?_; rotate_left; show Act.put _ (some 48) _ = _; simp only [aP, i64_w, i32_w]; rfl; refine pZ 11 (some 53) (bA 14 4095) HT_.out ?_; refine oZ 12 (some 13) (bA 14 8191) HT_.out (fun K hK => ?_); refine box_step ?hg (N := 13) ?hd (cs := #[.int .i64 0, .int .i64 0]) (t := 51) ?hr ?_; (case hd => rfl); (case hg => rfl); (case hr => first | (go_simp; done) | (go_simp; rfl)); intro gb499 hg w31 hbox hb; have HS2_ := (hb.cell (World.block_lt_of_cell? _ _ (hHeld.2.2.1))).trans (hHeld.2.2.1); have HS3_ := (hb.cell (World.block_lt_of_cell? _ _ (hHeld.2.2.2))).trans (hHeld.2.2.2); have n0_ := am (Kd.R_below (Kd.R_elderB (Rz HO_8.out) gb499 (Nat.le_of_eq hg.symm)) hb); have n1_ := Rb HO_9 hb; have n2_ := Rb HO494 hb; have n3_ := Kb BK488 hb; have n4_ := Bc HB hb; have n5_ := am (hbox); have n6_ := Gm HB hg; have n7_ := Gm HB hg; have n8_ := Nl BK488 hg; have n9_ := Ng BK488 hg; clear HO_8 HO_9 HO494 BK488 HB; revert n0_ n1_ n2_ n3_ n4_ n5_ n6_ n7_ n8_ n9_; intro HO_8 HO_9 HO494 BK488 HB BK499 GW499 GE499 NB488_499 NB499_488; clear hb hbox hg; refine hK.out _ _ ⟨cz BK488 0, cz BK488 1, HS2_, HS3_⟩ (fun hHeld => ?_); clear hK K; refine norm_ (a' := ?_) ?_ ?_; rotate_left; show Act.put _ (some 13) _ = _; simp only [aP, i64_w, i32_w]; rfl; exact norm_ (by simp only [putAll, aP]) (hCont (gb499) _ ⟨hHeld, (Rz (Kd.R_mono HO494.out (fun _ hk => hk.2))), (Rz (Kd.R_mono HO_8.out (fun _ hk => hk.2))), (Rz (Kd.R_mono HO_9.out (fun _ hk => hk.2))), (Kz BK488.out), (Kz BK499.out), GW499.out, GE499.out, NB488_499.out, NB499_488.out, (Bq)⟩)
             ·skip
              refine box_step ?hg (N := 13) ?hd (cs := #[.int .i64 0, .int .i64 0]) (t := 51) ?hr ?_; (case hd => rfl); (case hg => rfl); (case hr => first | (go_simp; done) | (go_simp; rfl)); intro gb499 hg w30 hbox hb; have HS2_ := (hb.cell (World.block_lt_of_cell? _ _ (hHeld.2.2.1))).trans (hHeld.2.2.1); have HS3_ := (hb.cell (World.block_lt_of_cell? _ _ (hHeld.2.2.2))).trans (hHeld.2.2.2); have n0_ := am (Kd.R_below (Kd.R_elderB (Rz HO_8.out) gb499 (Nat.le_of_eq hg.symm)) hb); have n1_ := Rb HO_9 hb; have n2_ := Rb HO494 hb; have n3_ := Kb BK488 hb; have n4_ := Bc HB hb; have n5_ := am (hbox); have n6_ := Gm HB hg; have n7_ := Gm HB hg; have n8_ := Nl BK488 hg; have n9_ := Ng BK488 hg; clear HO_8 HO_9 HO494 BK488 HB; revert n0_ n1_ n2_ n3_ n4_ n5_ n6_ n7_ n8_ n9_; intro HO_8 HO_9 HO494 BK488 HB BK499 GW499 GE499 NB488_499 NB499_488; clear hb hbox hg; refine hK.out _ _ ⟨cz BK488 0, cz BK488 1, HS2_, HS3_⟩ (fun hHeld => ?_); clear hK K; refine norm_ (a' := ?_) ?_ ?_; rotate_left; show Act.put _ (some 13) _ = _; simp only [aP, i64_w, i32_w]; rfl; refine oZ 6 (some 48) (bA 14 6143) HT_.out (fun K hK => ?_); refine goes_ Try.func147 (by kernel_rfl) rfl #[.agg #[.int .i64 a0_0, .slice A0_1 l0_1.length c0_1], .slice Ao26 x9_1.length co26, .int .i64 (rd t492 (ji19))] (by rfl) rfl rfl (by (try simp only [List.map_toArray, List.map_cons, List.map_nil]); first | done | (simp only [hji19]; rfl) | rfl | (simp only [List.length_drop, List.length_take]; rfl)) ?_
              with_reducible refine (spec_peWith.calls kj7 a0_0 _ _ l0_1 _ _ x9_1 (rd t492 (ji19)) t497 _ ?side1 ?side2 ?side3 ?side4 A22.out).mono ?_
              (case side1 => exact Cz (Kd.C_below HR0_1.out HB.out))
              (case side2 => exact HC0_1.out)
              (case side3 => exact Cz ((Kd.R_reads' HO_9.out).2.2))
              (case side4 => exact (Kd.R_reads' HO_9.out).2.1)
              rintro e w31 ⟨rfl, hb⟩; have HS2_ := (hb.cell (World.block_lt_of_cell? _ _ (hHeld.2.2.1))).trans (hHeld.2.2.1); have HS3_ := (hb.cell (World.block_lt_of_cell? _ _ (hHeld.2.2.2))).trans (hHeld.2.2.2); refine ⟨_, rfl, ?_⟩; have n0_ := Rb HO_8 hb; have n1_ := Rb HO_9 hb; have n2_ := Rb HO494 hb; have n3_ := Kb BK488 hb; have n4_ := Kb BK499 hb; have n5_ := Bc HB hb; clear HO_8 HO_9 HO494 BK488 BK499 HB; revert n0_ n1_ n2_ n3_ n4_ n5_; intro HO_8 HO_9 HO494 BK488 BK499 HB
              (try clear hb)
              (try clear hb2)
              (try clear hk)
              (try clear hi)
              refine hK.out _ _ ⟨cz BK488 0, cz BK488 1, HS2_, HS3_⟩ (fun hHeld => ?_); clear hK K; refine norm_ (a' := ?_) ?_ ?_; rotate_left; show Act.put _ (some 48) _ = _; simp only [aP, i64_w, i32_w]; rfl; refine pZ 11 (some 53) (bA 14 8191) HT_.out ?_; exact norm_ (by simp only [putAll, aP]) (hCont (gb499) _ ⟨hHeld, (Rz (Kd.R_mono HO494.out (fun _ hk => hk.2))), (Rz (Kd.R_mono HO_8.out (fun _ hk => hk.2))), (Rz (Kd.R_mono HO_9.out (fun _ hk => hk.2))), (Kz BK488.out), (Kz BK499.out), GW499.out, GE499.out, NB488_499.out, NB499_488.out, (Bq)⟩)
            rintro gb499 w32 ⟨hS_, h0_, h1_, h2_, h3_, h4_, h5_, h6_, h7_, h8_, h9_⟩; have n0_ : Aside0 (Kd.R (Kd.int .i64) 3 w32 w.heap.size (fun k_ => some k_ ≠ (.slice Ao26 x9_1.length co26 : Value).ownBlock) (.slice (some ad496) t492.length co28) t492) := ⟨h0_⟩; have n1_ : Aside0 (Kd.R k51 51 w32 w.heap.size (fun k_ => k_ ≠ gb499) u8 x8_1) := ⟨h1_⟩; have n2_ : Aside0 (Kd.R (Kd.int .i64) 3 w32 w.heap.size (fun k_ => some k_ ≠ (.slice (some ad496) t492.length co28 : Value).ownBlock) (.slice Ao26 x9_1.length co26) x9_1) := ⟨h2_⟩; have n3_ : Aside0 (w32.heap[gb488]? = some (.cells #[.int .i64 a0_0, .slice A0_1 l0_1.length c0_1] 37 (0, 0))) := ⟨h3_⟩; have n4_ : Aside0 (w32.heap[gb499]? = some (.cells #[.int .i64 0, .int .i64 0] 51 (0, 0))) := ⟨h4_⟩; have n5_ : Aside0 (w.heap.size ≤ gb499) := ⟨h5_⟩; have n6_ : Aside0 (w.heap.size ≤ gb499) := ⟨h6_⟩; have n7_ : Aside0 (gb488 ≠ gb499) := ⟨h7_⟩; have n8_ : Aside0 (gb499 ≠ gb488) := ⟨h8_⟩; have n9_ : Aside0 (Below w.heap.size w w32) := ⟨h9_⟩; clear HO_8 HO_9 HO494 BK488 HB; clear h0_ h1_ h2_ h3_ h4_ h5_ h6_ h7_ h8_ h9_; revert n0_ n1_ n2_ n3_ n4_ n5_ n6_ n7_ n8_ n9_; intro HO494 HO_8 HO_9 BK488 BK499 GW499 GE499 NB488_499 NB499_488 HB; have hHeld : w32.cell? ⟨gb488, 0, none⟩ = some (.int .i64 a0_0) ∧ w32.cell? ⟨gb488, 1, none⟩ = some (.slice A0_1 l0_1.length c0_1) ∧ w32.cell? (ad496.add ((ji19)).toNat) = some (.int .i64 (rd t492 (ji19))) ∧ w32.cell? (ad496.add ((ji19)).toNat) = some (.int .i64 (rd t492 (ji19))) := hS_; refine norm_ (a' := ?_) ?_ ?_
            rotate_left
            ·simp only [putAll, aP]
             rfl
            refine oZ 13 none (bA 14 16383) HT_.out (fun K hK => ?_); have hs33 : w32.cell? ⟨gb499, 0, none⟩ = some (.int .i64 0) := cz BK499 0; have hfs33 := blk_frozen BK499.out 0; have hns33_0 := NB488_499.out; have hms33_0 := NB499_488.out; have hs34 : w32.cell? ⟨gb499, 1, none⟩ = some (.int .i64 0) := cz BK499 1; have hfs34 := blk_frozen BK499.out 1; have hns34_0 := NB488_499.out; have hms34_0 := NB499_488.out; refine skip_ (w1 := ?_) (by rfl) rfl ?_ ?_
            rotate_left
            ·go_simp
             rfl
            refine hK.out _ _ ⟨((cell_far (p := ⟨gb499, _, none⟩) NB488_499.out _).trans (((cell_far (p := ⟨gb499, _, none⟩) NB488_499.out _).trans (hHeld.1)))), ((cell_far (p := ⟨gb499, _, none⟩) NB488_499.out _).trans (((cell_far (p := ⟨gb499, _, none⟩) NB488_499.out _).trans (hHeld.2.1)))), ((cell_far (p := ⟨gb499, _, none⟩) (by first | exact Kd.own_blk (Kd.R_ne HO494.out BK499.out (by decide)) | (rw [add_block]; exact Kd.own_blk (Kd.R_ne HO494.out BK499.out (by decide))) | (show (Addr.add _ _).block ≠ _; rw [add_block]; exact Kd.own_blk (Kd.R_ne HO494.out BK499.out (by decide))) | (dsimp only; exact Kd.own_blk (Kd.R_ne HO494.out BK499.out (by decide)))) _).trans (((cell_far (p := ⟨gb499, _, none⟩) (by first | exact Kd.own_blk (Kd.R_ne HO494.out BK499.out (by decide)) | (rw [add_block]; exact Kd.own_blk (Kd.R_ne HO494.out BK499.out (by decide))) | (show (Addr.add _ _).block ≠ _; rw [add_block]; exact Kd.own_blk (Kd.R_ne HO494.out BK499.out (by decide))) | (dsimp only; exact Kd.own_blk (Kd.R_ne HO494.out BK499.out (by decide)))) _).trans (hHeld.2.2.1)))), ((cell_far (p := ⟨gb499, _, none⟩) (by first | exact Kd.own_blk (Kd.R_ne HO494.out BK499.out (by decide)) | (rw [add_block]; exact Kd.own_blk (Kd.R_ne HO494.out BK499.out (by decide))) | (show (Addr.add _ _).block ≠ _; rw [add_block]; exact Kd.own_blk (Kd.R_ne HO494.out BK499.out (by decide))) | (dsimp only; exact Kd.own_blk (Kd.R_ne HO494.out BK499.out (by decide)))) _).trans (((cell_far (p := ⟨gb499, _, none⟩) (by first | exact Kd.own_blk (Kd.R_ne HO494.out BK499.out (by decide)) | (rw [add_block]; exact Kd.own_blk (Kd.R_ne HO494.out BK499.out (by decide))) | (show (Addr.add _ _).block ≠ _; rw [add_block]; exact Kd.own_blk (Kd.R_ne HO494.out BK499.out (by decide))) | (dsimp only; exact Kd.own_blk (Kd.R_ne HO494.out BK499.out (by decide)))) _).trans (hHeld.2.2.2))))⟩ (fun hHeld => ?_); clear hK K; refine done_ (done_of HT_.out (by kernel_rfl)) ?_; have hnb35 := NB499_488.out; have hnc35 := NB488_499.out; obtain ⟨hcz36_0, hcz36_1, hfz36_0, hfz36_1⟩ := cf2 (w := w32) BK499
            try go_wp2_with (first | ((with_reducible refine gate_builtin (b := .append) (xs := #[.tmp 54, .tmp 56]) rfl ?_); (try (refine gate_guard (by rfl) ?_; dsimp only)); at_builtin; refine Kd.R_append k51 (w0 := w) w.heap.size rfl (.tmp 54) (.tmp 56) 46 51 (.agg #[(.int .i64 0), (.int .i64 0)]) 16 rfl Try.underlying46 info51 rfl (by decide) (by omega) u8 x8_1 (⟨t497, rd t492 (ji19)⟩ : S51) [.int .i64 t497, .int .i64 (rd t492 (ji19))] (fun k_ => k_ ≠ gb499) (fun _ => False) rfl (by first | (go_simp; done) | (go_simp; rfl)) ?aP (fun _ hk => hk.elim) ?aF ?aO ?aB ?aS ?aL ?_; (case aP => exact k51_mkM _ _ _ (⟨t497, rd t492 (ji19)⟩ : S51)); (case aB => exact (Bq)); (case aF => exact (fun k_ hk => Kd.freshB (g := gb499) (o := .cells #[.int .i64 t497, .int .i64 (rd t492 (ji19))] 51 (0, 0)) (by (with_reducible repeat (first | refine blk_drewN ?_ _ | refine blk_drew ?_ | refine blk_alloc ?_ _)); refine blk_put (cs := #[.int .i64 t497, .int .i64 0]) ?_ 1 _ rfl; (with_reducible repeat (first | refine blk_drewN ?_ _ | refine blk_drew ?_ | refine blk_alloc ?_ _)); refine blk_put (cs := #[.int .i64 0, .int .i64 0]) ?_ 0 _ rfl; exact Kz BK499.out) k_ hk)); (case aO => exact (Rz (Kd.R_mono (Kd.R_far (p := ⟨gb499, 1, none⟩) (Kd.R_far (p := ⟨gb499, 0, none⟩) (Kd.R_mono HO_8.out (fun k_ hk => (⟨hk, hk⟩ : _ ∧ k_ ≠ gb499))) (fun _ hk => hk.2) (.int .i64 t497)) (fun _ hk => hk.2) (.int .i64 (rd t492 (ji19)))) (fun _ hk => hk.1)))); (case aS => exact (below_size (w := w) (Bq))); (case aL => have := LMc23.out; omega); intro v501 w37 ho hb hg hat; rw [← Ny500.out] at ho; have n0_ := am (Kd.R_over' (Rz (Kd.R_mono (Kd.R_far (p := ⟨gb499, 1, none⟩) (Kd.R_far (p := ⟨gb499, 0, none⟩) (Kd.R_types HO_9.out BK499.out (by decide)) (fun _ hk => hk.2) (.int .i64 t497)) (fun _ hk => hk.2) (.int .i64 (rd t492 (ji19)))) (fun _ h_ => h_.1))) (Kd.R_typed (Rz (Kd.R_mono (Kd.R_far (p := ⟨gb499, 1, none⟩) (Kd.R_far (p := ⟨gb499, 0, none⟩) (Kd.R_mono HO_8.out (fun k_ hk => (⟨hk, hk⟩ : _ ∧ k_ ≠ gb499))) (fun _ hk => hk.2) (.int .i64 t497)) (fun _ hk => hk.2) (.int .i64 (rd t492 (ji19)))) (fun _ h_ => h_.1)))) (by decide) hg); have n1_ := am (blk_grown (g := gb488) (o := .cells #[.int .i64 a0_0, .slice A0_1 l0_1.length c0_1] 37 (0, 0)) (by (with_reducible repeat (first | refine blk_drewN ?_ _ | refine blk_drew ?_ | refine blk_alloc ?_ _)); refine blk_far ?_ NB488_499.out _; (with_reducible repeat (first | refine blk_drewN ?_ _ | refine blk_drew ?_ | refine blk_alloc ?_ _)); refine blk_far ?_ NB488_499.out _; exact Kz BK488.out) hg (Kd.R_ne HO_8.out BK488.out (by decide))); have n2_ := am (Kd.R_over' (Rz (Kd.R_mono (Kd.R_far (p := ⟨gb499, 1, none⟩) (Kd.R_far (p := ⟨gb499, 0, none⟩) (Kd.R_types HO494.out BK499.out (by decide)) (fun _ hk => hk.2) (.int .i64 t497)) (fun _ hk => hk.2) (.int .i64 (rd t492 (ji19)))) (fun _ h_ => h_.1))) (Kd.R_typed (Rz (Kd.R_mono (Kd.R_far (p := ⟨gb499, 1, none⟩) (Kd.R_far (p := ⟨gb499, 0, none⟩) (Kd.R_mono HO_8.out (fun k_ hk => (⟨hk, hk⟩ : _ ∧ k_ ≠ gb499))) (fun _ hk => hk.2) (.int .i64 t497)) (fun _ hk => hk.2) (.int .i64 (rd t492 (ji19)))) (fun _ h_ => h_.1)))) (by decide) hg); have n3_ := am (blk_grown (g := gb499) (o := .cells #[.int .i64 t497, .int .i64 (rd t492 (ji19))] 51 (0, 0)) (by (with_reducible repeat (first | refine blk_drewN ?_ _ | refine blk_drew ?_ | refine blk_alloc ?_ _)); refine blk_put (cs := #[.int .i64 t497, .int .i64 0]) ?_ 1 _ rfl; (with_reducible repeat (first | refine blk_drewN ?_ _ | refine blk_drew ?_ | refine blk_alloc ?_ _)); refine blk_put (cs := #[.int .i64 0, .int .i64 0]) ?_ 0 _ rfl; exact Kz BK499.out) hg (Kd.R_away HO_8.out (fun _ hk => hk))); have n4_ := am (hb); have n5_ := am (ho); clear HO_9 BK488 HO494 BK499 HB HO_8; revert n0_ n1_ n2_ n3_ n4_ n5_; intro HO_9 BK488 HO494 BK499 HB HO502; clear ho hb hg hat; obtain ⟨hcz38_0, hcz38_1, hfz38_0, hfz38_1⟩ := cf2 (w := w37) BK499) | ((with_reducible refine gate_callee (f := 124) rfl ?_); refine gL (some 61) Try.func124 #[.slice Ao26 x9_1.length co26, .int .i64 t497] ?_; (with_reducible refine (spec_l1Drop.calls kj7 _ _ x9_1 t497 t503 _ ?side1 ?side2 A24.out).mono ?_); (case side1 => exact Cz ((Kd.R_reads' HO_9.out).2.2)); (case side2 => exact (Kd.R_reads' HO_9.out).2.1); rintro e w39 ⟨v504, rfl, ho0, hb⟩; refine ⟨_, rfl, ?_⟩; have n0_ := Re HO_9 (Kd.R_base ho0) hb; have n1_ := Re HO494 (Kd.R_base ho0) hb; have n2_ := Rb HO502 hb; have n3_ := Rm (Kd.R_new' (Kd.R_new' ho0 (Kd.R_lt (Rz HO_9.out))) (Kd.R_lt (Rz HO494.out))) HB; have n4_ := Kb BK488 hb; have n5_ := Kb BK499 hb; have n6_ := Bc HB hb; clear HO_9 HO494 HO502 BK488 BK499 HB; revert n0_ n1_ n2_ n3_ n4_ n5_ n6_; intro HO_9 HO494 HO502 HO505 BK488 BK499 HB; (try clear hb); (try clear hb2); (try clear hk); (try clear hi); (try clear ho0)))
            go_roundg kj7
            case measure => have := HK1.out; have := HJ7.out; omega
            case rel => exact ⟨(y500), (t503), (wrap64 (x10_1 + 1)), wZ, H', ⟨by have := HK1.out; have := HJ7.out; omega⟩, ⟨Rz (Kd.R_mono HO502.out (fun _ hk => trivial))⟩, ⟨Rz (Kd.R_mono HO505.out (fun _ hk => trivial))⟩, ⟨Kz BK488.out⟩, ⟨Bq⟩⟩
           ·rw [if_neg c23] at H
            exact absurd H (by simp)
          ·rw [if_neg c21] at H
           exact absurd H (by simp)
         ·rw [if_neg c20] at H
          exact absurd H (by simp)
        ·rw [if_neg c18] at H
         exact absurd H (by simp)
       ·rw [if_neg c17] at H
        have c17b0 : decide (x10_1 < (l1.length : Int)) = false := decide_eq_false c17; clear c17
        by_cases c40 : 0 < (t492.length : Int)
        ·rw [if_pos c40] at H
         have c40b0 : decide (0 < (t492.length : Int)) = true := decide_eq_true c40; have c40b1 : decide (0 < t492.length) = true := decide_eq_true (by omega); clear c40; replace H := Option.bind_eq_some_iff.mp H; obtain ⟨t507, A410, H⟩ := H; (try dsimp -simprocs only at H); have A41 := am A410; clear A410
         by_cases c42 : x8_1.length < 8796093022208
         ·rw [if_pos c42] at H
          have LMc42 := am c42; clear c42; obtain ⟨y510, hy510⟩ : ∃ y_ : List (S51), y_ = (x8_1 ++ [(⟨t507, rd t492 0⟩ : S51)]) := ⟨_, rfl⟩
          replace H : ((spec_l1Drop.f kj7 x9_1 t507).bind fun t513 => (spec_pePeel.l0 kj7 l1 a2 y510 t513 (wrap64 (x10_1 + 1)) a0_0 l0_1)) = some (r1, r2) := by first | (rw [hy510]; with_reducible exact H) | (have H2_ := (Option.bind_some _ _).symm.trans H; rw [hy510]; with_reducible exact H2_) | (have H2_ := (Option.bind_some _ _).symm.trans H; with_reducible exact H2_) | with_reducible exact H | (rw [hy510]; exact H) | exact H
          have Ny510 := am hy510; clear hy510; replace H := Option.bind_eq_some_iff.mp H; obtain ⟨t513, A430, H⟩ := H; (try dsimp -simprocs only at H); have A43 := am A430; clear A430; have H' := am H; clear H; obtain ⟨hcz44_0, hcz44_1, hfz44_0, hfz44_1⟩ := cf2 (w := wc) BK488; obtain ⟨Ao45, co45, eo45⟩ := Kd.R_slice HO_9.out; subst eo45
          try go_wp2_with (first | ((with_reducible refine gate_callee (f := 89) rfl ?_); refine gL (some 27) Try.func89 #[.agg #[.int .i64 a0_0, .slice A0_1 l0_1.length c0_1], .slice Ao45 x9_1.length co45] ?_; (with_reducible refine (spec_peFree.calls kj7 a0_0 _ _ l0_1 _ _ x9_1 t492 _ ?side1 ?side2 ?side3 ?side4 A11.out).mono ?_); (case side1 => exact Cz (Kd.C_below HR0_1.out HB.out)); (case side2 => exact HC0_1.out); (case side3 => exact Cz ((Kd.R_reads' HO_9.out).2.2)); (case side4 => exact (Kd.R_reads' HO_9.out).2.1); rintro e w46 ⟨v493, rfl, ho0, hb⟩; refine ⟨_, rfl, ?_⟩; have n0_ := Rb HO_8 hb; have n1_ := Re HO_9 (Kd.R_base ho0) hb; have n2_ := Rm (Kd.R_new' ho0 (Kd.R_lt (Rz HO_9.out))) HB; have n3_ := Kb BK488 hb; have n4_ := Bc HB hb; clear HO_8 HO_9 BK488 HB; revert n0_ n1_ n2_ n3_ n4_; intro HO_8 HO_9 HO494 BK488 HB; (try clear hb); (try clear hb2); (try clear hk); (try clear hi); (try clear ho0); obtain ⟨Ao47, co47, eo47⟩ := Kd.R_slice HO494.out; subst eo47))
          have n0_ := am (Kd.R_drew HO_8.out); have n1_ := am (Kd.R_drew HO_9.out); have n2_ := am (Kd.R_drew HO494.out); have n3_ := am (blk_drew BK488.out); have n4_ := am (below_drew1 HB.out); clear HO_8 HO_9 HO494 BK488 HB; revert n0_ n1_ n2_ n3_ n4_; intro HO_8 HO_9 HO494 BK488 HB; have p506 : 0 ≤ (0 : Int) := (by omega); have q506 : 0 < (t492.length : Int) := dT; obtain ⟨ad506, e506, hx506_0⟩ := Kd.at_int (Kd.R_reads' HO494.out).2.2 0 p506 q506; cases e506; have qi506 : (0 < t492.length) = True := eq_true (by omega)
          (try rw [show ((0 : Int)).toNat = 0 from rfl] at hx506_0)
          (try rw [Addr.add_zero'] at hx506_0)
          replace p506 := eq_true p506; replace q506 := eq_true q506; have p508 : 0 ≤ (0 : Int) := (by omega); have q508 : 0 < (t492.length : Int) := dT; obtain ⟨ad508, e508, hx508_0⟩ := Kd.at_int (Kd.R_reads' HO494.out).2.2 0 p508 q508; obtain rfl : ad506 = ad508 := (by injection e508); have qi508 : (0 < t492.length) = True := eq_true (by omega)
          (try rw [show ((0 : Int)).toNat = 0 from rfl] at hx508_0)
          (try rw [Addr.add_zero'] at hx508_0)
          replace p508 := eq_true p508; replace q508 := eq_true q508; refine start_ (n := 14) (S := fun w' => w'.cell? ⟨gb488, 0, none⟩ = some (.int .i64 a0_0) ∧ w'.cell? ⟨gb488, 1, none⟩ = some (.slice A0_1 l0_1.length c0_1) ∧ w'.cell? ad506 = some (.int .i64 (rd t492 0)) ∧ w'.cell? ad506 = some (.int .i64 (rd t492 0))) (ds := []) (bA 14 0) (by kernel_rfl) rfl rfl ⟨cz BK488 0, cz BK488 1, hx506_0, hx508_0⟩ (fun hHeld => ?_); refine with_tabW spec_pePeel.tab11 spec_pePeel.bits11 (fun HT_ HW_ => ?_); generalize w46.drew = w48 at HO_8 HO_9 HO494 BK488 HB hx506_0 hx508_0 hHeld ⊢; refine pZ 1 (some 43) (bA 14 2) HT_.out ?_; refine pZ 2 (some 44) (bA 14 6) HT_.out ?_; refine pZ 3 (some 45) (bA 14 14) HT_.out ?_; refine pZ 4 (some 46) (bA 14 30) HT_.out ?_; refine pZ 7 (some 49) (bA 14 158) HT_.out ?_; refine pZ 8 (some 50) (bA 14 414) HT_.out ?_; refine pZ 9 (some 51) (bA 14 926) HT_.out ?_; refine tZ4 0 (some 42) (bA 14 927) HT_.out HW_.out hHeld ?_; refine tZ4 5 (some 47) (bA 14 959) HT_.out HW_.out hHeld ?_; refine tZ4 10 (some 52) (bA 14 1983) HT_.out HW_.out hHeld ?_; refine join_ (σ := Nat) 1 (bA 14 8191) (fun s_ => [(48, .int .i64 t507), (13, .pointer (some ⟨s_, 0, none⟩)), (53, .agg #[.int .i64 t507, .int .i64 (rd t492 0)])]) (fun s_ w' => (w'.cell? ⟨gb488, 0, none⟩ = some (.int .i64 a0_0) ∧ w'.cell? ⟨gb488, 1, none⟩ = some (.slice A0_1 l0_1.length c0_1) ∧ w'.cell? ad506 = some (.int .i64 (rd t492 0)) ∧ w'.cell? ad506 = some (.int .i64 (rd t492 0))) ∧ (Kd.R (Kd.int .i64) 3 w' w.heap.size (fun k_ => some k_ ≠ (.slice Ao45 x9_1.length co45 : Value).ownBlock) (.slice (some ad506) t492.length co47) t492) ∧ (Kd.R k51 51 w' w.heap.size (fun k_ => k_ ≠ s_) u8 x8_1) ∧ (Kd.R (Kd.int .i64) 3 w' w.heap.size (fun k_ => some k_ ≠ (.slice (some ad506) t492.length co47 : Value).ownBlock) (.slice Ao45 x9_1.length co45) x9_1) ∧ (w'.heap[gb488]? = some (.cells #[.int .i64 a0_0, .slice A0_1 l0_1.length c0_1] 37 (0, 0))) ∧ (w'.heap[s_]? = some (.cells #[.int .i64 0, .int .i64 0] 51 (0, 0))) ∧ (w.heap.size ≤ s_) ∧ (w.heap.size ≤ s_) ∧ (gb488 ≠ s_) ∧ (s_ ≠ gb488) ∧ (Below w.heap.size w w')) ?_ ?_
          rotate_left
          ·intro hCont
           refine two_ (i := 6) (j := 12) (Ni := some 48) (Nj := some 13) (bA 14 2047) (bA 14 6079) rfl rfl rfl rfl (two_of HT_.out (by kernel_rfl)) (by decide) (by decide) (fun K hK => ?_) (fun K hK => ?_)
           ·skip
            refine gZ Try.func147 #[.agg #[.int .i64 a0_0, .slice A0_1 l0_1.length c0_1], .slice Ao45 x9_1.length co45, .int .i64 (rd t492 0)] ?_
            with_reducible refine (spec_peWith.calls kj7 a0_0 _ _ l0_1 _ _ x9_1 (rd t492 0) t507 _ ?side1 ?side2 ?side3 ?side4 A41.out).mono ?_
            (case side1 => exact Cz (Kd.C_below HR0_1.out HB.out))
            (case side2 => exact HC0_1.out)
            (case side3 => exact Cz ((Kd.R_reads' HO_9.out).2.2))
            (case side4 => exact (Kd.R_reads' HO_9.out).2.1)
            rintro e w49 ⟨rfl, hb⟩; have HS2_ := (hb.cell (World.block_lt_of_cell? _ _ (hHeld.2.2.1))).trans (hHeld.2.2.1); have HS3_ := (hb.cell (World.block_lt_of_cell? _ _ (hHeld.2.2.2))).trans (hHeld.2.2.2); refine ⟨_, rfl, ?_⟩; have n0_ := Rb HO_8 hb; have n1_ := Rb HO_9 hb; have n2_ := Rb HO494 hb; have n3_ := Kb BK488 hb; have n4_ := Bc HB hb; clear HO_8 HO_9 HO494 BK488 HB; revert n0_ n1_ n2_ n3_ n4_; intro HO_8 HO_9 HO494 BK488 HB
            (try clear hb)
            (try clear hb2)
            (try clear hk)
            (try clear hi)
            refine hK.out _ _ ⟨cz BK488 0, cz BK488 1, HS2_, HS3_⟩ (fun hHeld => ?_); clear hK K; refine norm_ (a' := ?_) ?_ ?_; rotate_left; show Act.put _ (some 48) _ = _; simp only [aP, i64_w, i32_w]; rfl; refine pZ 11 (some 53) (bA 14 4095) HT_.out ?_; refine oZ 12 (some 13) (bA 14 8191) HT_.out (fun K hK => ?_); refine box_step ?hg (N := 13) ?hd (cs := #[.int .i64 0, .int .i64 0]) (t := 51) ?hr ?_; (case hd => rfl); (case hg => rfl); (case hr => first | (go_simp; done) | (go_simp; rfl)); intro gb509 hg w50 hbox hb; have HS2_ := (hb.cell (World.block_lt_of_cell? _ _ (hHeld.2.2.1))).trans (hHeld.2.2.1); have HS3_ := (hb.cell (World.block_lt_of_cell? _ _ (hHeld.2.2.2))).trans (hHeld.2.2.2); have n0_ := am (Kd.R_below (Kd.R_elderB (Rz HO_8.out) gb509 (Nat.le_of_eq hg.symm)) hb); have n1_ := Rb HO_9 hb; have n2_ := Rb HO494 hb; have n3_ := Kb BK488 hb; have n4_ := Bc HB hb; have n5_ := am (hbox); have n6_ := Gm HB hg; have n7_ := Gm HB hg; have n8_ := Nl BK488 hg; have n9_ := Ng BK488 hg; clear HO_8 HO_9 HO494 BK488 HB; revert n0_ n1_ n2_ n3_ n4_ n5_ n6_ n7_ n8_ n9_; intro HO_8 HO_9 HO494 BK488 HB BK509 GW509 GE509 NB488_509 NB509_488; clear hb hbox hg; refine hK.out _ _ ⟨cz BK488 0, cz BK488 1, HS2_, HS3_⟩ (fun hHeld => ?_); clear hK K; refine norm_ (a' := ?_) ?_ ?_; rotate_left; show Act.put _ (some 13) _ = _; simp only [aP, i64_w, i32_w]; rfl; exact norm_ (by simp only [putAll, aP]) (hCont (gb509) _ ⟨hHeld, (Rz (Kd.R_mono HO494.out (fun _ hk => hk.2))), (Rz (Kd.R_mono HO_8.out (fun _ hk => hk.2))), (Rz (Kd.R_mono HO_9.out (fun _ hk => hk.2))), (Kz BK488.out), (Kz BK509.out), GW509.out, GE509.out, NB488_509.out, NB509_488.out, (Bq)⟩)
           ·skip
            refine box_step ?hg (N := 13) ?hd (cs := #[.int .i64 0, .int .i64 0]) (t := 51) ?hr ?_; (case hd => rfl); (case hg => rfl); (case hr => first | (go_simp; done) | (go_simp; rfl)); intro gb509 hg w49 hbox hb; have HS2_ := (hb.cell (World.block_lt_of_cell? _ _ (hHeld.2.2.1))).trans (hHeld.2.2.1); have HS3_ := (hb.cell (World.block_lt_of_cell? _ _ (hHeld.2.2.2))).trans (hHeld.2.2.2); have n0_ := am (Kd.R_below (Kd.R_elderB (Rz HO_8.out) gb509 (Nat.le_of_eq hg.symm)) hb); have n1_ := Rb HO_9 hb; have n2_ := Rb HO494 hb; have n3_ := Kb BK488 hb; have n4_ := Bc HB hb; have n5_ := am (hbox); have n6_ := Gm HB hg; have n7_ := Gm HB hg; have n8_ := Nl BK488 hg; have n9_ := Ng BK488 hg; clear HO_8 HO_9 HO494 BK488 HB; revert n0_ n1_ n2_ n3_ n4_ n5_ n6_ n7_ n8_ n9_; intro HO_8 HO_9 HO494 BK488 HB BK509 GW509 GE509 NB488_509 NB509_488; clear hb hbox hg; refine hK.out _ _ ⟨cz BK488 0, cz BK488 1, HS2_, HS3_⟩ (fun hHeld => ?_); clear hK K; refine norm_ (a' := ?_) ?_ ?_; rotate_left; show Act.put _ (some 13) _ = _; simp only [aP, i64_w, i32_w]; rfl; refine oZ 6 (some 48) (bA 14 6143) HT_.out (fun K hK => ?_); refine gZ Try.func147 #[.agg #[.int .i64 a0_0, .slice A0_1 l0_1.length c0_1], .slice Ao45 x9_1.length co45, .int .i64 (rd t492 0)] ?_
            with_reducible refine (spec_peWith.calls kj7 a0_0 _ _ l0_1 _ _ x9_1 (rd t492 0) t507 _ ?side1 ?side2 ?side3 ?side4 A41.out).mono ?_
            (case side1 => exact Cz (Kd.C_below HR0_1.out HB.out))
            (case side2 => exact HC0_1.out)
            (case side3 => exact Cz ((Kd.R_reads' HO_9.out).2.2))
            (case side4 => exact (Kd.R_reads' HO_9.out).2.1)
            rintro e w50 ⟨rfl, hb⟩; have HS2_ := (hb.cell (World.block_lt_of_cell? _ _ (hHeld.2.2.1))).trans (hHeld.2.2.1); have HS3_ := (hb.cell (World.block_lt_of_cell? _ _ (hHeld.2.2.2))).trans (hHeld.2.2.2); refine ⟨_, rfl, ?_⟩; have n0_ := Rb HO_8 hb; have n1_ := Rb HO_9 hb; have n2_ := Rb HO494 hb; have n3_ := Kb BK488 hb; have n4_ := Kb BK509 hb; have n5_ := Bc HB hb; clear HO_8 HO_9 HO494 BK488 BK509 HB; revert n0_ n1_ n2_ n3_ n4_ n5_; intro HO_8 HO_9 HO494 BK488 BK509 HB
            (try clear hb)
            (try clear hb2)
            (try clear hk)
            (try clear hi)
            refine hK.out _ _ ⟨cz BK488 0, cz BK488 1, HS2_, HS3_⟩ (fun hHeld => ?_); clear hK K; refine norm_ (a' := ?_) ?_ ?_; rotate_left; show Act.put _ (some 48) _ = _; simp only [aP, i64_w, i32_w]; rfl; refine pZ 11 (some 53) (bA 14 8191) HT_.out ?_; exact norm_ (by simp only [putAll, aP]) (hCont (gb509) _ ⟨hHeld, (Rz (Kd.R_mono HO494.out (fun _ hk => hk.2))), (Rz (Kd.R_mono HO_8.out (fun _ hk => hk.2))), (Rz (Kd.R_mono HO_9.out (fun _ hk => hk.2))), (Kz BK488.out), (Kz BK509.out), GW509.out, GE509.out, NB488_509.out, NB509_488.out, (Bq)⟩)
          rintro gb509 w51 ⟨hS_, h0_, h1_, h2_, h3_, h4_, h5_, h6_, h7_, h8_, h9_⟩; have n0_ : Aside0 (Kd.R (Kd.int .i64) 3 w51 w.heap.size (fun k_ => some k_ ≠ (.slice Ao45 x9_1.length co45 : Value).ownBlock) (.slice (some ad506) t492.length co47) t492) := ⟨h0_⟩; have n1_ : Aside0 (Kd.R k51 51 w51 w.heap.size (fun k_ => k_ ≠ gb509) u8 x8_1) := ⟨h1_⟩; have n2_ : Aside0 (Kd.R (Kd.int .i64) 3 w51 w.heap.size (fun k_ => some k_ ≠ (.slice (some ad506) t492.length co47 : Value).ownBlock) (.slice Ao45 x9_1.length co45) x9_1) := ⟨h2_⟩; have n3_ : Aside0 (w51.heap[gb488]? = some (.cells #[.int .i64 a0_0, .slice A0_1 l0_1.length c0_1] 37 (0, 0))) := ⟨h3_⟩; have n4_ : Aside0 (w51.heap[gb509]? = some (.cells #[.int .i64 0, .int .i64 0] 51 (0, 0))) := ⟨h4_⟩; have n5_ : Aside0 (w.heap.size ≤ gb509) := ⟨h5_⟩; have n6_ : Aside0 (w.heap.size ≤ gb509) := ⟨h6_⟩; have n7_ : Aside0 (gb488 ≠ gb509) := ⟨h7_⟩; have n8_ : Aside0 (gb509 ≠ gb488) := ⟨h8_⟩; have n9_ : Aside0 (Below w.heap.size w w51) := ⟨h9_⟩; clear HO_8 HO_9 HO494 BK488 HB; clear h0_ h1_ h2_ h3_ h4_ h5_ h6_ h7_ h8_ h9_; revert n0_ n1_ n2_ n3_ n4_ n5_ n6_ n7_ n8_ n9_; intro HO494 HO_8 HO_9 BK488 BK509 GW509 GE509 NB488_509 NB509_488 HB; have hHeld : w51.cell? ⟨gb488, 0, none⟩ = some (.int .i64 a0_0) ∧ w51.cell? ⟨gb488, 1, none⟩ = some (.slice A0_1 l0_1.length c0_1) ∧ w51.cell? ad506 = some (.int .i64 (rd t492 0)) ∧ w51.cell? ad506 = some (.int .i64 (rd t492 0)) := hS_; refine norm_ (a' := ?_) ?_ ?_
          rotate_left
          ·simp only [putAll, aP]
           rfl
          refine oZ 13 none (bA 14 16383) HT_.out (fun K hK => ?_); have hs52 : w51.cell? ⟨gb509, 0, none⟩ = some (.int .i64 0) := cz BK509 0; have hfs52 := blk_frozen BK509.out 0; have hns52_0 := NB488_509.out; have hms52_0 := NB509_488.out; have hs53 : w51.cell? ⟨gb509, 1, none⟩ = some (.int .i64 0) := cz BK509 1; have hfs53 := blk_frozen BK509.out 1; have hns53_0 := NB488_509.out; have hms53_0 := NB509_488.out; refine skip_ (w1 := ?_) (by rfl) rfl ?_ ?_
          rotate_left
          ·go_simp
           rfl
          refine hK.out _ _ ⟨((cell_far (p := ⟨gb509, _, none⟩) NB488_509.out _).trans (((cell_far (p := ⟨gb509, _, none⟩) NB488_509.out _).trans (hHeld.1)))), ((cell_far (p := ⟨gb509, _, none⟩) NB488_509.out _).trans (((cell_far (p := ⟨gb509, _, none⟩) NB488_509.out _).trans (hHeld.2.1)))), ((cell_far (p := ⟨gb509, _, none⟩) (by first | exact Kd.own_blk (Kd.R_ne HO494.out BK509.out (by decide)) | (rw [add_block]; exact Kd.own_blk (Kd.R_ne HO494.out BK509.out (by decide))) | (show (Addr.add _ _).block ≠ _; rw [add_block]; exact Kd.own_blk (Kd.R_ne HO494.out BK509.out (by decide))) | (dsimp only; exact Kd.own_blk (Kd.R_ne HO494.out BK509.out (by decide)))) _).trans (((cell_far (p := ⟨gb509, _, none⟩) (by first | exact Kd.own_blk (Kd.R_ne HO494.out BK509.out (by decide)) | (rw [add_block]; exact Kd.own_blk (Kd.R_ne HO494.out BK509.out (by decide))) | (show (Addr.add _ _).block ≠ _; rw [add_block]; exact Kd.own_blk (Kd.R_ne HO494.out BK509.out (by decide))) | (dsimp only; exact Kd.own_blk (Kd.R_ne HO494.out BK509.out (by decide)))) _).trans (hHeld.2.2.1)))), ((cell_far (p := ⟨gb509, _, none⟩) (by first | exact Kd.own_blk (Kd.R_ne HO494.out BK509.out (by decide)) | (rw [add_block]; exact Kd.own_blk (Kd.R_ne HO494.out BK509.out (by decide))) | (show (Addr.add _ _).block ≠ _; rw [add_block]; exact Kd.own_blk (Kd.R_ne HO494.out BK509.out (by decide))) | (dsimp only; exact Kd.own_blk (Kd.R_ne HO494.out BK509.out (by decide)))) _).trans (((cell_far (p := ⟨gb509, _, none⟩) (by first | exact Kd.own_blk (Kd.R_ne HO494.out BK509.out (by decide)) | (rw [add_block]; exact Kd.own_blk (Kd.R_ne HO494.out BK509.out (by decide))) | (show (Addr.add _ _).block ≠ _; rw [add_block]; exact Kd.own_blk (Kd.R_ne HO494.out BK509.out (by decide))) | (dsimp only; exact Kd.own_blk (Kd.R_ne HO494.out BK509.out (by decide)))) _).trans (hHeld.2.2.2))))⟩ (fun hHeld => ?_); clear hK K; refine done_ (done_of HT_.out (by kernel_rfl)) ?_; have hnb54 := NB509_488.out; have hnc54 := NB488_509.out; obtain ⟨hcz55_0, hcz55_1, hfz55_0, hfz55_1⟩ := cf2 (w := w51) BK509
          try go_wp2_with (first | ((with_reducible refine gate_builtin (b := .append) (xs := #[.tmp 54, .tmp 56]) rfl ?_); (try (refine gate_guard (by rfl) ?_; dsimp only)); at_builtin; refine Kd.R_append k51 (w0 := w) w.heap.size rfl (.tmp 54) (.tmp 56) 46 51 (.agg #[(.int .i64 0), (.int .i64 0)]) 16 rfl Try.underlying46 info51 rfl (by decide) (by omega) u8 x8_1 (⟨t507, rd t492 0⟩ : S51) [.int .i64 t507, .int .i64 (rd t492 0)] (fun k_ => k_ ≠ gb509) (fun _ => False) rfl (by first | (go_simp; done) | (go_simp; rfl)) ?aP (fun _ hk => hk.elim) ?aF ?aO ?aB ?aS ?aL ?_; (case aP => exact k51_mkM _ _ _ (⟨t507, rd t492 0⟩ : S51)); (case aB => exact (Bq)); (case aF => exact (fun k_ hk => Kd.freshB (g := gb509) (o := .cells #[.int .i64 t507, .int .i64 (rd t492 0)] 51 (0, 0)) (by (with_reducible repeat (first | refine blk_drewN ?_ _ | refine blk_drew ?_ | refine blk_alloc ?_ _)); refine blk_put (cs := #[.int .i64 t507, .int .i64 0]) ?_ 1 _ rfl; (with_reducible repeat (first | refine blk_drewN ?_ _ | refine blk_drew ?_ | refine blk_alloc ?_ _)); refine blk_put (cs := #[.int .i64 0, .int .i64 0]) ?_ 0 _ rfl; exact Kz BK509.out) k_ hk)); (case aO => exact (Rz (Kd.R_mono (Kd.R_far (p := ⟨gb509, 1, none⟩) (Kd.R_far (p := ⟨gb509, 0, none⟩) (Kd.R_mono HO_8.out (fun k_ hk => (⟨hk, hk⟩ : _ ∧ k_ ≠ gb509))) (fun _ hk => hk.2) (.int .i64 t507)) (fun _ hk => hk.2) (.int .i64 (rd t492 0))) (fun _ hk => hk.1)))); (case aS => exact (below_size (w := w) (Bq))); (case aL => have := LMc42.out; omega); intro v511 w56 ho hb hg hat; rw [← Ny510.out] at ho; have n0_ := am (Kd.R_over' (Rz (Kd.R_mono (Kd.R_far (p := ⟨gb509, 1, none⟩) (Kd.R_far (p := ⟨gb509, 0, none⟩) (Kd.R_types HO_9.out BK509.out (by decide)) (fun _ hk => hk.2) (.int .i64 t507)) (fun _ hk => hk.2) (.int .i64 (rd t492 0))) (fun _ h_ => h_.1))) (Kd.R_typed (Rz (Kd.R_mono (Kd.R_far (p := ⟨gb509, 1, none⟩) (Kd.R_far (p := ⟨gb509, 0, none⟩) (Kd.R_mono HO_8.out (fun k_ hk => (⟨hk, hk⟩ : _ ∧ k_ ≠ gb509))) (fun _ hk => hk.2) (.int .i64 t507)) (fun _ hk => hk.2) (.int .i64 (rd t492 0))) (fun _ h_ => h_.1)))) (by decide) hg); have n1_ := am (blk_grown (g := gb488) (o := .cells #[.int .i64 a0_0, .slice A0_1 l0_1.length c0_1] 37 (0, 0)) (by (with_reducible repeat (first | refine blk_drewN ?_ _ | refine blk_drew ?_ | refine blk_alloc ?_ _)); refine blk_far ?_ NB488_509.out _; (with_reducible repeat (first | refine blk_drewN ?_ _ | refine blk_drew ?_ | refine blk_alloc ?_ _)); refine blk_far ?_ NB488_509.out _; exact Kz BK488.out) hg (Kd.R_ne HO_8.out BK488.out (by decide))); have n2_ := am (Kd.R_over' (Rz (Kd.R_mono (Kd.R_far (p := ⟨gb509, 1, none⟩) (Kd.R_far (p := ⟨gb509, 0, none⟩) (Kd.R_types HO494.out BK509.out (by decide)) (fun _ hk => hk.2) (.int .i64 t507)) (fun _ hk => hk.2) (.int .i64 (rd t492 0))) (fun _ h_ => h_.1))) (Kd.R_typed (Rz (Kd.R_mono (Kd.R_far (p := ⟨gb509, 1, none⟩) (Kd.R_far (p := ⟨gb509, 0, none⟩) (Kd.R_mono HO_8.out (fun k_ hk => (⟨hk, hk⟩ : _ ∧ k_ ≠ gb509))) (fun _ hk => hk.2) (.int .i64 t507)) (fun _ hk => hk.2) (.int .i64 (rd t492 0))) (fun _ h_ => h_.1)))) (by decide) hg); have n3_ := am (blk_grown (g := gb509) (o := .cells #[.int .i64 t507, .int .i64 (rd t492 0)] 51 (0, 0)) (by (with_reducible repeat (first | refine blk_drewN ?_ _ | refine blk_drew ?_ | refine blk_alloc ?_ _)); refine blk_put (cs := #[.int .i64 t507, .int .i64 0]) ?_ 1 _ rfl; (with_reducible repeat (first | refine blk_drewN ?_ _ | refine blk_drew ?_ | refine blk_alloc ?_ _)); refine blk_put (cs := #[.int .i64 0, .int .i64 0]) ?_ 0 _ rfl; exact Kz BK509.out) hg (Kd.R_away HO_8.out (fun _ hk => hk))); have n4_ := am (hb); have n5_ := am (ho); clear HO_9 BK488 HO494 BK509 HB HO_8; revert n0_ n1_ n2_ n3_ n4_ n5_; intro HO_9 BK488 HO494 BK509 HB HO512; clear ho hb hg hat; obtain ⟨hcz57_0, hcz57_1, hfz57_0, hfz57_1⟩ := cf2 (w := w56) BK509) | ((with_reducible refine gate_callee (f := 124) rfl ?_); refine gL (some 61) Try.func124 #[.slice Ao45 x9_1.length co45, .int .i64 t507] ?_; (with_reducible refine (spec_l1Drop.calls kj7 _ _ x9_1 t507 t513 _ ?side1 ?side2 A43.out).mono ?_); (case side1 => exact Cz ((Kd.R_reads' HO_9.out).2.2)); (case side2 => exact (Kd.R_reads' HO_9.out).2.1); rintro e w58 ⟨v514, rfl, ho0, hb⟩; refine ⟨_, rfl, ?_⟩; have n0_ := Re HO_9 (Kd.R_base ho0) hb; have n1_ := Re HO494 (Kd.R_base ho0) hb; have n2_ := Rb HO512 hb; have n3_ := Rm (Kd.R_new' (Kd.R_new' ho0 (Kd.R_lt (Rz HO_9.out))) (Kd.R_lt (Rz HO494.out))) HB; have n4_ := Kb BK488 hb; have n5_ := Kb BK509 hb; have n6_ := Bc HB hb; clear HO_9 HO494 HO512 BK488 BK509 HB; revert n0_ n1_ n2_ n3_ n4_ n5_ n6_; intro HO_9 HO494 HO512 HO515 BK488 BK509 HB; (try clear hb); (try clear hb2); (try clear hk); (try clear hi); (try clear ho0)))
          go_roundg kj7
          case measure => have := HK1.out; have := HJ7.out; omega
          case rel => exact ⟨(y510), (t513), (wrap64 (x10_1 + 1)), wZ, H', ⟨by have := HK1.out; have := HJ7.out; omega⟩, ⟨Rz (Kd.R_mono HO512.out (fun _ hk => trivial))⟩, ⟨Rz (Kd.R_mono HO515.out (fun _ hk => trivial))⟩, ⟨Kz BK488.out⟩, ⟨Bq⟩⟩
         ·rw [if_neg c42] at H
          exact absurd H (by simp)
        ·rw [if_neg c40] at H
         exact absurd H (by simp)
     ·replace c10 := Bool.eq_false_iff.mpr c10
      subst c10
      rw [if_neg (show ¬ (false = true) by decide)] at H
      simp only [Option.some.injEq, Prod.mk.injEq] at H
      obtain ⟨rfl, rfl⟩ := H
      go_wp2
      go_ret2
      exact ⟨_, _, eZ, Rz HO_8.out, Rz HO_9.out, Bq⟩

end Go.Proofs.Ythkcgimnagpmaaa.PA
