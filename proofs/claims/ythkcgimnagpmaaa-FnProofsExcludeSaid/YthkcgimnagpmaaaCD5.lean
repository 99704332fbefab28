import Derived.Test.YthkcgimnagpmaaaCD1
import Derived.Test.YthkcgimnagpmaaaCD2
import Derived.Test.YthkcgimnagpmaaaCD3
import Derived.Test.YthkcgimnagpmaaaCD4
import Derived.Test.YthkcgimnagpmaaaCD0
import Derived.Lib.Bytes
-- printed by a program of this session (wip/gp) out of the translation; Lean checks it
namespace Go.Proofs.Ythkcgimnagpmaaa.PA
open Go.RowKit Go.Proofs.YthkcgimnagpmaaaW.PrintWords Go.Proofs.YthkcgimnagpmaaaW.PrintLast Go.Proofs.YthkcgimnagpmaaaW.PrintMore Go.Proofs.YthkcgimnagpmaaaSq
attribute [local go_sem] max2_int min2_int max_two min_two max_three min_three max_four min_four   -- for this text's walks alone
attribute [local go_sem] Go.Proofs.YthkcgimnagpmaaaGp.str_geq Go.Proofs.YthkcgimnagpmaaaGp.str_gtr Go.Proofs.YthkcgimnagpmaaaGp.str_leq
set_option linter.unusedVariables false
set_option linter.unusedSimpArgs false

set_option maxHeartbeats 8000000
set_option maxRecDepth 100000
def spec_peOrder.l0 : Nat → List Int → List (S51) → Int → Int → Int → List (List Int) → Option (Bool)
 | 0, _, _, _, _, _, _ => none
 | k + 1, x5, x10, x11, x12, x940000, x940001 => if x12 < x11 then (if 0 ≤ x12 then (if x12 < (x10.length : Int) then ((spec_l1Has.f k x5 ((rd_T51 x10 x12).f0)).bind fun t945 => (if t945 = true then ((spec_peFree.f k x940000 x940001 x5).bind fun t946 => ((spec_l1Has.f k t946 ((rd_T51 x10 x12).f1)).bind fun t949 => (if t949 = true then ((spec_peWith.f k x940000 x940001 x5 ((rd_T51 x10 x12).f1)).bind fun t950 => (if t950 = ((rd_T51 x10 x12).f0) then ((spec_l1Drop.f k x5 ((rd_T51 x10 x12).f0)).bind fun t951 => (spec_peOrder.l0 k t951 x10 x11 (wrap64 (x12 + 1)) x940000 x940001)) else (some false))) else (some false)))) else (some false))) else (none)) else (none)) else (some ((x5.length : Int) == 0))
def spec_peOrder.f (k : Nat) (a0_0 : Int) (l0_1 : List (List Int)) (l1 : List (S51)) : Option (Bool) := (spec_peAll.f k a0_0 l0_1).bind fun t940 => (spec_peOrder.l0 k t940 l1 (l1.length : Int) 0 a0_0 l0_1)
def spec_peOrder.T5 : Bool × List (List Nat × List Nat) := (true, [([], []), ([], []), ([1], [1]), ([0, 2], [0, 2]), ([3], [3]), ([4, 3], [4]), ([5], [5]), ([5], [5]), ([6, 7, 5, 5], [5, 6, 7]), ([5], [5]), ([9, 5], [5, 9]), ([8, 10, 8, 5], [5, 8, 10]), ([11, 5], [5, 11]), ([5, 12], [5, 12]), ([13, 11], [13]), ([14], [14]), ([14], [14]), ([14], [14]), ([17, 14], [14, 17]), ([15, 16, 18, 14, 14], [14, 15, 16, 18]), ([14], [14]), ([20, 14], [14, 20]), ([19, 21, 14], [14, 19, 21]), ([14, 22], [14, 22])])
def spec_peOrder.B5 : List Nat := [0, 0, 2, 7, 15, 31, 63, 63, 255, 63, 575, 2047, 4095, 8191, 16383, 32767, 32767, 32767, 163839, 524287, 32767, 1081343, 4194303, 8388607]
theorem spec_peOrder.tab5 : rtab .any (opsOf Try.f127 5) = spec_peOrder.T5 := by kernel_rfl
theorem spec_peOrder.bits5 : waitsOk spec_peOrder.T5.2 spec_peOrder.B5 = true := by kernel_rfl
theorem spec_peOrder.calls (k : Nat) (a0_0 : Int) (A0_1 : Option Addr) (c0_1 : Nat) (l0_1 : List (List Int)) (A1 : Option Addr) (c1 : Nat) (l1 : List (S51)) (r : Bool) (w : World) (hr0_1 : Kd.C (Kd.slice 3 (Kd.int .i64)) w A0_1 l0_1.length l0_1) (hc0_1 : l0_1.length ≤ c0_1) (hr1 : Kd.C k51 w A1 l1.length l1) (hc1 : l1.length ≤ c1) (h : spec_peOrder.f k a0_0 l0_1 l1 = some r) :
  Calls Try.prog 127 #[.agg #[.int .i64 a0_0, .slice A0_1 l0_1.length c0_1], .slice A1 l1.length c1] w fun e w' => e = .returned (.bool r) ∧ Below w.heap.size w w' := by
 have hu37 := Try.underlying37; have hu51 := Try.underlying51; have HR0_1 := am hr0_1; have HC0_1 := am hc0_1; clear hr0_1 hc0_1; have HR1 := am hr1; have HC1 := am hc1; clear hr1 hc1; have HB := am (Below.refl w.heap.size w); have H : ((spec_peAll.f k a0_0 l0_1).bind fun t940 => (spec_peOrder.l0 k t940 l1 (l1.length : Int) 0 a0_0 l0_1)) = some r := h; clear h; replace H := Option.bind_eq_some_iff.mp H; obtain ⟨t940, A30, H⟩ := H; (try dsimp -simprocs only at H); have A3 := am A30; clear A30; have H' := am H; clear H
 go_enter Try.func127, Try.ntmps127
 go_wp2_with (first | ((with_reducible refine gate_dst (N := 2) rfl ?_); refine bE 2 #[.int .i64 a0_0, .slice A0_1 l0_1.length c0_1] 37 ?_; intro gb939 hg w4 hbox hb; have n0_ := Bb HB hb; have n1_ := am (hbox); have n2_ := Gl HB hg; have n3_ := Gl HB hg; clear HB; revert n0_ n1_ n2_ n3_; intro HB BK939 GW939 GE939; clear hb hbox hg; obtain ⟨hcz5_0, hcz5_1, hfz5_0, hfz5_1⟩ := cf2 (w := w4) BK939) | ((with_reducible refine gate_callee (f := 88) rfl ?_); refine gL (some 9) Try.func88 #[.agg #[.int .i64 a0_0, .slice A0_1 l0_1.length c0_1]] ?_; (with_reducible refine (spec_peAll.calls k a0_0 _ _ l0_1 t940 _ ?side1 ?side2 A3.out).mono ?_); (case side1 => exact Cz (Kd.C_below HR0_1.out HB.out)); (case side2 => exact HC0_1.out); rintro e w6 ⟨v941, rfl, ho0, hb⟩; refine ⟨_, rfl, ?_⟩; have n0_ := Rm ho0 HB; have n1_ := Kb BK939 hb; have n2_ := Bc HB hb; clear BK939 HB; revert n0_ n1_ n2_; intro HO942 BK939 HB; (try clear hb); (try clear hb2); (try clear hk); (try clear hi); (try clear ho0)))
 (try simp only [aP])
 go_loopg [5, 12] k (fun kq v5 v12 w' => ∃ (x5_1 : List Int) (x12_1 : Int), v12 = .int .i64 x12_1 ∧ Aside0 (spec_peOrder.l0 kq x5_1 l1 (l1.length : Int) x12_1 a0_0 l0_1 = some r) ∧ Aside0 (kq ≤ k) ∧ Aside0 (Kd.R (Kd.int .i64) 3 w' w.heap.size (fun _ => True) v5 x5_1) ∧ Aside0 (w'.heap[gb939]? = some (.cells #[.int .i64 a0_0, (.slice A0_1 l0_1.length c0_1)] 37 (0, 0))) ∧ Aside0 (Below w.heap.size w w'))
 case atStart => exact ⟨(t940), (0), wZ, H', ⟨Nat.le_refl _⟩, ⟨Rz HO942.out⟩, ⟨Kz BK939.out⟩, ⟨Bq⟩⟩
 case round =>
  clear H'
  try clear c1
  try clear p2
  try clear hcz5_0
  try clear hcz5_1
  try clear hfz5_0
  try clear hfz5_1
  obtain ⟨x5_1, x12_1, rfl, HA, HK1, HO_5, BK939, HB⟩ := hrel; cases gk with
  | zero => exact absurd HA.out (by simp [spec_peOrder.l0])
  | succ k1 =>
   have H := HA.out; clear HA
   simp only [spec_peOrder.l0] at H
   by_cases c7 : x12_1 < (l1.length : Int)
   ·rw [if_pos c7] at H
    have c7b0 : decide (x12_1 < (l1.length : Int)) = true := decide_eq_true c7; clear c7
    by_cases c8 : 0 ≤ x12_1
    ·rw [if_pos c8] at H
     have c8b0 : decide (0 ≤ x12_1) = true := decide_eq_true c8; clear c8
     by_cases c9 : x12_1 < (l1.length : Int)
     ·rw [if_pos c9] at H
      have c9b0 : decide (x12_1 < (l1.length : Int)) = true := decide_eq_true c9; clear c9; replace H := Option.bind_eq_some_iff.mp H; obtain ⟨t945, A100, H⟩ := H; (try dsimp -simprocs only at H); have A10 := am A100; clear A100
      by_cases c11 : t945 = true
      ·subst c11
       rw [if_pos rfl] at H; replace H := Option.bind_eq_some_iff.mp H; obtain ⟨t946, A120, H⟩ := H; (try dsimp -simprocs only at H); have A12 := am A120; clear A120; replace H := Option.bind_eq_some_iff.mp H; obtain ⟨t949, A130, H⟩ := H; (try dsimp -simprocs only at H); have A13 := am A130; clear A130
       by_cases c14 : t949 = true
       ·subst c14
        rw [if_pos rfl] at H; replace H := Option.bind_eq_some_iff.mp H; obtain ⟨t950, A150, H⟩ := H; (try dsimp -simprocs only at H); have A15 := am A150; clear A150
        by_cases c16 : t950 = ((rd_T51 l1 x12_1).f0)
        ·rw [if_pos c16] at H
         have c16b0 : (t950 == ((rd_T51 l1 x12_1).f0)) = true := beq_iff_eq.mpr c16; have c16b1 : (t950 != ((rd_T51 l1 x12_1).f0)) = false := bne_eq_false_iff_eq.mpr c16; clear c16; replace H := Option.bind_eq_some_iff.mp H; obtain ⟨t951, A170, H⟩ := H; (try dsimp -simprocs only at H); have A17 := am A170; clear A170; have H' := am H; clear H; have p943 : 0 ≤ (x12_1 : Int) := dT; have q943 : x12_1 < (l1.length : Int) := dT; obtain ⟨ad943, e943, hx943_0, hx943_1⟩ := at_T51 HR1.out x12_1 p943 q943; cases e943; replace hx943_0 := (HB.out.cell (World.block_lt_of_cell? w _ hx943_0)).trans hx943_0; replace hx943_1 := (HB.out.cell (World.block_lt_of_cell? w _ hx943_1)).trans hx943_1; replace p943 := eq_true p943; replace q943 := eq_true q943
         try go_wp2_with (first | ((with_reducible refine gate_dst (N := 7) rfl ?_); refine bE 7 #[.int .i64 0, .int .i64 0] 51 ?_; intro gb944 hg w18 hbox hb; have n0_ := Rb HO_5 hb; have n1_ := Kb BK939 hb; have n2_ := Bc HB hb; have n3_ := am (hbox); have n4_ := Gm HB hg; have n5_ := Gm HB hg; have n6_ := Nl BK939 hg; have n7_ := Ng BK939 hg; clear HO_5 BK939 HB; revert n0_ n1_ n2_ n3_ n4_ n5_ n6_ n7_; intro HO_5 BK939 HB BK944 GW944 GE944 NB939_944 NB944_939; clear hb hbox hg; have hnb19 := NB944_939.out; have hnc19 := NB939_944.out; obtain ⟨hcz20_0, hcz20_1, hfz20_0, hfz20_1⟩ := cf2 (w := w18) BK944))
         have n0_ : Aside0 (Kd.R (Kd.int .i64) 3 ((w18.setCell ⟨gb944, 0, none⟩ (.int .i64 ((rd_T51 l1 x12_1).f0))).setCell ⟨gb944, 1, none⟩ (.int .i64 ((rd_T51 l1 x12_1).f1))) w.heap.size (fun _ => True) u5 x5_1) := ⟨Rz (Kd.R_mono (Kd.R_far (p := ⟨gb944, 1, none⟩) (Kd.R_far (p := ⟨gb944, 0, none⟩) (Kd.R_types HO_5.out BK944.out (by decide)) (fun _ hk => hk.2) (.int .i64 ((rd_T51 l1 x12_1).f0))) (fun _ hk => hk.2) (.int .i64 ((rd_T51 l1 x12_1).f1))) (fun _ hk => trivial))⟩; have n1_ : Aside0 (((w18.setCell ⟨gb944, 0, none⟩ (.int .i64 ((rd_T51 l1 x12_1).f0))).setCell ⟨gb944, 1, none⟩ (.int .i64 ((rd_T51 l1 x12_1).f1))).heap[gb939]? = some (.cells #[.int .i64 a0_0, .slice A0_1 l0_1.length c0_1] 37 (0, 0))) := ⟨by (with_reducible repeat (first | refine blk_drewN ?_ _ | refine blk_drew ?_ | refine blk_alloc ?_ _)); refine blk_far ?_ NB939_944.out _; (with_reducible repeat (first | refine blk_drewN ?_ _ | refine blk_drew ?_ | refine blk_alloc ?_ _)); refine blk_far ?_ NB939_944.out _; (with_reducible repeat (first | refine blk_drewN ?_ _ | refine blk_drew ?_ | refine blk_alloc ?_ _)); exact BK939.out⟩; have n2_ : Aside0 (((w18.setCell ⟨gb944, 0, none⟩ (.int .i64 ((rd_T51 l1 x12_1).f0))).setCell ⟨gb944, 1, none⟩ (.int .i64 ((rd_T51 l1 x12_1).f1))).heap[gb944]? = some (.cells #[.int .i64 ((rd_T51 l1 x12_1).f0), .int .i64 ((rd_T51 l1 x12_1).f1)] 51 (0, 0))) := ⟨by (with_reducible repeat (first | refine blk_drewN ?_ _ | refine blk_drew ?_ | refine blk_alloc ?_ _)); refine blk_put (cs := #[.int .i64 ((rd_T51 l1 x12_1).f0), .int .i64 0]) ?_ 1 _ rfl; (with_reducible repeat (first | refine blk_drewN ?_ _ | refine blk_drew ?_ | refine blk_alloc ?_ _)); refine blk_put (cs := #[.int .i64 0, .int .i64 0]) ?_ 0 _ rfl; (with_reducible repeat (first | refine blk_drewN ?_ _ | refine blk_drew ?_ | refine blk_alloc ?_ _)); exact BK944.out⟩; have n3_ : Aside0 (Below w.heap.size w ((w18.setCell ⟨gb944, 0, none⟩ (.int .i64 ((rd_T51 l1 x12_1).f0))).setCell ⟨gb944, 1, none⟩ (.int .i64 ((rd_T51 l1 x12_1).f1)))) := ⟨Bq⟩
         (try clear HO_5)
         (try clear BK939)
         (try clear BK944)
         (try clear HB)
         generalize ((w18.setCell ⟨gb944, 0, none⟩ (.int .i64 ((rd_T51 l1 x12_1).f0))).setCell ⟨gb944, 1, none⟩ (.int .i64 ((rd_T51 l1 x12_1).f1))) = w21 at n0_ n1_ n2_ n3_ ⊢; revert n0_ n1_ n2_ n3_; intro HO_5 BK939 BK944 HB; have n0_ := am (Kd.R_drew HO_5.out); have n1_ := am (blk_drew BK939.out); have n2_ := am (blk_drew BK944.out); have n3_ := am (below_drew1 HB.out); clear HO_5 BK939 BK944 HB; revert n0_ n1_ n2_ n3_; intro HO_5 BK939 BK944 HB; obtain ⟨Ao23, co23, eo23⟩ := Kd.R_slice HO_5.out
         (first | subst eo23 | (injection eo23 with f1_ f2_ f3_; have f4_ := f1_.symm; have f5_ := f3_.symm; clear f1_ f2_ f3_; subst f4_; subst f5_))
         refine start_ (n := 24) (S := fun w' => w'.cell? ⟨gb944, 0, none⟩ = some (.int .i64 ((rd_T51 l1 x12_1).f0)) ∧ w'.cell? ⟨gb944, 1, none⟩ = some (.int .i64 ((rd_T51 l1 x12_1).f1)) ∧ w'.cell? ⟨gb939, 0, none⟩ = some (.int .i64 a0_0) ∧ w'.cell? ⟨gb939, 1, none⟩ = some (.slice A0_1 l0_1.length c0_1)) (ds := []) (bA 24 0) (by kernel_rfl) rfl rfl ⟨cz BK944 0, cz BK944 1, cz BK939 0, cz BK939 1⟩ (fun hHeld => ?_); refine with_tabW spec_peOrder.tab5 spec_peOrder.bits5 (fun HT_ HW_ => ?_); generalize w21.drew = w22 at HO_5 BK939 BK944 HB hHeld ⊢; refine pZ 0 (some 16) (bA 24 1) HT_.out ?_; refine pZ 1 (some 17) (bA 24 3) HT_.out ?_; refine tZ4 2 (some 18) (bA 24 7) HT_.out HW_.out hHeld ?_; refine oZ 3 (some 19) (bA 24 15) HT_.out (fun K hK => ?_); refine gZ Try.func143 #[.slice Ao23 x5_1.length co23, .int .i64 ((rd_T51 l1 x12_1).f0)] ?_
         with_reducible refine (spec_l1Has.calls k1 _ _ x5_1 ((rd_T51 l1 x12_1).f0) true _ ?side1 ?side2 A10.out).mono ?_
         (case side1 => exact Cz ((Kd.R_reads' HO_5.out).2.2))
         (case side2 => exact (Kd.R_reads' HO_5.out).2.1)
         rintro e w' ⟨rfl, ⟨nd, rfl⟩⟩; refine ⟨_, rfl, ?_⟩; refine hK.out _ _ ⟨cz BK944 0, cz BK944 1, cz BK939 0, cz BK939 1⟩ (fun hHeld => ?_); clear hK K; refine norm_ (a' := ?_) ?_ ?_; rotate_left; show Act.put _ (some 19) _ = _; simp only [aP, i64_w, i32_w]; rfl; refine pZ 4 (some 20) (bA 24 31) HT_.out ?_; refine pZ 5 (some 21) (bA 24 63) HT_.out ?_; refine pZ 7 (some 23) (bA 24 191) HT_.out ?_; refine pZ 9 (some 25) (bA 24 703) HT_.out ?_; refine tZ4 6 (some 22) (bA 24 767) HT_.out HW_.out hHeld ?_; refine tZ4 10 (some 26) (bA 24 1791) HT_.out HW_.out hHeld ?_; refine oZ 8 (some 24) (bA 24 2047) HT_.out (fun K hK => ?_); refine gZ Try.func89 #[.agg #[.int .i64 a0_0, .slice A0_1 l0_1.length c0_1], .slice Ao23 x5_1.length co23] ?_
         with_reducible refine (spec_peFree.calls k1 a0_0 _ _ l0_1 _ _ x5_1 t946 _ ?side1 ?side2 ?side3 ?side4 A12.out).mono ?_
         (case side1 => exact Cz (Kd.C_below HR0_1.out (Bq)))
         (case side2 => exact HC0_1.out)
         (case side3 => exact Cz ((Kd.R_reads' HO_5.out).2.2))
         (case side4 => exact (Kd.R_reads' HO_5.out).2.1)
         rintro e w24 ⟨v947, rfl, ho0, hb⟩; refine ⟨_, rfl, ?_⟩; have n0_ := Re HO_5 (Kd.R_base ho0) hb; have n1_ := Rm (Kd.R_new' ho0 (Kd.R_lt (Rz HO_5.out))) HB; have n2_ := Kb BK939 hb; have n3_ := Kb BK944 hb; have n4_ := Bc HB hb; clear HO_5 BK939 BK944 HB; revert n0_ n1_ n2_ n3_ n4_; intro HO_5 HO948 BK939 BK944 HB
         (try clear hb)
         (try clear hb2)
         (try clear hk)
         (try clear hi)
         (try clear ho0)
         obtain ⟨Ao25, co25, eo25⟩ := Kd.R_slice HO948.out
         (first | subst eo25 | (injection eo25 with f1_ f2_ f3_; have f4_ := f1_.symm; have f5_ := f3_.symm; clear f1_ f2_ f3_; subst f4_; subst f5_))
         refine hK.out _ _ ⟨cz BK944 0, cz BK944 1, cz BK939 0, cz BK939 1⟩ (fun hHeld => ?_); clear hK K; refine norm_ (a' := ?_) ?_ ?_; rotate_left; show Act.put _ (some 24) _ = _; simp only [aP, i64_w, i32_w]; rfl; refine oZ 11 (some 27) (bA 24 4095) HT_.out (fun K hK => ?_); refine gZ Try.func143 #[.slice Ao25 t946.length co25, .int .i64 ((rd_T51 l1 x12_1).f1)] ?_
         with_reducible refine (spec_l1Has.calls k1 _ _ t946 ((rd_T51 l1 x12_1).f1) true _ ?side1 ?side2 A13.out).mono ?_
         (case side1 => exact Cz ((Kd.R_reads' HO948.out).2.2))
         (case side2 => exact (Kd.R_reads' HO948.out).2.1)
         rintro e w' ⟨rfl, ⟨nd, rfl⟩⟩; refine ⟨_, rfl, ?_⟩; refine hK.out _ _ ⟨cz BK944 0, cz BK944 1, cz BK939 0, cz BK939 1⟩ (fun hHeld => ?_); clear hK K; refine norm_ (a' := ?_) ?_ ?_; rotate_left; show Act.put _ (some 27) _ = _; simp only [aP, i64_w, i32_w]; rfl; refine pZ 12 (some 28) (bA 24 8191) HT_.out ?_; refine pZ 13 (some 29) (bA 24 16383) HT_.out ?_; refine pZ 14 (some 30) (bA 24 32767) HT_.out ?_; refine pZ 16 (some 32) (bA 24 98303) HT_.out ?_; refine pZ 17 (some 33) (bA 24 229375) HT_.out ?_; refine pZ 20 (some 36) (bA 24 1277951) HT_.out ?_; refine tZ4 15 (some 31) (bA 24 1310719) HT_.out HW_.out hHeld ?_; refine tZ4 18 (some 34) (bA 24 1572863) HT_.out HW_.out hHeld ?_; refine tZ4 21 (some 37) (bA 24 3670015) HT_.out HW_.out hHeld ?_; refine oZ 19 (some 35) (bA 24 4194303) HT_.out (fun K hK => ?_); refine gZ Try.func147 #[.agg #[.int .i64 a0_0, .slice A0_1 l0_1.length c0_1], .slice Ao23 x5_1.length co23, .int .i64 ((rd_T51 l1 x12_1).f1)] ?_
         with_reducible refine (spec_peWith.calls k1 a0_0 _ _ l0_1 _ _ x5_1 ((rd_T51 l1 x12_1).f1) t950 _ ?side1 ?side2 ?side3 ?side4 A15.out).mono ?_
         (case side1 => exact Cz (Kd.C_below HR0_1.out (Bq)))
         (case side2 => exact HC0_1.out)
         (case side3 => exact Cz ((Kd.R_reads' HO_5.out).2.2))
         (case side4 => exact (Kd.R_reads' HO_5.out).2.1)
         rintro e w26 ⟨rfl, hb⟩; refine ⟨_, rfl, ?_⟩; have n0_ := Rb HO_5 hb; have n1_ := Rb HO948 hb; have n2_ := Kb BK939 hb; have n3_ := Kb BK944 hb; have n4_ := Bc HB hb; clear HO_5 HO948 BK939 BK944 HB; revert n0_ n1_ n2_ n3_ n4_; intro HO_5 HO948 BK939 BK944 HB
         (try clear hb)
         (try clear hb2)
         (try clear hk)
         (try clear hi)
         refine hK.out _ _ ⟨cz BK944 0, cz BK944 1, cz BK939 0, cz BK939 1⟩ (fun hHeld => ?_); clear hK K; refine norm_ (a' := ?_) ?_ ?_; rotate_left; show Act.put _ (some 35) _ = _; simp only [aP, i64_w, i32_w]; rfl; refine pZ 22 (some 38) (bA 24 8388607) HT_.out ?_; refine pZ 23 (some 39) (bA 24 16777215) HT_.out ?_; refine done_ (done_of HT_.out (by kernel_rfl)) ?_; obtain ⟨hcz27_0, hcz27_1, hfz27_0, hfz27_1⟩ := cf2 (w := w26) BK944
         try go_wp2_with (first | ((with_reducible refine gate_callee (f := 124) rfl ?_); refine gL (some 43) Try.func124 #[.slice Ao23 x5_1.length co23, .int .i64 ((rd_T51 l1 x12_1).f0)] ?_; (with_reducible refine (spec_l1Drop.calls k1 _ _ x5_1 ((rd_T51 l1 x12_1).f0) t951 _ ?side1 ?side2 A17.out).mono ?_); (case side1 => exact Cz ((Kd.R_reads' HO_5.out).2.2)); (case side2 => exact (Kd.R_reads' HO_5.out).2.1); rintro e w28 ⟨v952, rfl, ho0, hb⟩; refine ⟨_, rfl, ?_⟩; have n0_ := Re HO_5 (Kd.R_base ho0) hb; have n1_ := Re HO948 (Kd.R_base ho0) hb; have n2_ := Rm (Kd.R_new' (Kd.R_new' ho0 (Kd.R_lt (Rz HO_5.out))) (Kd.R_lt (Rz HO948.out))) HB; have n3_ := Kb BK939 hb; have n4_ := Kb BK944 hb; have n5_ := Bc HB hb; clear HO_5 HO948 BK939 BK944 HB; revert n0_ n1_ n2_ n3_ n4_ n5_; intro HO_5 HO948 HO953 BK939 BK944 HB; (try clear hb); (try clear hb2); (try clear hk); (try clear hi); (try clear ho0)))
         go_roundg k1
         case measure => have := HK1.out; omega
         case rel => exact ⟨(t951), (wrap64 (x12_1 + 1)), wZ, H', ⟨by have := HK1.out; omega⟩, ⟨Rz (Kd.R_mono HO953.out (fun _ hk => trivial))⟩, ⟨Kz BK939.out⟩, ⟨Bq⟩⟩
        ·rw [if_neg c16] at H
         have c16b0 : (t950 == ((rd_T51 l1 x12_1).f0)) = false := beq_eq_false_iff_ne.mpr c16; have c16b1 : (t950 != ((rd_T51 l1 x12_1).f0)) = true := bne_iff_ne.mpr c16; obtain rfl := Option.some.inj H; have p943 : 0 ≤ (x12_1 : Int) := dT; have q943 : x12_1 < (l1.length : Int) := dT; obtain ⟨ad943, e943, hx943_0, hx943_1⟩ := at_T51 HR1.out x12_1 p943 q943; cases e943; replace hx943_0 := (HB.out.cell (World.block_lt_of_cell? w _ hx943_0)).trans hx943_0; replace hx943_1 := (HB.out.cell (World.block_lt_of_cell? w _ hx943_1)).trans hx943_1; replace p943 := eq_true p943; replace q943 := eq_true q943
         try go_wp2_with (first | ((with_reducible refine gate_dst (N := 7) rfl ?_); refine bE 7 #[.int .i64 0, .int .i64 0] 51 ?_; intro gb944 hg w29 hbox hb; have n0_ := Rb HO_5 hb; have n1_ := Kb BK939 hb; have n2_ := Bc HB hb; have n3_ := am (hbox); have n4_ := Gm HB hg; have n5_ := Gm HB hg; have n6_ := Nl BK939 hg; have n7_ := Ng BK939 hg; clear HO_5 BK939 HB; revert n0_ n1_ n2_ n3_ n4_ n5_ n6_ n7_; intro HO_5 BK939 HB BK944 GW944 GE944 NB939_944 NB944_939; clear hb hbox hg; have hnb30 := NB944_939.out; have hnc30 := NB939_944.out; obtain ⟨hcz31_0, hcz31_1, hfz31_0, hfz31_1⟩ := cf2 (w := w29) BK944))
         have n0_ : Aside0 (Kd.R (Kd.int .i64) 3 ((w29.setCell ⟨gb944, 0, none⟩ (.int .i64 ((rd_T51 l1 x12_1).f0))).setCell ⟨gb944, 1, none⟩ (.int .i64 ((rd_T51 l1 x12_1).f1))) w.heap.size (fun _ => True) u5 x5_1) := ⟨Rz (Kd.R_mono (Kd.R_far (p := ⟨gb944, 1, none⟩) (Kd.R_far (p := ⟨gb944, 0, none⟩) (Kd.R_types HO_5.out BK944.out (by decide)) (fun _ hk => hk.2) (.int .i64 ((rd_T51 l1 x12_1).f0))) (fun _ hk => hk.2) (.int .i64 ((rd_T51 l1 x12_1).f1))) (fun _ hk => trivial))⟩; have n1_ : Aside0 (((w29.setCell ⟨gb944, 0, none⟩ (.int .i64 ((rd_T51 l1 x12_1).f0))).setCell ⟨gb944, 1, none⟩ (.int .i64 ((rd_T51 l1 x12_1).f1))).heap[gb939]? = some (.cells #[.int .i64 a0_0, .slice A0_1 l0_1.length c0_1] 37 (0, 0))) := ⟨by (with_reducible repeat (first | refine blk_drewN ?_ _ | refine blk_drew ?_ | refine blk_alloc ?_ _)); refine blk_far ?_ NB939_944.out _; (with_reducible repeat (first | refine blk_drewN ?_ _ | refine blk_drew ?_ | refine blk_alloc ?_ _)); refine blk_far ?_ NB939_944.out _; (with_reducible repeat (first | refine blk_drewN ?_ _ | refine blk_drew ?_ | refine blk_alloc ?_ _)); exact BK939.out⟩; have n2_ : Aside0 (((w29.setCell ⟨gb944, 0, none⟩ (.int .i64 ((rd_T51 l1 x12_1).f0))).setCell ⟨gb944, 1, none⟩ (.int .i64 ((rd_T51 l1 x12_1).f1))).heap[gb944]? = some (.cells #[.int .i64 ((rd_T51 l1 x12_1).f0), .int .i64 ((rd_T51 l1 x12_1).f1)] 51 (0, 0))) := ⟨by (with_reducible repeat (first | refine blk_drewN ?_ _ | refine blk_drew ?_ | refine blk_alloc ?_ _)); refine blk_put (cs := #[.int .i64 ((rd_T51 l1 x12_1).f0), .int .i64 0]) ?_ 1 _ rfl; (with_reducible repeat (first | refine blk_drewN ?_ _ | refine blk_drew ?_ | refine blk_alloc ?_ _)); refine blk_put (cs := #[.int .i64 0, .int .i64 0]) ?_ 0 _ rfl; (with_reducible repeat (first | refine blk_drewN ?_ _ | refine blk_drew ?_ | refine blk_alloc ?_ _)); exact BK944.out⟩; have n3_ : Aside0 (Below w.heap.size w ((w29.setCell ⟨gb944, 0, none⟩ (.int .i64 ((rd_T51 l1 x12_1).f0))).setCell ⟨gb944, 1, none⟩ (.int .i64 ((rd_T51 l1 x12_1).f1)))) := ⟨Bq⟩
         (try clear HO_5)
         (try clear BK939)
         (try clear BK944)
         (try clear HB)
         generalize ((w29.setCell ⟨gb944, 0, none⟩ (.int .i64 ((rd_T51 l1 x12_1).f0))).setCell ⟨gb944, 1, none⟩ (.int .i64 ((rd_T51 l1 x12_1).f1))) = w32 at n0_ n1_ n2_ n3_ ⊢; revert n0_ n1_ n2_ n3_; intro HO_5 BK939 BK944 HB; have n0_ := am (Kd.R_drew HO_5.out); have n1_ := am (blk_drew BK939.out); have n2_ := am (blk_drew BK944.out); have n3_ := am (below_drew1 HB.out); clear HO_5 BK939 BK944 HB; revert n0_ n1_ n2_ n3_; intro HO_5 BK939 BK944 HB; obtain ⟨Ao34, co34, eo34⟩ := Kd.R_slice HO_5.out
         (first | subst eo34 | (injection eo34 with f1_ f2_ f3_; have f4_ := f1_.symm; have f5_ := f3_.symm; clear f1_ f2_ f3_; subst f4_; subst f5_))
         refine start_ (n := 24) (S := fun w' => w'.cell? ⟨gb944, 0, none⟩ = some (.int .i64 ((rd_T51 l1 x12_1).f0)) ∧ w'.cell? ⟨gb944, 1, none⟩ = some (.int .i64 ((rd_T51 l1 x12_1).f1)) ∧ w'.cell? ⟨gb939, 0, none⟩ = some (.int .i64 a0_0) ∧ w'.cell? ⟨gb939, 1, none⟩ = some (.slice A0_1 l0_1.length c0_1)) (ds := []) (bA 24 0) (by kernel_rfl) rfl rfl ⟨cz BK944 0, cz BK944 1, cz BK939 0, cz BK939 1⟩ (fun hHeld => ?_); refine with_tabW spec_peOrder.tab5 spec_peOrder.bits5 (fun HT_ HW_ => ?_); generalize w32.drew = w33 at HO_5 BK939 BK944 HB hHeld ⊢; refine pZ 0 (some 16) (bA 24 1) HT_.out ?_; refine pZ 1 (some 17) (bA 24 3) HT_.out ?_; refine tZ4 2 (some 18) (bA 24 7) HT_.out HW_.out hHeld ?_; refine oZ 3 (some 19) (bA 24 15) HT_.out (fun K hK => ?_); refine gZ Try.func143 #[.slice Ao34 x5_1.length co34, .int .i64 ((rd_T51 l1 x12_1).f0)] ?_
         with_reducible refine (spec_l1Has.calls k1 _ _ x5_1 ((rd_T51 l1 x12_1).f0) true _ ?side1 ?side2 A10.out).mono ?_
         (case side1 => exact Cz ((Kd.R_reads' HO_5.out).2.2))
         (case side2 => exact (Kd.R_reads' HO_5.out).2.1)
         rintro e w' ⟨rfl, ⟨nd, rfl⟩⟩; refine ⟨_, rfl, ?_⟩; refine hK.out _ _ ⟨cz BK944 0, cz BK944 1, cz BK939 0, cz BK939 1⟩ (fun hHeld => ?_); clear hK K; refine norm_ (a' := ?_) ?_ ?_; rotate_left; show Act.put _ (some 19) _ = _; simp only [aP, i64_w, i32_w]; rfl; refine pZ 4 (some 20) (bA 24 31) HT_.out ?_; refine pZ 5 (some 21) (bA 24 63) HT_.out ?_; refine pZ 7 (some 23) (bA 24 191) HT_.out ?_; refine pZ 9 (some 25) (bA 24 703) HT_.out ?_; refine tZ4 6 (some 22) (bA 24 767) HT_.out HW_.out hHeld ?_; refine tZ4 10 (some 26) (bA 24 1791) HT_.out HW_.out hHeld ?_; refine oZ 8 (some 24) (bA 24 2047) HT_.out (fun K hK => ?_); refine gZ Try.func89 #[.agg #[.int .i64 a0_0, .slice A0_1 l0_1.length c0_1], .slice Ao34 x5_1.length co34] ?_
         with_reducible refine (spec_peFree.calls k1 a0_0 _ _ l0_1 _ _ x5_1 t946 _ ?side1 ?side2 ?side3 ?side4 A12.out).mono ?_
         (case side1 => exact Cz (Kd.C_below HR0_1.out (Bq)))
         (case side2 => exact HC0_1.out)
         (case side3 => exact Cz ((Kd.R_reads' HO_5.out).2.2))
         (case side4 => exact (Kd.R_reads' HO_5.out).2.1)
         rintro e w35 ⟨v947, rfl, ho0, hb⟩; refine ⟨_, rfl, ?_⟩; have n0_ := Re HO_5 (Kd.R_base ho0) hb; have n1_ := Rm (Kd.R_new' ho0 (Kd.R_lt (Rz HO_5.out))) HB; have n2_ := Kb BK939 hb; have n3_ := Kb BK944 hb; have n4_ := Bc HB hb; clear HO_5 BK939 BK944 HB; revert n0_ n1_ n2_ n3_ n4_; intro HO_5 HO948 BK939 BK944 HB
         (try clear hb)
         (try clear hb2)
         (try clear hk)
         (try clear hi)
         (try clear ho0)
         obtain ⟨Ao36, co36, eo36⟩ := Kd.R_slice HO948.out
         (first | subst eo36 | (injection eo36 with f1_ f2_ f3_; have f4_ := f1_.symm; have f5_ := f3_.symm; clear f1_ f2_ f3_; subst f4_; subst f5_))
         refine hK.out _ _ ⟨cz BK944 0, cz BK944 1, cz BK939 0, cz BK939 1⟩ (fun hHeld => ?_); clear hK K; refine norm_ (a' := ?_) ?_ ?_; rotate_left; show Act.put _ (some 24) _ = _; simp only [aP, i64_w, i32_w]; rfl; refine oZ 11 (some 27) (bA 24 4095) HT_.out (fun K hK => ?_); refine gZ Try.func143 #[.slice Ao36 t946.length co36, .int .i64 ((rd_T51 l1 x12_1).f1)] ?_
         with_reducible refine (spec_l1Has.calls k1 _ _ t946 ((rd_T51 l1 x12_1).f1) true _ ?side1 ?side2 A13.out).mono ?_
         (case side1 => exact Cz ((Kd.R_reads' HO948.out).2.2))
         (case side2 => exact (Kd.R_reads' HO948.out).2.1)
         rintro e w' ⟨rfl, ⟨nd, rfl⟩⟩; refine ⟨_, rfl, ?_⟩; refine hK.out _ _ ⟨cz BK944 0, cz BK944 1, cz BK939 0, cz BK939 1⟩ (fun hHeld => ?_); clear hK K; refine norm_ (a' := ?_) ?_ ?_; rotate_left; show Act.put _ (some 27) _ = _; simp only [aP, i64_w, i32_w]; rfl; refine pZ 12 (some 28) (bA 24 8191) HT_.out ?_; refine pZ 13 (some 29) (bA 24 16383) HT_.out ?_; refine pZ 14 (some 30) (bA 24 32767) HT_.out ?_; refine pZ 16 (some 32) (bA 24 98303) HT_.out ?_; refine pZ 17 (some 33) (bA 24 229375) HT_.out ?_; refine pZ 20 (some 36) (bA 24 1277951) HT_.out ?_; refine tZ4 15 (some 31) (bA 24 1310719) HT_.out HW_.out hHeld ?_; refine tZ4 18 (some 34) (bA 24 1572863) HT_.out HW_.out hHeld ?_; refine tZ4 21 (some 37) (bA 24 3670015) HT_.out HW_.out hHeld ?_; refine oZ 19 (some 35) (bA 24 4194303) HT_.out (fun K hK => ?_); refine gZ Try.func147 #[.agg #[.int .i64 a0_0, .slice A0_1 l0_1.length c0_1], .slice Ao34 x5_1.length co34, .int .i64 ((rd_T51 l1 x12_1).f1)] ?_
         with_reducible refine (spec_peWith.calls k1 a0_0 _ _ l0_1 _ _ x5_1 ((rd_T51 l1 x12_1).f1) t950 _ ?side1 ?side2 ?side3 ?side4 A15.out).mono ?_
         (case side1 => exact Cz (Kd.C_below HR0_1.out (Bq)))
         (case side2 => exact HC0_1.out)
         (case side3 => exact Cz ((Kd.R_reads' HO_5.out).2.2))
         (case side4 => exact (Kd.R_reads' HO_5.out).2.1)
         rintro e w37 ⟨rfl, hb⟩; refine ⟨_, rfl, ?_⟩; have n0_ := Rb HO_5 hb; have n1_ := Rb HO948 hb; have n2_ := Kb BK939 hb; have n3_ := Kb BK944 hb; have n4_ := Bc HB hb; clear HO_5 HO948 BK939 BK944 HB; revert n0_ n1_ n2_ n3_ n4_; intro HO_5 HO948 BK939 BK944 HB
         (try clear hb)
         (try clear hb2)
         (try clear hk)
         (try clear hi)
         refine hK.out _ _ ⟨cz BK944 0, cz BK944 1, cz BK939 0, cz BK939 1⟩ (fun hHeld => ?_); clear hK K; refine norm_ (a' := ?_) ?_ ?_; rotate_left; show Act.put _ (some 35) _ = _; simp only [aP, i64_w, i32_w]; rfl; refine pZ 22 (some 38) (bA 24 8388607) HT_.out ?_; refine pZ 23 (some 39) (bA 24 16777215) HT_.out ?_; refine done_ (done_of HT_.out (by kernel_rfl)) ?_
         try go_wp2
         go_ret
         exact ⟨eZ, Bq⟩
       ·replace c14 := Bool.eq_false_iff.mpr c14
        subst c14
        rw [if_neg (show ¬ (false = true) by decide)] at H; obtain rfl := Option.some.inj H; have p943 : 0 ≤ (x12_1 : Int) := dT; have q943 : x12_1 < (l1.length : Int) := dT; obtain ⟨ad943, e943, hx943_0, hx943_1⟩ := at_T51 HR1.out x12_1 p943 q943; cases e943; replace hx943_0 := (HB.out.cell (World.block_lt_of_cell? w _ hx943_0)).trans hx943_0; replace hx943_1 := (HB.out.cell (World.block_lt_of_cell? w _ hx943_1)).trans hx943_1; replace p943 := eq_true p943; replace q943 := eq_true q943
        try go_wp2_with (first | ((with_reducible refine gate_dst (N := 7) rfl ?_); refine bE 7 #[.int .i64 0, .int .i64 0] 51 ?_; intro gb944 hg w38 hbox hb; have n0_ := Rb HO_5 hb; have n1_ := Kb BK939 hb; have n2_ := Bc HB hb; have n3_ := am (hbox); have n4_ := Gm HB hg; have n5_ := Gm HB hg; have n6_ := Nl BK939 hg; have n7_ := Ng BK939 hg; clear HO_5 BK939 HB; revert n0_ n1_ n2_ n3_ n4_ n5_ n6_ n7_; intro HO_5 BK939 HB BK944 GW944 GE944 NB939_944 NB944_939; clear hb hbox hg; have hnb39 := NB944_939.out; have hnc39 := NB939_944.out; obtain ⟨hcz40_0, hcz40_1, hfz40_0, hfz40_1⟩ := cf2 (w := w38) BK944))
        have n0_ : Aside0 (Kd.R (Kd.int .i64) 3 ((w38.setCell ⟨gb944, 0, none⟩ (.int .i64 ((rd_T51 l1 x12_1).f0))).setCell ⟨gb944, 1, none⟩ (.int .i64 ((rd_T51 l1 x12_1).f1))) w.heap.size (fun _ => True) u5 x5_1) := ⟨Rz (Kd.R_mono (Kd.R_far (p := ⟨gb944, 1, none⟩) (Kd.R_far (p := ⟨gb944, 0, none⟩) (Kd.R_types HO_5.out BK944.out (by decide)) (fun _ hk => hk.2) (.int .i64 ((rd_T51 l1 x12_1).f0))) (fun _ hk => hk.2) (.int .i64 ((rd_T51 l1 x12_1).f1))) (fun _ hk => trivial))⟩; have n1_ : Aside0 (((w38.setCell ⟨gb944, 0, none⟩ (.int .i64 ((rd_T51 l1 x12_1).f0))).setCell ⟨gb944, 1, none⟩ (.int .i64 ((rd_T51 l1 x12_1).f1))).heap[gb939]? = some (.cells #[.int .i64 a0_0, .slice A0_1 l0_1.length c0_1] 37 (0, 0))) := ⟨by (with_reducible repeat (first | refine blk_drewN ?_ _ | refine blk_drew ?_ | refine blk_alloc ?_ _)); refine blk_far ?_ NB939_944.out _; (with_reducible repeat (first | refine blk_drewN ?_ _ | refine blk_drew ?_ | refine blk_alloc ?_ _)); refine blk_far ?_ NB939_944.out _; (with_reducible repeat (first | refine blk_drewN ?_ _ | refine blk_drew ?_ | refine blk_alloc ?_ _)); exact BK939.out⟩; have n2_ : Aside0 (((w38.setCell ⟨gb944, 0, none⟩ (.int .i64 ((rd_T51 l1 x12_1).f0))).setCell ⟨gb944, 1, none⟩ (.int .i64 ((rd_T51 l1 x12_1).f1))).heap[gb944]? = some (.cells #[.int .i64 ((rd_T51 l1 x12_1).f0), .int .i64 ((rd_T51 l1 x12_1).f1)] 51 (0, 0))) := ⟨by (with_reducible repeat (first | refine blk_drewN ?_ _ | refine blk_drew ?_ | refine blk_alloc ?_ _)); refine blk_put (cs := #[.int .i64 ((rd_T51 l1 x12_1).f0), .int .i64 0]) ?_ 1 _ rfl; (with_reducible repeat (first | refine blk_drewN ?_ _ | refine blk_drew ?_ | refine blk_alloc ?_ _)); refine blk_put (cs := #[.int .i64 0, .int .i64 0]) ?_ 0 _ rfl; (with_reducible repeat (first | refine blk_drewN ?_ _ | refine blk_drew ?_ | refine blk_alloc ?_ _)); exact BK944.out⟩; have n3_ : Aside0 (Below w.heap.size w ((w38.setCell ⟨gb944, 0, none⟩ (.int .i64 ((rd_T51 l1 x12_1).f0))).setCell ⟨gb944, 1, none⟩ (.int .i64 ((rd_T51 l1 x12_1).f1)))) := ⟨Bq⟩
        (try clear HO_5)
        (try clear BK939)
        (try clear BK944)
        (try clear HB)
        generalize ((w38.setCell ⟨gb944, 0, none⟩ (.int .i64 ((rd_T51 l1 x12_1).f0))).setCell ⟨gb944, 1, none⟩ (.int .i64 ((rd_T51 l1 x12_1).f1))) = w41 at n0_ n1_ n2_ n3_ ⊢; revert n0_ n1_ n2_ n3_; intro HO_5 BK939 BK944 HB; have n0_ := am (Kd.R_drew HO_5.out); have n1_ := am (blk_drew BK939.out); have n2_ := am (blk_drew BK944.out); have n3_ := am (below_drew1 HB.out); clear HO_5 BK939 BK944 HB; revert n0_ n1_ n2_ n3_; intro HO_5 BK939 BK944 HB; obtain ⟨Ao43, co43, eo43⟩ := Kd.R_slice HO_5.out
        (first | subst eo43 | (injection eo43 with f1_ f2_ f3_; have f4_ := f1_.symm; have f5_ := f3_.symm; clear f1_ f2_ f3_; subst f4_; subst f5_))
        refine start_ (n := 24) (S := fun w' => w'.cell? ⟨gb944, 0, none⟩ = some (.int .i64 ((rd_T51 l1 x12_1).f0)) ∧ w'.cell? ⟨gb944, 1, none⟩ = some (.int .i64 ((rd_T51 l1 x12_1).f1)) ∧ w'.cell? ⟨gb939, 0, none⟩ = some (.int .i64 a0_0) ∧ w'.cell? ⟨gb939, 1, none⟩ = some (.slice A0_1 l0_1.length c0_1)) (ds := []) (bA 24 0) (by kernel_rfl) rfl rfl ⟨cz BK944 0, cz BK944 1, cz BK939 0, cz BK939 1⟩ (fun hHeld => ?_); refine with_tabW spec_peOrder.tab5 spec_peOrder.bits5 (fun HT_ HW_ => ?_); generalize w41.drew = w42 at HO_5 BK939 BK944 HB hHeld ⊢; refine pZ 0 (some 16) (bA 24 1) HT_.out ?_; refine pZ 1 (some 17) (bA 24 3) HT_.out ?_; refine tZ4 2 (some 18) (bA 24 7) HT_.out HW_.out hHeld ?_; refine oZ 3 (some 19) (bA 24 15) HT_.out (fun K hK => ?_); refine gZ Try.func143 #[.slice Ao43 x5_1.length co43, .int .i64 ((rd_T51 l1 x12_1).f0)] ?_
        with_reducible refine (spec_l1Has.calls k1 _ _ x5_1 ((rd_T51 l1 x12_1).f0) true _ ?side1 ?side2 A10.out).mono ?_
        (case side1 => exact Cz ((Kd.R_reads' HO_5.out).2.2))
        (case side2 => exact (Kd.R_reads' HO_5.out).2.1)
        rintro e w' ⟨rfl, ⟨nd, rfl⟩⟩; refine ⟨_, rfl, ?_⟩; refine hK.out _ _ ⟨cz BK944 0, cz BK944 1, cz BK939 0, cz BK939 1⟩ (fun hHeld => ?_); clear hK K; refine norm_ (a' := ?_) ?_ ?_; rotate_left; show Act.put _ (some 19) _ = _; simp only [aP, i64_w, i32_w]; rfl; refine pZ 4 (some 20) (bA 24 31) HT_.out ?_; refine pZ 5 (some 21) (bA 24 63) HT_.out ?_; refine pZ 7 (some 23) (bA 24 191) HT_.out ?_; refine pZ 9 (some 25) (bA 24 703) HT_.out ?_; refine tZ4 6 (some 22) (bA 24 767) HT_.out HW_.out hHeld ?_; refine tZ4 10 (some 26) (bA 24 1791) HT_.out HW_.out hHeld ?_; refine oZ 8 (some 24) (bA 24 2047) HT_.out (fun K hK => ?_); refine gZ Try.func89 #[.agg #[.int .i64 a0_0, .slice A0_1 l0_1.length c0_1], .slice Ao43 x5_1.length co43] ?_
        with_reducible refine (spec_peFree.calls k1 a0_0 _ _ l0_1 _ _ x5_1 t946 _ ?side1 ?side2 ?side3 ?side4 A12.out).mono ?_
        (case side1 => exact Cz (Kd.C_below HR0_1.out (Bq)))
        (case side2 => exact HC0_1.out)
        (case side3 => exact Cz ((Kd.R_reads' HO_5.out).2.2))
        (case side4 => exact (Kd.R_reads' HO_5.out).2.1)
        rintro e w44 ⟨v947, rfl, ho0, hb⟩; refine ⟨_, rfl, ?_⟩; have n0_ := Re HO_5 (Kd.R_base ho0) hb; have n1_ := Rm (Kd.R_new' ho0 (Kd.R_lt (Rz HO_5.out))) HB; have n2_ := Kb BK939 hb; have n3_ := Kb BK944 hb; have n4_ := Bc HB hb; clear HO_5 BK939 BK944 HB; revert n0_ n1_ n2_ n3_ n4_; intro HO_5 HO948 BK939 BK944 HB
        (try clear hb)
        (try clear hb2)
        (try clear hk)
        (try clear hi)
        (try clear ho0)
        obtain ⟨Ao45, co45, eo45⟩ := Kd.R_slice HO948.out
        (first | subst eo45 | (injection eo45 with f1_ f2_ f3_; have f4_ := f1_.symm; have f5_ := f3_.symm; clear f1_ f2_ f3_; subst f4_; subst f5_))
        refine hK.out _ _ ⟨cz BK944 0, cz BK944 1, cz BK939 0, cz BK939 1⟩ (fun hHeld => ?_); clear hK K; refine norm_ (a' := ?_) ?_ ?_; rotate_left; show Act.put _ (some 24) _ = _; simp only [aP, i64_w, i32_w]; rfl; refine oZ 11 (some 27) (bA 24 4095) HT_.out (fun K hK => ?_); refine gZ Try.func143 #[.slice Ao45 t946.length co45, .int .i64 ((rd_T51 l1 x12_1).f1)] ?_
        with_reducible refine (spec_l1Has.calls k1 _ _ t946 ((rd_T51 l1 x12_1).f1) false _ ?side1 ?side2 A13.out).mono ?_
        (case side1 => exact Cz ((Kd.R_reads' HO948.out).2.2))
        (case side2 => exact (Kd.R_reads' HO948.out).2.1)
        rintro e w' ⟨rfl, ⟨nd, rfl⟩⟩; refine ⟨_, rfl, ?_⟩; refine hK.out _ _ ⟨cz BK944 0, cz BK944 1, cz BK939 0, cz BK939 1⟩ (fun hHeld => ?_); clear hK K; refine norm_ (a' := ?_) ?_ ?_; rotate_left; show Act.put _ (some 27) _ = _; simp only [aP, i64_w, i32_w]; rfl; refine pZ 12 (some 28) (bA 24 8191) HT_.out ?_; refine pZ 13 (some 29) (bA 24 16383) HT_.out ?_; refine pZ 14 (some 30) (bA 24 32767) HT_.out ?_; refine sZ 15 (some 31) (bA 24 65535) HT_.out ?_; refine sZ 16 (some 32) (bA 24 131071) HT_.out ?_; refine sZ 17 (some 33) (bA 24 262143) HT_.out ?_; refine sZ 18 (some 34) (bA 24 524287) HT_.out ?_; refine sZ 19 (some 35) (bA 24 1048575) HT_.out ?_; refine sZ 20 (some 36) (bA 24 2097151) HT_.out ?_; refine sZ 21 (some 37) (bA 24 4194303) HT_.out ?_; refine sZ 22 (some 38) (bA 24 8388607) HT_.out ?_; refine pZ 23 (some 39) (bA 24 16777215) HT_.out ?_; refine done_ (done_of HT_.out (by kernel_rfl)) ?_
        try go_wp2
        go_ret
        exact ⟨eZ, Bq⟩
      ·replace c11 := Bool.eq_false_iff.mpr c11
       subst c11
       rw [if_neg (show ¬ (false = true) by decide)] at H; obtain rfl := Option.some.inj H; have p943 : 0 ≤ (x12_1 : Int) := dT; have q943 : x12_1 < (l1.length : Int) := dT; obtain ⟨ad943, e943, hx943_0, hx943_1⟩ := at_T51 HR1.out x12_1 p943 q943; cases e943; replace hx943_0 := (HB.out.cell (World.block_lt_of_cell? w _ hx943_0)).trans hx943_0; replace hx943_1 := (HB.out.cell (World.block_lt_of_cell? w _ hx943_1)).trans hx943_1; replace p943 := eq_true p943; replace q943 := eq_true q943
       try go_wp2_with (first | ((with_reducible refine gate_dst (N := 7) rfl ?_); refine bE 7 #[.int .i64 0, .int .i64 0] 51 ?_; intro gb944 hg w46 hbox hb; have n0_ := Rb HO_5 hb; have n1_ := Kb BK939 hb; have n2_ := Bc HB hb; have n3_ := am (hbox); have n4_ := Gm HB hg; have n5_ := Gm HB hg; have n6_ := Nl BK939 hg; have n7_ := Ng BK939 hg; clear HO_5 BK939 HB; revert n0_ n1_ n2_ n3_ n4_ n5_ n6_ n7_; intro HO_5 BK939 HB BK944 GW944 GE944 NB939_944 NB944_939; clear hb hbox hg; have hnb47 := NB944_939.out; have hnc47 := NB939_944.out; obtain ⟨hcz48_0, hcz48_1, hfz48_0, hfz48_1⟩ := cf2 (w := w46) BK944))
       have n0_ : Aside0 (Kd.R (Kd.int .i64) 3 ((w46.setCell ⟨gb944, 0, none⟩ (.int .i64 ((rd_T51 l1 x12_1).f0))).setCell ⟨gb944, 1, none⟩ (.int .i64 ((rd_T51 l1 x12_1).f1))) w.heap.size (fun _ => True) u5 x5_1) := ⟨Rz (Kd.R_mono (Kd.R_far (p := ⟨gb944, 1, none⟩) (Kd.R_far (p := ⟨gb944, 0, none⟩) (Kd.R_types HO_5.out BK944.out (by decide)) (fun _ hk => hk.2) (.int .i64 ((rd_T51 l1 x12_1).f0))) (fun _ hk => hk.2) (.int .i64 ((rd_T51 l1 x12_1).f1))) (fun _ hk => trivial))⟩; have n1_ : Aside0 (((w46.setCell ⟨gb944, 0, none⟩ (.int .i64 ((rd_T51 l1 x12_1).f0))).setCell ⟨gb944, 1, none⟩ (.int .i64 ((rd_T51 l1 x12_1).f1))).heap[gb939]? = some (.cells #[.int .i64 a0_0, .slice A0_1 l0_1.length c0_1] 37 (0, 0))) := ⟨by (with_reducible repeat (first | refine blk_drewN ?_ _ | refine blk_drew ?_ | refine blk_alloc ?_ _)); refine blk_far ?_ NB939_944.out _; (with_reducible repeat (first | refine blk_drewN ?_ _ | refine blk_drew ?_ | refine blk_alloc ?_ _)); refine blk_far ?_ NB939_944.out _; (with_reducible repeat (first | refine blk_drewN ?_ _ | refine blk_drew ?_ | refine blk_alloc ?_ _)); exact BK939.out⟩; have n2_ : Aside0 (((w46.setCell ⟨gb944, 0, none⟩ (.int .i64 ((rd_T51 l1 x12_1).f0))).setCell ⟨gb944, 1, none⟩ (.int .i64 ((rd_T51 l1 x12_1).f1))).heap[gb944]? = some (.cells #[.int .i64 ((rd_T51 l1 x12_1).f0), .int .i64 ((rd_T51 l1 x12_1).f1)] 51 (0, 0))) := ⟨by (with_reducible repeat (first | refine blk_drewN ?_ _ | refine blk_drew ?_ | refine blk_alloc ?_ _)); refine blk_put (cs := #[.int .i64 ((rd_T51 l1 x12_1).f0), .int .i64 0]) ?_ 1 _ rfl; (with_reducible repeat (first | refine blk_drewN ?_ _ | refine blk_drew ?_ | refine blk_alloc ?_ _)); refine blk_put (cs := #[.int .i64 0, .int .i64 0]) ?_ 0 _ rfl; (with_reducible repeat (first | refine blk_drewN ?_ _ | refine blk_drew ?_ | refine blk_alloc ?_ _)); exact BK944.out⟩; have n3_ : Aside0 (Below w.heap.size w ((w46.setCell ⟨gb944, 0, none⟩ (.int .i64 ((rd_T51 l1 x12_1).f0))).setCell ⟨gb944, 1, none⟩ (.int .i64 ((rd_T51 l1 x12_1).f1)))) := ⟨Bq⟩
       (try clear HO_5)
       (try clear BK939)
       (try clear BK944)
       (try clear HB)
       generalize ((w46.setCell ⟨gb944, 0, none⟩ (.int .i64 ((rd_T51 l1 x12_1).f0))).setCell ⟨gb944, 1, none⟩ (.int .i64 ((rd_T51 l1 x12_1).f1))) = w49 at n0_ n1_ n2_ n3_ ⊢; revert n0_ n1_ n2_ n3_; intro HO_5 BK939 BK944 HB; have n0_ := am (Kd.R_drew HO_5.out); have n1_ := am (blk_drew BK939.out); have n2_ := am (blk_drew BK944.out); have n3_ := am (below_drew1 HB.out); clear HO_5 BK939 BK944 HB; revert n0_ n1_ n2_ n3_; intro HO_5 BK939 BK944 HB; obtain ⟨Ao51, co51, eo51⟩ := Kd.R_slice HO_5.out
       (first | subst eo51 | (injection eo51 with f1_ f2_ f3_; have f4_ := f1_.symm; have f5_ := f3_.symm; clear f1_ f2_ f3_; subst f4_; subst f5_))
       refine start_ (n := 24) (S := fun w' => w'.cell? ⟨gb944, 0, none⟩ = some (.int .i64 ((rd_T51 l1 x12_1).f0)) ∧ w'.cell? ⟨gb944, 1, none⟩ = some (.int .i64 ((rd_T51 l1 x12_1).f1))) (ds := []) (bA 24 0) (by kernel_rfl) rfl rfl ⟨cz BK944 0, cz BK944 1⟩ (fun hHeld => ?_); refine with_tabW spec_peOrder.tab5 spec_peOrder.bits5 (fun HT_ HW_ => ?_); generalize w49.drew = w50 at HO_5 BK939 BK944 HB hHeld ⊢; refine pZ 0 (some 16) (bA 24 1) HT_.out ?_; refine pZ 1 (some 17) (bA 24 3) HT_.out ?_; refine tZ2 2 (some 18) (bA 24 7) HT_.out HW_.out hHeld ?_; refine oZ 3 (some 19) (bA 24 15) HT_.out (fun K hK => ?_); refine gZ Try.func143 #[.slice Ao51 x5_1.length co51, .int .i64 ((rd_T51 l1 x12_1).f0)] ?_
       with_reducible refine (spec_l1Has.calls k1 _ _ x5_1 ((rd_T51 l1 x12_1).f0) false _ ?side1 ?side2 A10.out).mono ?_
       (case side1 => exact Cz ((Kd.R_reads' HO_5.out).2.2))
       (case side2 => exact (Kd.R_reads' HO_5.out).2.1)
       rintro e w' ⟨rfl, ⟨nd, rfl⟩⟩; refine ⟨_, rfl, ?_⟩; refine hK.out _ _ ⟨cz BK944 0, cz BK944 1⟩ (fun hHeld => ?_); clear hK K; refine norm_ (a' := ?_) ?_ ?_; rotate_left; show Act.put _ (some 19) _ = _; simp only [aP, i64_w, i32_w]; rfl; refine pZ 4 (some 20) (bA 24 31) HT_.out ?_; refine pZ 5 (some 21) (bA 24 63) HT_.out ?_; refine sZ 6 (some 22) (bA 24 127) HT_.out ?_; refine sZ 7 (some 23) (bA 24 255) HT_.out ?_; refine sZ 8 (some 24) (bA 24 511) HT_.out ?_; refine sZ 9 (some 25) (bA 24 1023) HT_.out ?_; refine sZ 10 (some 26) (bA 24 2047) HT_.out ?_; refine sZ 11 (some 27) (bA 24 4095) HT_.out ?_; refine sZ 12 (some 28) (bA 24 8191) HT_.out ?_; refine pZ 13 (some 29) (bA 24 16383) HT_.out ?_; refine pZ 14 (some 30) (bA 24 32767) HT_.out ?_; refine sZ 15 (some 31) (bA 24 65535) HT_.out ?_; refine sZ 16 (some 32) (bA 24 131071) HT_.out ?_; refine sZ 17 (some 33) (bA 24 262143) HT_.out ?_; refine sZ 18 (some 34) (bA 24 524287) HT_.out ?_; refine sZ 19 (some 35) (bA 24 1048575) HT_.out ?_; refine sZ 20 (some 36) (bA 24 2097151) HT_.out ?_; refine sZ 21 (some 37) (bA 24 4194303) HT_.out ?_; refine sZ 22 (some 38) (bA 24 8388607) HT_.out ?_; refine pZ 23 (some 39) (bA 24 16777215) HT_.out ?_; refine done_ (done_of HT_.out (by kernel_rfl)) ?_
       try go_wp2
       go_ret
       exact ⟨eZ, Bq⟩
     ·rw [if_neg c9] at H
      exact absurd H (by simp)
    ·rw [if_neg c8] at H
     exact absurd H (by simp)
   ·rw [if_neg c7] at H
    have c7b0 : decide (x12_1 < (l1.length : Int)) = false := decide_eq_false c7; clear c7; obtain rfl := Option.some.inj H; obtain ⟨Ao52, co52, eo52⟩ := Kd.R_slice HO_5.out; subst eo52
    go_wp2
    go_ret
    exact ⟨eZ, Bq⟩

def spec_IsPeelOrder.f (k : Nat) (a0_0 : Int) (l0_1 : List (List Int)) (l1 : List (S51)) : Option (Bool × Bool) := (spec_peGood.f k a0_0 l0_1).bind fun t955 => (if t955 = true then ((spec_peOrder.f k a0_0 l0_1 l1).bind fun t956 => (some (t956, true))) else (some (false, false)))
theorem spec_IsPeelOrder.calls (k : Nat) (a0_0 : Int) (A0_1 : Option Addr) (c0_1 : Nat) (l0_1 : List (List Int)) (A1 : Option Addr) (c1 : Nat) (l1 : List (S51)) (r1 : Bool) (r2 : Bool) (w : World) (hr0_1 : Kd.C (Kd.slice 3 (Kd.int .i64)) w A0_1 l0_1.length l0_1) (hc0_1 : l0_1.length ≤ c0_1) (hr1 : Kd.C k51 w A1 l1.length l1) (hc1 : l1.length ≤ c1) (h : spec_IsPeelOrder.f k a0_0 l0_1 l1 = some (r1, r2)) :
  Calls Try.prog 55 #[.agg #[.int .i64 a0_0, .slice A0_1 l0_1.length c0_1], .slice A1 l1.length c1] w fun e w' => e = .returned (.tuple #[.bool r1, .bool r2]) ∧ Below w.heap.size w w' := by
 have hu37 := Try.underlying37; have HR0_1 := am hr0_1; have HC0_1 := am hc0_1; clear hr0_1 hc0_1; have HR1 := am hr1; have HC1 := am hc1; clear hr1 hc1; have HB := am (Below.refl w.heap.size w); have H : ((spec_peGood.f k a0_0 l0_1).bind fun t955 => (if t955 = true then ((spec_peOrder.f k a0_0 l0_1 l1).bind fun t956 => (some (t956, true))) else (some (false, false)))) = some (r1, r2) := h; clear h; replace H := Option.bind_eq_some_iff.mp H; obtain ⟨t955, A30, H⟩ := H; (try dsimp -simprocs only at H); have A3 := am A30; clear A30
 by_cases c4 : t955 = true
 ·subst c4
  rw [if_pos rfl] at H; replace H := Option.bind_eq_some_iff.mp H; obtain ⟨t956, A50, H⟩ := H; (try dsimp -simprocs only at H); have A5 := am A50; clear A50
  simp only [Option.some.injEq, Prod.mk.injEq] at H
  obtain ⟨rfl, rfl⟩ := H
  go_enter Try.func55, Try.ntmps55
  go_wp2_with (first | ((with_reducible refine gate_dst (N := 2) rfl ?_); refine bE 2 #[.int .i64 a0_0, .slice A0_1 l0_1.length c0_1] 37 ?_; intro gb954 hg w6 hbox hb; have n0_ := Bb HB hb; have n1_ := am (hbox); have n2_ := Gl HB hg; have n3_ := Gl HB hg; clear HB; revert n0_ n1_ n2_ n3_; intro HB BK954 GW954 GE954; clear hb hbox hg; obtain ⟨hcz7_0, hcz7_1, hfz7_0, hfz7_1⟩ := cf2 (w := w6) BK954) | ((with_reducible refine gate_callee (f := 87) rfl ?_); refine gL (some 7) Try.func87 #[.agg #[.int .i64 a0_0, .slice A0_1 l0_1.length c0_1]] ?_; (with_reducible refine (spec_peGood.calls k a0_0 _ _ l0_1 true _ ?side1 ?side2 A3.out).mono ?_); (case side1 => exact Cz (Kd.C_below HR0_1.out HB.out)); (case side2 => exact HC0_1.out); rintro e w8 ⟨rfl, hb⟩; refine ⟨_, rfl, ?_⟩; have n0_ := Kb BK954 hb; have n1_ := Bc HB hb; clear BK954 HB; revert n0_ n1_; intro BK954 HB; (try clear hb); (try clear hb2); (try clear hk); (try clear hi); obtain ⟨hcz9_0, hcz9_1, hfz9_0, hfz9_1⟩ := cf2 (w := w8) BK954) | ((with_reducible refine gate_callee (f := 127) rfl ?_); refine gL (some 11) Try.func127 #[.agg #[.int .i64 a0_0, .slice A0_1 l0_1.length c0_1], .slice A1 l1.length c1] ?_; (with_reducible refine (spec_peOrder.calls k a0_0 _ _ l0_1 _ _ l1 t956 _ ?side1 ?side2 ?side3 ?side4 A5.out).mono ?_); (case side1 => exact Cz (Kd.C_below HR0_1.out HB.out)); (case side2 => exact HC0_1.out); (case side3 => exact Cz (Kd.C_below HR1.out HB.out)); (case side4 => exact HC1.out); rintro e w10 ⟨rfl, hb⟩; refine ⟨_, rfl, ?_⟩; have n0_ := Kb BK954 hb; have n1_ := Bc HB hb; clear BK954 HB; revert n0_ n1_; intro BK954 HB; (try clear hb); (try clear hb2); (try clear hk); (try clear hi)))
  go_ret2
  exact ⟨eZ, Bq⟩
 ·replace c4 := Bool.eq_false_iff.mpr c4
  subst c4
  rw [if_neg (show ¬ (false = true) by decide)] at H
  simp only [Option.some.injEq, Prod.mk.injEq] at H
  obtain ⟨rfl, rfl⟩ := H
  go_enter Try.func55, Try.ntmps55
  go_wp2_with (first | ((with_reducible refine gate_dst (N := 2) rfl ?_); refine bE 2 #[.int .i64 a0_0, .slice A0_1 l0_1.length c0_1] 37 ?_; intro gb954 hg w11 hbox hb; have n0_ := Bb HB hb; have n1_ := am (hbox); have n2_ := Gl HB hg; have n3_ := Gl HB hg; clear HB; revert n0_ n1_ n2_ n3_; intro HB BK954 GW954 GE954; clear hb hbox hg; obtain ⟨hcz12_0, hcz12_1, hfz12_0, hfz12_1⟩ := cf2 (w := w11) BK954) | ((with_reducible refine gate_callee (f := 87) rfl ?_); refine gL (some 7) Try.func87 #[.agg #[.int .i64 a0_0, .slice A0_1 l0_1.length c0_1]] ?_; (with_reducible refine (spec_peGood.calls k a0_0 _ _ l0_1 false _ ?side1 ?side2 A3.out).mono ?_); (case side1 => exact Cz (Kd.C_below HR0_1.out HB.out)); (case side2 => exact HC0_1.out); rintro e w13 ⟨rfl, hb⟩; refine ⟨_, rfl, ?_⟩; have n0_ := Kb BK954 hb; have n1_ := Bc HB hb; clear BK954 HB; revert n0_ n1_; intro BK954 HB; (try clear hb); (try clear hb2); (try clear hk); (try clear hi)))
  go_ret2
  exact ⟨eZ, Bq⟩

def laws_FnProofsExclude.j0 : Nat → List Int → Bool → Bool → Int → List (List Int) → Option (Bool)
 | 0, _, _, _, _, _ => none
 | k + 1, x1, x7, x46, x966000, x966001 => if x46 = true then (some false) else ((spec_DrawIsPeelOrder.f k x1).bind fun bt970 => ((impl_IsPeelOrder.f k x966000 x966001 bt970.2.2).bind fun bt978 => ((spec_IsPeelOrder.f k x966000 x966001 bt970.2.2).bind fun bt980 => (if (bt978.2 != bt980.2) = true then (some false) else (if (bt978.1 != bt980.1) = true then (some false) else (if x7 = true then (if bt978.1 = true then (some false) else ((impl_PeelOrder.f k x966000 x966001).bind fun bt982 => (some (!bt982.2)))) else ((impl_PeelOrder.f k x966000 x966001).bind fun bt986 => (some true))))))))
def laws_FnProofsExclude.f (k : Nat) (l0 : List Int) (l1 : List Int) : Option (Bool) := (laws_big.f l0 l1).bind fun t957 => (if t957 = true then (some true) else ((spec_DrawIsCore.f k l0).bind fun bt958 => ((impl_IsCore.f k bt958.1 bt958.2.1 bt958.2.2).bind fun bt966 => ((spec_IsCore.f k bt958.1 bt958.2.1 bt958.2.2).bind fun bt968 => (if (bt966.2 != bt968.2) = true then (laws_FnProofsExclude.j0 k l1 bt966.1 true bt958.1 bt958.2.1) else (laws_FnProofsExclude.j0 k l1 bt966.1 (bt966.1 != bt968.1) bt958.1 bt958.2.1))))))
theorem laws_FnProofsExclude.calls (k : Nat) (A0 : Option Addr) (c0 : Nat) (l0 : List Int) (A1 : Option Addr) (c1 : Nat) (l1 : List Int) (r : Bool) (w : World) (hr0 : Kd.C (Kd.int .u8) w A0 l0.length l0) (hc0 : l0.length ≤ c0) (hr1 : Kd.C (Kd.int .u8) w A1 l1.length l1) (hc1 : l1.length ≤ c1) (h : laws_FnProofsExclude.f k l0 l1 = some r) :
  Calls Try.prog 10 #[.slice A0 l0.length c0, .slice A1 l1.length c1] w fun e w' => e = .returned (.bool r) ∧ Below w.heap.size w w' := by
 have hu37 := Try.underlying37; have HR0 := am hr0; have HC0 := am hc0; clear hr0 hc0; have HR1 := am hr1; have HC1 := am hc1; clear hr1 hc1; have HB := am (Below.refl w.heap.size w); have H : ((laws_big.f l0 l1).bind fun t957 => (if t957 = true then (some true) else ((spec_DrawIsCore.f k l0).bind fun bt958 => ((impl_IsCore.f k bt958.1 bt958.2.1 bt958.2.2).bind fun bt966 => ((spec_IsCore.f k bt958.1 bt958.2.1 bt958.2.2).bind fun bt968 => (if (bt966.2 != bt968.2) = true then (laws_FnProofsExclude.j0 k l1 bt966.1 true bt958.1 bt958.2.1) else (laws_FnProofsExclude.j0 k l1 bt966.1 (bt966.1 != bt968.1) bt958.1 bt958.2.1))))))) = some r := h; clear h; replace H := Option.bind_eq_some_iff.mp H; obtain ⟨t957, A30, H⟩ := H; (try dsimp -simprocs only at H); have A3 := am A30; clear A30
 by_cases c4 : t957 = true
 ·subst c4
  rw [if_pos rfl] at H; obtain rfl := Option.some.inj H
  go_enter Try.func10, Try.ntmps10
  go_wp2_with (first | ((with_reducible refine gate_callee (f := 12) rfl ?_); refine gL (some 21) Try.func12 #[.slice A0 l0.length c0, .slice A1 l1.length c1] ?_; (with_reducible refine (laws_big.calls _ _ l0 _ _ l1 true _ ?side1 ?side2 ?side3 ?side4 A3.out).mono ?_); (case side1 => exact Cz HR0.out); (case side2 => exact HC0.out); (case side3 => exact Cz HR1.out); (case side4 => exact HC1.out); rintro e w' ⟨rfl, ⟨nd, rfl⟩⟩; refine ⟨_, rfl, ?_⟩))
  go_ret
  exact ⟨eZ, Bz HB.out⟩
 ·replace c4 := Bool.eq_false_iff.mpr c4
  subst c4
  rw [if_neg (show ¬ (false = true) by decide)] at H; replace H := Option.bind_eq_some_iff.mp H; obtain ⟨⟨t958, t959, t962⟩, A50, H⟩ := H; (try dsimp -simprocs only at H); have A5 := am A50; clear A50; replace H := Option.bind_eq_some_iff.mp H; obtain ⟨⟨t966, t967⟩, A60, H⟩ := H; (try dsimp -simprocs only at H); have A6 := am A60; clear A60; replace H := Option.bind_eq_some_iff.mp H; obtain ⟨⟨t968, t969⟩, A70, H⟩ := H; (try dsimp -simprocs only at H); have A7 := am A70; clear A70; have HC8 := am H; clear H
  go_enter Try.func10, Try.ntmps10
  go_upto_region 6 with (first | ((with_reducible refine gate_callee (f := 12) rfl ?_); refine gL (some 21) Try.func12 #[.slice A0 l0.length c0, .slice A1 l1.length c1] ?_; (with_reducible refine (laws_big.calls _ _ l0 _ _ l1 false _ ?side1 ?side2 ?side3 ?side4 A3.out).mono ?_); (case side1 => exact Cz HR0.out); (case side2 => exact HC0.out); (case side3 => exact Cz HR1.out); (case side4 => exact HC1.out); rintro e w' ⟨rfl, ⟨nd, rfl⟩⟩; refine ⟨_, rfl, ?_⟩) | ((with_reducible refine gate_callee (f := 52) rfl ?_); refine gL (some 24) Try.func52 #[.slice A0 l0.length c0] ?_; (with_reducible refine (spec_DrawIsCore.calls k _ _ l0 t958 t959 t962 _ ?side1 ?side2 A5.out).mono ?_); (case side1 => exact Cz HR0.out); (case side2 => exact HC0.out); rintro e w9 ⟨v960, v963, rfl, ho0, ho1, hb⟩; refine ⟨_, rfl, ?_⟩; have n0_ := am (Kd.S_lower ho0 (below_size (Bz HB.out))); have n1_ := Rl ho1 HB; have n2_ := Bb HB hb; clear HB; revert n0_ n1_ n2_; intro HO961 HO964 HB; (try clear hb); (try clear hb2); (try clear hk); (try clear hi); (try clear ho0); (try clear ho1)) | ((with_reducible refine gate_dst (N := 5) rfl ?_); refine bE 5 #[.int .i64 0, .slice none 0 0] 37 ?_; intro gb965 hg w10 hbox hb; have n0_ := am (Kd.S_below (by (with_reducible repeat (first | apply Kd.S_alloc | apply Kd.S_drewN | apply Kd.S_drew)); exact HO961.out) hb); have n1_ := Rb HO964 hb; have n2_ := Bb HB hb; have n3_ := am (hbox); have n4_ := Gl HB hg; have n5_ := Gl HB hg; clear HO961 HO964 HB; revert n0_ n1_ n2_ n3_ n4_ n5_; intro HO961 HO964 HB BK965 GW965 GE965; clear hb hbox hg; obtain ⟨hcz11_0, hcz11_1, hfz11_0, hfz11_1⟩ := cf2 (w := w10) BK965; obtain ⟨Ao12, co12, eo12⟩ := Kd.S_slice HO961.out; subst eo12; obtain ⟨Ao13, co13, eo13⟩ := Kd.R_slice HO964.out; subst eo13) | ((with_reducible refine gate_callee (f := 45) rfl ?_); refine gL (some 30) Try.func45 #[.agg #[.int .i64 t958, .slice Ao12 t959.length co12], .slice Ao13 t962.length co13] ?_; (with_reducible refine (impl_IsCore.calls k t958 _ _ t959 _ _ t962 t966 t967 _ ?side1 ?side2 ?side3 ?side4 A6.out).mono ?_); (case side1 => refine (Kd.S_reads' (e := 32) (base := w.heap.size) (ok := fun k_ => some k_ ≠ (.slice Ao13 t962.length co13 : Value).ownBlock) (n := t959.length) (c := co12) ?_).2.2; exact (by (with_reducible repeat (first | apply Kd.S_alloc | apply Kd.S_drewN | apply Kd.S_drew)); exact (Kd.S_mono (Kd.S_far (p := ⟨gb965, 1, none⟩) (Kd.S_far (p := ⟨gb965, 0, none⟩) (Kd.S_types HO961.out BK965.out (by decide)) (fun _ hk => hk.2) (.int .i64 t958)) (fun _ hk => hk.2) (.slice Ao12 t959.length co12)) (fun _ h_ => h_.1)))); (case side2 => exact (Kd.S_reads' HO961.out).2.1); (case side3 => refine (Kd.R_reads' (e := 3) (base := w.heap.size) (ok := fun k_ => True) (n := t962.length) (c := co13) ?_).2.2; exact (Rz (Kd.R_mono (Kd.R_far (p := ⟨gb965, 1, none⟩) (Kd.R_far (p := ⟨gb965, 0, none⟩) (Kd.R_types HO964.out BK965.out (by decide)) (fun _ hk => hk.2) (.int .i64 t958)) (fun _ hk => hk.2) (.slice Ao12 t959.length co12)) (fun _ h_ => h_.1)))); (case side4 => exact (Kd.R_reads' HO964.out).2.1); rintro e w14 ⟨rfl, hb⟩; refine ⟨_, rfl, ?_⟩; have n0_ := am (Kd.S_below (by (with_reducible repeat (first | apply Kd.S_alloc | apply Kd.S_drewN | apply Kd.S_drew)); exact (Kd.S_mono (Kd.S_far (p := ⟨gb965, 1, none⟩) (Kd.S_far (p := ⟨gb965, 0, none⟩) (Kd.S_types HO961.out BK965.out (by decide)) (fun _ hk => hk.2) (.int .i64 t958)) (fun _ hk => hk.2) (.slice Ao12 t959.length co12)) (fun _ h_ => h_.1))) hb); have n1_ := am (Kd.R_below (Rz (Kd.R_mono (Kd.R_far (p := ⟨gb965, 1, none⟩) (Kd.R_far (p := ⟨gb965, 0, none⟩) (Kd.R_types HO964.out BK965.out (by decide)) (fun _ hk => hk.2) (.int .i64 t958)) (fun _ hk => hk.2) (.slice Ao12 t959.length co12)) (fun _ h_ => h_.1))) hb); have n2_ := am (blk_below (g := gb965) (o := .cells #[.int .i64 t958, .slice Ao12 t959.length co12] 37 (0, 0)) (by (with_reducible repeat (first | refine blk_drewN ?_ _ | refine blk_drew ?_ | refine blk_alloc ?_ _)); refine blk_put (cs := #[.int .i64 t958, .slice none 0 0]) ?_ 1 _ rfl; (with_reducible repeat (first | refine blk_drewN ?_ _ | refine blk_drew ?_ | refine blk_alloc ?_ _)); refine blk_put (cs := #[.int .i64 0, .slice none 0 0]) ?_ 0 _ rfl; exact Kz BK965.out) hb); have n3_ := Bc HB hb; clear HO961 HO964 BK965 HB; revert n0_ n1_ n2_ n3_; intro HO961 HO964 BK965 HB; (try clear hb); (try clear hb2); (try clear hk); (try clear hi); obtain ⟨hcz15_0, hcz15_1, hfz15_0, hfz15_1⟩ := cf2 (w := w14) BK965) | ((with_reducible refine gate_callee (f := 53) rfl ?_); refine gL (some 36) Try.func53 #[.agg #[.int .i64 t958, .slice Ao12 t959.length co12], .slice Ao13 t962.length co13] ?_; (with_reducible refine (spec_IsCore.calls k t958 _ _ t959 _ _ t962 t968 t969 _ ?side1 ?side2 ?side3 ?side4 A7.out).mono ?_); (case side1 => exact Cz ((Kd.S_reads' HO961.out).2.2)); (case side2 => exact (Kd.S_reads' HO961.out).2.1); (case side3 => exact Cz ((Kd.R_reads' HO964.out).2.2)); (case side4 => exact (Kd.R_reads' HO964.out).2.1); rintro e w16 ⟨rfl, hb⟩; refine ⟨_, rfl, ?_⟩; have n0_ := am (Kd.S_below (by (with_reducible repeat (first | apply Kd.S_alloc | apply Kd.S_drewN | apply Kd.S_drew)); exact HO961.out) hb); have n1_ := Rb HO964 hb; have n2_ := Kb BK965 hb; have n3_ := Bc HB hb; clear HO961 HO964 BK965 HB; revert n0_ n1_ n2_ n3_; intro HO961 HO964 BK965 HB; (try clear hb); (try clear hb2); (try clear hk); (try clear hi)))
  (try simp only [aP])
  go_cut [46] (fun v46 wc => ∃ (kq : Nat) (x46_7 : Bool), v46 = .bool x46_7 ∧ Aside0 (laws_FnProofsExclude.j0 kq l1 t966 x46_7 t958 t959 = some r) ∧ Aside0 (kq ≤ k) ∧ Aside0 (Kd.S (Kd.slice 3 (Kd.int .i64)) 32 wc w.heap.size (fun _ => True) (.slice Ao12 t959.length co12) t959) ∧ Aside0 (wc.heap[gb965]? = some (.cells #[.int .i64 t958, (.slice Ao12 t959.length co12)] 37 (0, 0))) ∧ Aside0 (Below w.heap.size w wc))
  case first =>
   have H := HC8.out; clear HC8
   by_cases c17 : (t967 != t969) = true
   ·rw [if_pos c17] at H
    have c17b0 : (t967 != t969) = true := c17
    (try (have c17b1 : decide (t967 = t969) = false := by simpa using c17))
    (try (have c17b2 : (t967 == t969) = false := by simpa using c17))
    (try (have c17b3 : ¬ (t967 = t969) := by simpa using c17))
    clear c17
    (first | rw [c17b0] | (simp only [i64_w, i32_w]; rw [c17b0]) | skip)
    have H' := am H; clear H
    go_wp2
    go_meet
    case rel => exact ⟨_, (true), wZ, H', ⟨by first | omega | exact Nat.le_refl _⟩, ⟨by (with_reducible repeat (first | apply Kd.S_alloc | apply Kd.S_drewN | apply Kd.S_drew)); exact Kd.S_mono HO961.out (fun _ hk => trivial)⟩, ⟨Kz BK965.out⟩, ⟨Bq⟩⟩
   ·rw [if_neg c17] at H
    have c17b0 : (t967 != t969) = false := by simpa using c17
    (try (have c17b1 : decide (t967 = t969) = true := by simpa using c17))
    (try (have c17b2 : (t967 == t969) = true := by simpa using c17))
    clear c17
    (first | rw [c17b0] | (simp only [i64_w, i32_w]; rw [c17b0]) | skip)
    have H' := am H; clear H
    go_wp2
    go_meet
    case rel => exact ⟨_, ((t966 != t968)), wZ, H', ⟨by first | omega | exact Nat.le_refl _⟩, ⟨by (with_reducible repeat (first | apply Kd.S_alloc | apply Kd.S_drewN | apply Kd.S_drew)); exact Kd.S_mono HO961.out (fun _ hk => trivial)⟩, ⟨Kz BK965.out⟩, ⟨Bq⟩⟩
  case rest =>
   clear HC8
   try clear c1
   try clear p2
   try clear c4
   try clear c5
   try clear c10
   try clear c12
   try clear c17
   try clear c17b0
   try clear c17b1
   try clear c17b2
   try clear hcz11_0
   try clear hcz11_1
   try clear hcz15_0
   try clear hcz15_1
   try clear hfz11_0
   try clear hfz11_1
   try clear hfz15_0
   try clear hfz15_1
   obtain ⟨kq, x46_7, rfl, HA, HJ7, HO_966001, BK965, HB⟩ := hcut; cases kq with
   | zero => exact absurd HA.out (by simp [laws_FnProofsExclude.j0])
   | succ kj7 =>
    have H := HA.out; clear HA
    simp only [laws_FnProofsExclude.j0] at H
    by_cases c18 : x46_7 = true
    ·subst c18
     rw [if_pos rfl] at H; obtain rfl := Option.some.inj H
     go_wp2
     go_ret
     exact ⟨eZ, Bq⟩
    ·replace c18 := Bool.eq_false_iff.mpr c18
     subst c18
     rw [if_neg (show ¬ (false = true) by decide)] at H; replace H := Option.bind_eq_some_iff.mp H; obtain ⟨⟨t970, t971, t974⟩, A190, H⟩ := H; (try dsimp -simprocs only at H); have A19 := am A190; clear A190; replace H := Option.bind_eq_some_iff.mp H; obtain ⟨⟨t978, t979⟩, A200, H⟩ := H; (try dsimp -simprocs only at H); have A20 := am A200; clear A200; replace H := Option.bind_eq_some_iff.mp H; obtain ⟨⟨t980, t981⟩, A210, H⟩ := H; (try dsimp -simprocs only at H); have A21 := am A210; clear A210
     by_cases c22 : (t979 != t981) = true
     ·rw [if_pos c22] at H
      have c22b0 : (t979 != t981) = true := c22
      (try (have c22b1 : decide (t979 = t981) = false := by simpa using c22))
      (try (have c22b2 : (t979 == t981) = false := by simpa using c22))
      (try (have c22b3 : ¬ (t979 = t981) := by simpa using c22))
      clear c22; obtain rfl := Option.some.inj H
      go_wp2_with (first | ((with_reducible refine gate_callee (f := 54) rfl ?_); refine gL (some 49) Try.func54 #[.slice A1 l1.length c1] ?_; (with_reducible refine (spec_DrawIsPeelOrder.calls kj7 _ _ l1 t970 t971 t974 _ ?side1 ?side2 A19.out).mono ?_); (case side1 => exact Cz (Kd.C_below HR1.out HB.out)); (case side2 => exact HC1.out); rintro e w23 ⟨v972, v975, rfl, ho0, ho1, hb⟩; refine ⟨_, rfl, ?_⟩; have n0_ := am (Kd.S_elder' (by (with_reducible repeat (first | apply Kd.S_alloc | apply Kd.S_drewN | apply Kd.S_drew)); exact HO_966001.out) (Kd.S_base ho0) hb); have n1_ := am (Kd.S_lower (Kd.S_new' ho0 (Kd.S_lt (by (with_reducible repeat (first | apply Kd.S_alloc | apply Kd.S_drewN | apply Kd.S_drew)); exact HO_966001.out))) (below_size (w := w) (Bq))); have n2_ := Rm ho1 HB; have n3_ := Kb BK965 hb; have n4_ := Bc HB hb; clear HO_966001 BK965 HB; revert n0_ n1_ n2_ n3_ n4_; intro HO_966001 HO973 HO976 BK965 HB; (try clear hb); (try clear hb2); (try clear hk); (try clear hi); (try clear ho0); (try clear ho1)) | ((with_reducible refine gate_dst (N := 11) rfl ?_); refine bE 11 #[.int .i64 0, .slice none 0 0] 37 ?_; intro gb977 hg w24 hbox hb; have n0_ := am (Kd.S_below (by (with_reducible repeat (first | apply Kd.S_alloc | apply Kd.S_drewN | apply Kd.S_drew)); exact HO_966001.out) hb); have n1_ := am (Kd.S_below (by (with_reducible repeat (first | apply Kd.S_alloc | apply Kd.S_drewN | apply Kd.S_drew)); exact HO973.out) hb); have n2_ := Rb HO976 hb; have n3_ := Kb BK965 hb; have n4_ := Bc HB hb; have n5_ := am (hbox); have n6_ := Gm HB hg; have n7_ := Gm HB hg; have n8_ := Nl BK965 hg; have n9_ := Ng BK965 hg; clear HO_966001 HO973 HO976 BK965 HB; revert n0_ n1_ n2_ n3_ n4_ n5_ n6_ n7_ n8_ n9_; intro HO_966001 HO973 HO976 BK965 HB BK977 GW977 GE977 NB965_977 NB977_965; clear hb hbox hg; have hnb25 := NB977_965.out; have hnc25 := NB965_977.out; obtain ⟨hcz26_0, hcz26_1, hfz26_0, hfz26_1⟩ := cf2 (w := w24) BK977; obtain ⟨Ao27, co27, eo27⟩ := Kd.S_slice HO973.out; subst eo27; obtain ⟨hcz28_0, hcz28_1, hfz28_0, hfz28_1⟩ := cf2 (w := w24) BK965; obtain ⟨Ao29, co29, eo29⟩ := Kd.R_slice HO976.out; subst eo29) | ((with_reducible refine gate_callee (f := 47) rfl ?_); refine gL (some 55) Try.func47 #[.agg #[.int .i64 t958, .slice Ao12 t959.length co12], .slice Ao29 t974.length co29] ?_; (with_reducible refine (impl_IsPeelOrder.calls kj7 t958 _ _ t959 _ _ t974 t978 t979 _ ?side1 ?side2 ?side3 ?side4 A20.out).mono ?_); (case side1 => refine (Kd.S_reads' (e := 32) (base := w.heap.size) (ok := fun k_ => (True ∧ some k_ ≠ (.slice Ao27 t971.length co27 : Value).ownBlock)) (n := t959.length) (c := co12) ?_).2.2; exact (by (with_reducible repeat (first | apply Kd.S_alloc | apply Kd.S_drewN | apply Kd.S_drew)); exact (Kd.S_mono (Kd.S_far (p := ⟨gb977, 1, none⟩) (Kd.S_far (p := ⟨gb977, 0, none⟩) (Kd.S_types HO_966001.out BK977.out (by decide)) (fun _ hk => hk.2) (.int .i64 t970)) (fun _ hk => hk.2) (.slice Ao27 t971.length co27)) (fun _ h_ => h_.1)))); (case side2 => exact (Kd.S_reads' HO_966001.out).2.1); (case side3 => refine (Kd.R_reads' (e := 51) (base := w.heap.size) (ok := fun k_ => True) (n := t974.length) (c := co29) ?_).2.2; exact (Rz (Kd.R_mono (Kd.R_far (p := ⟨gb977, 1, none⟩) (Kd.R_far (p := ⟨gb977, 0, none⟩) (Kd.R_types HO976.out BK977.out (by decide)) (fun _ hk => hk.2) (.int .i64 t970)) (fun _ hk => hk.2) (.slice Ao27 t971.length co27)) (fun _ h_ => h_.1)))); (case side4 => exact (Kd.R_reads' HO976.out).2.1); rintro e w30 ⟨rfl, hb⟩; refine ⟨_, rfl, ?_⟩; have n0_ := am (Kd.S_below (by (with_reducible repeat (first | apply Kd.S_alloc | apply Kd.S_drewN | apply Kd.S_drew)); exact (Kd.S_mono (Kd.S_far (p := ⟨gb977, 1, none⟩) (Kd.S_far (p := ⟨gb977, 0, none⟩) (Kd.S_types HO_966001.out BK977.out (by decide)) (fun _ hk => hk.2) (.int .i64 t970)) (fun _ hk => hk.2) (.slice Ao27 t971.length co27)) (fun _ h_ => h_.1))) hb); have n1_ := am (Kd.S_below (by (with_reducible repeat (first | apply Kd.S_alloc | apply Kd.S_drewN | apply Kd.S_drew)); exact (Kd.S_mono (Kd.S_far (p := ⟨gb977, 1, none⟩) (Kd.S_far (p := ⟨gb977, 0, none⟩) (Kd.S_types HO973.out BK977.out (by decide)) (fun _ hk => hk.2) (.int .i64 t970)) (fun _ hk => hk.2) (.slice Ao27 t971.length co27)) (fun _ h_ => h_.1))) hb); have n2_ := am (Kd.R_below (Rz (Kd.R_mono (Kd.R_far (p := ⟨gb977, 1, none⟩) (Kd.R_far (p := ⟨gb977, 0, none⟩) (Kd.R_types HO976.out BK977.out (by decide)) (fun _ hk => hk.2) (.int .i64 t970)) (fun _ hk => hk.2) (.slice Ao27 t971.length co27)) (fun _ h_ => h_.1))) hb); have n3_ := am (blk_below (g := gb965) (o := .cells #[.int .i64 t958, .slice Ao12 t959.length co12] 37 (0, 0)) (by (with_reducible repeat (first | refine blk_drewN ?_ _ | refine blk_drew ?_ | refine blk_alloc ?_ _)); refine blk_far ?_ NB965_977.out _; (with_reducible repeat (first | refine blk_drewN ?_ _ | refine blk_drew ?_ | refine blk_alloc ?_ _)); refine blk_far ?_ NB965_977.out _; exact Kz BK965.out) hb); have n4_ := am (blk_below (g := gb977) (o := .cells #[.int .i64 t970, .slice Ao27 t971.length co27] 37 (0, 0)) (by (with_reducible repeat (first | refine blk_drewN ?_ _ | refine blk_drew ?_ | refine blk_alloc ?_ _)); refine blk_put (cs := #[.int .i64 t970, .slice none 0 0]) ?_ 1 _ rfl; (with_reducible repeat (first | refine blk_drewN ?_ _ | refine blk_drew ?_ | refine blk_alloc ?_ _)); refine blk_put (cs := #[.int .i64 0, .slice none 0 0]) ?_ 0 _ rfl; exact Kz BK977.out) hb); have n5_ := Bc HB hb; clear HO_966001 HO973 HO976 BK965 BK977 HB; revert n0_ n1_ n2_ n3_ n4_ n5_; intro HO_966001 HO973 HO976 BK965 BK977 HB; (try clear hb); (try clear hb2); (try clear hk); (try clear hi); obtain ⟨hcz31_0, hcz31_1, hfz31_0, hfz31_1⟩ := cf2 (w := w30) BK965) | ((with_reducible refine gate_callee (f := 55) rfl ?_); refine gL (some 61) Try.func55 #[.agg #[.int .i64 t958, .slice Ao12 t959.length co12], .slice Ao29 t974.length co29] ?_; (with_reducible refine (spec_IsPeelOrder.calls kj7 t958 _ _ t959 _ _ t974 t980 t981 _ ?side1 ?side2 ?side3 ?side4 A21.out).mono ?_); (case side1 => exact Cz ((Kd.S_reads' HO_966001.out).2.2)); (case side2 => exact (Kd.S_reads' HO_966001.out).2.1); (case side3 => exact Cz ((Kd.R_reads' HO976.out).2.2)); (case side4 => exact (Kd.R_reads' HO976.out).2.1); rintro e w32 ⟨rfl, hb⟩; refine ⟨_, rfl, ?_⟩; have n0_ := am (Kd.S_below (by (with_reducible repeat (first | apply Kd.S_alloc | apply Kd.S_drewN | apply Kd.S_drew)); exact HO_966001.out) hb); have n1_ := am (Kd.S_below (by (with_reducible repeat (first | apply Kd.S_alloc | apply Kd.S_drewN | apply Kd.S_drew)); exact HO973.out) hb); have n2_ := Rb HO976 hb; have n3_ := Kb BK965 hb; have n4_ := Kb BK977 hb; have n5_ := Bc HB hb; clear HO_966001 HO973 HO976 BK965 BK977 HB; revert n0_ n1_ n2_ n3_ n4_ n5_; intro HO_966001 HO973 HO976 BK965 BK977 HB; (try clear hb); (try clear hb2); (try clear hk); (try clear hi)))
      go_ret
      exact ⟨eZ, Bq⟩
     ·rw [if_neg c22] at H
      have c22b0 : (t979 != t981) = false := by simpa using c22
      (try (have c22b1 : decide (t979 = t981) = true := by simpa using c22))
      (try (have c22b2 : (t979 == t981) = true := by simpa using c22))
      clear c22
      by_cases c33 : (t978 != t980) = true
      ·rw [if_pos c33] at H
       have c33b0 : (t978 != t980) = true := c33
       (try (have c33b1 : decide (t978 = t980) = false := by simpa using c33))
       (try (have c33b2 : (t978 == t980) = false := by simpa using c33))
       (try (have c33b3 : ¬ (t978 = t980) := by simpa using c33))
       clear c33; obtain rfl := Option.some.inj H
       go_wp2_with (first | ((with_reducible refine gate_callee (f := 54) rfl ?_); refine gL (some 49) Try.func54 #[.slice A1 l1.length c1] ?_; (with_reducible refine (spec_DrawIsPeelOrder.calls kj7 _ _ l1 t970 t971 t974 _ ?side1 ?side2 A19.out).mono ?_); (case side1 => exact Cz (Kd.C_below HR1.out HB.out)); (case side2 => exact HC1.out); rintro e w34 ⟨v972, v975, rfl, ho0, ho1, hb⟩; refine ⟨_, rfl, ?_⟩; have n0_ := am (Kd.S_elder' (by (with_reducible repeat (first | apply Kd.S_alloc | apply Kd.S_drewN | apply Kd.S_drew)); exact HO_966001.out) (Kd.S_base ho0) hb); have n1_ := am (Kd.S_lower (Kd.S_new' ho0 (Kd.S_lt (by (with_reducible repeat (first | apply Kd.S_alloc | apply Kd.S_drewN | apply Kd.S_drew)); exact HO_966001.out))) (below_size (w := w) (Bq))); have n2_ := Rm ho1 HB; have n3_ := Kb BK965 hb; have n4_ := Bc HB hb; clear HO_966001 BK965 HB; revert n0_ n1_ n2_ n3_ n4_; intro HO_966001 HO973 HO976 BK965 HB; (try clear hb); (try clear hb2); (try clear hk); (try clear hi); (try clear ho0); (try clear ho1)) | ((with_reducible refine gate_dst (N := 11) rfl ?_); refine bE 11 #[.int .i64 0, .slice none 0 0] 37 ?_; intro gb977 hg w35 hbox hb; have n0_ := am (Kd.S_below (by (with_reducible repeat (first | apply Kd.S_alloc | apply Kd.S_drewN | apply Kd.S_drew)); exact HO_966001.out) hb); have n1_ := am (Kd.S_below (by (with_reducible repeat (first | apply Kd.S_alloc | apply Kd.S_drewN | apply Kd.S_drew)); exact HO973.out) hb); have n2_ := Rb HO976 hb; have n3_ := Kb BK965 hb; have n4_ := Bc HB hb; have n5_ := am (hbox); have n6_ := Gm HB hg; have n7_ := Gm HB hg; have n8_ := Nl BK965 hg; have n9_ := Ng BK965 hg; clear HO_966001 HO973 HO976 BK965 HB; revert n0_ n1_ n2_ n3_ n4_ n5_ n6_ n7_ n8_ n9_; intro HO_966001 HO973 HO976 BK965 HB BK977 GW977 GE977 NB965_977 NB977_965; clear hb hbox hg; have hnb36 := NB977_965.out; have hnc36 := NB965_977.out; obtain ⟨hcz37_0, hcz37_1, hfz37_0, hfz37_1⟩ := cf2 (w := w35) BK977; obtain ⟨Ao38, co38, eo38⟩ := Kd.S_slice HO973.out; subst eo38; obtain ⟨hcz39_0, hcz39_1, hfz39_0, hfz39_1⟩ := cf2 (w := w35) BK965; obtain ⟨Ao40, co40, eo40⟩ := Kd.R_slice HO976.out; subst eo40) | ((with_reducible refine gate_callee (f := 47) rfl ?_); refine gL (some 55) Try.func47 #[.agg #[.int .i64 t958, .slice Ao12 t959.length co12], .slice Ao40 t974.length co40] ?_; (with_reducible refine (impl_IsPeelOrder.calls kj7 t958 _ _ t959 _ _ t974 t978 t979 _ ?side1 ?side2 ?side3 ?side4 A20.out).mono ?_); (case side1 => refine (Kd.S_reads' (e := 32) (base := w.heap.size) (ok := fun k_ => (True ∧ some k_ ≠ (.slice Ao38 t971.length co38 : Value).ownBlock)) (n := t959.length) (c := co12) ?_).2.2; exact (by (with_reducible repeat (first | apply Kd.S_alloc | apply Kd.S_drewN | apply Kd.S_drew)); exact (Kd.S_mono (Kd.S_far (p := ⟨gb977, 1, none⟩) (Kd.S_far (p := ⟨gb977, 0, none⟩) (Kd.S_types HO_966001.out BK977.out (by decide)) (fun _ hk => hk.2) (.int .i64 t970)) (fun _ hk => hk.2) (.slice Ao38 t971.length co38)) (fun _ h_ => h_.1)))); (case side2 => exact (Kd.S_reads' HO_966001.out).2.1); (case side3 => refine (Kd.R_reads' (e := 51) (base := w.heap.size) (ok := fun k_ => True) (n := t974.length) (c := co40) ?_).2.2; exact (Rz (Kd.R_mono (Kd.R_far (p := ⟨gb977, 1, none⟩) (Kd.R_far (p := ⟨gb977, 0, none⟩) (Kd.R_types HO976.out BK977.out (by decide)) (fun _ hk => hk.2) (.int .i64 t970)) (fun _ hk => hk.2) (.slice Ao38 t971.length co38)) (fun _ h_ => h_.1)))); (case side4 => exact (Kd.R_reads' HO976.out).2.1); rintro e w41 ⟨rfl, hb⟩; refine ⟨_, rfl, ?_⟩; have n0_ := am (Kd.S_below (by (with_reducible repeat (first | apply Kd.S_alloc | apply Kd.S_drewN | apply Kd.S_drew)); exact (Kd.S_mono (Kd.S_far (p := ⟨gb977, 1, none⟩) (Kd.S_far (p := ⟨gb977, 0, none⟩) (Kd.S_types HO_966001.out BK977.out (by decide)) (fun _ hk => hk.2) (.int .i64 t970)) (fun _ hk => hk.2) (.slice Ao38 t971.length co38)) (fun _ h_ => h_.1))) hb); have n1_ := am (Kd.S_below (by (with_reducible repeat (first | apply Kd.S_alloc | apply Kd.S_drewN | apply Kd.S_drew)); exact (Kd.S_mono (Kd.S_far (p := ⟨gb977, 1, none⟩) (Kd.S_far (p := ⟨gb977, 0, none⟩) (Kd.S_types HO973.out BK977.out (by decide)) (fun _ hk => hk.2) (.int .i64 t970)) (fun _ hk => hk.2) (.slice Ao38 t971.length co38)) (fun _ h_ => h_.1))) hb); have n2_ := am (Kd.R_below (Rz (Kd.R_mono (Kd.R_far (p := ⟨gb977, 1, none⟩) (Kd.R_far (p := ⟨gb977, 0, none⟩) (Kd.R_types HO976.out BK977.out (by decide)) (fun _ hk => hk.2) (.int .i64 t970)) (fun _ hk => hk.2) (.slice Ao38 t971.length co38)) (fun _ h_ => h_.1))) hb); have n3_ := am (blk_below (g := gb965) (o := .cells #[.int .i64 t958, .slice Ao12 t959.length co12] 37 (0, 0)) (by (with_reducible repeat (first | refine blk_drewN ?_ _ | refine blk_drew ?_ | refine blk_alloc ?_ _)); refine blk_far ?_ NB965_977.out _; (with_reducible repeat (first | refine blk_drewN ?_ _ | refine blk_drew ?_ | refine blk_alloc ?_ _)); refine blk_far ?_ NB965_977.out _; exact Kz BK965.out) hb); have n4_ := am (blk_below (g := gb977) (o := .cells #[.int .i64 t970, .slice Ao38 t971.length co38] 37 (0, 0)) (by (with_reducible repeat (first | refine blk_drewN ?_ _ | refine blk_drew ?_ | refine blk_alloc ?_ _)); refine blk_put (cs := #[.int .i64 t970, .slice none 0 0]) ?_ 1 _ rfl; (with_reducible repeat (first | refine blk_drewN ?_ _ | refine blk_drew ?_ | refine blk_alloc ?_ _)); refine blk_put (cs := #[.int .i64 0, .slice none 0 0]) ?_ 0 _ rfl; exact Kz BK977.out) hb); have n5_ := Bc HB hb; clear HO_966001 HO973 HO976 BK965 BK977 HB; revert n0_ n1_ n2_ n3_ n4_ n5_; intro HO_966001 HO973 HO976 BK965 BK977 HB; (try clear hb); (try clear hb2); (try clear hk); (try clear hi); obtain ⟨hcz42_0, hcz42_1, hfz42_0, hfz42_1⟩ := cf2 (w := w41) BK965) | ((with_reducible refine gate_callee (f := 55) rfl ?_); refine gL (some 61) Try.func55 #[.agg #[.int .i64 t958, .slice Ao12 t959.length co12], .slice Ao40 t974.length co40] ?_; (with_reducible refine (spec_IsPeelOrder.calls kj7 t958 _ _ t959 _ _ t974 t980 t981 _ ?side1 ?side2 ?side3 ?side4 A21.out).mono ?_); (case side1 => exact Cz ((Kd.S_reads' HO_966001.out).2.2)); (case side2 => exact (Kd.S_reads' HO_966001.out).2.1); (case side3 => exact Cz ((Kd.R_reads' HO976.out).2.2)); (case side4 => exact (Kd.R_reads' HO976.out).2.1); rintro e w43 ⟨rfl, hb⟩; refine ⟨_, rfl, ?_⟩; have n0_ := am (Kd.S_below (by (with_reducible repeat (first | apply Kd.S_alloc | apply Kd.S_drewN | apply Kd.S_drew)); exact HO_966001.out) hb); have n1_ := am (Kd.S_below (by (with_reducible repeat (first | apply Kd.S_alloc | apply Kd.S_drewN | apply Kd.S_drew)); exact HO973.out) hb); have n2_ := Rb HO976 hb; have n3_ := Kb BK965 hb; have n4_ := Kb BK977 hb; have n5_ := Bc HB hb; clear HO_966001 HO973 HO976 BK965 BK977 HB; revert n0_ n1_ n2_ n3_ n4_ n5_; intro HO_966001 HO973 HO976 BK965 BK977 HB; (try clear hb); (try clear hb2); (try clear hk); (try clear hi)))
       go_ret
       exact ⟨eZ, Bq⟩
      ·rw [if_neg c33] at H
       have c33b0 : (t978 != t980) = false := by simpa using c33
       (try (have c33b1 : decide (t978 = t980) = true := by simpa using c33))
       (try (have c33b2 : (t978 == t980) = true := by simpa using c33))
       clear c33
       by_cases c44 : t966 = true
       ·subst c44
        rw [if_pos rfl] at H
        by_cases c45 : t978 = true
        ·subst c45
         rw [if_pos rfl] at H; obtain rfl := Option.some.inj H
         go_wp2_with (first | ((with_reducible refine gate_callee (f := 54) rfl ?_); refine gL (some 49) Try.func54 #[.slice A1 l1.length c1] ?_; (with_reducible refine (spec_DrawIsPeelOrder.calls kj7 _ _ l1 t970 t971 t974 _ ?side1 ?side2 A19.out).mono ?_); (case side1 => exact Cz (Kd.C_below HR1.out HB.out)); (case side2 => exact HC1.out); rintro e w46 ⟨v972, v975, rfl, ho0, ho1, hb⟩; refine ⟨_, rfl, ?_⟩; have n0_ := am (Kd.S_elder' (by (with_reducible repeat (first | apply Kd.S_alloc | apply Kd.S_drewN | apply Kd.S_drew)); exact HO_966001.out) (Kd.S_base ho0) hb); have n1_ := am (Kd.S_lower (Kd.S_new' ho0 (Kd.S_lt (by (with_reducible repeat (first | apply Kd.S_alloc | apply Kd.S_drewN | apply Kd.S_drew)); exact HO_966001.out))) (below_size (w := w) (Bq))); have n2_ := Rm ho1 HB; have n3_ := Kb BK965 hb; have n4_ := Bc HB hb; clear HO_966001 BK965 HB; revert n0_ n1_ n2_ n3_ n4_; intro HO_966001 HO973 HO976 BK965 HB; (try clear hb); (try clear hb2); (try clear hk); (try clear hi); (try clear ho0); (try clear ho1)) | ((with_reducible refine gate_dst (N := 11) rfl ?_); refine bE 11 #[.int .i64 0, .slice none 0 0] 37 ?_; intro gb977 hg w47 hbox hb; have n0_ := am (Kd.S_below (by (with_reducible repeat (first | apply Kd.S_alloc | apply Kd.S_drewN | apply Kd.S_drew)); exact HO_966001.out) hb); have n1_ := am (Kd.S_below (by (with_reducible repeat (first | apply Kd.S_alloc | apply Kd.S_drewN | apply Kd.S_drew)); exact HO973.out) hb); have n2_ := Rb HO976 hb; have n3_ := Kb BK965 hb; have n4_ := Bc HB hb; have n5_ := am (hbox); have n6_ := Gm HB hg; have n7_ := Gm HB hg; have n8_ := Nl BK965 hg; have n9_ := Ng BK965 hg; clear HO_966001 HO973 HO976 BK965 HB; revert n0_ n1_ n2_ n3_ n4_ n5_ n6_ n7_ n8_ n9_; intro HO_966001 HO973 HO976 BK965 HB BK977 GW977 GE977 NB965_977 NB977_965; clear hb hbox hg; have hnb48 := NB977_965.out; have hnc48 := NB965_977.out; obtain ⟨hcz49_0, hcz49_1, hfz49_0, hfz49_1⟩ := cf2 (w := w47) BK977; obtain ⟨Ao50, co50, eo50⟩ := Kd.S_slice HO973.out; subst eo50; obtain ⟨hcz51_0, hcz51_1, hfz51_0, hfz51_1⟩ := cf2 (w := w47) BK965; obtain ⟨Ao52, co52, eo52⟩ := Kd.R_slice HO976.out; subst eo52) | ((with_reducible refine gate_callee (f := 47) rfl ?_); refine gL (some 55) Try.func47 #[.agg #[.int .i64 t958, .slice Ao12 t959.length co12], .slice Ao52 t974.length co52] ?_; (with_reducible refine (impl_IsPeelOrder.calls kj7 t958 _ _ t959 _ _ t974 true t979 _ ?side1 ?side2 ?side3 ?side4 A20.out).mono ?_); (case side1 => refine (Kd.S_reads' (e := 32) (base := w.heap.size) (ok := fun k_ => (True ∧ some k_ ≠ (.slice Ao50 t971.length co50 : Value).ownBlock)) (n := t959.length) (c := co12) ?_).2.2; exact (by (with_reducible repeat (first | apply Kd.S_alloc | apply Kd.S_drewN | apply Kd.S_drew)); exact (Kd.S_mono (Kd.S_far (p := ⟨gb977, 1, none⟩) (Kd.S_far (p := ⟨gb977, 0, none⟩) (Kd.S_types HO_966001.out BK977.out (by decide)) (fun _ hk => hk.2) (.int .i64 t970)) (fun _ hk => hk.2) (.slice Ao50 t971.length co50)) (fun _ h_ => h_.1)))); (case side2 => exact (Kd.S_reads' HO_966001.out).2.1); (case side3 => refine (Kd.R_reads' (e := 51) (base := w.heap.size) (ok := fun k_ => True) (n := t974.length) (c := co52) ?_).2.2; exact (Rz (Kd.R_mono (Kd.R_far (p := ⟨gb977, 1, none⟩) (Kd.R_far (p := ⟨gb977, 0, none⟩) (Kd.R_types HO976.out BK977.out (by decide)) (fun _ hk => hk.2) (.int .i64 t970)) (fun _ hk => hk.2) (.slice Ao50 t971.length co50)) (fun _ h_ => h_.1)))); (case side4 => exact (Kd.R_reads' HO976.out).2.1); rintro e w53 ⟨rfl, hb⟩; refine ⟨_, rfl, ?_⟩; have n0_ := am (Kd.S_below (by (with_reducible repeat (first | apply Kd.S_alloc | apply Kd.S_drewN | apply Kd.S_drew)); exact (Kd.S_mono (Kd.S_far (p := ⟨gb977, 1, none⟩) (Kd.S_far (p := ⟨gb977, 0, none⟩) (Kd.S_types HO_966001.out BK977.out (by decide)) (fun _ hk => hk.2) (.int .i64 t970)) (fun _ hk => hk.2) (.slice Ao50 t971.length co50)) (fun _ h_ => h_.1))) hb); have n1_ := am (Kd.S_below (by (with_reducible repeat (first | apply Kd.S_alloc | apply Kd.S_drewN | apply Kd.S_drew)); exact (Kd.S_mono (Kd.S_far (p := ⟨gb977, 1, none⟩) (Kd.S_far (p := ⟨gb977, 0, none⟩) (Kd.S_types HO973.out BK977.out (by decide)) (fun _ hk => hk.2) (.int .i64 t970)) (fun _ hk => hk.2) (.slice Ao50 t971.length co50)) (fun _ h_ => h_.1))) hb); have n2_ := am (Kd.R_below (Rz (Kd.R_mono (Kd.R_far (p := ⟨gb977, 1, none⟩) (Kd.R_far (p := ⟨gb977, 0, none⟩) (Kd.R_types HO976.out BK977.out (by decide)) (fun _ hk => hk.2) (.int .i64 t970)) (fun _ hk => hk.2) (.slice Ao50 t971.length co50)) (fun _ h_ => h_.1))) hb); have n3_ := am (blk_below (g := gb965) (o := .cells #[.int .i64 t958, .slice Ao12 t959.length co12] 37 (0, 0)) (by (with_reducible repeat (first | refine blk_drewN ?_ _ | refine blk_drew ?_ | refine blk_alloc ?_ _)); refine blk_far ?_ NB965_977.out _; (with_reducible repeat (first | refine blk_drewN ?_ _ | refine blk_drew ?_ | refine blk_alloc ?_ _)); refine blk_far ?_ NB965_977.out _; exact Kz BK965.out) hb); have n4_ := am (blk_below (g := gb977) (o := .cells #[.int .i64 t970, .slice Ao50 t971.length co50] 37 (0, 0)) (by (with_reducible repeat (first | refine blk_drewN ?_ _ | refine blk_drew ?_ | refine blk_alloc ?_ _)); refine blk_put (cs := #[.int .i64 t970, .slice none 0 0]) ?_ 1 _ rfl; (with_reducible repeat (first | refine blk_drewN ?_ _ | refine blk_drew ?_ | refine blk_alloc ?_ _)); refine blk_put (cs := #[.int .i64 0, .slice none 0 0]) ?_ 0 _ rfl; exact Kz BK977.out) hb); have n5_ := Bc HB hb; clear HO_966001 HO973 HO976 BK965 BK977 HB; revert n0_ n1_ n2_ n3_ n4_ n5_; intro HO_966001 HO973 HO976 BK965 BK977 HB; (try clear hb); (try clear hb2); (try clear hk); (try clear hi); obtain ⟨hcz54_0, hcz54_1, hfz54_0, hfz54_1⟩ := cf2 (w := w53) BK965) | ((with_reducible refine gate_callee (f := 55) rfl ?_); refine gL (some 61) Try.func55 #[.agg #[.int .i64 t958, .slice Ao12 t959.length co12], .slice Ao52 t974.length co52] ?_; (with_reducible refine (spec_IsPeelOrder.calls kj7 t958 _ _ t959 _ _ t974 t980 t981 _ ?side1 ?side2 ?side3 ?side4 A21.out).mono ?_); (case side1 => exact Cz ((Kd.S_reads' HO_966001.out).2.2)); (case side2 => exact (Kd.S_reads' HO_966001.out).2.1); (case side3 => exact Cz ((Kd.R_reads' HO976.out).2.2)); (case side4 => exact (Kd.R_reads' HO976.out).2.1); rintro e w55 ⟨rfl, hb⟩; refine ⟨_, rfl, ?_⟩; have n0_ := am (Kd.S_below (by (with_reducible repeat (first | apply Kd.S_alloc | apply Kd.S_drewN | apply Kd.S_drew)); exact HO_966001.out) hb); have n1_ := am (Kd.S_below (by (with_reducible repeat (first | apply Kd.S_alloc | apply Kd.S_drewN | apply Kd.S_drew)); exact HO973.out) hb); have n2_ := Rb HO976 hb; have n3_ := Kb BK965 hb; have n4_ := Kb BK977 hb; have n5_ := Bc HB hb; clear HO_966001 HO973 HO976 BK965 BK977 HB; revert n0_ n1_ n2_ n3_ n4_ n5_; intro HO_966001 HO973 HO976 BK965 BK977 HB; (try clear hb); (try clear hb2); (try clear hk); (try clear hi)))
         go_ret
         exact ⟨eZ, Bq⟩
        ·replace c45 := Bool.eq_false_iff.mpr c45
         subst c45
         rw [if_neg (show ¬ (false = true) by decide)] at H; replace H := Option.bind_eq_some_iff.mp H; obtain ⟨⟨t982, t985⟩, A560, H⟩ := H; (try dsimp -simprocs only at H); have A56 := am A560; clear A560; obtain rfl := Option.some.inj H
         go_wp2_with (first | ((with_reducible refine gate_callee (f := 54) rfl ?_); refine gL (some 49) Try.func54 #[.slice A1 l1.length c1] ?_; (with_reducible refine (spec_DrawIsPeelOrder.calls kj7 _ _ l1 t970 t971 t974 _ ?side1 ?side2 A19.out).mono ?_); (case side1 => exact Cz (Kd.C_below HR1.out HB.out)); (case side2 => exact HC1.out); rintro e w57 ⟨v972, v975, rfl, ho0, ho1, hb⟩; refine ⟨_, rfl, ?_⟩; have n0_ := am (Kd.S_elder' (by (with_reducible repeat (first | apply Kd.S_alloc | apply Kd.S_drewN | apply Kd.S_drew)); exact HO_966001.out) (Kd.S_base ho0) hb); have n1_ := am (Kd.S_lower (Kd.S_new' ho0 (Kd.S_lt (by (with_reducible repeat (first | apply Kd.S_alloc | apply Kd.S_drewN | apply Kd.S_drew)); exact HO_966001.out))) (below_size (w := w) (Bq))); have n2_ := Rm ho1 HB; have n3_ := Kb BK965 hb; have n4_ := Bc HB hb; clear HO_966001 BK965 HB; revert n0_ n1_ n2_ n3_ n4_; intro HO_966001 HO973 HO976 BK965 HB; (try clear hb); (try clear hb2); (try clear hk); (try clear hi); (try clear ho0); (try clear ho1)) | ((with_reducible refine gate_dst (N := 11) rfl ?_); refine bE 11 #[.int .i64 0, .slice none 0 0] 37 ?_; intro gb977 hg w58 hbox hb; have n0_ := am (Kd.S_below (by (with_reducible repeat (first | apply Kd.S_alloc | apply Kd.S_drewN | apply Kd.S_drew)); exact HO_966001.out) hb); have n1_ := am (Kd.S_below (by (with_reducible repeat (first | apply Kd.S_alloc | apply Kd.S_drewN | apply Kd.S_drew)); exact HO973.out) hb); have n2_ := Rb HO976 hb; have n3_ := Kb BK965 hb; have n4_ := Bc HB hb; have n5_ := am (hbox); have n6_ := Gm HB hg; have n7_ := Gm HB hg; have n8_ := Nl BK965 hg; have n9_ := Ng BK965 hg; clear HO_966001 HO973 HO976 BK965 HB; revert n0_ n1_ n2_ n3_ n4_ n5_ n6_ n7_ n8_ n9_; intro HO_966001 HO973 HO976 BK965 HB BK977 GW977 GE977 NB965_977 NB977_965; clear hb hbox hg; have hnb59 := NB977_965.out; have hnc59 := NB965_977.out; obtain ⟨hcz60_0, hcz60_1, hfz60_0, hfz60_1⟩ := cf2 (w := w58) BK977; obtain ⟨Ao61, co61, eo61⟩ := Kd.S_slice HO973.out; subst eo61; obtain ⟨hcz62_0, hcz62_1, hfz62_0, hfz62_1⟩ := cf2 (w := w58) BK965; obtain ⟨Ao63, co63, eo63⟩ := Kd.R_slice HO976.out; subst eo63) | ((with_reducible refine gate_callee (f := 47) rfl ?_); refine gL (some 55) Try.func47 #[.agg #[.int .i64 t958, .slice Ao12 t959.length co12], .slice Ao63 t974.length co63] ?_; (with_reducible refine (impl_IsPeelOrder.calls kj7 t958 _ _ t959 _ _ t974 false t979 _ ?side1 ?side2 ?side3 ?side4 A20.out).mono ?_); (case side1 => refine (Kd.S_reads' (e := 32) (base := w.heap.size) (ok := fun k_ => (True ∧ some k_ ≠ (.slice Ao61 t971.length co61 : Value).ownBlock)) (n := t959.length) (c := co12) ?_).2.2; exact (by (with_reducible repeat (first | apply Kd.S_alloc | apply Kd.S_drewN | apply Kd.S_drew)); exact (Kd.S_mono (Kd.S_far (p := ⟨gb977, 1, none⟩) (Kd.S_far (p := ⟨gb977, 0, none⟩) (Kd.S_types HO_966001.out BK977.out (by decide)) (fun _ hk => hk.2) (.int .i64 t970)) (fun _ hk => hk.2) (.slice Ao61 t971.length co61)) (fun _ h_ => h_.1)))); (case side2 => exact (Kd.S_reads' HO_966001.out).2.1); (case side3 => refine (Kd.R_reads' (e := 51) (base := w.heap.size) (ok := fun k_ => True) (n := t974.length) (c := co63) ?_).2.2; exact (Rz (Kd.R_mono (Kd.R_far (p := ⟨gb977, 1, none⟩) (Kd.R_far (p := ⟨gb977, 0, none⟩) (Kd.R_types HO976.out BK977.out (by decide)) (fun _ hk => hk.2) (.int .i64 t970)) (fun _ hk => hk.2) (.slice Ao61 t971.length co61)) (fun _ h_ => h_.1)))); (case side4 => exact (Kd.R_reads' HO976.out).2.1); rintro e w64 ⟨rfl, hb⟩; refine ⟨_, rfl, ?_⟩; have n0_ := am (Kd.S_below (by (with_reducible repeat (first | apply Kd.S_alloc | apply Kd.S_drewN | apply Kd.S_drew)); exact (Kd.S_mono (Kd.S_far (p := ⟨gb977, 1, none⟩) (Kd.S_far (p := ⟨gb977, 0, none⟩) (Kd.S_types HO_966001.out BK977.out (by decide)) (fun _ hk => hk.2) (.int .i64 t970)) (fun _ hk => hk.2) (.slice Ao61 t971.length co61)) (fun _ h_ => h_.1))) hb); have n1_ := am (Kd.S_below (by (with_reducible repeat (first | apply Kd.S_alloc | apply Kd.S_drewN | apply Kd.S_drew)); exact (Kd.S_mono (Kd.S_far (p := ⟨gb977, 1, none⟩) (Kd.S_far (p := ⟨gb977, 0, none⟩) (Kd.S_types HO973.out BK977.out (by decide)) (fun _ hk => hk.2) (.int .i64 t970)) (fun _ hk => hk.2) (.slice Ao61 t971.length co61)) (fun _ h_ => h_.1))) hb); have n2_ := am (Kd.R_below (Rz (Kd.R_mono (Kd.R_far (p := ⟨gb977, 1, none⟩) (Kd.R_far (p := ⟨gb977, 0, none⟩) (Kd.R_types HO976.out BK977.out (by decide)) (fun _ hk => hk.2) (.int .i64 t970)) (fun _ hk => hk.2) (.slice Ao61 t971.length co61)) (fun _ h_ => h_.1))) hb); have n3_ := am (blk_below (g := gb965) (o := .cells #[.int .i64 t958, .slice Ao12 t959.length co12] 37 (0, 0)) (by (with_reducible repeat (first | refine blk_drewN ?_ _ | refine blk_drew ?_ | refine blk_alloc ?_ _)); refine blk_far ?_ NB965_977.out _; (with_reducible repeat (first | refine blk_drewN ?_ _ | refine blk_drew ?_ | refine blk_alloc ?_ _)); refine blk_far ?_ NB965_977.out _; exact Kz BK965.out) hb); have n4_ := am (blk_below (g := gb977) (o := .cells #[.int .i64 t970, .slice Ao61 t971.length co61] 37 (0, 0)) (by (with_reducible repeat (first | refine blk_drewN ?_ _ | refine blk_drew ?_ | refine blk_alloc ?_ _)); refine blk_put (cs := #[.int .i64 t970, .slice none 0 0]) ?_ 1 _ rfl; (with_reducible repeat (first | refine blk_drewN ?_ _ | refine blk_drew ?_ | refine blk_alloc ?_ _)); refine blk_put (cs := #[.int .i64 0, .slice none 0 0]) ?_ 0 _ rfl; exact Kz BK977.out) hb); have n5_ := Bc HB hb; clear HO_966001 HO973 HO976 BK965 BK977 HB; revert n0_ n1_ n2_ n3_ n4_ n5_; intro HO_966001 HO973 HO976 BK965 BK977 HB; (try clear hb); (try clear hb2); (try clear hk); (try clear hi); obtain ⟨hcz65_0, hcz65_1, hfz65_0, hfz65_1⟩ := cf2 (w := w64) BK965) | ((with_reducible refine gate_callee (f := 55) rfl ?_); refine gL (some 61) Try.func55 #[.agg #[.int .i64 t958, .slice Ao12 t959.length co12], .slice Ao63 t974.length co63] ?_; (with_reducible refine (spec_IsPeelOrder.calls kj7 t958 _ _ t959 _ _ t974 t980 t981 _ ?side1 ?side2 ?side3 ?side4 A21.out).mono ?_); (case side1 => exact Cz ((Kd.S_reads' HO_966001.out).2.2)); (case side2 => exact (Kd.S_reads' HO_966001.out).2.1); (case side3 => exact Cz ((Kd.R_reads' HO976.out).2.2)); (case side4 => exact (Kd.R_reads' HO976.out).2.1); rintro e w66 ⟨rfl, hb⟩; refine ⟨_, rfl, ?_⟩; have n0_ := am (Kd.S_below (by (with_reducible repeat (first | apply Kd.S_alloc | apply Kd.S_drewN | apply Kd.S_drew)); exact HO_966001.out) hb); have n1_ := am (Kd.S_below (by (with_reducible repeat (first | apply Kd.S_alloc | apply Kd.S_drewN | apply Kd.S_drew)); exact HO973.out) hb); have n2_ := Rb HO976 hb; have n3_ := Kb BK965 hb; have n4_ := Kb BK977 hb; have n5_ := Bc HB hb; clear HO_966001 HO973 HO976 BK965 BK977 HB; revert n0_ n1_ n2_ n3_ n4_ n5_; intro HO_966001 HO973 HO976 BK965 BK977 HB; (try clear hb); (try clear hb2); (try clear hk); (try clear hi); obtain ⟨hcz67_0, hcz67_1, hfz67_0, hfz67_1⟩ := cf2 (w := w66) BK965) | ((with_reducible refine gate_callee (f := 41) rfl ?_); refine gL (some 80) Try.func41 #[.agg #[.int .i64 t958, .slice Ao12 t959.length co12]] ?_; (with_reducible refine (impl_PeelOrder.calls kj7 t958 _ _ t959 t982 t985 _ ?side1 ?side2 A56.out).mono ?_); (case side1 => exact Cz ((Kd.S_reads' HO_966001.out).2.2)); (case side2 => exact (Kd.S_reads' HO_966001.out).2.1); rintro e w68 ⟨v983, rfl, ho0, hb⟩; refine ⟨_, rfl, ?_⟩; have n0_ := am (Kd.S_below (by (with_reducible repeat (first | apply Kd.S_alloc | apply Kd.S_drewN | apply Kd.S_drew)); exact HO_966001.out) hb); have n1_ := am (Kd.S_below (by (with_reducible repeat (first | apply Kd.S_alloc | apply Kd.S_drewN | apply Kd.S_drew)); exact HO973.out) hb); have n2_ := Re HO976 (Kd.R_base ho0) hb; have n3_ := Rm (Kd.R_new' ho0 (Kd.R_lt (Rz HO976.out))) HB; have n4_ := Kb BK965 hb; have n5_ := Kb BK977 hb; have n6_ := Bc HB hb; clear HO_966001 HO973 HO976 BK965 BK977 HB; revert n0_ n1_ n2_ n3_ n4_ n5_ n6_; intro HO_966001 HO973 HO976 HO984 BK965 BK977 HB; (try clear hb); (try clear hb2); (try clear hk); (try clear hi); (try clear ho0)))
         go_ret
         exact ⟨eZ, Bq⟩
       ·replace c44 := Bool.eq_false_iff.mpr c44
        subst c44
        rw [if_neg (show ¬ (false = true) by decide)] at H; replace H := Option.bind_eq_some_iff.mp H; obtain ⟨⟨t986, t989⟩, A690, H⟩ := H; (try dsimp -simprocs only at H); have A69 := am A690; clear A690; obtain rfl := Option.some.inj H
        go_wp2_with (first | ((with_reducible refine gate_callee (f := 54) rfl ?_); refine gL (some 49) Try.func54 #[.slice A1 l1.length c1] ?_; (with_reducible refine (spec_DrawIsPeelOrder.calls kj7 _ _ l1 t970 t971 t974 _ ?side1 ?side2 A19.out).mono ?_); (case side1 => exact Cz (Kd.C_below HR1.out HB.out)); (case side2 => exact HC1.out); rintro e w70 ⟨v972, v975, rfl, ho0, ho1, hb⟩; refine ⟨_, rfl, ?_⟩; have n0_ := am (Kd.S_elder' (by (with_reducible repeat (first | apply Kd.S_alloc | apply Kd.S_drewN | apply Kd.S_drew)); exact HO_966001.out) (Kd.S_base ho0) hb); have n1_ := am (Kd.S_lower (Kd.S_new' ho0 (Kd.S_lt (by (with_reducible repeat (first | apply Kd.S_alloc | apply Kd.S_drewN | apply Kd.S_drew)); exact HO_966001.out))) (below_size (w := w) (Bq))); have n2_ := Rm ho1 HB; have n3_ := Kb BK965 hb; have n4_ := Bc HB hb; clear HO_966001 BK965 HB; revert n0_ n1_ n2_ n3_ n4_; intro HO_966001 HO973 HO976 BK965 HB; (try clear hb); (try clear hb2); (try clear hk); (try clear hi); (try clear ho0); (try clear ho1)) | ((with_reducible refine gate_dst (N := 11) rfl ?_); refine bE 11 #[.int .i64 0, .slice none 0 0] 37 ?_; intro gb977 hg w71 hbox hb; have n0_ := am (Kd.S_below (by (with_reducible repeat (first | apply Kd.S_alloc | apply Kd.S_drewN | apply Kd.S_drew)); exact HO_966001.out) hb); have n1_ := am (Kd.S_below (by (with_reducible repeat (first | apply Kd.S_alloc | apply Kd.S_drewN | apply Kd.S_drew)); exact HO973.out) hb); have n2_ := Rb HO976 hb; have n3_ := Kb BK965 hb; have n4_ := Bc HB hb; have n5_ := am (hbox); have n6_ := Gm HB hg; have n7_ := Gm HB hg; have n8_ := Nl BK965 hg; have n9_ := Ng BK965 hg; clear HO_966001 HO973 HO976 BK965 HB; revert n0_ n1_ n2_ n3_ n4_ n5_ n6_ n7_ n8_ n9_; intro HO_966001 HO973 HO976 BK965 HB BK977 GW977 GE977 NB965_977 NB977_965; clear hb hbox hg; have hnb72 := NB977_965.out; have hnc72 := NB965_977.out; obtain ⟨hcz73_0, hcz73_1, hfz73_0, hfz73_1⟩ := cf2 (w := w71) BK977; obtain ⟨Ao74, co74, eo74⟩ := Kd.S_slice HO973.out; subst eo74; obtain ⟨hcz75_0, hcz75_1, hfz75_0, hfz75_1⟩ := cf2 (w := w71) BK965; obtain ⟨Ao76, co76, eo76⟩ := Kd.R_slice HO976.out; subst eo76) | ((with_reducible refine gate_callee (f := 47) rfl ?_); refine gL (some 55) Try.func47 #[.agg #[.int .i64 t958, .slice Ao12 t959.length co12], .slice Ao76 t974.length co76] ?_; (with_reducible refine (impl_IsPeelOrder.calls kj7 t958 _ _ t959 _ _ t974 t978 t979 _ ?side1 ?side2 ?side3 ?side4 A20.out).mono ?_); (case side1 => refine (Kd.S_reads' (e := 32) (base := w.heap.size) (ok := fun k_ => (True ∧ some k_ ≠ (.slice Ao74 t971.length co74 : Value).ownBlock)) (n := t959.length) (c := co12) ?_).2.2; exact (by (with_reducible repeat (first | apply Kd.S_alloc | apply Kd.S_drewN | apply Kd.S_drew)); exact (Kd.S_mono (Kd.S_far (p := ⟨gb977, 1, none⟩) (Kd.S_far (p := ⟨gb977, 0, none⟩) (Kd.S_types HO_966001.out BK977.out (by decide)) (fun _ hk => hk.2) (.int .i64 t970)) (fun _ hk => hk.2) (.slice Ao74 t971.length co74)) (fun _ h_ => h_.1)))); (case side2 => exact (Kd.S_reads' HO_966001.out).2.1); (case side3 => refine (Kd.R_reads' (e := 51) (base := w.heap.size) (ok := fun k_ => True) (n := t974.length) (c := co76) ?_).2.2; exact (Rz (Kd.R_mono (Kd.R_far (p := ⟨gb977, 1, none⟩) (Kd.R_far (p := ⟨gb977, 0, none⟩) (Kd.R_types HO976.out BK977.out (by decide)) (fun _ hk => hk.2) (.int .i64 t970)) (fun _ hk => hk.2) (.slice Ao74 t971.length co74)) (fun _ h_ => h_.1)))); (case side4 => exact (Kd.R_reads' HO976.out).2.1); rintro e w77 ⟨rfl, hb⟩; refine ⟨_, rfl, ?_⟩; have n0_ := am (Kd.S_below (by (with_reducible repeat (first | apply Kd.S_alloc | apply Kd.S_drewN | apply Kd.S_drew)); exact (Kd.S_mono (Kd.S_far (p := ⟨gb977, 1, none⟩) (Kd.S_far (p := ⟨gb977, 0, none⟩) (Kd.S_types HO_966001.out BK977.out (by decide)) (fun _ hk => hk.2) (.int .i64 t970)) (fun _ hk => hk.2) (.slice Ao74 t971.length co74)) (fun _ h_ => h_.1))) hb); have n1_ := am (Kd.S_below (by (with_reducible repeat (first | apply Kd.S_alloc | apply Kd.S_drewN | apply Kd.S_drew)); exact (Kd.S_mono (Kd.S_far (p := ⟨gb977, 1, none⟩) (Kd.S_far (p := ⟨gb977, 0, none⟩) (Kd.S_types HO973.out BK977.out (by decide)) (fun _ hk => hk.2) (.int .i64 t970)) (fun _ hk => hk.2) (.slice Ao74 t971.length co74)) (fun _ h_ => h_.1))) hb); have n2_ := am (Kd.R_below (Rz (Kd.R_mono (Kd.R_far (p := ⟨gb977, 1, none⟩) (Kd.R_far (p := ⟨gb977, 0, none⟩) (Kd.R_types HO976.out BK977.out (by decide)) (fun _ hk => hk.2) (.int .i64 t970)) (fun _ hk => hk.2) (.slice Ao74 t971.length co74)) (fun _ h_ => h_.1))) hb); have n3_ := am (blk_below (g := gb965) (o := .cells #[.int .i64 t958, .slice Ao12 t959.length co12] 37 (0, 0)) (by (with_reducible repeat (first | refine blk_drewN ?_ _ | refine blk_drew ?_ | refine blk_alloc ?_ _)); refine blk_far ?_ NB965_977.out _; (with_reducible repeat (first | refine blk_drewN ?_ _ | refine blk_drew ?_ | refine blk_alloc ?_ _)); refine blk_far ?_ NB965_977.out _; exact Kz BK965.out) hb); have n4_ := am (blk_below (g := gb977) (o := .cells #[.int .i64 t970, .slice Ao74 t971.length co74] 37 (0, 0)) (by (with_reducible repeat (first | refine blk_drewN ?_ _ | refine blk_drew ?_ | refine blk_alloc ?_ _)); refine blk_put (cs := #[.int .i64 t970, .slice none 0 0]) ?_ 1 _ rfl; (with_reducible repeat (first | refine blk_drewN ?_ _ | refine blk_drew ?_ | refine blk_alloc ?_ _)); refine blk_put (cs := #[.int .i64 0, .slice none 0 0]) ?_ 0 _ rfl; exact Kz BK977.out) hb); have n5_ := Bc HB hb; clear HO_966001 HO973 HO976 BK965 BK977 HB; revert n0_ n1_ n2_ n3_ n4_ n5_; intro HO_966001 HO973 HO976 BK965 BK977 HB; (try clear hb); (try clear hb2); (try clear hk); (try clear hi); obtain ⟨hcz78_0, hcz78_1, hfz78_0, hfz78_1⟩ := cf2 (w := w77) BK965) | ((with_reducible refine gate_callee (f := 55) rfl ?_); refine gL (some 61) Try.func55 #[.agg #[.int .i64 t958, .slice Ao12 t959.length co12], .slice Ao76 t974.length co76] ?_; (with_reducible refine (spec_IsPeelOrder.calls kj7 t958 _ _ t959 _ _ t974 t980 t981 _ ?side1 ?side2 ?side3 ?side4 A21.out).mono ?_); (case side1 => exact Cz ((Kd.S_reads' HO_966001.out).2.2)); (case side2 => exact (Kd.S_reads' HO_966001.out).2.1); (case side3 => exact Cz ((Kd.R_reads' HO976.out).2.2)); (case side4 => exact (Kd.R_reads' HO976.out).2.1); rintro e w79 ⟨rfl, hb⟩; refine ⟨_, rfl, ?_⟩; have n0_ := am (Kd.S_below (by (with_reducible repeat (first | apply Kd.S_alloc | apply Kd.S_drewN | apply Kd.S_drew)); exact HO_966001.out) hb); have n1_ := am (Kd.S_below (by (with_reducible repeat (first | apply Kd.S_alloc | apply Kd.S_drewN | apply Kd.S_drew)); exact HO973.out) hb); have n2_ := Rb HO976 hb; have n3_ := Kb BK965 hb; have n4_ := Kb BK977 hb; have n5_ := Bc HB hb; clear HO_966001 HO973 HO976 BK965 BK977 HB; revert n0_ n1_ n2_ n3_ n4_ n5_; intro HO_966001 HO973 HO976 BK965 BK977 HB; (try clear hb); (try clear hb2); (try clear hk); (try clear hi); obtain ⟨hcz80_0, hcz80_1, hfz80_0, hfz80_1⟩ := cf2 (w := w79) BK965) | ((with_reducible refine gate_callee (f := 41) rfl ?_); refine gL (some 80) Try.func41 #[.agg #[.int .i64 t958, .slice Ao12 t959.length co12]] ?_; (with_reducible refine (impl_PeelOrder.calls kj7 t958 _ _ t959 t986 t989 _ ?side1 ?side2 A69.out).mono ?_); (case side1 => exact Cz ((Kd.S_reads' HO_966001.out).2.2)); (case side2 => exact (Kd.S_reads' HO_966001.out).2.1); rintro e w81 ⟨v987, rfl, ho0, hb⟩; refine ⟨_, rfl, ?_⟩; have n0_ := am (Kd.S_below (by (with_reducible repeat (first | apply Kd.S_alloc | apply Kd.S_drewN | apply Kd.S_drew)); exact HO_966001.out) hb); have n1_ := am (Kd.S_below (by (with_reducible repeat (first | apply Kd.S_alloc | apply Kd.S_drewN | apply Kd.S_drew)); exact HO973.out) hb); have n2_ := Re HO976 (Kd.R_base ho0) hb; have n3_ := Rm (Kd.R_new' ho0 (Kd.R_lt (Rz HO976.out))) HB; have n4_ := Kb BK965 hb; have n5_ := Kb BK977 hb; have n6_ := Bc HB hb; clear HO_966001 HO973 HO976 BK965 BK977 HB; revert n0_ n1_ n2_ n3_ n4_ n5_ n6_; intro HO_966001 HO973 HO976 HO988 BK965 BK977 HB; (try clear hb); (try clear hb2); (try clear hk); (try clear hi); (try clear ho0)))
        go_ret
        exact ⟨eZ, Bq⟩

def laws_FnProofsExclude.Pure : Prop := ∀ (l0 : List Int) (l1 : List Int), l0.length ≤ maxLen → l0.length * 1 ≤ 140737488351232 → (∀ x ∈ l0, (Lit.int .u8 x).wf = true) → l1.length ≤ maxLen → l1.length * 1 ≤ 140737488351232 → (∀ x ∈ l1, (Lit.int .u8 x).wf = true) → ∃ k, laws_FnProofsExclude.f k l0 l1 = some true
theorem laws_FnProofsExclude.walk (P : laws_FnProofsExclude.Pure) (a0 : Option Addr) (len0 cap0 : Nat) (z0 : List Int) (a1 : Option Addr) (len1 cap1 : Nat) (z1 : List Int) (w : World) (w0 : (a0 = none ∧ len0 = 0 ∧ cap0 = 0 ∧ z0 = []) ∨ ∃ x, a0 = some x ∧ len0 ≤ cap0 ∧ cap0 ≤ maxLen ∧ z0.length = cap0 ∧ (∀ i, i < z0.length → w.cell? (x.add i) = some (.int .u8 (z0.getD i 0))) ∧ ∀ n ∈ z0, (Lit.int .u8 n).wf = true) (y0 : len0 * 1 ≤ 140737488351232) (w1 : (a1 = none ∧ len1 = 0 ∧ cap1 = 0 ∧ z1 = []) ∨ ∃ x, a1 = some x ∧ len1 ≤ cap1 ∧ cap1 ≤ maxLen ∧ z1.length = cap1 ∧ (∀ i, i < z1.length → w.cell? (x.add i) = some (.int .u8 (z1.getD i 0))) ∧ ∀ n ∈ z1, (Lit.int .u8 n).wf = true) (y1 : len1 * 1 ≤ 140737488351232) :
  Calls Try.prog 10 #[.slice a0 len0 cap0, .slice a1 len1 cap1] w fun e w' => e = .returned (.bool true) ∧ Below w.heap.size w w' := by
 obtain ⟨l0, rfl, hr0, hm0, hw0, hc0⟩ := ReadsInt.ofRowC w0; obtain ⟨l1, rfl, hr1, hm1, hw1, hc1⟩ := ReadsInt.ofRowC w1; obtain ⟨k, h⟩ := P l0 l1 hm0 y0 hw0 hm1 y1 hw1; refine (laws_FnProofsExclude.calls k _ _ l0 _ _ l1 true w (Kd.C_of_reads (d := (0 : Int)) (h1 := fun _ => rfl) hr0) hc0 (Kd.C_of_reads (d := (0 : Int)) (h1 := fun _ => rfl) hr1) hc1 h).mono ?_; rintro e w' ⟨rfl, hd⟩; exact ⟨rfl, hd⟩

end Go.Proofs.Ythkcgimnagpmaaa.PA
-- printed by a program of this session (wip/gp) out of the translation; Lean checks it
namespace Go.Proofs.Ythkcgimnagpmaaa.PA
open Go.RowKit Go.Proofs.YthkcgimnagpmaaaW.PrintWords Go.Proofs.YthkcgimnagpmaaaW.PrintLast Go.Proofs.YthkcgimnagpmaaaW.PrintMore Go.Proofs.YthkcgimnagpmaaaSq
attribute [local go_sem] max2_int min2_int max_two min_two max_three min_three max_four min_four   -- for this text's walks alone
attribute [local go_sem] Go.Proofs.YthkcgimnagpmaaaGp.str_geq Go.Proofs.YthkcgimnagpmaaaGp.str_gtr Go.Proofs.YthkcgimnagpmaaaGp.str_leq
set_option linter.unusedVariables false
set_option linter.unusedSimpArgs false

theorem eqA51 (d : Nat) (w : World) (x0 y0 : Int) (x1 y1 : Int) :
  (Op.equalIn (d + 2) 51 (.agg #[.int .i64 x0, .int .i64 x1]) (.agg #[.int .i64 y0, .int .i64 y1])).run Try.prog w = .ok (x0 == y0 && (x1 == y1)) w := by
 refine eqA_of Try.underlying51 (by kernel_rfl) ?_
 refine eqf_cons (by rfl) (by go_simp; rfl) (by go_simp; rfl) (by go_simp) ?_
 exact eqf_last (by rfl) (by go_simp; rfl) (by go_simp; rfl) (by go_simp)
end Go.Proofs.Ythkcgimnagpmaaa.PA
-- printed by a program of this session (wip/gp) out of the translation; Lean checks it
namespace Go.Proofs.Ythkcgimnagpmaaa.PA
open Go.RowKit Go.Proofs.YthkcgimnagpmaaaW.PrintWords Go.Proofs.YthkcgimnagpmaaaW.PrintLast Go.Proofs.YthkcgimnagpmaaaW.PrintMore Go.Proofs.YthkcgimnagpmaaaSq
attribute [local go_sem] max2_int min2_int max_two min_two max_three min_three max_four min_four   -- for this text's walks alone
attribute [local go_sem] Go.Proofs.YthkcgimnagpmaaaGp.str_geq Go.Proofs.YthkcgimnagpmaaaGp.str_gtr Go.Proofs.YthkcgimnagpmaaaGp.str_leq
set_option linter.unusedVariables false
set_option linter.unusedSimpArgs false

attribute [local go_sem high] eqA51
set_option maxHeartbeats 8000000
set_option maxRecDepth 100000
end Go.Proofs.Ythkcgimnagpmaaa.PA
-- printed by a program of this session (wip/gp) out of the translation; Lean checks it
namespace Go.Proofs.Ythkcgimnagpmaaa.PA
open Go.RowKit Go.Proofs.YthkcgimnagpmaaaW.PrintWords Go.Proofs.YthkcgimnagpmaaaW.PrintLast Go.Proofs.YthkcgimnagpmaaaW.PrintMore Go.Proofs.YthkcgimnagpmaaaSq
attribute [local go_sem] max2_int min2_int max_two min_two max_three min_three max_four min_four   -- for this text's walks alone
attribute [local go_sem] Go.Proofs.YthkcgimnagpmaaaGp.str_geq Go.Proofs.YthkcgimnagpmaaaGp.str_gtr Go.Proofs.YthkcgimnagpmaaaGp.str_leq
set_option linter.unusedVariables false
set_option linter.unusedSimpArgs false

set_option maxHeartbeats 8000000
set_option maxRecDepth 100000
-- NOT PRINTED: function 145 (slices_IndexFunc_int_int_145)

-- NOT PRINTED: function 85 (slices_ContainsFunc_int_int_85)

end Go.Proofs.Ythkcgimnagpmaaa.PA
-- printed by a program of this session (wip/gp) out of the translation; Lean checks it
namespace Go.Proofs.Ythkcgimnagpmaaa.PA
open Go.RowKit Go.Proofs.YthkcgimnagpmaaaW.PrintWords Go.Proofs.YthkcgimnagpmaaaW.PrintLast Go.Proofs.YthkcgimnagpmaaaW.PrintMore Go.Proofs.YthkcgimnagpmaaaSq
attribute [local go_sem] max2_int min2_int max_two min_two max_three min_three max_four min_four   -- for this text's walks alone
attribute [local go_sem] Go.Proofs.YthkcgimnagpmaaaGp.str_geq Go.Proofs.YthkcgimnagpmaaaGp.str_gtr Go.Proofs.YthkcgimnagpmaaaGp.str_leq
set_option linter.unusedVariables false
set_option linter.unusedSimpArgs false

set_option maxHeartbeats 8000000
set_option maxRecDepth 100000
end Go.Proofs.Ythkcgimnagpmaaa.PA
-- printed by a program of this session (wip/gp) out of the translation; Lean checks it
namespace Go.Proofs.Ythkcgimnagpmaaa.PA
open Go.RowKit Go.Proofs.YthkcgimnagpmaaaW.PrintWords Go.Proofs.YthkcgimnagpmaaaW.PrintLast Go.Proofs.YthkcgimnagpmaaaW.PrintMore Go.Proofs.YthkcgimnagpmaaaSq
attribute [local go_sem] max2_int min2_int max_two min_two max_three min_three max_four min_four   -- for this text's walks alone
attribute [local go_sem] Go.Proofs.YthkcgimnagpmaaaGp.str_geq Go.Proofs.YthkcgimnagpmaaaGp.str_gtr Go.Proofs.YthkcgimnagpmaaaGp.str_leq
set_option linter.unusedVariables false
set_option linter.unusedSimpArgs false

set_option maxHeartbeats 8000000
set_option maxRecDepth 100000
end Go.Proofs.Ythkcgimnagpmaaa.PA
namespace Go.Proofs.YthkcgimnagpmaaaQ
open Go Go.RowKit Go.Proofs.YthkcgimnagpmaaaW.PrintWords Go.Proofs.YthkcgimnagpmaaaGp

theorem ev_succ {α : Type} {g : Nat → Option α} {r : α} (h : Ev (fun k => g (k + 1)) r) : Ev g r := Ev.step (f := fun k => g (k + 1)) (fun _ => rfl) h
theorem ev_some {α : Type} {a r : α} (h : a = r) : Ev (fun _ => some a) r := h ▸ Ev.now a
theorem ev_pos {α : Type} {c : Prop} [Decidable c] {f g : Nat → Option α} {r : α} (h : c) (k : Ev f r) : Ev (fun n => if c then f n else g n) r := by simpa only [if_pos h] using k
theorem ev_neg {α : Type} {c : Prop} [Decidable c] {f g : Nat → Option α} {r : α} (h : ¬ c) (k : Ev g r) : Ev (fun n => if c then f n else g n) r := by simpa only [if_neg h] using k
theorem ev_bind {α β : Type} {g : Nat → Option α} {f : Nat → α → Option β} {r : β} (a : α) (h : Ev g a) (k : Ev (fun n => f n a) r) : Ev (fun n => (g n).bind (f n)) r := Ev.bind h k
theorem w64 {x : Int} (h0 : -9223372036854775808 ≤ x) (h1 : x ≤ 9223372036854775807) : wrap64 x = x := by unfold wrap64; omega
theorem winc {i : Nat} (h : (i : Int) < 9223372036854775807) : wrap64 ((i : Int) + 1) = ((i + 1 : Nat) : Int) := by unfold wrap64; omega
theorem wdec {i : Nat} (h : (i : Int) < 9223372036854775807) : wrap64 (((i + 1 : Nat) : Int) - 1) = (i : Int) := by unfold wrap64; omega
theorem maxLen_eq : maxLen = 9223372036854775807 := by unfold maxLen; rfl
section
variable {α : Type} {d : α} {pre t : List α} {s : α}
theorem rdOf_mid : rdOf d (pre ++ s :: t) ((pre.length : Nat) : Int) = s := by simp [rdOf]
theorem lt_mid : ((pre.length : Nat) : Int) < ((pre ++ s :: t).length : Int) := by simp; omega
theorem not_lt_end : ¬ ((pre.length : Nat) : Int) < ((pre ++ ([] : List α)).length : Int) := by simp
theorem len_one : ((pre ++ [s]).length : Int) = ((pre.length + 1 : Nat) : Int) := by simp
end
theorem rd_mid {pre t : List Int} {s : Int} : rd (pre ++ s :: t) ((pre.length : Nat) : Int) = s := by simp [rd]
theorem tl (s : ByteArray) : s.toList = s.data.toList := Lib.toList_data s
theorem tl_inj {x y : ByteArray} : x.toList = y.toList ↔ x = y := by
  rw [tl, tl]
  exact ⟨fun h => ByteArray.ext (Array.toList_inj.1 h), fun h => h ▸ rfl⟩
theorem size_len (s : ByteArray) : s.size = s.data.toList.length := (data_length s).symm
theorem bt_mid {s : ByteArray} {pre t : List UInt8} {c : UInt8} (h : s.data.toList = pre ++ c :: t) : bt s ((pre.length : Nat) : Int) = (c.toNat : Int) := by
  have hs : pre.length < s.size := by rw [size_len, h]; simp
  have hg : s[pre.length]'hs = c := by
    have : s.data.toList[pre.length]'(by rw [h]; simp) = c := by simp [h]
    rw [← this]; rfl
  unfold bt
  rw [dif_pos (by simpa using hs)]
  simp only [Int.toNat_natCast, hg]
theorem lt_size {s : ByteArray} {pre t : List UInt8} {c : UInt8} (h : s.data.toList = pre ++ c :: t) : ((pre.length : Nat) : Int) < (s.size : Int) := by rw [size_len, h]; simp; omega
theorem not_lt_size {s : ByteArray} {pre : List UInt8} (h : s.data.toList = pre ++ []) : ¬ ((pre.length : Nat) : Int) < (s.size : Int) := by rw [size_len, h]; simp
def lessS (a b : ByteArray) : Bool := Op.bytesLess a.toList b.toList
end Go.Proofs.YthkcgimnagpmaaaQ
namespace Go.Proofs.YthkcgimnagpmaaaQ
open Go Go.RowKit

abbrev Edges := List (List Int)
def edg (E : Edges) (i : Nat) : List Int := E.getD i []
def degOf (E : Edges) (L : List Nat) (p : Int) : Nat := (L.map fun i => (edg E i).count p).sum
def placesL (P : Nat) : List Int := (List.range P).map Int.ofNat
def freeL (P : Nat) (E : Edges) (L : List Nat) : List Int := (placesL P).filter fun p => degOf E L p == 1
def withE (E : Edges) (L : List Nat) (p : Int) : Option Nat := L.find? fun i => (edg E i).contains p
def dropE (L : List Nat) (i : Nat) : List Nat := L.filter fun j => j != i
def goodE (P : Nat) (E : Edges) : Prop := ∀ e ∈ E, ∀ p ∈ e, 0 ≤ p ∧ p < (P : Int)
def Stable (E : Edges) (S : List Nat) : Prop := ∀ p, degOf E S p ≠ 1

theorem degOf_nil (E : Edges) (p : Int) : degOf E [] p = 0 := rfl
theorem degOf_cons (E : Edges) (i : Nat) (L : List Nat) (p : Int) : degOf E (i :: L) p = (edg E i).count p + degOf E L p := by simp [degOf]
theorem degOf_sub {E : Edges} {S L : List Nat} (h : S.Sublist L) (p : Int) : degOf E S p ≤ degOf E L p := by
  induction h with
  | slnil => exact Nat.le_refl _
  | cons i _ ih => rw [degOf_cons]; omega
  | cons_cons i _ ih => rw [degOf_cons, degOf_cons]; omega
theorem degOf_mem {E : Edges} {L : List Nat} {i : Nat} {p : Int} (h : i ∈ L) (hp : p ∈ edg E i) : 1 ≤ degOf E L p := by
  have : 0 < (edg E i).count p := List.count_pos_iff.2 hp
  have h2 := degOf_sub (E := E) (List.singleton_sublist.2 h) p
  rw [degOf_cons, degOf_nil] at h2
  omega
theorem degOf_two {E : Edges} : ∀ {L : List Nat} {i j : Nat} {p : Int}, i ∈ L → j ∈ L → i ≠ j → p ∈ edg E i → p ∈ edg E j → 2 ≤ degOf E L p
  | [], _, _, _, h, _, _, _, _ => by cases h
  | x :: L, i, j, p, hi, hj, hne, pi, pj => by
    rw [degOf_cons]
    rcases List.mem_cons.1 hi with e1 | h1
    · have a : 0 < (edg E x).count p := List.count_pos_iff.2 (e1 ▸ pi)
      rcases List.mem_cons.1 hj with e2 | h2
      · exact absurd (e1.trans e2.symm) hne
      · have := degOf_mem h2 pj
        omega
    · rcases List.mem_cons.1 hj with e2 | h2
      · have a : 0 < (edg E x).count p := List.count_pos_iff.2 (e2 ▸ pj)
        have := degOf_mem h1 pi
        omega
      · have := degOf_two h1 h2 hne pi pj
        omega
theorem degOf_pos {E : Edges} {L : List Nat} {p : Int} (h : 1 ≤ degOf E L p) : ∃ i ∈ L, p ∈ edg E i := by
  induction L with
  | nil => rw [degOf_nil] at h; omega
  | cons i L ih =>
    rw [degOf_cons] at h
    by_cases c : p ∈ edg E i
    · exact ⟨i, by simp, c⟩
    · rw [List.count_eq_zero_of_not_mem c] at h
      obtain ⟨j, hj, hp⟩ := ih (by omega)
      exact ⟨j, by simp [hj], hp⟩
theorem withE_some {E : Edges} {L : List Nat} {p : Int} {i : Nat} (h : withE E L p = some i) : i ∈ L ∧ p ∈ edg E i := by
  have h1 := List.mem_of_find?_eq_some h
  have h2 := List.find?_some h
  exact ⟨h1, by simpa using h2⟩
theorem withE_ex {E : Edges} {L : List Nat} {p : Int} (h : 1 ≤ degOf E L p) : ∃ i, withE E L p = some i := by
  obtain ⟨i, hi, hp⟩ := degOf_pos h
  cases hw : withE E L p with
  | some j => exact ⟨j, rfl⟩
  | none => exact absurd (by simpa using hp) (by simpa using List.find?_eq_none.1 hw i hi)
theorem withE_one {E : Edges} {L : List Nat} {p : Int} {i : Nat} (h : degOf E L p = 1) (hi : i ∈ L) (hp : p ∈ edg E i) : withE E L p = some i := by
  obtain ⟨j, hj⟩ := withE_ex (E := E) (L := L) (p := p) (by omega)
  obtain ⟨h1, h2⟩ := withE_some hj
  by_cases e : i = j
  · rw [e]; exact hj
  · have := degOf_two hi h1 e hp h2
    omega
theorem mem_freeL {P : Nat} {E : Edges} {L : List Nat} {p : Int} : p ∈ freeL P E L ↔ (0 ≤ p ∧ p < (P : Int)) ∧ degOf E L p = 1 := by
  simp only [freeL, placesL, List.mem_filter, List.mem_map, List.mem_range, beq_iff_eq]
  constructor
  · rintro ⟨⟨i, hi, rfl⟩, h⟩
    exact ⟨⟨Int.natCast_nonneg i, Int.ofNat_lt.2 hi⟩, h⟩
  · rintro ⟨h, e⟩
    exact ⟨⟨p.toNat, by omega, Int.toNat_of_nonneg h.1⟩, e⟩
theorem edg_mem {E : Edges} {i : Nat} {p : Int} (h : p ∈ edg E i) : edg E i ∈ E := by
  unfold edg at h ⊢
  by_cases c : i < E.length
  · simp [List.getD, c]
  · simp [List.getD, c] at h
theorem deg_free {P : Nat} {E : Edges} (hg : goodE P E) {L : List Nat} {p : Int} (h : degOf E L p = 1) : p ∈ freeL P E L := by
  obtain ⟨i, _, hp⟩ := degOf_pos (E := E) (L := L) (p := p) (by omega)
  exact mem_freeL.2 ⟨hg _ (edg_mem hp) _ hp, h⟩
theorem stable_iff {P : Nat} {E : Edges} (hg : goodE P E) {L : List Nat} : Stable E L ↔ freeL P E L = [] := by
  constructor
  · intro h
    rw [List.eq_nil_iff_forall_not_mem]
    intro p hp
    exact h p (mem_freeL.1 hp).2
  · intro h p hp
    have := deg_free hg hp
    rw [h] at this
    cases this
theorem dropE_sub (L : List Nat) (i : Nat) : (dropE L i).Sublist L := List.filter_sublist
theorem dropE_len {L : List Nat} (hn : L.Nodup) {i : Nat} (h : i ∈ L) : (dropE L i).length + 1 = L.length := by
  have : dropE L i = L.erase i := (hn.erase_eq_filter i).symm
  rw [this, List.length_erase_of_mem h]
  have := List.length_pos_of_mem h
  omega
theorem stable_step {E : Edges} {S L : List Nat} {p : Int} {i : Nat} (hS : Stable E S) (hs : S.Sublist L) (hd : degOf E L p = 1) (hw : withE E L p = some i) : S.Sublist (dropE L i) := by
  obtain ⟨h1, h2⟩ := withE_some hw
  have hi : i ∉ S := fun c => by
    have a := degOf_mem c h2
    have b := degOf_sub (E := E) hs p
    exact hS p (by omega)
  have e : S.filter (fun j => j != i) = S := List.filter_eq_self.2 fun j hj => by
    simp only [bne_iff_ne, ne_eq]
    rintro rfl
    exact hi hj
  rw [← e]
  exact hs.filter _

def stepE (P : Nat) (E : Edges) (L : List Nat) (c : Nat) : Option (Nat × Int) :=
  if (freeL P E L).length = 0 then none else let p := (freeL P E L).getD (c % (freeL P E L).length) 0; some ((withE E L p).getD 0, p)
def peelC (P : Nat) (E : Edges) : List Nat → List Nat → List (Nat × Int) × List Nat
  | [], L => ([], L)
  | c :: cs, L => match stepE P E L c with
    | none => ([], L)
    | some (i, p) => ((i, p) :: (peelC P E cs (dropE L i)).1, (peelC P E cs (dropE L i)).2)
theorem stepE_none {P : Nat} {E : Edges} {L : List Nat} {c : Nat} : stepE P E L c = none ↔ freeL P E L = [] := by
  unfold stepE
  split
  · rename_i h; simp [List.length_eq_zero_iff.1 h]
  · rename_i h; simp; intro e; rw [e] at h; exact h rfl
theorem stepE_some {P : Nat} {E : Edges} {L : List Nat} {c i : Nat} {p : Int} (h : stepE P E L c = some (i, p)) : p ∈ freeL P E L ∧ degOf E L p = 1 ∧ withE E L p = some i := by
  unfold stepE at h
  split at h
  · cases h
  · rename_i hl
    simp only [Option.some.injEq, Prod.mk.injEq] at h
    obtain ⟨h1, h2⟩ := h
    have hm : c % (freeL P E L).length < (freeL P E L).length := Nat.mod_lt _ (by omega)
    have hp : p ∈ freeL P E L := by rw [← h2, List.getD_eq_getElem?_getD, List.getElem?_eq_getElem hm]; exact List.getElem_mem hm
    have hd := (mem_freeL.1 hp).2
    obtain ⟨j, hj⟩ := withE_ex (E := E) (L := L) (p := p) (by omega)
    rw [h2, hj] at h1
    exact ⟨hp, hd, by rw [hj]; simpa using h1⟩
theorem peelC_cons_none {P : Nat} {E : Edges} {L : List Nat} (c : Nat) (cs : List Nat) (h : freeL P E L = []) : peelC P E (c :: cs) L = ([], L) := by
  rw [peelC, stepE_none.2 h]
theorem peelC_cons_some {P : Nat} {E : Edges} {L : List Nat} {c i : Nat} {p : Int} (cs : List Nat) (h : stepE P E L c = some (i, p)) : peelC P E (c :: cs) L = ((i, p) :: (peelC P E cs (dropE L i)).1, (peelC P E cs (dropE L i)).2) := by
  rw [peelC, h]
theorem nodup_drop {L : List Nat} (h : L.Nodup) (i : Nat) : (dropE L i).Nodup := (dropE_sub L i).nodup h
theorem peelC_len {P : Nat} {E : Edges} : ∀ (cs L : List Nat), L.Nodup → (peelC P E cs L).1.length + (peelC P E cs L).2.length = L.length
  | [], L, _ => by simp [peelC]
  | c :: cs, L, hn => by
    cases h : stepE P E L c with
    | none => rw [peelC_cons_none c cs (stepE_none.1 h)]; simp
    | some q =>
      obtain ⟨i, p⟩ := q
      rw [peelC_cons_some cs h]
      have h1 := (withE_some (stepE_some h).2.2).1
      have := peelC_len (P := P) (E := E) cs (dropE L i) (nodup_drop hn i)
      have := dropE_len hn h1
      simp only [List.length_cons]
      omega
theorem peelC_sub {P : Nat} {E : Edges} : ∀ (cs L : List Nat), (peelC P E cs L).2.Sublist L
  | [], L => by simp [peelC]
  | c :: cs, L => by
    cases h : stepE P E L c with
    | none => rw [peelC_cons_none c cs (stepE_none.1 h)]; exact List.Sublist.refl _
    | some q =>
      obtain ⟨i, p⟩ := q
      rw [peelC_cons_some cs h]
      exact (peelC_sub cs (dropE L i)).trans (dropE_sub L i)
theorem peelC_stable {P : Nat} {E : Edges} {S : List Nat} (hS : Stable E S) : ∀ (cs L : List Nat), S.Sublist L → S.Sublist (peelC P E cs L).2
  | [], L, h => by simpa [peelC] using h
  | c :: cs, L, hs => by
    cases h : stepE P E L c with
    | none => rw [peelC_cons_none c cs (stepE_none.1 h)]; exact hs
    | some q =>
      obtain ⟨i, p⟩ := q
      rw [peelC_cons_some cs h]
      obtain ⟨_, hd, hw⟩ := stepE_some h
      exact peelC_stable hS cs (dropE L i) (stable_step hS hs hd hw)
theorem freeL_nil {P : Nat} {E : Edges} : freeL P E [] = [] := by
  rw [List.eq_nil_iff_forall_not_mem]
  intro p hp
  have := (mem_freeL.1 hp).2
  rw [degOf_nil] at this
  cases this
def allE (E : Edges) : List Nat := List.range E.length
def peelAll (P : Nat) (E : Edges) : List (Nat × Int) × List Nat := peelC P E (List.replicate E.length 0) (allE E)
def coreE (P : Nat) (E : Edges) : List Nat := (peelAll P E).2
theorem allE_nodup (E : Edges) : (allE E).Nodup := List.nodup_range
theorem core_sub {P : Nat} {E : Edges} : (coreE P E).Sublist (allE E) := peelC_sub _ _
theorem stable_core {P : Nat} {E : Edges} {S : List Nat} (hS : Stable E S) (h : S.Sublist (allE E)) : S.Sublist (coreE P E) := peelC_stable hS _ _ h
end Go.Proofs.YthkcgimnagpmaaaQ
namespace Go.Proofs.YthkcgimnagpmaaaQ
open Go Go.RowKit Go.Proofs.YthkcgimnagpmaaaW.PrintWords

def castL (L : List Nat) : List Int := L.map Int.ofNat
theorem castL_len (L : List Nat) : (castL L).length = L.length := by simp [castL]
theorem castL_app (L M : List Nat) : castL (L ++ M) = castL L ++ castL M := by simp [castL]
theorem rd_cast {L : List Nat} {i : Nat} (h : i < L.length) : rd (castL L) (i : Int) = (L[i] : Int) := by
  simp [rd, castL, h]
theorem rd_castmid {pre t : List Nat} {j : Nat} : rd (castL (pre ++ j :: t)) (pre.length : Int) = (j : Int) := by
  simp [rd, castL]
theorem mem_castL {L : List Nat} {i : Nat} : (i : Int) ∈ castL L ↔ i ∈ L := by
  simp only [castL, List.mem_map]
  constructor
  · rintro ⟨a, h, e⟩
    exact (Int.ofNat.inj e) ▸ h
  · exact fun h => ⟨i, h, rfl⟩

def cntL (ps : List Int) (m : Nat) : List Int := (List.range m).map fun i => ((ps.count (Int.ofNat i) : Nat) : Int)
theorem cntL_len (ps : List Int) (m : Nat) : (cntL ps m).length = m := by simp [cntL]
theorem cntL_get (ps : List Int) {m i : Nat} (h : i < m) : (cntL ps m)[i]'(by rw [cntL_len]; exact h) = ((ps.count (Int.ofNat i) : Nat) : Int) := by simp [cntL]
theorem cntL_rd (ps : List Int) {m : Nat} {p : Int} (h0 : 0 ≤ p) (h1 : p < (m : Int)) : rd (cntL ps m) p = ((ps.count p : Nat) : Int) := by
  have hlt : p.toNat < (cntL ps m).length := by rw [cntL_len]; omega
  unfold rd
  rw [List.getD_eq_getElem?_getD, List.getElem?_eq_getElem hlt, Option.getD_some, cntL_get _ (by omega), show Int.ofNat p.toNat = p from by simp; omega]
theorem cntL_nil (m : Nat) : cntL [] m = List.replicate m 0 := by
  apply List.ext_getElem
  · simp [cntL]
  · intro i h1 h2
    simp [cntL]
theorem cntL_set (ps : List Int) {m : Nat} {p : Int} (h0 : 0 ≤ p) : (cntL ps m).set p.toNat (((ps.count p : Nat) : Int) + 1) = cntL (ps ++ [p]) m := by
  apply List.ext_getElem
  · simp [cntL]
  · intro i g1 g2
    rw [List.getElem_set]
    simp only [cntL, List.getElem_map, List.getElem_range, List.count_append]
    by_cases c : p.toNat = i
    · rw [if_pos c]
      have : Int.ofNat i = p := by simp; omega
      rw [this]; simp
    · rw [if_neg c]
      have : ¬ p = (i : Int) := by omega
      simp [this]
def plsL (E : Edges) (L : List Nat) : List Int := L.flatMap (edg E)
theorem degOf_pls (E : Edges) (L : List Nat) (p : Int) : (plsL E L).count p = degOf E L p := by
  induction L with
  | nil => rfl
  | cons i L ih => rw [degOf_cons, plsL, List.flatMap_cons, List.count_append, ← ih, plsL]
structure GoodH (P : Nat) (E : Edges) : Prop where
  rng : goodE P E
  len : E.length ≤ 1000
  row : ∀ e ∈ E, e.length ≤ 3
  plc : P ≤ 1000
theorem GoodH.edge {P : Nat} {E : Edges} (h : GoodH P E) (i : Nat) : (edg E i).length ≤ 3 ∧ ∀ p ∈ edg E i, 0 ≤ p ∧ p < (P : Int) := by
  unfold edg
  by_cases c : i < E.length
  · rw [List.getD_eq_getElem?_getD, List.getElem?_eq_getElem c, Option.getD_some]
    exact ⟨h.row _ (List.getElem_mem c), h.rng _ (List.getElem_mem c)⟩
  · rw [List.getD_eq_getElem?_getD, List.getElem?_eq_none (by omega)]
    simp
theorem plsL_len {P : Nat} {E : Edges} (h : GoodH P E) (L : List Nat) : (plsL E L).length ≤ 3 * L.length := by
  induction L with
  | nil => simp [plsL]
  | cons i L ih =>
    have := (h.edge i).1
    simp only [plsL, List.flatMap_cons, List.length_append, List.length_cons] at ih ⊢
    omega
theorem count_le_len (l : List Int) (p : Int) : l.count p ≤ l.length := List.count_le_length

def freeUp (ps : List Int) (i : Nat) : List Int := ((List.range i).map Int.ofNat).filter fun p => ps.count p == 1
theorem freeUp_succ (ps : List Int) (i : Nat) : freeUp ps (i + 1) = if ps.count (i : Int) = 1 then freeUp ps i ++ [(i : Int)] else freeUp ps i := by
  unfold freeUp
  rw [List.range_succ, List.map_append, List.filter_append]
  by_cases c : ps.count (i : Int) = 1
  · rw [if_pos c]; simp [c]
  · rw [if_neg c]; simp [c]
theorem freeUp_len (ps : List Int) (i : Nat) : (freeUp ps i).length ≤ i := by
  unfold freeUp
  refine Nat.le_trans (List.length_filter_le _ _) (by simp)
theorem freeL_up (P : Nat) (E : Edges) (L : List Nat) : freeUp (plsL E L) P = freeL P E L := by
  unfold freeUp freeL placesL
  refine List.filter_congr fun p _ => ?_
  rw [degOf_pls]
theorem freeL_len (P : Nat) (E : Edges) (L : List Nat) : (freeL P E L).length ≤ P := by rw [← freeL_up]; exact freeUp_len _ _

def Rg (n : Nat) (L : List Nat) : Prop := L.Sublist (List.range n)
theorem Rg.lt {n : Nat} {L : List Nat} (h : Rg n L) {i : Nat} (hi : i ∈ L) : i < n := List.mem_range.1 (h.subset hi)
theorem Rg.nodup {n : Nat} {L : List Nat} (h : Rg n L) : L.Nodup := List.Sublist.nodup h List.nodup_range
theorem Rg.len {n : Nat} {L : List Nat} (h : Rg n L) : L.length ≤ n := by
  have := List.Sublist.length_le h
  simpa using this
theorem Rg.drop {n : Nat} {L : List Nat} (h : Rg n L) (i : Nat) : Rg n (dropE L i) := (dropE_sub L i).trans h
theorem Rg.all (n : Nat) : Rg n (List.range n) := List.Sublist.refl _
theorem sub_filter : ∀ {L M : List Nat}, L.Sublist M → M.Nodup → M.filter (fun i => L.contains i) = L := by
  intro L M h
  induction h with
  | slnil => intro _; rfl
  | @cons L M a hs ih =>
    intro hn
    rw [List.nodup_cons] at hn
    have : ¬ a ∈ L := fun c => hn.1 (hs.subset c)
    rw [List.filter_cons_of_neg (by simpa using this)]
    exact ih hn.2
  | @cons_cons L M a hs ih =>
    intro hn
    rw [List.nodup_cons] at hn
    rw [List.filter_cons_of_pos (by simp)]
    congr 1
    rw [← ih hn.2]
    refine List.filter_congr fun x hx => ?_
    have : ¬ x = a := fun e => hn.1 (e ▸ hx)
    rw [ih hn.2, Bool.eq_iff_iff]
    simp [this]
theorem Rg.filter {n : Nat} {L : List Nat} (h : Rg n L) : (List.range n).filter (fun i => L.contains i) = L := sub_filter h List.nodup_range
def upTo (L : List Nat) (i : Nat) : List Nat := (List.range i).filter fun j => L.contains j
theorem upTo_succ (L : List Nat) (i : Nat) : upTo L (i + 1) = if i ∈ L then upTo L i ++ [i] else upTo L i := by
  unfold upTo
  rw [List.range_succ, List.filter_append]
  by_cases c : i ∈ L
  · rw [if_pos c]; simp [c]
  · rw [if_neg c]; simp [c]
theorem upTo_all {n : Nat} {L : List Nat} (h : Rg n L) : upTo L n = L := h.filter
theorem upTo_len (L : List Nat) (i : Nat) : (upTo L i).length ≤ i := Nat.le_trans (List.length_filter_le _ _) (by simp)
def goneOf (n : Nat) (L : List Nat) : List Bool := (List.range n).map fun i => !(L.contains i)
theorem goneOf_len (n : Nat) (L : List Nat) : (goneOf n L).length = n := by simp [goneOf]
theorem goneOf_rd {n : Nat} {L : List Nat} {i : Nat} (h : i < n) : rdOf false (goneOf n L) (i : Int) = !(L.contains i) := by
  simp [rdOf, goneOf, h]
theorem goneOf_all (n : Nat) : goneOf n (List.range n) = List.replicate n false := by
  apply List.ext_getElem
  · simp [goneOf]
  · intro i h1 h2
    simp [goneOf] at h1 ⊢
    exact h1
theorem goneOf_set {n : Nat} {L : List Nat} {i : Nat} : (goneOf n L).set i true = goneOf n (dropE L i) := by
  apply List.ext_getElem
  · simp [goneOf]
  · intro j h1 h2
    rw [List.getElem_set]
    simp only [goneOf, List.getElem_map, List.getElem_range]
    by_cases c : i = j
    · rw [if_pos c]; subst c; simp [dropE]
    · rw [if_neg c, Bool.eq_iff_iff]
      simp [dropE, Ne.symm c]
theorem withE_least {E : Edges} {p : Int} : ∀ {L : List Nat} {j : Nat}, L.Pairwise (· < ·) → withE E L p = some j → ∀ k ∈ L, k < j → ¬ p ∈ edg E k
  | [], j, _, h, _, hk, _ => by cases hk
  | x :: L, j, hp, h, k, hk, hkj => by
    rw [List.pairwise_cons] at hp
    unfold withE at h
    rw [List.find?_cons] at h
    by_cases c : (edg E x).contains p = true
    · rw [c] at h
      obtain rfl := Option.some.inj h
      rcases List.mem_cons.1 hk with rfl | hk
      · omega
      · have := hp.1 k hk; omega
    · rw [Bool.eq_false_iff.2 c] at h
      rcases List.mem_cons.1 hk with rfl | hk
      · simpa using c
      · exact withE_least hp.2 h k hk hkj
theorem Rg.sorted {n : Nat} {L : List Nat} (h : Rg n L) : L.Pairwise (· < ·) := List.Pairwise.sublist h List.pairwise_lt_range
end Go.Proofs.YthkcgimnagpmaaaQ
namespace Go.Proofs.YthkcgimnagpmaaaQ
open Go Go.RowKit Go.Proofs.YthkcgimnagpmaaaW.PrintWords Go.Proofs.YthkcgimnagpmaaaGp Go.Proofs.Ythkcgimnagpmaaa.PA

theorem rd_edg (E : Edges) (i : Nat) : rd_L2 E (i : Int) = edg E i := rfl
theorem wcount {c : Nat} (h : c ≤ 1000000) : wrap64 ((c : Int) + 1) = (c : Int) + 1 := w64 (by omega) (by omega)
theorem impl_degrees_l1 {P : Nat} {E : Edges} {G : List Bool} {n : Int} {r : List Int} {i : Nat} (e : List Int) (hi : (i : Int) < 9223372036854775806) (he : (e.length : Int) ≤ 9223372036854775806) (hr : ∀ p ∈ e, 0 ≤ p ∧ p < (P : Int)) (ps : List Int) (hps : ps.length + e.length ≤ 1000000)
    (H : Ev (fun k => impl_Hyper_degrees.l0 k G (cntL (ps ++ e) P) E n ((i + 1 : Nat) : Int)) r) : ∀ (t pre : List Int), e = pre ++ t →
    Ev (fun k => impl_Hyper_degrees.l1 k G (cntL (ps ++ pre) P) E n (i : Int) e (e.length : Int) (pre.length : Int)) r := by
  intro t
  induction t with
  | nil =>
    intro pre h
    have hp : e = pre := by rw [h, List.append_nil]
    subst hp
    refine ev_succ ?_
    simp only [impl_Hyper_degrees.l1]
    refine ev_neg (by omega) ?_
    rw [winc (by omega)]
    exact H
  | cons x t ih =>
    intro pre h
    have hm : ((pre.length : Nat) : Int) < (e.length : Int) := by rw [h]; exact lt_mid
    have hg : rd e (pre.length : Int) = x := by rw [h]; exact rd_mid
    obtain ⟨x0, x1⟩ := hr x (by rw [h]; simp)
    have hc := count_le_len (ps ++ pre) x
    have hl : e.length = pre.length + (t.length + 1) := by rw [h]; simp
    rw [List.length_append] at hc
    refine ev_succ ?_
    simp only [impl_Hyper_degrees.l1, hg]
    refine ev_pos hm (ev_pos (by omega) (ev_pos hm (ev_pos x0 (ev_pos (by rw [cntL_len]; exact x1) ?_))))
    rw [winc (by omega), cntL_rd _ x0 x1, wcount (by omega), cntL_set _ x0, List.append_assoc]
    have := ih (pre ++ [x]) (by rw [h]; simp)
    rw [len_one] at this
    exact this
theorem impl_degrees_l0 {P : Nat} {E : Edges} (hG : GoodH P E) {L : List Nat} (hL : Rg E.length L) : ∀ (d i : Nat), i + d = E.length →
    Ev (fun k => impl_Hyper_degrees.l0 k (goneOf E.length L) (cntL (plsL E (upTo L i)) P) E (E.length : Int) (i : Int)) (cntL (plsL E L) P) := by
  intro d
  have hn := hG.len
  induction d with
  | zero =>
    intro i h
    have hi : i = E.length := by omega
    refine ev_succ ?_
    simp only [impl_Hyper_degrees.l0]
    refine ev_neg (by omega) (ev_some ?_)
    rw [hi, upTo_all hL]
  | succ d ih =>
    intro i h
    have next := ih (i + 1) (by omega)
    rw [upTo_succ] at next
    refine ev_succ ?_
    simp only [impl_Hyper_degrees.l0]
    refine ev_pos (by omega) (ev_pos (by omega) (ev_pos (by omega) (ev_pos (by rw [goneOf_len]; omega) ?_)))
    rw [goneOf_rd (by omega)]
    by_cases c : i ∈ L
    · rw [if_pos c] at next
      refine ev_neg (by simp [c]) ?_
      rw [rd_edg]
      have hb := plsL_len hG (upTo L i)
      have hu := upTo_len L i
      obtain ⟨he, hr⟩ := hG.edge i
      have hpe : plsL E (upTo L i ++ [i]) = plsL E (upTo L i) ++ edg E i := by simp [plsL]
      rw [hpe] at next
      have := impl_degrees_l1 (P := P) (E := E) (G := goneOf E.length L) (n := (E.length : Int)) (edg E i) (by omega) (by omega) hr (plsL E (upTo L i)) (by omega) next (edg E i) [] rfl
      rw [List.append_nil] at this
      exact this
    · rw [if_neg c] at next
      refine ev_pos (by simp [c]) ?_
      rw [winc (by omega)]
      exact next
theorem impl_degrees_f {P : Nat} {E : Edges} (hG : GoodH P E) {L : List Nat} (hL : Rg E.length L) : Ev (fun k => impl_Hyper_degrees.f k (P : Int) E (goneOf E.length L)) (cntL (plsL E L) P) := by
  have hp := hG.plc
  unfold impl_Hyper_degrees.f
  refine ev_pos (by omega) (ev_pos (by omega) ?_)
  have := impl_degrees_l0 hG hL E.length 0 (by omega)
  rw [show plsL E (upTo L 0) = [] from rfl, cntL_nil] at this
  exact this
theorem impl_singles_l0 {P : Nat} (ps : List Int) (hP : P ≤ 1000) : ∀ (d i : Nat), i + d = P →
    Ev (fun k => impl_Hyper_singles.l0 k (freeUp ps i) (cntL ps P) (P : Int) (i : Int)) (freeUp ps P) := by
  intro d
  induction d with
  | zero =>
    intro i h
    have hi : i = P := by omega
    refine ev_succ ?_
    simp only [impl_Hyper_singles.l0]
    refine ev_neg (by omega) (ev_some (by rw [hi]))
  | succ d ih =>
    intro i h
    have next := ih (i + 1) (by omega)
    have hl := freeUp_len ps i
    rw [freeUp_succ] at next
    refine ev_succ ?_
    simp only [impl_Hyper_singles.l0]
    rw [cntL_rd ps (by omega) (by omega)]
    refine ev_pos (by omega) (ev_pos (by omega) (ev_pos (by rw [cntL_len]; omega) ?_))
    rw [winc (by omega)]
    by_cases c : ps.count (i : Int) = 1
    · rw [if_pos c] at next
      exact ev_pos (by omega) (ev_pos (by omega) next)
    · rw [if_neg c] at next
      exact ev_neg (by omega) next
theorem impl_singles_f {P : Nat} {E : Edges} (hG : GoodH P E) {L : List Nat} (hL : Rg E.length L) : Ev (fun k => impl_Hyper_singles.f k (P : Int) E (goneOf E.length L)) (freeL P E L) := by
  unfold impl_Hyper_singles.f
  refine ev_bind _ (impl_degrees_f hG hL) ?_
  have := impl_singles_l0 (plsL E L) hG.plc P 0 (by omega)
  rw [cntL_len, ← freeL_up]
  exact this
theorem slices_Index_int_l0 (x0 : List Int) (a : Int) (hl : (x0.length : Int) ≤ 9223372036854775806) : ∀ (t pre : List Int), x0 = pre ++ t →
    ∃ r, Ev (fun k => slices_Index_int_int.l0 k x0 a (x0.length : Int) (pre.length : Int)) r ∧ decide (r ≥ 0) = t.contains a := by
  intro t
  induction t with
  | nil =>
    intro pre h
    refine ⟨-1, ev_succ ?_, by simp⟩
    simp only [slices_Index_int_int.l0]
    exact ev_neg (by rw [h]; exact not_lt_end) (Ev.now _)
  | cons x t ih =>
    intro pre h
    have hm : ((pre.length : Nat) : Int) < (x0.length : Int) := by rw [h]; exact lt_mid
    have hg : rd x0 (pre.length : Int) = x := by rw [h]; exact rd_mid
    by_cases c : a = x
    · refine ⟨(pre.length : Int), ev_succ ?_, by simp [c]⟩
      simp only [slices_Index_int_int.l0, hg]
      exact ev_pos hm (ev_pos (by omega) (ev_pos hm (ev_pos c (Ev.now _))))
    · obtain ⟨r, h1, h2⟩ := ih (pre ++ [x]) (by rw [h]; simp)
      rw [len_one] at h1
      refine ⟨r, ev_succ ?_, by rw [h2]; simp [c]⟩
      simp only [slices_Index_int_int.l0, hg]
      refine ev_pos hm (ev_pos (by omega) (ev_pos hm (ev_neg c ?_)))
      rw [winc (by omega)]
      exact h1
theorem slices_Contains_int_f (l : List Int) (a : Int) (hl : (l.length : Int) ≤ 9223372036854775806) : Ev (fun k => slices_Contains_int_int.f k l a) (l.contains a) := by
  obtain ⟨r, h1, h2⟩ := slices_Index_int_l0 l a hl l [] rfl
  unfold slices_Contains_int_int.f slices_Index_int_int.f
  refine ev_bind _ h1 (ev_some h2)
theorem impl_edgeAt_l0 {P : Nat} {E : Edges} (hG : GoodH P E) {L : List Nat} {p : Int} {j : Nat} (hj : j ∈ L) (hjn : j < E.length) (hpj : p ∈ edg E j) (hlt : ∀ k ∈ L, k < j → ¬ p ∈ edg E k) : ∀ (d i : Nat), i + d = j →
    Ev (fun k => impl_Hyper_edgeAt.l0 k (goneOf E.length L) p (i : Int) (P : Int) E) (j : Int) := by
  intro d
  have hn := hG.len
  have he := fun i => (hG.edge i).1
  induction d with
  | zero =>
    intro i h
    obtain rfl : i = j := by omega
    have := he i
    refine ev_succ ?_
    simp only [impl_Hyper_edgeAt.l0]
    rw [goneOf_rd hjn, rd_edg]
    refine ev_pos (by omega) (ev_pos (by rw [goneOf_len]; omega) (ev_neg (by simp [hj]) (ev_pos (by omega) (ev_bind _ (slices_Contains_int_f _ p (by omega)) (ev_pos (by simpa using hpj) (Ev.now _))))))
  | succ d ih =>
    intro i h
    have := he i
    have next := ih (i + 1) (by omega)
    refine ev_succ ?_
    simp only [impl_Hyper_edgeAt.l0]
    rw [goneOf_rd (by omega), rd_edg, winc (by omega)]
    refine ev_pos (by omega) (ev_pos (by rw [goneOf_len]; omega) ?_)
    by_cases c : i ∈ L
    · exact ev_neg (by simp [c]) (ev_pos (by omega) (ev_bind _ (slices_Contains_int_f _ p (by omega)) (ev_neg (by simpa using hlt i c (by omega)) next)))
    · exact ev_pos (by simp [c]) next
theorem impl_edgeAt_f {P : Nat} {E : Edges} (hG : GoodH P E) {L : List Nat} (hL : Rg E.length L) {p : Int} {j : Nat} (h : withE E L p = some j) : Ev (fun k => impl_Hyper_edgeAt.f k (P : Int) E (goneOf E.length L) p) (j : Int) := by
  obtain ⟨h1, h2⟩ := withE_some h
  unfold impl_Hyper_edgeAt.f
  exact impl_edgeAt_l0 hG h1 (hL.lt h1) h2 (withE_least hL.sorted h) j 0 (by omega)
theorem impl_left_l0 {n : Nat} {L : List Nat} (hn : n ≤ 1000) (hL : Rg n L) : ∀ (d i : Nat), i + d = n →
    Ev (fun k => impl_left.l0 k (castL (upTo L i)) (goneOf n L) (n : Int) (i : Int)) (castL L) := by
  intro d
  induction d with
  | zero =>
    intro i h
    have hi : i = n := by omega
    refine ev_succ ?_
    simp only [impl_left.l0]
    exact ev_neg (by omega) (ev_some (by rw [hi, upTo_all hL]))
  | succ d ih =>
    intro i h
    have next := ih (i + 1) (by omega)
    have hl := upTo_len L i
    rw [upTo_succ] at next
    refine ev_succ ?_
    simp only [impl_left.l0]
    rw [goneOf_rd (by omega), winc (by omega)]
    refine ev_pos (by omega) (ev_pos (by omega) (ev_pos (by rw [goneOf_len]; omega) ?_))
    by_cases c : i ∈ L
    · rw [if_pos c, castL_app] at next
      exact ev_neg (by simp [c]) (ev_pos (by rw [castL_len]; omega) next)
    · rw [if_neg c] at next
      exact ev_pos (by simp [c]) next
theorem impl_left_f {n : Nat} {L : List Nat} (hn : n ≤ 1000) (hL : Rg n L) : Ev (fun k => impl_left.f k (goneOf n L)) (castL L) := by
  unfold impl_left.f
  rw [goneOf_len]
  exact impl_left_l0 hn hL n 0 (by omega)
def mkS51 (s : Nat × Int) : S51 := ⟨(s.1 : Int), s.2⟩
def stepsL (l : List (Nat × Int)) : List S51 := l.map mkS51
theorem step_zero {P : Nat} {E : Edges} {L : List Nat} (h : freeL P E L ≠ []) : ∃ i, stepE P E L 0 = some (i, rd (freeL P E L) 0) := by
  unfold stepE
  have : ¬ (freeL P E L).length = 0 := fun e => h (List.length_eq_zero_iff.1 e)
  rw [if_neg this, Nat.zero_mod]
  exact ⟨_, rfl⟩
theorem impl_peel_l0 {P : Nat} {E : Edges} (hG : GoodH P E) : ∀ (d : Nat) (L : List Nat) (acc : List S51), Rg E.length L → L.length ≤ d → acc.length + d ≤ 1000000 →
    Ev (fun k => impl_Hyper_peel.l0 k acc (goneOf E.length L) (P : Int) E) (acc ++ stepsL (peelC P E (List.replicate d 0) L).1, castL (peelC P E (List.replicate d 0) L).2) := by
  have hn := hG.len
  have stop : ∀ (d : Nat) (L : List Nat) (acc : List S51), Rg E.length L → freeL P E L = [] → Ev (fun k => impl_Hyper_peel.l0 k acc (goneOf E.length L) (P : Int) E) (acc ++ stepsL (peelC P E (List.replicate d 0) L).1, castL (peelC P E (List.replicate d 0) L).2) := by
    intro d L acc hL hf
    have e : peelC P E (List.replicate d 0) L = ([], L) := by
      cases d with
      | zero => rfl
      | succ d => rw [List.replicate_succ, peelC_cons_none _ _ hf]
    rw [e]
    refine ev_succ ?_
    simp only [impl_Hyper_peel.l0]
    refine ev_bind _ (impl_singles_f hG hL) (ev_pos (by rw [hf]; rfl) (ev_bind _ (impl_left_f hn hL) (ev_some (by simp [stepsL]))))
  intro d
  induction d with
  | zero =>
    intro L acc hL hd _
    have : L = [] := List.length_eq_zero_iff.1 (by omega)
    exact stop 0 L acc hL (by rw [this]; exact freeL_nil)
  | succ d ih =>
    intro L acc hL hd ha
    by_cases hf : freeL P E L = []
    · exact stop (d + 1) L acc hL hf
    · obtain ⟨i, hs⟩ := step_zero hf
      obtain ⟨_, _, hw⟩ := stepE_some hs
      have hi := (withE_some hw).1
      have hin := hL.lt hi
      have hl : ¬ (freeL P E L).length = 0 := fun e => hf (List.length_eq_zero_iff.1 e)
      have hdl := dropE_len hL.nodup hi
      rw [List.replicate_succ, peelC_cons_some _ hs]
      refine ev_succ ?_
      simp only [impl_Hyper_peel.l0]
      refine ev_bind _ (impl_singles_f hG hL) (ev_neg (by omega) (ev_pos (by omega) (ev_bind _ (impl_edgeAt_f hG hL hw) (ev_pos (by omega) (ev_pos (by rw [goneOf_len]; omega) (ev_pos (by omega) ?_))))))
      rw [Int.toNat_natCast, goneOf_set]
      have := ih (dropE L i) (acc ++ [mkS51 (i, rd (freeL P E L) 0)]) (hL.drop i) (by omega) (by simp; omega)
      rw [List.append_assoc] at this
      exact this
theorem impl_peel_f {P : Nat} {E : Edges} (hG : GoodH P E) : Ev (fun k => impl_Hyper_peel.f k (P : Int) E) (stepsL (peelAll P E).1, castL (coreE P E)) := by
  have hn := hG.len
  unfold impl_Hyper_peel.f impl_Hyper_none.f
  refine ev_bind _ (ev_pos (by omega) (ev_pos (by omega) (Ev.now _))) ?_
  rw [Int.toNat_natCast, ← goneOf_all]
  have := impl_peel_l0 hG E.length (List.range E.length) [] (Rg.all _) (by simp) (by simp; omega)
  rw [List.nil_append] at this
  exact this
end Go.Proofs.YthkcgimnagpmaaaQ
namespace Go.Proofs.YthkcgimnagpmaaaQ
open Go Go.RowKit Go.Proofs.YthkcgimnagpmaaaW.PrintWords Go.Proofs.YthkcgimnagpmaaaGp Go.Proofs.Ythkcgimnagpmaaa.PA

theorem spec_l1Has_l0 (x0 : List Int) (a : Int) (hl : (x0.length : Int) ≤ 9223372036854775806) : ∀ (t pre : List Int), x0 = pre ++ t →
    Ev (fun k => spec_l1Has.l0 k a x0 (x0.length : Int) (pre.length : Int)) (t.contains a) := by
  intro t
  induction t with
  | nil =>
    intro pre h
    refine ev_succ ?_
    simp only [spec_l1Has.l0]
    exact ev_neg (by rw [h]; exact not_lt_end) (ev_some (by simp))
  | cons x t ih =>
    intro pre h
    have hm : ((pre.length : Nat) : Int) < (x0.length : Int) := by rw [h]; exact lt_mid
    have hg : rd x0 (pre.length : Int) = x := by rw [h]; exact rd_mid
    refine ev_succ ?_
    simp only [spec_l1Has.l0, hg]
    refine ev_pos hm (ev_pos (by omega) (ev_pos hm ?_))
    by_cases c : x = a
    · exact ev_pos c (ev_some (by simp [c]))
    · refine ev_neg c ?_
      rw [winc (by omega)]
      have := ih (pre ++ [x]) (by rw [h]; simp)
      rw [len_one] at this
      have e : (x :: t).contains a = t.contains a := by simp [Ne.symm c]
      rw [e]
      exact this
theorem spec_l1Has_f (l : List Int) (a : Int) (hl : (l.length : Int) ≤ 9223372036854775806) : Ev (fun k => spec_l1Has.f k l a) (l.contains a) := by
  unfold spec_l1Has.f
  exact spec_l1Has_l0 l a hl l [] rfl
end Go.Proofs.YthkcgimnagpmaaaQ
namespace Go.Proofs.YthkcgimnagpmaaaQ
open Go Go.RowKit Go.Proofs.YthkcgimnagpmaaaW.PrintWords Go.Proofs.YthkcgimnagpmaaaGp Go.Proofs.Ythkcgimnagpmaaa.PA

theorem spec_peAll_l0 {n : Nat} (hn : n ≤ 1000) : ∀ (d i : Nat), i + d = n →
    Ev (fun k => spec_peAll.l0 k (castL (List.range i)) (n : Int) (i : Int)) (castL (List.range n)) := by
  intro d
  induction d with
  | zero =>
    intro i h
    obtain rfl : i = n := by omega
    refine ev_succ ?_
    simp only [spec_peAll.l0]
    exact ev_neg (by omega) (Ev.now _)
  | succ d ih =>
    intro i h
    have next := ih (i + 1) (by omega)
    rw [List.range_succ, castL_app] at next
    refine ev_succ ?_
    simp only [spec_peAll.l0]
    rw [winc (by omega)]
    exact ev_pos (by omega) (ev_pos (by rw [castL_len]; simp; omega) next)
theorem spec_peAll_f {E : Edges} (hn : E.length ≤ 1000) (P : Int) : Ev (fun k => spec_peAll.f k P E) (castL (allE E)) := by
  unfold spec_peAll.f
  exact spec_peAll_l0 hn E.length 0 (by omega)
theorem spec_degrees_l1 {P : Nat} {E : Edges} {x13 : List Int} {n : Int} {r : List Int} {q i : Nat} (e : List Int) (hi : (i : Int) < 9223372036854775806) (he : (e.length : Int) ≤ 9223372036854775806) (hr : ∀ p ∈ e, 0 ≤ p ∧ p < (P : Int)) (ps : List Int) (hps : ps.length + e.length ≤ 1000000)
    (H : Ev (fun k => spec_peDegrees.l0 k (cntL (ps ++ e) P) x13 n ((i + 1 : Nat) : Int) (q : Int) E) r) : ∀ (t pre : List Int), e = pre ++ t →
    Ev (fun k => spec_peDegrees.l1 k (cntL (ps ++ pre) P) x13 n (i : Int) e (e.length : Int) (pre.length : Int) (q : Int) E) r := by
  intro t
  induction t with
  | nil =>
    intro pre h
    have hp : e = pre := by rw [h, List.append_nil]
    subst hp
    refine ev_succ ?_
    simp only [spec_peDegrees.l1]
    refine ev_neg (by omega) ?_
    rw [winc (by omega)]
    exact H
  | cons x t ih =>
    intro pre h
    have hm : ((pre.length : Nat) : Int) < (e.length : Int) := by rw [h]; exact lt_mid
    have hg : rd e (pre.length : Int) = x := by rw [h]; exact rd_mid
    obtain ⟨x0, x1⟩ := hr x (by rw [h]; simp)
    have hc := count_le_len (ps ++ pre) x
    have hl : e.length = pre.length + (t.length + 1) := by rw [h]; simp
    rw [List.length_append] at hc
    refine ev_succ ?_
    simp only [spec_peDegrees.l1, hg]
    refine ev_pos hm (ev_pos (by omega) (ev_pos hm (ev_pos x0 (ev_pos (by rw [cntL_len]; exact x1) ?_))))
    rw [winc (by omega), cntL_rd _ x0 x1, wcount (by omega), cntL_set _ x0, List.append_assoc]
    have := ih (pre ++ [x]) (by rw [h]; simp)
    rw [len_one] at this
    exact this
theorem spec_degrees_l0 {P : Nat} {E : Edges} (hG : GoodH P E) {L : List Nat} (hL : ∀ i ∈ L, i < E.length) (hl : L.length ≤ 1000) (q : Nat) : ∀ (t pre : List Nat), L = pre ++ t →
    Ev (fun k => spec_peDegrees.l0 k (cntL (plsL E pre) P) (castL L) (L.length : Int) (pre.length : Int) (q : Int) E) (cntL (plsL E L) P) := by
  intro t
  have hn := hG.len
  induction t with
  | nil =>
    intro pre h
    have hp : L = pre := by rw [h, List.append_nil]
    subst hp
    refine ev_succ ?_
    simp only [spec_peDegrees.l0]
    exact ev_neg (by omega) (Ev.now _)
  | cons j t ih =>
    intro pre h
    have hm : ((pre.length : Nat) : Int) < (L.length : Int) := by rw [h]; exact lt_mid
    have hg : rd (castL L) (pre.length : Int) = (j : Int) := by rw [h]; exact rd_castmid
    have hj := hL j (by rw [h]; simp)
    have next := ih (pre ++ [j]) (by rw [h]; simp)
    rw [len_one] at next
    have hb := plsL_len hG pre
    obtain ⟨he, hr⟩ := hG.edge j
    have hpe : plsL E (pre ++ [j]) = plsL E pre ++ edg E j := by simp [plsL]
    rw [hpe] at next
    have hlen : L.length = pre.length + (t.length + 1) := by rw [h]; simp
    refine ev_succ ?_
    simp only [spec_peDegrees.l0, hg, rd_edg]
    refine ev_pos hm (ev_pos (by omega) (ev_pos (by rw [castL_len]; exact hm) (ev_pos (by omega) (ev_pos (by omega) ?_))))
    have := spec_degrees_l1 (P := P) (E := E) (x13 := castL L) (n := (L.length : Int)) (q := q) (edg E j) (by omega) (by omega) hr (plsL E pre) (by omega) next (edg E j) [] rfl
    rw [List.append_nil] at this
    exact this
theorem spec_degrees_f {P : Nat} {E : Edges} (hG : GoodH P E) {L : List Nat} (hL : ∀ i ∈ L, i < E.length) (hl : L.length ≤ 1000) : Ev (fun k => spec_peDegrees.f k (P : Int) E (castL L)) (cntL (plsL E L) P) := by
  have hp := hG.plc
  unfold spec_peDegrees.f
  refine ev_pos (by omega) (ev_pos (by omega) ?_)
  have := spec_degrees_l0 hG hL hl P L [] rfl
  rw [show plsL E [] = [] from rfl, cntL_nil] at this
  rw [castL_len]
  exact this
theorem spec_free_l0 {P : Nat} (ps : List Int) (hP : P ≤ 1000) : ∀ (d i : Nat), i + d = P →
    Ev (fun k => spec_peFree.l0 k (freeUp ps i) (cntL ps P) (P : Int) (i : Int)) (freeUp ps P) := by
  intro d
  induction d with
  | zero =>
    intro i h
    have hi : i = P := by omega
    refine ev_succ ?_
    simp only [spec_peFree.l0]
    refine ev_neg (by omega) (ev_some (by rw [hi]))
  | succ d ih =>
    intro i h
    have next := ih (i + 1) (by omega)
    have hl := freeUp_len ps i
    rw [freeUp_succ] at next
    refine ev_succ ?_
    simp only [spec_peFree.l0]
    rw [cntL_rd ps (by omega) (by omega)]
    refine ev_pos (by omega) (ev_pos (by omega) (ev_pos (by rw [cntL_len]; omega) ?_))
    rw [winc (by omega)]
    by_cases c : ps.count (i : Int) = 1
    · rw [if_pos c] at next
      exact ev_pos (by omega) (ev_pos (by omega) next)
    · rw [if_neg c] at next
      exact ev_neg (by omega) next
theorem spec_free_f {P : Nat} {E : Edges} (hG : GoodH P E) {L : List Nat} (hL : ∀ i ∈ L, i < E.length) (hl : L.length ≤ 1000) : Ev (fun k => spec_peFree.f k (P : Int) E (castL L)) (freeL P E L) := by
  unfold spec_peFree.f
  refine ev_bind _ (spec_degrees_f hG hL hl) ?_
  have := spec_free_l0 (plsL E L) hG.plc P 0 (by omega)
  rw [cntL_len, ← freeL_up]
  exact this
def withV (o : Option Nat) : Int := match o with | some j => (j : Int) | none => -1
theorem spec_with_l0 {P : Nat} {E : Edges} (hG : GoodH P E) {L : List Nat} (hL : ∀ i ∈ L, i < E.length) (hl : L.length ≤ 1000) (p : Int) (q : Nat) : ∀ (t pre : List Nat), L = pre ++ t →
    Ev (fun k => spec_peWith.l0 k p (castL L) (L.length : Int) (pre.length : Int) (q : Int) E) (withV (withE E t p)) := by
  intro t
  have hn := hG.len
  induction t with
  | nil =>
    intro pre h
    have hp : L = pre := by rw [h, List.append_nil]
    subst hp
    refine ev_succ ?_
    simp only [spec_peWith.l0]
    exact ev_neg (by omega) (Ev.now _)
  | cons j t ih =>
    intro pre h
    have hm : ((pre.length : Nat) : Int) < (L.length : Int) := by rw [h]; exact lt_mid
    have hg : rd (castL L) (pre.length : Int) = (j : Int) := by rw [h]; exact rd_castmid
    have hj := hL j (by rw [h]; simp)
    have next := ih (pre ++ [j]) (by rw [h]; simp)
    rw [len_one] at next
    have he := (hG.edge j).1
    refine ev_succ ?_
    simp only [spec_peWith.l0, hg, rd_edg]
    refine ev_pos hm (ev_pos (by omega) (ev_pos (by rw [castL_len]; exact hm) (ev_pos (by omega) (ev_pos (by omega) (ev_bind _ (spec_l1Has_f (edg E j) p (by omega)) ?_)))))
    unfold withE
    rw [List.find?_cons, winc (by omega)]
    by_cases c : (edg E j).contains p = true
    · rw [c]; exact ev_pos rfl (Ev.now _)
    · rw [Bool.eq_false_iff.2 c]
      exact ev_neg (by simp) next
theorem spec_with_f {P : Nat} {E : Edges} (hG : GoodH P E) {L : List Nat} (hL : ∀ i ∈ L, i < E.length) (hl : L.length ≤ 1000) (p : Int) : Ev (fun k => spec_peWith.f k (P : Int) E (castL L) p) (withV (withE E L p)) := by
  unfold spec_peWith.f
  rw [castL_len]
  exact spec_with_l0 hG hL hl p P L [] rfl
theorem spec_drop_l0 {L : List Nat} (hl : L.length ≤ 1000) (i : Nat) : ∀ (t pre : List Nat), L = pre ++ t →
    Ev (fun k => spec_l1Drop.l0 k (i : Int) (castL (dropE pre i)) (castL L) (L.length : Int) (pre.length : Int)) (castL (dropE L i)) := by
  intro t
  induction t with
  | nil =>
    intro pre h
    have hp : L = pre := by rw [h, List.append_nil]
    subst hp
    refine ev_succ ?_
    simp only [spec_l1Drop.l0]
    exact ev_neg (by omega) (Ev.now _)
  | cons j t ih =>
    intro pre h
    have hm : ((pre.length : Nat) : Int) < (L.length : Int) := by rw [h]; exact lt_mid
    have hg : rd (castL L) (pre.length : Int) = (j : Int) := by rw [h]; exact rd_castmid
    have next := ih (pre ++ [j]) (by rw [h]; simp)
    rw [len_one] at next
    have hd : dropE (pre ++ [j]) i = if j = i then dropE pre i else dropE pre i ++ [j] := by
      unfold dropE
      rw [List.filter_append]
      by_cases c : j = i <;> simp [c]
    rw [hd] at next
    have hdl := List.Sublist.length_le (dropE_sub pre i)
    have hlen : L.length = pre.length + (t.length + 1) := by rw [h]; simp
    refine ev_succ ?_
    simp only [spec_l1Drop.l0, hg]
    rw [winc (by omega)]
    refine ev_pos hm (ev_pos (by omega) (ev_pos (by rw [castL_len]; exact hm) ?_))
    by_cases c : j = i
    · rw [if_pos c] at next
      exact ev_pos (by omega) next
    · rw [if_neg c, castL_app] at next
      exact ev_neg (by omega) (ev_pos (by rw [castL_len]; omega) next)
theorem spec_drop_f {L : List Nat} (hl : L.length ≤ 1000) (i : Nat) : Ev (fun k => spec_l1Drop.f k (castL L) (i : Int)) (castL (dropE L i)) := by
  unfold spec_l1Drop.f
  rw [castL_len]
  exact spec_drop_l0 hl i L [] rfl
def chc (cs : List Int) : List Nat := cs.map Int.toNat
theorem stepE_rd {P : Nat} {E : Edges} {L : List Nat} {c : Int} (hc : 0 ≤ c) (h : freeL P E L ≠ []) : ∃ i, stepE P E L c.toNat = some (i, rd (freeL P E L) (Int.tmod c ((freeL P E L).length : Int))) ∧ 0 ≤ Int.tmod c ((freeL P E L).length : Int) ∧ Int.tmod c ((freeL P E L).length : Int) < ((freeL P E L).length : Int) := by
  have hl : ¬ (freeL P E L).length = 0 := fun e => h (List.length_eq_zero_iff.1 e)
  have e : Int.tmod c ((freeL P E L).length : Int) = ((c.toNat % (freeL P E L).length : Nat) : Int) := by
    rw [Int.tmod_eq_emod_of_nonneg hc, Int.natCast_emod, Int.toNat_of_nonneg hc]
  have hm : c.toNat % (freeL P E L).length < (freeL P E L).length := Nat.mod_lt _ (by omega)
  unfold stepE
  rw [if_neg hl, e]
  exact ⟨_, rfl, by omega, by omega⟩
section
variable {P : Nat} {E : Edges} (hG : GoodH P E) {cs : List Int} {on : Bool} {acc : List S51} {L : List Nat} (hL : Rg E.length L)
include hG hL
theorem j1_end (hf : freeL P E L = []) (kk : Int) : Ev (fun k => spec_pePeel.j1 k cs on acc (castL L) kk true (P : Int) E) (acc, castL L) := by
  have hn := hG.len
  have hl := hL.len
  refine ev_succ ?_
  simp only [spec_pePeel.j1]
  refine ev_pos trivial (ev_bind _ (spec_free_f hG (fun i hi => hL.lt hi) (by omega)) (ev_pos (by rw [hf]; rfl) (Ev.now _)))
theorem j1_go {kk : Nat} (hk : kk < cs.length) (hkl : kk ≤ 100000) (ha : acc.length ≤ 1000000) {i : Nat} (hs : stepE P E L (rd cs (kk : Int)).toNat = some (i, rd (freeL P E L) (Int.tmod (rd cs (kk : Int)) ((freeL P E L).length : Int))))
    (h0 : 0 ≤ Int.tmod (rd cs (kk : Int)) ((freeL P E L).length : Int)) (h1 : Int.tmod (rd cs (kk : Int)) ((freeL P E L).length : Int) < ((freeL P E L).length : Int)) {r : List S51 × List Int}
    (H : Ev (fun k => spec_pePeel.l0 k cs on (acc ++ [mkS51 (i, rd (freeL P E L) (Int.tmod (rd cs (kk : Int)) ((freeL P E L).length : Int)))]) (castL (dropE L i)) ((kk + 1 : Nat) : Int) (P : Int) E) r) :
    Ev (fun k => spec_pePeel.j1 k cs on acc (castL L) (kk : Int) true (P : Int) E) r := by
  have hn := hG.len
  have hl := hL.len
  obtain ⟨_, _, hw⟩ := stepE_some hs
  have hwv := spec_with_f hG (fun i hi => hL.lt hi) (by omega) (rd (freeL P E L) (Int.tmod (rd cs (kk : Int)) ((freeL P E L).length : Int))) (L := L)
  rw [hw] at hwv
  refine ev_succ ?_
  simp only [spec_pePeel.j1]
  refine ev_pos trivial (ev_bind _ (spec_free_f hG (fun i hi => hL.lt hi) (by omega)) (ev_neg (by omega) (ev_pos (by omega) (ev_pos (by omega) (ev_pos h0 (ev_pos h1 (ev_bind _ hwv (ev_pos (by omega) (ev_bind _ (spec_drop_f (by omega) i) ?_)))))))))
  rw [winc (by omega)]
  exact H
theorem j1_zero {kk : Nat} (hk : cs.length ≤ kk) (hkl : kk ≤ 100000) (ha : acc.length ≤ 1000000) {i : Nat} (hf : freeL P E L ≠ []) (hs : stepE P E L 0 = some (i, rd (freeL P E L) 0)) {r : List S51 × List Int}
    (H : Ev (fun k => spec_pePeel.l0 k cs on (acc ++ [mkS51 (i, rd (freeL P E L) 0)]) (castL (dropE L i)) ((kk + 1 : Nat) : Int) (P : Int) E) r) :
    Ev (fun k => spec_pePeel.j1 k cs on acc (castL L) (kk : Int) true (P : Int) E) r := by
  have hn := hG.len
  have hl := hL.len
  have hz : ¬ (freeL P E L).length = 0 := fun e => hf (List.length_eq_zero_iff.1 e)
  obtain ⟨_, _, hw⟩ := stepE_some hs
  have hwv := spec_with_f hG (fun i hi => hL.lt hi) (by omega) (rd (freeL P E L) 0) (L := L)
  rw [hw] at hwv
  refine ev_succ ?_
  simp only [spec_pePeel.j1]
  refine ev_pos trivial (ev_bind _ (spec_free_f hG (fun i hi => hL.lt hi) (by omega)) (ev_neg (by omega) (ev_neg (by omega) (ev_pos (by omega) (ev_bind _ hwv (ev_pos (by omega) (ev_bind _ (spec_drop_f (by omega) i) ?_)))))))
  rw [winc (by omega)]
  exact H
end
theorem mkApp (acc : List S51) (s : Nat × Int) (l : List (Nat × Int)) : (acc ++ [mkS51 s]) ++ stepsL l = acc ++ stepsL (s :: l) := by simp [stepsL]
theorem spec_peel_on {P : Nat} {E : Edges} (hG : GoodH P E) {cs : List Int} : ∀ (d : Nat) (L : List Nat) (acc : List S51) (kk : Nat), Rg E.length L → L.length ≤ d → cs.length ≤ kk → kk + d ≤ 100000 → acc.length + d ≤ 1000000 →
    Ev (fun k => spec_pePeel.l0 k cs true acc (castL L) (kk : Int) (P : Int) E) (acc ++ stepsL (peelC P E (List.replicate d 0) L).1, castL (peelC P E (List.replicate d 0) L).2) := by
  have stop : ∀ (d : Nat) (L : List Nat) (acc : List S51) (kk : Nat), Rg E.length L → freeL P E L = [] → Ev (fun k => spec_pePeel.l0 k cs true acc (castL L) (kk : Int) (P : Int) E) (acc ++ stepsL (peelC P E (List.replicate d 0) L).1, castL (peelC P E (List.replicate d 0) L).2) := by
    intro d L acc kk hL hf
    have e : peelC P E (List.replicate d 0) L = ([], L) := by
      cases d with
      | zero => rfl
      | succ d => rw [List.replicate_succ, peelC_cons_none _ _ hf]
    rw [e]
    refine ev_succ ?_
    simp only [spec_pePeel.l0]
    refine ev_pos trivial ?_
    have := j1_end hG hL (cs := cs) (on := true) (acc := acc) hf (kk : Int)
    simpa [stepsL] using this
  intro d
  induction d with
  | zero =>
    intro L acc kk hL hd _ _ _
    have : L = [] := List.length_eq_zero_iff.1 (by omega)
    exact stop 0 L acc kk hL (by rw [this]; exact freeL_nil)
  | succ d ih =>
    intro L acc kk hL hd hk hkd ha
    by_cases hf : freeL P E L = []
    · exact stop (d + 1) L acc kk hL hf
    · obtain ⟨i, hs⟩ := step_zero hf
      obtain ⟨_, _, hw⟩ := stepE_some hs
      have hi := (withE_some hw).1
      have hdl := dropE_len hL.nodup hi
      rw [List.replicate_succ, peelC_cons_some _ hs]
      refine ev_succ ?_
      simp only [spec_pePeel.l0]
      refine ev_pos trivial (j1_zero hG hL hk (by omega) (by omega) hf hs ?_)
      have := ih (dropE L i) (acc ++ [mkS51 (i, rd (freeL P E L) 0)]) (kk + 1) (hL.drop i) (by omega) (by omega) (by omega) (by simp; omega)
      rw [mkApp] at this
      exact this
theorem spec_peel_cs {P : Nat} {E : Edges} (hG : GoodH P E) {cs : List Int} (hcs : ∀ c ∈ cs, 0 ≤ c) (hcl : cs.length ≤ 1000) (on : Bool) {d : Nat} (hd : d ≤ 2000) : ∀ (t pre : List Int) (L : List Nat) (acc : List S51), cs = pre ++ t → Rg E.length L → L.length ≤ d → acc.length + t.length ≤ 900000 →
    Ev (fun k => spec_pePeel.l0 k cs on acc (castL L) (pre.length : Int) (P : Int) E) (acc ++ stepsL (peelC P E (chc t ++ if on = true then List.replicate d 0 else []) L).1, castL (peelC P E (chc t ++ if on = true then List.replicate d 0 else []) L).2) := by
  intro t
  induction t with
  | nil =>
    intro pre L acc h hL hld ha
    have hp : cs = pre := by rw [h, List.append_nil]
    subst hp
    cases on with
    | true =>
      rw [if_pos rfl]
      exact spec_peel_on hG d L acc cs.length hL hld (Nat.le_refl _) (by omega) (by omega)
    | false =>
      rw [if_neg (by simp)]
      refine ev_succ ?_
      simp only [spec_pePeel.l0]
      refine ev_neg (by simp) ?_
      rw [decide_eq_false (by omega)]
      refine ev_succ ?_
      simp only [spec_pePeel.j1]
      exact ev_neg (by simp) (ev_some (by simp [chc, peelC, stepsL]))
  | cons c t ih =>
    intro pre L acc h hL hld ha
    have hm : pre.length < cs.length := by rw [h]; simp
    have hg : rd cs (pre.length : Int) = c := by rw [h]; exact rd_mid
    have hc : 0 ≤ c := hcs c (by rw [h]; simp)
    have hl1 : Ev (fun k => spec_pePeel.j1 k cs on acc (castL L) (pre.length : Int) true (P : Int) E) (acc ++ stepsL (peelC P E (chc (c :: t) ++ if on = true then List.replicate d 0 else []) L).1, castL (peelC P E (chc (c :: t) ++ if on = true then List.replicate d 0 else []) L).2) := by
      simp only [chc, List.map_cons, List.cons_append]
      by_cases hf : freeL P E L = []
      · rw [peelC_cons_none _ _ hf]
        have := j1_end hG hL (cs := cs) (on := on) (acc := acc) hf (pre.length : Int)
        simpa [stepsL] using this
      · obtain ⟨i, hs, h0, h1⟩ := stepE_rd hc hf
        obtain ⟨_, _, hw⟩ := stepE_some hs
        have hdl := dropE_len hL.nodup (withE_some hw).1
        rw [peelC_cons_some _ hs]
        have next := ih (pre ++ [c]) (dropE L i) (acc ++ [mkS51 (i, rd (freeL P E L) (Int.tmod c ((freeL P E L).length : Int)))]) (by rw [h]; simp) (hL.drop i) (by omega) (by simp at ha ⊢; omega)
        rw [len_one, mkApp] at next
        simp only [List.length_cons] at ha
        exact j1_go hG hL (kk := pre.length) hm (by omega) (by omega) (by rw [hg]; exact hs) (by rw [hg]; exact h0) (by rw [hg]; exact h1) (by rw [hg]; exact next)
    refine ev_succ ?_
    simp only [spec_pePeel.l0]
    by_cases ho : on = true
    · exact ev_pos ho hl1
    · refine ev_neg ho ?_
      rw [decide_eq_true (by omega)]
      exact hl1
theorem spec_pePeel_f {P : Nat} {E : Edges} (hG : GoodH P E) {cs : List Int} (hcs : ∀ c ∈ cs, 0 ≤ c) (hcl : cs.length ≤ 1000) (on : Bool) :
    Ev (fun k => spec_pePeel.f k (P : Int) E cs on) (stepsL (peelC P E (chc cs ++ if on = true then List.replicate E.length 0 else []) (allE E)).1, castL (peelC P E (chc cs ++ if on = true then List.replicate E.length 0 else []) (allE E)).2) := by
  have hn := hG.len
  unfold spec_pePeel.f
  have := spec_peel_cs hG hcs hcl on (d := E.length) (by omega) cs [] (allE E) [] rfl (Rg.all _) (by simp [allE]) (by simp; omega)
  rw [List.nil_append] at this
  exact ev_bind _ (spec_peAll_f hn _) this
theorem spec_peCore_f {P : Nat} {E : Edges} (hG : GoodH P E) : Ev (fun k => spec_peCore.f k (P : Int) E) (castL (coreE P E)) := by
  unfold spec_peCore.f
  have := spec_pePeel_f hG (cs := []) (by simp) (by simp) true
  exact ev_bind _ this (Ev.now _)
end Go.Proofs.YthkcgimnagpmaaaQ
namespace Go.Proofs.YthkcgimnagpmaaaQ
open Go Go.RowKit Go.Proofs.YthkcgimnagpmaaaW.PrintWords Go.Proofs.YthkcgimnagpmaaaGp Go.Proofs.Ythkcgimnagpmaaa.PA

def mm (x y : Int) : Int := Int.tmod (wrap64 (x * y)) 65521
theorem mul_range {x y : Int} (hx : 0 ≤ x) (hx1 : x ≤ 65520) (hy : 0 ≤ y) (hy1 : y ≤ 65520) : 0 ≤ x * y ∧ x * y ≤ 4292870400 :=
  ⟨Int.mul_nonneg hx hy, by have := Int.mul_le_mul hx1 hy1 hy (by omega); omega⟩
theorem emod_range (x : Int) : 0 ≤ x % 65521 ∧ x % 65521 ≤ 65520 := by omega
theorem mm_eq {x y : Int} (hx : 0 ≤ x) (hx1 : x ≤ 65520) (hy : 0 ≤ y) (hy1 : y ≤ 65520) : mm x y = x * y % 65521 := by
  obtain ⟨h0, h1⟩ := mul_range hx hx1 hy hy1
  unfold mm
  rw [w64 (by omega) (by omega)]
  exact Int.tmod_eq_emod_of_nonneg h0
theorem mm_mod (a b : Int) : mm (a % 65521) (b % 65521) = a * b % 65521 := by
  rw [mm_eq (emod_range a).1 (emod_range a).2 (emod_range b).1 (emod_range b).2]
  exact (Int.mul_emod a b 65521).symm
def pw (h : Int) : Nat → Int
  | 0 => 1
  | n + 1 => pw h n * h
theorem self_mod {h : Int} (h0 : 0 ≤ h) (h1 : h ≤ 65520) : h = h % 65521 := by omega
theorem mm11 {h : Int} (h0 : 0 ≤ h) (h1 : h ≤ 65520) : mm (mm (mm (mm (mm h h) (mm h h)) h) (mm (mm (mm h h) (mm h h)) h)) h = pw h 11 % 65521 := by
  have e := self_mod h0 h1
  have a2 : mm h h = h * h % 65521 := mm_eq h0 h1 h0 h1
  have a4 : mm (mm h h) (mm h h) = (h * h) * (h * h) % 65521 := by rw [a2, mm_mod]
  have a5 : mm (mm (mm h h) (mm h h)) h = (h * h) * (h * h) * h % 65521 := by
    rw [a4]; conv => lhs; arg 2; rw [e]
    rw [mm_mod]
  rw [a5, mm_mod]
  conv => lhs; arg 2; rw [e]
  rw [mm_mod]
  congr 1
  simp only [pw, Int.one_mul, Int.mul_assoc]
def hstep (h : Int) (c : UInt8) : Int := Int.tmod (wrap64 ((wrap64 (263 * h)) + (wrap64 (c.toNat : Int)))) 65521
def hfold (h : Int) (l : List UInt8) : Int := l.foldl hstep h
theorem hstep_range {h : Int} {c : UInt8} (h0 : 0 ≤ h) (h1 : h ≤ 65520) : 0 ≤ hstep h c ∧ hstep h c ≤ 65520 := by
  have hc : c.toNat < 256 := c.toNat_lt
  unfold hstep
  rw [w64 (x := 263 * h) (by omega) (by omega), w64 (x := (c.toNat : Int)) (by omega) (by omega), w64 (by omega) (by omega), Int.tmod_eq_emod_of_nonneg (by omega)]
  omega
def hstart (a0 a1 : Int) : Int := Int.tmod (wrap64 ((wrap64 ((wrap64 (31 * a0)) + (wrap64 (977 * a1)))) + 7)) 65521
theorem hstart_range {a0 a1 : Int} (h0 : 0 ≤ a0) (h0' : a0 ≤ 1000000) (h1 : 0 ≤ a1) (h1' : a1 ≤ 1000000) : 0 ≤ hstart a0 a1 ∧ hstart a0 a1 ≤ 65520 := by
  unfold hstart
  rw [w64 (x := 31 * a0) (by omega) (by omega), w64 (x := 977 * a1) (by omega) (by omega), w64 (x := 31 * a0 + 977 * a1) (by omega) (by omega), w64 (by omega) (by omega), Int.tmod_eq_emod_of_nonneg (by omega)]
  omega
def hashV (a0 a1 : Int) (s : ByteArray) : Int := pw (hfold (hstart a0 a1) s.data.toList) 11 % 65521
theorem spec_biHash_l0 (x2 : ByteArray) (hz : (x2.size : Int) ≤ 9223372036854775806) : ∀ (t pre : List UInt8) (h : Int), x2.data.toList = pre ++ t → 0 ≤ h → h ≤ 65520 →
    Ev (fun k => spec_biHash.l0 k x2 h (pre.length : Int)) (pw (hfold h t) 11 % 65521) := by
  intro t
  induction t with
  | nil =>
    intro pre h e h0 h1
    refine ev_succ ?_
    simp only [spec_biHash.l0]
    refine ev_neg (not_lt_size e) (ev_some ?_)
    exact mm11 h0 h1
  | cons c t ih =>
    intro pre h e h0 h1
    have hm := lt_size e
    refine ev_succ ?_
    simp only [spec_biHash.l0, bt_mid e]
    refine ev_pos hm (ev_pos (by omega) ?_)
    rw [winc (by omega)]
    have := ih (pre ++ [c]) (hstep h c) (by rw [e]; simp) (hstep_range h0 h1).1 (hstep_range h0 h1).2
    rw [len_one] at this
    exact this
theorem spec_biHash_f (a0 a1 : Int) (s : ByteArray) (hz : (s.size : Int) ≤ 9223372036854775806) (h0 : 0 ≤ a0) (h0' : a0 ≤ 1000000) (h1 : 0 ≤ a1) (h1' : a1 ≤ 1000000) :
    Ev (fun k => spec_biHash.f k a0 a1 s) (hashV a0 a1 s) := by
  unfold spec_biHash.f
  exact spec_biHash_l0 s hz s.data.toList [] _ rfl (hstart_range h0 h0' h1 h1').1 (hstart_range h0 h0' h1 h1').2
def placeV (a0 a1 : Int) (s : ByteArray) (n : Int) : Int := wrap64 (Int.tdiv (wrap64 (hashV a0 a1 s * n)) 65521)
theorem spec_biPlace_f (a0 a1 : Int) (s : ByteArray) (n : Int) (hz : (s.size : Int) ≤ 9223372036854775806) (h0 : 0 ≤ a0) (h0' : a0 ≤ 1000000) (h1 : 0 ≤ a1) (h1' : a1 ≤ 1000000) :
    Ev (fun k => spec_biPlace.f k a0 a1 s n) (placeV a0 a1 s n) := by
  unfold spec_biPlace.f
  exact ev_bind _ (spec_biHash_f a0 a1 s hz h0 h0' h1 h1') (Ev.now _)
end Go.Proofs.YthkcgimnagpmaaaQ
namespace Go.Proofs.YthkcgimnagpmaaaQ
open Go Go.RowKit Go.Proofs.YthkcgimnagpmaaaW.PrintWords Go.Proofs.YthkcgimnagpmaaaGp Go.Proofs.Ythkcgimnagpmaaa.PA

def tripL (a0 : Int) (s : ByteArray) (n : Int) : Nat → Nat → List Int
  | 0, _ => []
  | m + 1, i => wrap64 (placeV a0 (i : Int) s n + wrap64 ((i : Int) * n)) :: tripL a0 s n m (i + 1)
theorem spec_peTriple_l0 (a0 : Int) (n : Int) (s : ByteArray) (hz : (s.size : Int) ≤ 9223372036854775806) (h0 : 0 ≤ a0) (h0' : a0 ≤ 1000000) : ∀ (m i : Nat) (acc : List Int), i + m = 3 → acc.length = i →
    Ev (fun k => spec_peTriple.l0 k a0 s n acc (i : Int)) (acc ++ tripL a0 s n m i) := by
  intro m
  induction m with
  | zero =>
    intro i acc e ha
    refine ev_succ ?_
    simp only [spec_peTriple.l0, tripL]
    exact ev_neg (by omega) (ev_some (by simp))
  | succ m ih =>
    intro i acc e ha
    refine ev_succ ?_
    simp only [spec_peTriple.l0, tripL]
    refine ev_pos (by omega) (ev_bind _ (spec_biPlace_f a0 (i : Int) s n hz h0 h0' (by omega) (by omega)) (ev_pos (by omega) ?_))
    rw [winc (by omega)]
    have := ih (i + 1) (acc ++ [wrap64 (placeV a0 (i : Int) s n + wrap64 ((i : Int) * n))]) (by omega) (by simp [ha])
    rw [List.append_assoc] at this
    exact this
theorem spec_peTriple_f (a0 n : Int) (s : ByteArray) (hz : (s.size : Int) ≤ 9223372036854775806) (h0 : 0 ≤ a0) (h0' : a0 ≤ 1000000) : Ev (fun k => spec_peTriple.f k a0 s n) (tripL a0 s n 3 0) := by
  unfold spec_peTriple.f
  have := spec_peTriple_l0 a0 n s hz h0 h0' 3 0 [] rfl rfl
  exact this
end Go.Proofs.YthkcgimnagpmaaaQ
namespace Go.Proofs.YthkcgimnagpmaaaQ
open Go Go.RowKit Go.Proofs.YthkcgimnagpmaaaW.PrintWords Go.Proofs.YthkcgimnagpmaaaGp Go.Proofs.Ythkcgimnagpmaaa.PA

theorem spec_in (n a b : Int) : spec_l1In.f n a b = some (decide (a ≤ n ∧ n ≤ b)) := by
  unfold spec_l1In.f
  by_cases h : a ≤ n <;> by_cases h' : n ≤ b <;> simp [h, h']
theorem impl_in (n a b : Int) : impl_in.f n a b = some (decide (a ≤ n ∧ n ≤ b)) := by
  unfold impl_in.f
  by_cases h : a ≤ n <;> by_cases h' : n ≤ b <;> simp [h, h']

end Go.Proofs.YthkcgimnagpmaaaQ
namespace Go.Proofs.YthkcgimnagpmaaaQ
open Go Go.RowKit Go.Proofs.YthkcgimnagpmaaaW.PrintWords Go.Proofs.YthkcgimnagpmaaaGp Go.Proofs.Ythkcgimnagpmaaa.PA

structure Bys (s : List Int) : Prop where
  len : (s.length : Int) ≤ 1048576
  all : ∀ x ∈ s, 0 ≤ x ∧ x ≤ 255
theorem and255 (x : Int) : 0 ≤ Go.bits .and .u64 x 255 ∧ Go.bits .and .u64 x 255 ≤ 255 := by
  have e : Go.bits .and .u64 x 255 = IntKind.u64.wrap (((BitVec.ofInt 64 x &&& BitVec.ofInt 64 255 : BitVec 64)).toNat : Int) := by unfold Go.bits; rfl
  have h : ((BitVec.ofInt 64 x &&& BitVec.ofInt 64 255 : BitVec 64)).toNat ≤ 255 := by
    rw [BitVec.toNat_and]
    exact Nat.and_le_right
  rw [e]
  unfold IntKind.wrap
  simp only [IntKind.bits, IntKind.signed]
  generalize (BitVec.ofInt 64 x &&& BitVec.ofInt 64 255 : BitVec 64).toNat = m at h
  simp
  omega
theorem rd_by {s : List Int} (hs : Bys s) (i : Int) : 0 ≤ rd s i ∧ rd s i ≤ 255 := by
  unfold rd
  by_cases c : i.toNat < s.length
  · rw [List.getD_eq_getElem?_getD, List.getElem?_eq_getElem c]
    exact hs.all _ (List.getElem_mem c)
  · rw [List.getD_eq_getElem?_getD, List.getElem?_eq_none (by omega)]
    simp
theorem next_ok {s : List Int} (hs : Bys s) {p : Int} (sd : Int) (h0 : 0 ≤ p) (h1 : p ≤ 4000000000000000000) :
    ∃ v p' sd', spec_l1Cur_next.f s p sd = some (v, p', sd') ∧ (0 ≤ v ∧ v ≤ 255) ∧ 0 ≤ p' ∧ p' ≤ p + 1 := by
  have hb := rd_by hs p
  have w1 : wrap64 (p + 1) = p + 1 := w64 (by omega) (by omega)
  have w2 : wrap64 (rd s p) = rd s p := w64 (by omega) (by omega)
  unfold spec_l1Cur_next.f
  rw [w1, w2]
  by_cases c : p < (s.length : Int)
  · rw [if_pos c, if_pos h0]
    split
    · exact ⟨_, _, _, rfl, hb, by omega, by omega⟩
    · omega
  · rw [if_neg c, if_neg (by omega)]
    refine ⟨_, _, _, rfl, ?_, by omega, by omega⟩
    have := and255 ((IntKind.u64.wrap ((IntKind.u64.wrap (IntKind.u64.wrap (sd * 6364136223846793005))) + 1442695040888963407)) / 1099511627776)
    rw [w64 (by omega) (by omega)]
    exact this
theorem pick_ok {s : List Int} (hs : Bys s) {p : Int} (sd : Int) {n : Int} (h0 : 0 ≤ p) (h1 : p ≤ 3000000000000000000) :
    ∃ v p' sd', spec_l1Cur_pick.f s p sd n = some (v, p', sd') ∧ (0 ≤ v ∧ (v < n ∨ v = 0)) ∧ 0 ≤ p' ∧ p' ≤ p + 2 := by
  unfold spec_l1Cur_pick.f
  by_cases c : n ≤ 1
  · rw [if_pos c]; exact ⟨_, _, _, rfl, ⟨by omega, .inr rfl⟩, h0, by omega⟩
  obtain ⟨v, p', sd', e, hv, q0, q1⟩ := next_ok hs sd h0 (by omega)
  have hn : ¬ n = 0 := by omega
  rw [if_neg c, e]
  simp only [Option.bind_some, if_neg hn]
  by_cases d : n > 200
  · obtain ⟨u, p2, sd2, e2, hu, r0, r1⟩ := next_ok hs sd' q0 (by omega)
    rw [if_pos d, e2]
    simp only [Option.bind_some]
    refine ⟨_, _, _, rfl, ?_, r0, by omega⟩
    rw [w64 (x := v * 256) (by omega) (by omega), w64 (x := v * 256 + u) (by omega) (by omega), Int.tmod_eq_emod_of_nonneg (by omega)]
    exact ⟨Int.emod_nonneg _ hn, .inl (Int.emod_lt_of_pos _ (by omega))⟩
  · rw [if_neg d]
    refine ⟨_, _, _, rfl, ?_, q0, by omega⟩
    rw [Int.tmod_eq_emod_of_nonneg hv.1]
    exact ⟨Int.emod_nonneg _ hn, .inl (Int.emod_lt_of_pos _ (by omega))⟩
theorem one_ok {s : List Int} (hs : Bys s) {p : Int} (sd : Int) (n : Int) (h0 : 0 ≤ p) (h1 : p ≤ 3000000000000000000) :
    ∃ v p' sd', spec_l1Cur_one.f s p sd n = some (v, p', sd') ∧ 0 ≤ p' ∧ p' ≤ p + 2 := by
  obtain ⟨v, p', sd', e, _, q0, q1⟩ := pick_ok hs sd (n := n) h0 h1
  unfold spec_l1Cur_one.f
  rw [e]
  exact ⟨_, _, _, rfl, q0, q1⟩
theorem among_ok {s : List Int} (hs : Bys s) {p : Int} (sd : Int) {l : List Int} (hl : 0 < l.length) (h0 : 0 ≤ p) (h1 : p ≤ 3000000000000000000) :
    ∃ v p' sd', spec_l1Cur_among.f s p sd l = some (v, p', sd') ∧ v ∈ l ∧ 0 ≤ p' ∧ p' ≤ p + 2 := by
  obtain ⟨v, p', sd', e, hv, q0, q1⟩ := pick_ok hs sd (n := (l.length : Int)) h0 h1
  have hm : rd l v ∈ l := by
    unfold rd
    have : v.toNat < l.length := by omega
    rw [List.getD_eq_getElem?_getD, List.getElem?_eq_getElem this]
    exact List.getElem_mem this
  unfold spec_l1Cur_among.f
  rw [e]
  simp only [Option.bind_some]
  rw [if_pos (by omega), if_pos (by omega)]
  exact ⟨_, _, _, rfl, hm, q0, q1⟩
theorem strOf_size (l : List Int) : (strOfNums l).size = l.length := by simp [strOfNums, ByteArray.size]

def Dr {α : Type} (g : Nat → Option (α × Int × Int)) (p c : Int) (P : α → Prop) : Prop := ∃ v p' sd', Ev g (v, p', sd') ∧ P v ∧ 0 ≤ p' ∧ p' ≤ p + c
theorem key_l1 (s : List Int) (p sd : Int) : ∀ (d : Nat) (x : List Int), 12 - x.length ≤ d → x.length ≤ 12 →
    ∃ v, Ev (fun k => spec_l1Cur_key.l1 k x s p sd) (v, p, sd) ∧ v.size ≤ 12 := by
  intro d
  induction d with
  | zero =>
    intro x h1 h2
    refine ⟨strOfNums x, ev_succ ?_, by rw [strOf_size]; omega⟩
    simp only [spec_l1Cur_key.l1]
    exact ev_neg (by omega) (Ev.now _)
  | succ d ih =>
    intro x h1 h2
    by_cases c : (x.length : Int) < 12
    · obtain ⟨v, e, hv⟩ := ih (x ++ [97]) (by simp; omega) (by simp; omega)
      refine ⟨v, ev_succ ?_, hv⟩
      simp only [spec_l1Cur_key.l1]
      exact ev_pos c (ev_pos (by omega) e)
    · refine ⟨strOfNums x, ev_succ ?_, by rw [strOf_size]; omega⟩
      simp only [spec_l1Cur_key.l1]
      exact ev_neg c (Ev.now _)
theorem key_l0 {s : List Int} (hs : Bys s) : ∀ (n : Nat) (x : List Int) (p sd : Int), x.length + n ≤ 12 → 0 ≤ p → p + 2 * (n : Int) ≤ 2000000000000000000 →
    Dr (fun k => spec_l1Cur_key.l0 k x (n : Int) s p sd) p (2 * (n : Int) + 2) (fun v => v.size ≤ 12) := by
  intro n
  induction n with
  | zero =>
    intro x p sd hx h0 h1
    obtain ⟨v, p', sd', e, q0, q1⟩ := one_ok hs sd 12 h0 (by omega)
    by_cases c : v = true
    · obtain ⟨u, eu, hu⟩ := key_l1 s p' sd' 12 x (by omega) (by omega)
      refine ⟨u, p', sd', ev_succ ?_, hu, q0, by omega⟩
      simp only [spec_l1Cur_key.l0, e]
      exact ev_neg (by omega) (ev_bind _ (Ev.now _) (ev_pos c eu))
    · refine ⟨strOfNums x, p', sd', ev_succ ?_, (by rw [strOf_size]; omega : (strOfNums x).size ≤ 12), q0, by omega⟩
      simp only [spec_l1Cur_key.l0, e]
      exact ev_neg (by omega) (ev_bind _ (Ev.now _) (ev_neg c (Ev.now _)))
  | succ n ih =>
    intro x p sd hx h0 h1
    obtain ⟨v, p', sd', e, hv, q0, q1⟩ := pick_ok hs sd (n := 11) h0 (by omega)
    obtain ⟨u, p2, sd2, eu, hu, r0, r1⟩ := ih (x ++ [bt (⟨#[97, 97, 98, 98, 99, 120, 121, 122, 33, 125, 48]⟩ : ByteArray) v]) p' sd' (by simp; omega) q0 (by omega)
    refine ⟨u, p2, sd2, ev_succ ?_, hu, r0, by omega⟩
    simp only [spec_l1Cur_key.l0, e]
    refine ev_pos (by omega) (ev_bind _ (Ev.now _) (ev_pos hv.1 (ev_pos (by omega) (ev_pos (by omega) ?_))))
    rw [wdec (by omega)]
    exact eu
theorem key_ok {s : List Int} (hs : Bys s) {p : Int} (sd : Int) (h0 : 0 ≤ p) (h1 : p ≤ 1000000000000000000) : Dr (fun k => spec_l1Cur_key.f k s p sd) p 12 (fun v => v.size ≤ 12) := by
  obtain ⟨v, p', sd', e, hv, q0, q1⟩ := pick_ok hs sd (n := 4) h0 (by omega)
  obtain ⟨u, p2, sd2, eu, hu, r0, r1⟩ := key_l0 hs (v.toNat + 1) [] p' sd' (by simp; omega) q0 (by omega)
  refine ⟨u, p2, sd2, ?_, hu, r0, by omega⟩
  unfold spec_l1Cur_key.f
  rw [e]
  refine ev_bind _ (Ev.now _) ?_
  rw [w64 (by omega) (by omega), show 1 + v = ((v.toNat + 1 : Nat) : Int) from by omega]
  exact eu
def insK (s : ByteArray) : List ByteArray → List ByteArray
  | [] => [s]
  | q :: t => if lessS q s = true then q :: insK s t else if q = s then q :: t else s :: q :: t
theorem insK_len (s : ByteArray) : ∀ l, (insK s l).length ≤ l.length + 1
  | [] => by simp [insK]
  | q :: t => by
    have := insK_len s t
    unfold insK
    split
    · simp; omega
    · split <;> simp
theorem insK_mem (s : ByteArray) : ∀ l, ∀ x ∈ insK s l, x = s ∨ x ∈ l
  | [], x, h => by simp [insK] at h; exact .inl h
  | q :: t, x, h => by
    unfold insK at h
    split at h
    · rcases List.mem_cons.1 h with e | e
      · exact .inr (by simp [e])
      · rcases insK_mem s t x e with e | e
        · exact .inl e
        · exact .inr (by simp [e])
    · split at h
      · exact .inr h
      · rcases List.mem_cons.1 h with e | e
        · exact .inl e
        · exact .inr e
theorem putS_l0 (x0 : List ByteArray) (s : ByteArray) (hx : x0.length ≤ 1000000) : ∀ (t pre : List ByteArray), x0 = pre ++ t →
    Ev (fun k => spec_l1PutS.l0 k x0 s (pre.length : Int)) (pre ++ insK s t) := by
  intro t
  induction t with
  | nil =>
    intro pre h
    have hp : x0 = pre := by rw [h, List.append_nil]
    subst hp
    refine ev_succ ?_
    simp only [spec_l1PutS.l0]
    refine ev_neg (by omega) (ev_bind _ (Ev.now _) (ev_pos (by omega) (ev_pos (by omega) (ev_bind _ (Ev.now _) ?_))))
    rw [Int.toNat_natCast, List.take_length, List.nil_append]
    refine ev_pos (by simp; omega) (ev_bind _ (Ev.now _) (ev_pos (by omega) (ev_bind _ (Ev.now _) (ev_bind _ (Ev.now _) (ev_pos (by simp; omega) (ev_some ?_))))))
    simp [insK]
  | cons q t ih =>
    intro pre h
    have hm : ((pre.length : Nat) : Int) < (x0.length : Int) := by rw [h]; exact lt_mid
    have hg : rdOf ByteArray.empty x0 (pre.length : Int) = q := by rw [h]; exact rdOf_mid
    refine ev_succ ?_
    simp only [spec_l1PutS.l0, hg]
    refine ev_pos hm (ev_pos (by omega) ?_)
    unfold insK
    by_cases c : lessS q s = true
    · refine ev_pos c ?_
      rw [winc (by omega), if_pos c]
      have := ih (pre ++ [q]) (by rw [h]; simp)
      rw [len_one] at this
      simpa using this
    · refine ev_neg c ?_
      rw [if_neg c]
      by_cases d : q = s
      · refine ev_pos (tl_inj.2 d) (ev_some ?_)
        rw [if_pos d, h]
      · refine ev_neg (fun e => d (tl_inj.1 e)) (ev_bind _ (Ev.now _) (ev_pos (by omega) (ev_bind _ (Ev.now _) ?_)))
        have et : x0.take pre.length = pre := by rw [h]; simp
        have ed : x0.drop pre.length = q :: t := by rw [h]; simp
        have hl : x0.length = pre.length + (t.length + 1) := by rw [h]; simp
        rw [Int.toNat_natCast, et, ed, List.nil_append, if_neg d]
        refine ev_pos (by simp; omega) (ev_bind _ (Ev.now _) (ev_pos (by omega) (ev_bind _ (Ev.now _) (ev_bind _ (Ev.now _) (ev_pos (by simp; omega) (ev_some ?_))))))
        simp
theorem putS_f (l : List ByteArray) (s : ByteArray) (h : l.length ≤ 1000000) : Ev (fun k => spec_l1PutS.f k l s) (insK s l) := putS_l0 l s h l [] rfl
def Kys (m : Nat) (l : List ByteArray) : Prop := l.length ≤ m ∧ ∀ s ∈ l, s.size ≤ 13
theorem Kys.ins {m : Nat} {l : List ByteArray} (h : Kys m l) {s : ByteArray} (hs : s.size ≤ 13) : Kys (m + 1) (insK s l) :=
  ⟨by have := insK_len s l; have := h.1; omega, fun x hx => by exact (insK_mem s l x hx).elim (fun e => e ▸ hs) (h.2 x)⟩
theorem Kys.one {m : Nat} {l : List ByteArray} (h : Kys m l) {s : ByteArray} (hs : s.size ≤ 13) : Kys (m + 1) (l ++ [s]) :=
  ⟨by have := h.1; simp; omega, fun x hx => by exact (List.mem_append.1 hx).elim (h.2 x) (fun e => List.mem_singleton.1 e ▸ hs)⟩
theorem Kys.mono {m m' : Nat} {l : List ByteArray} (h : Kys m l) (hm : m ≤ m') : Kys m' l := ⟨Nat.le_trans h.1 hm, h.2⟩
theorem keys_l0 {s : List Int} (hs : Bys s) : ∀ (n m : Nat) (x : List ByteArray) (p sd : Int), Kys m x → m + n ≤ 1000 → 0 ≤ p → p + 12 * (n : Int) ≤ 500000000000000000 →
    Dr (fun k => spec_l1Cur_keys.l0 k x (n : Int) s p sd) p (12 * (n : Int)) (Kys (m + n)) := by
  intro n
  induction n with
  | zero =>
    intro m x p sd hx hm h0 h1
    refine ⟨x, p, sd, ev_succ ?_, hx, h0, by omega⟩
    simp only [spec_l1Cur_keys.l0]
    exact ev_neg (by omega) (Ev.now _)
  | succ n ih =>
    intro m x p sd hx hm h0 h1
    obtain ⟨v, p', sd', e, hv, q0, q1⟩ := key_ok hs sd h0 (by omega)
    have hl := hx.1
    obtain ⟨u, p2, sd2, eu, hu, r0, r1⟩ := ih (m + 1) (insK v x) p' sd' (hx.ins (by omega)) (by omega) q0 (by omega)
    refine ⟨u, p2, sd2, ev_succ ?_, hu.mono (by omega), r0, by omega⟩
    simp only [spec_l1Cur_keys.l0]
    refine ev_pos (by omega) (ev_bind _ e (ev_bind _ (putS_f x v (by omega)) ?_))
    rw [wdec (by omega)]
    exact eu
theorem keys_ok {s : List Int} (hs : Bys s) {p : Int} (sd : Int) {n : Nat} (hn : n ≤ 100) (h0 : 0 ≤ p) (h1 : p ≤ 400000000000000000) : Dr (fun k => spec_l1Cur_keys.f k s p sd (n : Int)) p (12 * (n : Int) + 2) (Kys n) := by
  obtain ⟨v, p', sd', e, hv, q0, q1⟩ := pick_ok hs sd (n := (n : Int) + 1) h0 (by omega)
  obtain ⟨u, p2, sd2, eu, hu, r0, r1⟩ := keys_l0 hs v.toNat 0 [] p' sd' ⟨by simp, by simp⟩ (by omega) q0 (by omega)
  refine ⟨u, p2, sd2, ?_, hu.mono (by omega), r0, by omega⟩
  unfold spec_l1Cur_keys.f
  rw [w64 (x := (n : Int) + 1) (by omega) (by omega), e]
  refine ev_bind _ (Ev.now _) ?_
  rw [show ((v.toNat : Nat) : Int) = v from by omega] at eu
  exact eu
end Go.Proofs.YthkcgimnagpmaaaQ
namespace Go.Proofs.YthkcgimnagpmaaaQ
open Go Go.RowKit Go.Proofs.YthkcgimnagpmaaaW.PrintWords Go.Proofs.YthkcgimnagpmaaaGp Go.Proofs.Ythkcgimnagpmaaa.PA

theorem Dr.mono {α : Type} {g : Nat → Option (α × Int × Int)} {p c c' : Int} {P P' : α → Prop} (h : Dr g p c P) (hc : c ≤ c') (hP : ∀ x, P x → P' x) : Dr g p c' P' := by
  obtain ⟨v, p', sd', e, hv, q0, q1⟩ := h
  exact ⟨v, p', sd', e, hP v hv, q0, by omega⟩
theorem big_f {l0 l1 : List Int} (h0 : l0.length ≤ maxLen) (h1 : l1.length ≤ maxLen) : ∃ b, laws_big.f l0 l1 = some b ∧ (b = false → (l0.length : Int) ≤ 1048576 ∧ (l1.length : Int) ≤ 1048576) := by
  rw [maxLen_eq] at h0 h1
  unfold laws_big.f
  by_cases c : (l0.length : Int) > 1048576
  · exact ⟨true, if_pos c, by simp⟩
  · refine ⟨_, if_neg c, fun h => ?_⟩
    rw [decide_eq_false_iff_not, w64 (by omega) (by omega)] at h
    omega
theorem bys {l : List Int} (h : (l.length : Int) ≤ 1048576) (hw : ∀ x ∈ l, (Lit.int .u8 x).wf = true) : Bys l := by
  refine ⟨h, fun x hx => ?_⟩
  have := hw x hx
  simp only [Lit.wf, Bool.and_eq_true, decide_eq_true_eq] at this
  exact this
end Go.Proofs.YthkcgimnagpmaaaQ
namespace Go.Proofs.YthkcgimnagpmaaaQ
open Go Go.RowKit Go.Proofs.YthkcgimnagpmaaaW.PrintWords Go.Proofs.YthkcgimnagpmaaaGp Go.Proofs.Ythkcgimnagpmaaa.PA

def isEdgeB (P : Int) (e : List Int) : Bool := decide (e.length = 3) && decide (0 ≤ rd e 0) && decide (rd e 0 < rd e 1) && decide (rd e 1 < rd e 2) && decide (rd e 2 < P)
def goodB (P : Int) (E : Edges) : Bool := decide (1 ≤ P ∧ P ≤ 72) && decide (E.length ≤ 40) && E.all (isEdgeB P)
theorem impl_isEdge_f (e : List Int) (P : Int) : impl_isEdge.f e P = some (isEdgeB P e) := by
  unfold impl_isEdge.f isEdgeB
  by_cases c : e.length = 3
  · rw [if_pos (by omega), if_pos (by omega), decide_eq_true c]
    by_cases c0 : rd e 0 ≥ 0
    · rw [if_pos c0, if_pos (by omega), decide_eq_true c0]
      by_cases c1 : rd e 0 < rd e 1
      · rw [if_pos c1, if_pos (by omega), decide_eq_true c1]
        by_cases c2 : rd e 1 < rd e 2
        · rw [if_pos c2, decide_eq_true c2]; simp
        · rw [if_neg c2, decide_eq_false c2]; simp
      · rw [if_neg c1, decide_eq_false c1]; simp
    · rw [if_neg c0, decide_eq_false c0]; simp
  · rw [if_neg (by omega), decide_eq_false c]; simp
theorem isEdgeB_ok {P : Int} {e : List Int} (h : isEdgeB P e = true) : e.length ≤ 3 ∧ ∀ p ∈ e, 0 ≤ p ∧ p < P := by
  unfold isEdgeB at h
  simp only [Bool.and_eq_true, decide_eq_true_eq] at h
  obtain ⟨⟨⟨⟨h1, h2⟩, h3⟩, h4⟩, h5⟩ := h
  match e, h1 with
  | [a, b, c], _ =>
    simp only [rd] at h2 h3 h4 h5
    change 0 ≤ a at h2
    change a < b at h3
    change b < c at h4
    change c < P at h5
    refine ⟨by simp, fun p hp => ?_⟩
    simp only [List.mem_cons, List.not_mem_nil, or_false] at hp
    omega
theorem goodB_ok {P : Int} {E : Edges} (h : goodB P E = true) : GoodH P.toNat E ∧ (P.toNat : Int) = P ∧ E.length ≤ 40 ∧ P ≤ 72 := by
  unfold goodB at h
  simp only [Bool.and_eq_true, decide_eq_true_eq, List.all_eq_true] at h
  obtain ⟨⟨h1, h2⟩, h3⟩ := h
  refine ⟨⟨fun e he p hp => ?_, by omega, fun e he => (isEdgeB_ok (h3 e he)).1, by omega⟩, by omega, h2, h1.2⟩
  have := (isEdgeB_ok (h3 e he)).2 p hp
  omega
theorem impl_IsHyper_l0 (P : Int) (E : Edges) (x0 : List (List Int)) (hl : (x0.length : Int) ≤ 9223372036854775806) : ∀ (t pre : List (List Int)), x0 = pre ++ t →
    ∃ r, Ev (fun k => slices_IndexFunc_int_int_at_impl_IsHyper_1.l0 k x0 (x0.length : Int) (pre.length : Int) P E) r ∧ decide (r ≥ 0) = !(t.all (isEdgeB P)) := by
  intro t
  induction t with
  | nil =>
    intro pre h
    refine ⟨-1, ev_succ ?_, by simp⟩
    simp only [slices_IndexFunc_int_int_at_impl_IsHyper_1.l0]
    exact ev_neg (by rw [h]; exact not_lt_end) (Ev.now _)
  | cons x t ih =>
    intro pre h
    have hm : ((pre.length : Nat) : Int) < (x0.length : Int) := by rw [h]; exact lt_mid
    have hg : rd_L2 x0 (pre.length : Int) = x := by simp [rd_L2, h]
    have e1 : impl_IsHyper_1.f x P E = some (!(isEdgeB P x)) := by unfold impl_IsHyper_1.f; rw [impl_isEdge_f]; rfl
    by_cases c : isEdgeB P x = true
    · obtain ⟨r, h1, h2⟩ := ih (pre ++ [x]) (by rw [h]; simp)
      rw [len_one] at h1
      refine ⟨r, ev_succ ?_, by rw [h2]; simp [c]⟩
      simp only [slices_IndexFunc_int_int_at_impl_IsHyper_1.l0, hg, e1]
      rw [c, winc (by omega)]
      exact ev_pos hm (ev_pos (by omega) (ev_pos hm (ev_bind _ (Ev.now _) (ev_neg (by simp) h1))))
    · refine ⟨(pre.length : Int), ev_succ ?_, by simp [c]⟩
      simp only [slices_IndexFunc_int_int_at_impl_IsHyper_1.l0, hg, e1]
      rw [Bool.eq_false_iff.2 c]
      exact ev_pos hm (ev_pos (by omega) (ev_pos hm (ev_bind _ (Ev.now _) (ev_pos (by simp) (Ev.now _)))))
theorem impl_IsHyper_f (P : Int) (E : Edges) (hl : (E.length : Int) ≤ 9223372036854775806) : Ev (fun k => impl_IsHyper.f k P E) (goodB P E) := by
  obtain ⟨r, h1, h2⟩ := impl_IsHyper_l0 P E E hl E [] rfl
  unfold impl_IsHyper.f slices_ContainsFunc_int_int_at_impl_IsHyper_1.f slices_IndexFunc_int_int_at_impl_IsHyper_1.f goodB
  rw [impl_in]
  refine ev_bind _ (ev_bind _ h1 (ev_some h2)) ?_
  by_cases c : E.all (isEdgeB P) = true
  · rw [c]
    refine ev_neg (by simp) (ev_bind _ (Ev.now _) ?_)
    by_cases d : 1 ≤ P ∧ P ≤ 72
    · rw [decide_eq_true d]
      refine ev_pos rfl (ev_some ?_)
      rw [Bool.true_and, Bool.and_true, decide_eq_decide]
      omega
    · rw [decide_eq_false d]
      exact ev_neg (by simp) (Ev.now _)
  · rw [Bool.eq_false_iff.2 c]
    exact ev_pos (by simp) (ev_some (by simp))

def hypE (a0 n : Int) (l : List ByteArray) : Edges := l.map fun s => tripL a0 s n 3 0
theorem hypE_len (a0 n : Int) (l : List ByteArray) : (hypE a0 n l).length = l.length := by simp [hypE]
theorem hypE_app (a0 n : Int) (l : List ByteArray) (s : ByteArray) : hypE a0 n (l ++ [s]) = hypE a0 n l ++ [tripL a0 s n 3 0] := by simp [hypE]
theorem spec_peHyper_l0 {a0 n : Int} (h0 : 0 ≤ a0) (h0' : a0 ≤ 1000000) (q : Int) {x0 : List ByteArray} (hx : x0.length ≤ 1000) (hz : ∀ s ∈ x0, s.size ≤ 1000) : ∀ (t pre : List ByteArray), x0 = pre ++ t →
    Ev (fun k => spec_peHyper.l0 k a0 n x0 (x0.length : Int) (pre.length : Int) q (hypE a0 n pre)) (q, hypE a0 n x0) := by
  intro t
  induction t with
  | nil =>
    intro pre h
    have hp : x0 = pre := by rw [h, List.append_nil]
    subst hp
    refine ev_succ ?_
    simp only [spec_peHyper.l0]
    exact ev_neg (by omega) (Ev.now _)
  | cons x t ih =>
    intro pre h
    have hm : ((pre.length : Nat) : Int) < (x0.length : Int) := by rw [h]; exact lt_mid
    have hg : rdOf ByteArray.empty x0 (pre.length : Int) = x := by rw [h]; exact rdOf_mid
    have hxs := hz x (by rw [h]; simp)
    refine ev_succ ?_
    simp only [spec_peHyper.l0, hg]
    refine ev_pos hm (ev_pos (by omega) (ev_pos hm (ev_bind _ (spec_peTriple_f a0 n x (by omega) h0 h0') (ev_pos (by rw [hypE_len]; omega) ?_))))
    rw [winc (by omega), ← hypE_app]
    have := ih (pre ++ [x]) (by rw [h]; simp)
    rw [len_one] at this
    exact this
theorem spec_peHyper_f {a0 n : Int} (h0 : 0 ≤ a0) (h0' : a0 ≤ 1000000) (hn : 0 ≤ n) (hn' : n ≤ 1000) {x0 : List ByteArray} (hx : x0.length ≤ 1000) (hz : ∀ s ∈ x0, s.size ≤ 1000) : Ev (fun k => spec_peHyper.f k a0 x0 n) (3 * n, hypE a0 n x0) := by
  unfold spec_peHyper.f
  rw [w64 (by omega) (by omega)]
  exact spec_peHyper_l0 h0 h0' (3 * n) hx hz x0 [] rfl
theorem impl_order_f {P : Int} {E : Edges} (h : goodB P E = true) : Ev (fun k => impl_Hyper_order.f k P E) (stepsL (peelAll P.toNat E).1, (coreE P.toNat E).length == 0) := by
  obtain ⟨hG, hP, _, _⟩ := goodB_ok h
  have := impl_peel_f hG
  rw [hP] at this
  unfold impl_Hyper_order.f
  refine ev_bind _ this (ev_some ?_)
  rw [castL_len]
  congr 1
  rw [Bool.eq_iff_iff, beq_iff_eq, beq_iff_eq]
  omega
end Go.Proofs.YthkcgimnagpmaaaQ
namespace Go.Proofs.YthkcgimnagpmaaaQ
open Go Go.RowKit Go.Proofs.YthkcgimnagpmaaaW.PrintWords Go.Proofs.YthkcgimnagpmaaaGp Go.Proofs.Ythkcgimnagpmaaa.PA

def risF (lo hi : Int) : Option Int → List Int → Bool
  | _, [] => true
  | p, x :: t => decide (lo ≤ x ∧ x ≤ hi) && (match p with | none => true | some q => decide (q < x)) && risF lo hi (some x) t
theorem last_int {pre : List Int} (h : 0 < pre.length) : ∃ q p, pre = q ++ [p] := by
  rcases List.eq_nil_or_concat pre with e | ⟨q, p, e⟩
  · rw [e] at h; simp at h
  · exact ⟨q, p, by rw [e]; simp⟩
theorem rd_last {pre t : List Int} {p s : Int} : rd ((pre ++ [p]) ++ s :: t) ((pre.length : Nat) : Int) = p := by simp [rd]
theorem spec_rising_l0 (lo hi : Int) (x0 : List Int) (hl : (x0.length : Int) ≤ 9223372036854775806) : ∀ (t pre : List Int), x0 = pre ++ t →
    Ev (fun k => spec_l1Rising.l0 k x0 lo hi x0 (x0.length : Int) (pre.length : Int)) (risF lo hi pre.getLast? t) := by
  intro t
  induction t with
  | nil =>
    intro pre h
    refine ev_succ ?_
    simp only [spec_l1Rising.l0]
    exact ev_neg (by rw [h]; exact not_lt_end) (ev_some (by simp [risF]))
  | cons x t ih =>
    intro pre h
    have hm : ((pre.length : Nat) : Int) < (x0.length : Int) := by rw [h]; exact lt_mid
    have hg : rd x0 (pre.length : Int) = x := by rw [h]; exact rd_mid
    have next := ih (pre ++ [x]) (by rw [h]; simp)
    rw [len_one, List.getLast?_append, List.getLast?_singleton, Option.some_or] at next
    refine ev_succ ?_
    simp only [spec_l1Rising.l0, hg]
    rw [spec_in]
    refine ev_pos hm (ev_pos (by omega) (ev_pos hm (ev_bind _ (Ev.now _) ?_)))
    rw [winc (by omega)]
    unfold risF
    by_cases c : lo ≤ x ∧ x ≤ hi
    · rw [decide_eq_true c, Bool.true_and]
      refine ev_pos rfl ?_
      by_cases p0 : 0 < pre.length
      · obtain ⟨q, p, rfl⟩ := last_int p0
        have hq : rd x0 (q.length : Int) = p := by rw [h]; exact rd_last
        have hlen : (q ++ [p]).length = q.length + 1 := by simp
        rw [hlen] at hm next ⊢
        rw [List.getLast?_append, List.getLast?_singleton, Option.some_or, wdec (by omega)]
        refine ev_pos (by omega) (ev_pos (by omega) (ev_pos (by omega) ?_))
        rw [hq]
        by_cases d : p < x
        · simp only [decide_eq_true d, Bool.true_and]
          exact ev_neg (by omega) next
        · simp only [decide_eq_false d, Bool.false_and]
          exact ev_pos (by omega) (Ev.now _)
      · have : pre = [] := List.length_eq_zero_iff.1 (by omega)
        subst this
        simp only [List.getLast?_nil, Bool.true_and]
        exact ev_neg (by simp) next
    · rw [decide_eq_false c]
      exact ev_neg (by simp) (ev_some (by simp))
theorem spec_rising_f (lo hi : Int) (l : List Int) (hl : (l.length : Int) ≤ 9223372036854775806) : Ev (fun k => spec_l1Rising.f k l lo hi) (risF lo hi none l) := by
  unfold spec_l1Rising.f
  exact spec_rising_l0 lo hi l hl l [] rfl
theorem ris_edge (P : Int) (e : List Int) (h : e.length = 3) : risF 0 (P - 1) none e = isEdgeB P e := by
  match e, h with
  | [a, b, c], _ =>
    unfold isEdgeB
    simp only [risF, Bool.and_true]
    rw [Bool.eq_iff_iff]
    simp only [Bool.and_eq_true, decide_eq_true_eq]
    have e0 : rd [a, b, c] 0 = a := rfl
    have e1 : rd [a, b, c] 1 = b := rfl
    have e2 : rd [a, b, c] 2 = c := rfl
    have e3 : [a, b, c].length = 3 := rfl
    rw [e0, e1, e2, e3]
    omega
theorem spec_peEdge_f {P : Int} (h1 : 1 ≤ P) (h2 : P ≤ 72) (e : List Int) (hl : (e.length : Int) ≤ 9223372036854775806) : Ev (fun k => spec_peEdge.f k e P) (isEdgeB P e) := by
  unfold spec_peEdge.f
  rw [w64 (by omega) (by omega)]
  by_cases c : e.length = 3
  · refine ev_pos (by omega) ?_
    rw [← ris_edge P e c]
    exact ev_bind _ (spec_rising_f 0 (P - 1) e hl) (Ev.now _)
  · refine ev_neg (by omega) (ev_some ?_)
    unfold isEdgeB
    rw [decide_eq_false c]; rfl
theorem spec_peGood_l0 {P : Int} (h1 : 1 ≤ P) (h2 : P ≤ 72) (E x0 : Edges) (hl : (x0.length : Int) ≤ 9223372036854775806) (hr : ∀ e ∈ x0, (e.length : Int) ≤ 9223372036854775806) : ∀ (t pre : Edges), x0 = pre ++ t →
    Ev (fun k => spec_peGood.l0 k x0 (x0.length : Int) (pre.length : Int) P E) (t.all (isEdgeB P)) := by
  intro t
  induction t with
  | nil =>
    intro pre h
    refine ev_succ ?_
    simp only [spec_peGood.l0]
    exact ev_neg (by rw [h]; exact not_lt_end) (ev_some (by simp))
  | cons x t ih =>
    intro pre h
    have hm : ((pre.length : Nat) : Int) < (x0.length : Int) := by rw [h]; exact lt_mid
    have hg : rd_L2 x0 (pre.length : Int) = x := by simp [rd_L2, h]
    refine ev_succ ?_
    simp only [spec_peGood.l0, hg]
    refine ev_pos hm (ev_pos (by omega) (ev_pos hm (ev_bind _ (spec_peEdge_f h1 h2 x (hr x (by rw [h]; simp))) ?_)))
    rw [winc (by omega)]
    by_cases c : isEdgeB P x = true
    · have := ih (pre ++ [x]) (by rw [h]; simp)
      rw [len_one] at this
      rw [List.all_cons, c]
      exact ev_pos rfl this
    · rw [List.all_cons, Bool.eq_false_iff.2 c]
      exact ev_neg (by simp) (Ev.now _)
theorem spec_peGood_f (P : Int) (E : Edges) (hl : (E.length : Int) ≤ 9223372036854775806) (hr : ∀ e ∈ E, (e.length : Int) ≤ 9223372036854775806) : Ev (fun k => spec_peGood.f k P E) (goodB P E) := by
  unfold spec_peGood.f goodB
  rw [spec_in]
  refine ev_bind _ (Ev.now _) ?_
  by_cases c : 1 ≤ P ∧ P ≤ 72
  · rw [decide_eq_true c]
    refine ev_pos rfl (ev_succ ?_)
    simp only [spec_peGood.j0]
    by_cases d : E.length ≤ 40
    · rw [decide_eq_false (by omega), decide_eq_true d]
      exact ev_neg (by simp) (spec_peGood_l0 c.1 c.2 E E hl hr E [] rfl)
    · rw [decide_eq_true (by omega), decide_eq_false d]
      exact ev_pos rfl (ev_some (by simp))
  · rw [decide_eq_false c]
    refine ev_neg (by simp) (ev_succ ?_)
    simp only [spec_peGood.j0]
    exact ev_pos trivial (ev_some (by simp))

theorem stepsL_len (l : List (Nat × Int)) : (stepsL l).length = l.length := by simp [stepsL]
theorem peelC_len2 {P : Nat} {E : Edges} (cs : List Nat) : (peelC P E cs (allE E)).1.length ≤ E.length ∧ (peelC P E cs (allE E)).2.length ≤ E.length := by
  have := peelC_len (P := P) (E := E) cs (allE E) (allE_nodup E)
  have hl : (allE E).length = E.length := by simp [allE]
  omega
end Go.Proofs.YthkcgimnagpmaaaQ
namespace Go.Proofs.YthkcgimnagpmaaaQ
open Go Go.RowKit Go.Proofs.YthkcgimnagpmaaaW.PrintWords Go.Proofs.YthkcgimnagpmaaaGp Go.Proofs.Ythkcgimnagpmaaa.PA

theorem sub_range' : ∀ (d a : Nat) (S : List Nat), S.Pairwise (· < ·) → (∀ x ∈ S, a ≤ x ∧ x < a + d) → S.Sublist (List.range' a d)
  | 0, a, S, _, h => by
    cases S with
    | nil => exact List.nil_sublist _
    | cons x t => have := h x (by simp); omega
  | d + 1, a, S, hp, h => by
    rw [List.range'_succ]
    cases S with
    | nil => exact List.nil_sublist _
    | cons x t =>
      rw [List.pairwise_cons] at hp
      by_cases c : x = a
      · subst c
        exact List.Sublist.cons_cons _ (sub_range' d (x + 1) t hp.2 (fun y hy => by have := hp.1 y hy; have := h y (by simp [hy]); omega))
      · refine List.Sublist.cons _ (sub_range' d (a + 1) (x :: t) (List.pairwise_cons.2 hp) (fun y hy => ?_))
        have h1 := h x (by simp)
        have h2 := h y hy
        rcases List.mem_cons.1 hy with rfl | hy
        · omega
        · have := hp.1 y hy; omega
theorem rising_cast : ∀ (n : Int) (p : Option Int) (l : List Int), risF 0 n p l = true → (∀ x ∈ l, 0 ≤ x ∧ x ≤ n) ∧ l.Pairwise (· < ·) ∧ ∀ q, p = some q → ∀ x ∈ l, q < x
  | n, p, [], _ => by simp
  | n, p, x :: t, h => by
    simp only [risF, Bool.and_eq_true, decide_eq_true_eq] at h
    obtain ⟨⟨h1, h2⟩, h3⟩ := h
    obtain ⟨g1, g2, g3⟩ := rising_cast n (some x) t h3
    refine ⟨fun y hy => ?_, List.pairwise_cons.2 ⟨g3 x rfl, g2⟩, fun q hq y hy => ?_⟩
    · rcases List.mem_cons.1 hy with rfl | hy
      · exact h1
      · exact g1 y hy
    · subst hq
      simp only [decide_eq_true_eq] at h2
      rcases List.mem_cons.1 hy with rfl | hy
      · exact h2
      · have := g3 x rfl y hy; omega
theorem rising_rg {n : Nat} {l : List Int} (h : risF 0 ((n : Int) - 1) none l = true) : ∃ S, l = castL S ∧ Rg n S := by
  obtain ⟨h1, h2, _⟩ := rising_cast _ _ _ h
  refine ⟨l.map Int.toNat, ?_, ?_⟩
  · unfold castL
    rw [List.map_map]
    conv => lhs; rw [← List.map_id l]
    refine List.map_congr_left fun x hx => ?_
    have := h1 x hx
    simp only [id, Function.comp_def]
    show x = ((x.toNat : Nat) : Int)
    omega
  · unfold Rg
    rw [List.range_eq_range']
    refine sub_range' n 0 _ ?_ (fun x hx => ?_)
    · rw [List.pairwise_map]
      refine h2.imp_of_mem fun {a b} ha hb hab => ?_
      have := h1 a ha
      have := h1 b hb
      omega
    · simp only [List.mem_map] at hx
      obtain ⟨y, hy, rfl⟩ := hx
      have := h1 y hy
      omega
theorem impl_indices_l0 (n : Int) (hn : 0 ≤ n) (hn' : n ≤ 1000000) (x0 : List Int) (hl : (x0.length : Int) ≤ 9223372036854775806) : ∀ (t pre : List Int), x0 = pre ++ t →
    Ev (fun k => impl_indicesOk.l0 k x0 n x0 (x0.length : Int) (pre.length : Int)) (risF 0 (n - 1) pre.getLast? t && decide ((x0.length : Int) > 0)) := by
  intro t
  induction t with
  | nil =>
    intro pre h
    refine ev_succ ?_
    simp only [impl_indicesOk.l0]
    exact ev_neg (by rw [h]; exact not_lt_end) (ev_some (by simp [risF]))
  | cons x t ih =>
    intro pre h
    have hm : ((pre.length : Nat) : Int) < (x0.length : Int) := by rw [h]; exact lt_mid
    have hg : rd x0 (pre.length : Int) = x := by rw [h]; exact rd_mid
    have next := ih (pre ++ [x]) (by rw [h]; simp)
    rw [len_one, List.getLast?_append, List.getLast?_singleton, Option.some_or] at next
    refine ev_succ ?_
    simp only [impl_indicesOk.l0, hg]
    rw [w64 (x := n - 1) (by omega) (by omega), impl_in]
    refine ev_pos hm (ev_pos (by omega) (ev_pos hm (ev_bind _ (Ev.now _) ?_)))
    rw [winc (by omega)]
    unfold risF
    by_cases c : 0 ≤ x ∧ x ≤ n - 1
    · rw [decide_eq_true c, Bool.true_and]
      refine ev_pos rfl ?_
      by_cases p0 : 0 < pre.length
      · obtain ⟨q, p, rfl⟩ := last_int p0
        have hq : rd x0 (q.length : Int) = p := by rw [h]; exact rd_last
        have hlen : (q ++ [p]).length = q.length + 1 := by simp
        rw [hlen] at hm next ⊢
        rw [List.getLast?_append, List.getLast?_singleton, Option.some_or, wdec (by omega)]
        refine ev_pos (by omega) (ev_pos (by omega) (ev_pos (by omega) ?_))
        rw [hq]
        by_cases d : p < x
        · simp only [decide_eq_true d, Bool.true_and]
          exact ev_neg (by omega) next
        · simp only [decide_eq_false d, Bool.false_and]
          exact ev_pos (by omega) (Ev.now _)
      · have : pre = [] := List.length_eq_zero_iff.1 (by omega)
        subst this
        simp only [List.getLast?_nil, Bool.true_and]
        exact ev_neg (by simp) next
    · rw [decide_eq_false c]
      exact ev_neg (by simp) (ev_some (by simp))
theorem impl_indices_f (n : Int) (hn : 0 ≤ n) (hn' : n ≤ 1000000) (l : List Int) (hl : (l.length : Int) ≤ 9223372036854775806) : Ev (fun k => impl_indicesOk.f k l n) (risF 0 (n - 1) none l && decide ((l.length : Int) > 0)) := by
  unfold impl_indicesOk.f
  exact impl_indices_l0 n hn hn' l hl l [] rfl

def coreB (P : Int) (E : Edges) (l : List Int) : Bool × Bool :=
  if goodB P E = true then (if risF 0 ((E.length : Int) - 1) none l = true ∧ l.length > 0 then (decide (freeL P.toNat E (l.map Int.toNat) = []), true) else (false, true)) else (false, false)
theorem cast_back (S : List Nat) : (castL S).map Int.toNat = S := by
  unfold castL
  rw [List.map_map]
  conv => rhs; rw [← List.map_id S]
  exact List.map_congr_left fun x _ => rfl
theorem gone_step {n : Nat} {S : List Nat} {i : Nat} (h : i < n) : ((goneOf n S).take i ++ List.replicate (n - i) false).set i (!(S.contains i)) = (goneOf n S).take (i + 1) ++ List.replicate (n - (i + 1)) false := by
  have hl : ((goneOf n S).take i).length = i := by rw [List.length_take, goneOf_len]; omega
  have hg : (goneOf n S)[i]? = some (!(S.contains i)) := by simp [goneOf, h]
  rw [List.set_append_right _ _ (by omega), hl, Nat.sub_self, List.take_add_one, hg, show n - i = (n - (i + 1)) + 1 from by omega, List.replicate_succ]
  simp
theorem impl_IsCore_l0 {P : Nat} {E : Edges} (hG : GoodH P E) {S : List Nat} (hS : Rg E.length S) : ∀ (d i : Nat), i + d = E.length →
    Ev (fun k => impl_IsCore.l0 k (castL S) ((goneOf E.length S).take i ++ List.replicate (E.length - i) false) (E.length : Int) (i : Int) (P : Int) E) (decide (freeL P E S = []), true) := by
  intro d
  have hn := hG.len
  have hSl := hS.len
  induction d with
  | zero =>
    intro i h
    have hi : i = E.length := by omega
    have e : (goneOf E.length S).take i ++ List.replicate (E.length - i) false = goneOf E.length S := by
      rw [hi, Nat.sub_self, List.replicate_zero, List.append_nil, List.take_of_length_le (by rw [goneOf_len]; omega)]
    rw [e]
    refine ev_succ ?_
    simp only [impl_IsCore.l0]
    refine ev_neg (by omega) (ev_bind _ (impl_degrees_f hG hS) (ev_bind _ (slices_Contains_int_f _ 1 (by rw [cntL_len]; have := hG.plc; omega)) (ev_some ?_)))
    congr 1
    rw [← freeL_up]
    by_cases c : (cntL (plsL E S) P).contains 1 = true
    · rw [c, Bool.not_true, eq_comm, decide_eq_false_iff_not]
      intro hf
      rw [List.contains_iff_mem] at c
      simp only [cntL, List.mem_map, List.mem_range] at c
      obtain ⟨p, hp, hc⟩ := c
      have : (Int.ofNat p) ∈ freeUp (plsL E S) P := by
        simp only [freeUp, List.mem_filter, List.mem_map, List.mem_range, beq_iff_eq]
        exact ⟨⟨p, hp, rfl⟩, by omega⟩
      rw [hf] at this
      cases this
    · rw [Bool.eq_false_iff.2 c, Bool.not_false, eq_comm, decide_eq_true_iff, List.eq_nil_iff_forall_not_mem]
      intro p hp
      simp only [freeUp, List.mem_filter, List.mem_map, List.mem_range, beq_iff_eq] at hp
      obtain ⟨⟨q, hq, rfl⟩, hc⟩ := hp
      refine c ?_
      rw [List.contains_iff_mem]
      simp only [cntL, List.mem_map, List.mem_range]
      exact ⟨q, hq, by omega⟩
  | succ d ih =>
    intro i h
    have hc : (castL S).contains (i : Int) = S.contains i := by
      rw [Bool.eq_iff_iff, List.contains_iff_mem, List.contains_iff_mem]
      exact mem_castL
    have hl : ((goneOf E.length S).take i ++ List.replicate (E.length - i) false).length = E.length := by
      rw [List.length_append, List.length_take, goneOf_len, List.length_replicate]; omega
    refine ev_succ ?_
    simp only [impl_IsCore.l0]
    refine ev_pos (by omega) (ev_bind _ (slices_Contains_int_f _ (i : Int) (by rw [castL_len]; omega)) (ev_pos (by omega) (ev_pos (by omega) ?_)))
    rw [hc, Int.toNat_natCast, gone_step (by omega), winc (by omega)]
    exact ih (i + 1) (by omega)
theorem impl_IsCore_f (P : Int) (E : Edges) (l : List Int) (hE : E.length ≤ 1000) (hl : (l.length : Int) ≤ 9223372036854775806) : Ev (fun k => impl_IsCore.f k P E l) (coreB P E l) := by
  unfold impl_IsCore.f coreB
  refine ev_bind _ (impl_IsHyper_f P E (by omega)) ?_
  by_cases g : goodB P E = true
  · obtain ⟨hG, hP, _, _⟩ := goodB_ok g
    rw [if_pos g]
    refine ev_pos g (ev_bind _ (impl_indices_f (E.length : Int) (by omega) (by omega) l hl) ?_)
    by_cases c : risF 0 ((E.length : Int) - 1) none l = true ∧ l.length > 0
    · rw [if_pos c, c.1, decide_eq_true (by omega)]
      obtain ⟨S, rfl, hS⟩ := rising_rg c.1
      rw [cast_back]
      have := impl_IsCore_l0 hG hS E.length 0 (by omega)
      rw [List.take_zero, List.nil_append, Nat.sub_zero, hP] at this
      unfold impl_Hyper_none.f
      refine ev_pos rfl (ev_bind _ (ev_pos (by omega) (ev_pos (by omega) (Ev.now _))) ?_)
      rw [Int.toNat_natCast, List.length_replicate]
      exact this
    · rw [if_neg c]
      refine ev_neg ?_ (Ev.now _)
      simp only [Bool.and_eq_true, decide_eq_true_eq]
      intro h
      exact c ⟨h.1, by omega⟩
  · rw [if_neg g]
    exact ev_neg g (Ev.now _)

def stepOk (E : Edges) (L : List Nat) (s : S51) : Bool := decide (0 ≤ s.f0) && L.contains s.f0.toNat && (edg E s.f0.toNat).contains s.f1 && decide (degOf E L s.f1 = 1)
def ordM (E : Edges) : List S51 → List Nat → Bool
  | [], L => L.length == 0
  | s :: t, L => if stepOk E L s = true then ordM E t (dropE L s.f0.toNat) else false
theorem stepOk_iff {E : Edges} {L : List Nat} {s : S51} : stepOk E L s = true ↔ 0 ≤ s.f0 ∧ s.f0.toNat ∈ L ∧ s.f1 ∈ edg E s.f0.toNat ∧ degOf E L s.f1 = 1 := by
  simp only [stepOk, Bool.and_eq_true, decide_eq_true_eq, List.contains_iff_mem, and_assoc]
theorem ord_stable {E : Edges} {S : List Nat} (hS : Stable E S) : ∀ (st : List S51) (L : List Nat), S.Sublist L → ordM E st L = true → S = []
  | [], L, hs, h => by
    simp only [ordM, beq_iff_eq] at h
    have := List.length_eq_zero_iff.1 h
    rw [this] at hs
    exact List.sublist_nil.1 hs
  | s :: t, L, hs, h => by
    unfold ordM at h
    by_cases c : stepOk E L s = true
    · rw [if_pos c] at h
      obtain ⟨_, h2, h3, h4⟩ := stepOk_iff.1 c
      exact ord_stable hS t _ (stable_step hS hs h4 (withE_one h4 h2 h3)) h
    · rw [if_neg c] at h; cases h
theorem impl_ord_l0 {P : Nat} {E : Edges} (hG : GoodH P E) (x0 : List S51) (hx : (x0.length : Int) ≤ 1000000) : ∀ (t pre : List S51) (L : List Nat), x0 = pre ++ t → Rg E.length L →
    Ev (fun k => impl_IsPeelOrder.l0 k (goneOf E.length L) x0 (x0.length : Int) (pre.length : Int) (P : Int) E) (ordM E t L, true) := by
  have hn := hG.len
  intro t
  induction t with
  | nil =>
    intro pre L h hL
    have hp : x0 = pre := by rw [h, List.append_nil]
    subst hp
    refine ev_succ ?_
    simp only [impl_IsPeelOrder.l0]
    refine ev_neg (by omega) (ev_bind _ (impl_left_f hn hL) (ev_some ?_))
    rw [castL_len, ordM]
    congr 1
    rw [Bool.eq_iff_iff, beq_iff_eq, beq_iff_eq]
    omega
  | cons s t ih =>
    intro pre L h hL
    have hm : ((pre.length : Nat) : Int) < (x0.length : Int) := by rw [h]; exact lt_mid
    have hg : rd_T51 x0 (pre.length : Int) = s := by simp [rd_T51, h]
    refine ev_succ ?_
    simp only [impl_IsPeelOrder.l0, hg]
    rw [w64 (by omega) (by omega), impl_in]
    refine ev_pos hm (ev_pos (by omega) (ev_pos hm (ev_bind _ (Ev.now _) ?_)))
    unfold ordM
    by_cases c : 0 ≤ s.f0 ∧ s.f0 ≤ (E.length : Int) - 1
    · rw [decide_eq_true c]
      have hi : s.f0 = ((s.f0.toNat : Nat) : Int) := by omega
      have hg2 : rdOf false (goneOf E.length L) s.f0 = !(L.contains s.f0.toNat) := by
        rw [hi]; exact goneOf_rd (by omega)
      have he : rd_L2 E s.f0 = edg E s.f0.toNat := by rw [hi]; rfl
      have hel := (hG.edge s.f0.toNat).1
      refine ev_pos rfl (ev_pos c.1 (ev_pos (by rw [goneOf_len]; omega) ?_))
      rw [hg2, he]
      by_cases c2 : s.f0.toNat ∈ L
      · refine ev_neg (by simp [c2]) (ev_pos (by omega) (ev_bind _ (slices_Contains_int_f _ s.f1 (by omega)) ?_))
        by_cases c3 : s.f1 ∈ edg E s.f0.toNat
        · obtain ⟨p0, p1⟩ := (hG.edge s.f0.toNat).2 _ c3
          refine ev_pos (by simpa using c3) (ev_bind _ (impl_degrees_f hG hL) (ev_pos p0 (ev_pos (by rw [cntL_len]; exact p1) ?_)))
          rw [cntL_rd _ p0 p1, degOf_pls]
          by_cases c4 : degOf E L s.f1 = 1
          · rw [if_pos (stepOk_iff.2 ⟨c.1, c2, c3, c4⟩), goneOf_set, winc (by omega)]
            have := ih (pre ++ [s]) (dropE L s.f0.toNat) (by rw [h]; simp) (hL.drop _)
            rw [len_one] at this
            exact ev_pos (by omega) this
          · rw [if_neg (fun hh => c4 (stepOk_iff.1 hh).2.2.2)]
            exact ev_neg (by omega) (Ev.now _)
        · rw [if_neg (fun hh => c3 (stepOk_iff.1 hh).2.2.1)]
          exact ev_neg (by simpa using c3) (Ev.now _)
      · rw [if_neg (fun hh => c2 (stepOk_iff.1 hh).2.1)]
        exact ev_pos (by simp [c2]) (Ev.now _)
    · rw [decide_eq_false c, if_neg (fun hh => c ?_)]
      · exact ev_neg (by simp) (Ev.now _)
      · obtain ⟨h1, h2, _⟩ := stepOk_iff.1 hh
        have := hL.lt h2
        omega
def ordB (P : Int) (E : Edges) (st : List S51) : Bool × Bool := if goodB P E = true then (ordM E st (allE E), true) else (false, false)
theorem impl_IsPeelOrder_f (P : Int) (E : Edges) (st : List S51) (hE : E.length ≤ 1000) (hs : (st.length : Int) ≤ 1000000) : Ev (fun k => impl_IsPeelOrder.f k P E st) (ordB P E st) := by
  unfold impl_IsPeelOrder.f ordB
  refine ev_bind _ (impl_IsHyper_f P E (by omega)) ?_
  by_cases g : goodB P E = true
  · obtain ⟨hG, hP, _, _⟩ := goodB_ok g
    rw [if_pos g]
    unfold impl_Hyper_none.f
    refine ev_pos g (ev_bind _ (ev_pos (by omega) (ev_pos (by omega) (Ev.now _))) ?_)
    rw [Int.toNat_natCast, ← goneOf_all]
    have := impl_ord_l0 hG st hs st [] (List.range E.length) rfl (Rg.all _)
    rw [hP] at this
    exact this
  · rw [if_neg g]
    exact ev_neg g (Ev.now _)
def orderV (P : Int) (E : Edges) : List S51 × Bool := if goodB P E = true ∧ (coreE P.toNat E).length = 0 then (stepsL (peelAll P.toNat E).1, true) else ([], false)
theorem impl_Order_f (P : Int) (E : Edges) (hE : E.length ≤ 1000) : Ev (fun k => impl_PeelOrder.f k P E) (orderV P E) := by
  unfold impl_PeelOrder.f orderV
  refine ev_bind _ (impl_IsHyper_f P E (by omega)) ?_
  by_cases g : goodB P E = true
  · refine ev_pos g (ev_bind _ (impl_order_f g) ?_)
    by_cases c : (coreE P.toNat E).length = 0
    · rw [if_pos (And.intro g c)]
      exact ev_pos (beq_iff_eq.2 c) (Ev.now _)
    · rw [if_neg (fun h : _ ∧ _ => c h.2)]
      exact ev_neg (fun h => c (beq_iff_eq.1 h)) (Ev.now _)
  · rw [if_neg (fun h : _ ∧ _ => g h.1)]
    exact ev_neg g (Ev.now _)
end Go.Proofs.YthkcgimnagpmaaaQ
namespace Go.Proofs.YthkcgimnagpmaaaQ
open Go Go.RowKit Go.Proofs.YthkcgimnagpmaaaW.PrintWords Go.Proofs.YthkcgimnagpmaaaGp Go.Proofs.Ythkcgimnagpmaaa.PA

def insI (s : Int) : List Int → List Int
  | [] => [s]
  | q :: t => if q < s then q :: insI s t else if q = s then q :: t else s :: q :: t
theorem insI_len (s : Int) : ∀ l, (insI s l).length ≤ l.length + 1
  | [] => by simp [insI]
  | q :: t => by
    have := insI_len s t
    unfold insI
    split
    · simp; omega
    · split <;> simp
theorem put_l0 (x0 : List Int) (s : Int) (hx : x0.length ≤ 1000000) : ∀ (t pre : List Int), x0 = pre ++ t →
    Ev (fun k => spec_l1Put.l0 k x0 s (pre.length : Int)) (pre ++ insI s t) := by
  intro t
  induction t with
  | nil =>
    intro pre h
    have hp : x0 = pre := by rw [h, List.append_nil]
    subst hp
    refine ev_succ ?_
    simp only [spec_l1Put.l0]
    refine ev_neg (by omega) (ev_bind _ (Ev.now _) (ev_pos (by omega) (ev_pos (by omega) (ev_bind _ (Ev.now _) ?_))))
    rw [Int.toNat_natCast, List.take_length, List.nil_append]
    refine ev_pos (by simp; omega) (ev_bind _ (Ev.now _) (ev_pos (by omega) (ev_bind _ (Ev.now _) (ev_bind _ (Ev.now _) (ev_pos (by simp; omega) (ev_some ?_))))))
    simp [insI]
  | cons q t ih =>
    intro pre h
    have hm : ((pre.length : Nat) : Int) < (x0.length : Int) := by rw [h]; exact lt_mid
    have hg : rd x0 (pre.length : Int) = q := by rw [h]; exact rd_mid
    refine ev_succ ?_
    simp only [spec_l1Put.l0, hg]
    refine ev_pos hm (ev_pos (by omega) ?_)
    unfold insI
    by_cases c : q < s
    · refine ev_pos c ?_
      rw [winc (by omega), if_pos c]
      have := ih (pre ++ [q]) (by rw [h]; simp)
      rw [len_one] at this
      simpa using this
    · refine ev_neg c ?_
      rw [if_neg c]
      by_cases d : q = s
      · refine ev_pos d (ev_some ?_)
        rw [if_pos d, h]
      · refine ev_neg d (ev_bind _ (Ev.now _) (ev_pos (by omega) (ev_bind _ (Ev.now _) ?_)))
        have et : x0.take pre.length = pre := by rw [h]; simp
        have ed : x0.drop pre.length = q :: t := by rw [h]; simp
        have hl : x0.length = pre.length + (t.length + 1) := by rw [h]; simp
        rw [Int.toNat_natCast, et, ed, List.nil_append, if_neg d]
        refine ev_pos (by simp; omega) (ev_bind _ (Ev.now _) (ev_pos (by omega) (ev_bind _ (Ev.now _) (ev_bind _ (Ev.now _) (ev_pos (by simp; omega) (ev_some ?_))))))
        simp
theorem put_f (l : List Int) (s : Int) (h : l.length ≤ 1000000) : Ev (fun k => spec_l1Put.f k l s) (insI s l) := put_l0 l s h l [] rfl
theorem edge_l0 {s : List Int} (hs : Bys s) (P : Int) : ∀ (d i : Nat) (x : List Int) (p sd : Int), i + d = 5 → x.length ≤ i → 0 ≤ p → p + 2 * (d : Int) ≤ 1000000000000000000 →
    Dr (fun k => spec_l1Cur_edge.l0 k P x (i : Int) s p sd) p (2 * (d : Int)) (fun v => v.length ≤ 5) := by
  intro d
  induction d with
  | zero =>
    intro i x p sd hi hx h0 h1
    refine ⟨x, p, sd, ev_succ ?_, by omega, h0, by omega⟩
    simp only [spec_l1Cur_edge.l0]
    refine ev_neg (by omega) (ev_succ ?_)
    simp only [spec_l1Cur_edge.j1]
    exact ev_neg (by simp) (Ev.now _)
  | succ d ih =>
    intro i x p sd hi hx h0 h1
    by_cases c : (x.length : Int) < 3
    · obtain ⟨v, p', sd', e, hv, q0, q1⟩ := pick_ok hs sd (n := if P > 1 then P else 1) h0 (by omega)
      have hl := insI_len v x
      obtain ⟨u, p2, sd2, eu, hu, r0, r1⟩ := ih (i + 1) (insI v x) p' sd' (by omega) (by omega) q0 (by omega)
      refine ⟨u, p2, sd2, ev_succ ?_, hu, r0, by omega⟩
      simp only [spec_l1Cur_edge.l0]
      rw [decide_eq_true c]
      refine ev_pos (by omega) (ev_succ ?_)
      simp only [spec_l1Cur_edge.j1, spec_l1Most.f]
      refine ev_pos trivial (ev_bind (if P > 1 then P else 1) ?_ ?_)
      · split <;> exact Ev.now _
      · rw [e]
        refine ev_bind _ (Ev.now _) (ev_bind _ (put_f x v (by omega)) ?_)
        rw [winc (by omega)]
        exact eu
    · refine ⟨x, p, sd, ev_succ ?_, by omega, h0, by omega⟩
      simp only [spec_l1Cur_edge.l0]
      rw [decide_eq_false c]
      refine ev_pos (by omega) (ev_succ ?_)
      simp only [spec_l1Cur_edge.j1]
      exact ev_neg (by simp) (Ev.now _)
theorem edge_ok {s : List Int} (hs : Bys s) (P : Int) {p : Int} (sd : Int) (h0 : 0 ≤ p) (h1 : p ≤ 900000000000000000) : Dr (fun k => spec_l1Cur_edge.f k s p sd P) p 10 (fun v => v.length ≤ 5) := by
  unfold spec_l1Cur_edge.f
  have := edge_l0 hs P 5 0 [] p sd rfl (by simp) h0 (by omega)
  exact this
def DrH (g : Nat → Option (Int × Edges × Int × Int)) (p c : Int) : Prop := ∃ P E p' sd', Ev g (P, E, p', sd') ∧ ((E : Edges).length ≤ 100 ∧ ∀ e ∈ E, e.length ≤ 5) ∧ 0 ≤ p' ∧ p' ≤ p + c
theorem hyper_l0 {s : List Int} (hs : Bys s) : ∀ (d : Nat) (p sd P : Int) (E : Edges), E.length + d ≤ 100 → (∀ e ∈ E, e.length ≤ 5) → 0 ≤ p → p + 12 * (d : Int) ≤ 800000000000000000 →
    DrH (fun k => spec_l1Cur_hyper.l0 k (d : Int) s p sd P E) p (12 * (d : Int) + 4) := by
  intro d
  induction d with
  | zero =>
    intro p sd P E hE hE5 h0 h1
    obtain ⟨v, p', sd', e, q0, q1⟩ := one_ok hs sd 14 h0 (by omega)
    by_cases c : v = true
    · obtain ⟨u, p2, sd2, eu, hu, r0, r1⟩ := among_ok hs sd' (l := [(-1), 0, 2, 5, 72, 73]) (by simp) q0 (by omega)
      refine ⟨u, E, p2, sd2, ev_succ ?_, ⟨by omega, hE5⟩, r0, by omega⟩
      simp only [spec_l1Cur_hyper.l0, e]
      refine ev_neg (by omega) (ev_bind _ (Ev.now _) (ev_pos c ?_))
      simp only [eu]
      exact ev_bind _ (Ev.now _) (Ev.now _)
    · refine ⟨P, E, p', sd', ev_succ ?_, ⟨by omega, hE5⟩, q0, by omega⟩
      simp only [spec_l1Cur_hyper.l0, e]
      exact ev_neg (by omega) (ev_bind _ (Ev.now _) (ev_neg c (Ev.now _)))
  | succ d ih =>
    intro p sd P E hE hE5 h0 h1
    obtain ⟨v, p', sd', e, hv, q0, q1⟩ := edge_ok hs P sd h0 (by omega)
    have hE6 : ∀ e ∈ E ++ [v], e.length ≤ 5 := fun e he => (List.mem_append.1 he).elim (hE5 e) (fun h => List.mem_singleton.1 h ▸ hv)
    by_cases c : (v.length : Int) = 3
    · obtain ⟨P2, E2, p2, sd2, e2, h2, r0, r1⟩ := ih p' sd' P (E ++ [v]) (by simp; omega) hE6 q0 (by omega)
      refine ⟨P2, E2, p2, sd2, ev_succ ?_, h2, r0, by omega⟩
      simp only [spec_l1Cur_hyper.l0]
      refine ev_pos (by omega) (ev_bind _ e (ev_pos c (ev_pos (by omega) ?_)))
      rw [wdec (by omega)]
      exact e2
    · obtain ⟨b, p1, sd1, e1, t0, t1⟩ := one_ok hs sd' 8 q0 (by omega)
      by_cases cb : b = true
      · obtain ⟨P2, E2, p2, sd2, e2, h2, r0, r1⟩ := ih p1 sd1 P (E ++ [v]) (by simp; omega) hE6 t0 (by omega)
        refine ⟨P2, E2, p2, sd2, ev_succ ?_, h2, r0, by omega⟩
        simp only [spec_l1Cur_hyper.l0]
        refine ev_pos (by omega) (ev_bind _ e (ev_neg c ?_))
        simp only [e1]
        refine ev_bind _ (Ev.now _) (ev_pos cb (ev_pos (by omega) ?_))
        rw [wdec (by omega)]
        exact e2
      · obtain ⟨P2, E2, p2, sd2, e2, h2, r0, r1⟩ := ih p1 sd1 P E (by omega) hE5 t0 (by omega)
        refine ⟨P2, E2, p2, sd2, ev_succ ?_, h2, r0, by omega⟩
        simp only [spec_l1Cur_hyper.l0]
        refine ev_pos (by omega) (ev_bind _ e (ev_neg c ?_))
        simp only [e1]
        refine ev_bind _ (Ev.now _) (ev_neg cb ?_)
        rw [wdec (by omega)]
        exact e2
theorem hyper_ok {s : List Int} (hs : Bys s) {p : Int} (sd : Int) (h0 : 0 ≤ p) (h1 : p ≤ 100000000000000000) : DrH (fun k => spec_l1Cur_hyper.f k s p sd) p 700 := by
  obtain ⟨b, p1, sd1, e1, q0, q1⟩ := one_ok hs sd 4 h0 (by omega)
  unfold spec_l1Cur_hyper.f
  rw [e1]
  by_cases c : b = true
  · obtain ⟨a, p2, sd2, e2, ha, r0, r1⟩ := pick_ok hs sd1 (n := 20) q0 (by omega)
    obtain ⟨ks, p3, sd3, e3, hk, s0, s1⟩ := keys_ok hs sd2 (n := 10) (by omega) r0 (by omega)
    obtain ⟨n, p4, sd4, e4, hn, t0, t1⟩ := pick_ok hs sd3 (n := 6) s0 (by omega)
    have hh := spec_peHyper_f (a0 := a) (n := 1 + n) (by omega) (by omega) (by omega) (by omega) (x0 := ks) (by have := hk.1; omega) (fun s hs => by have := hk.2 s hs; omega)
    refine ⟨3 * (1 + n), hypE a (1 + n) ks, p4, sd4, ev_bind _ (Ev.now _) (ev_pos c ?_), ⟨by rw [hypE_len]; have := hk.1; omega, fun e he => by simp only [hypE, List.mem_map] at he; obtain ⟨s, _, rfl⟩ := he; simp [tripL]⟩, t0, by omega⟩
    simp only [e2]
    refine ev_bind _ (Ev.now _) (ev_bind _ e3 ?_)
    simp only [e4]
    refine ev_bind _ (Ev.now _) ?_
    simp only []
    rw [w64 (by omega) (by omega)]
    exact ev_bind _ hh (Ev.now _)
  · obtain ⟨a, p2, sd2, e2, ha, r0, r1⟩ := pick_ok hs sd1 (n := 8) q0 (by omega)
    obtain ⟨n, p3, sd3, e3, hn, s0, s1⟩ := pick_ok hs sd2 (n := 8) r0 (by omega)
    obtain ⟨b2, p4, sd4, e4, t0, t1⟩ := one_ok hs sd3 24 s0 (by omega)
    by_cases c2 : b2 = true
    · obtain ⟨m, p5, sd5, e5, hm, u0, u1⟩ := pick_ok hs sd4 (n := 2) t0 (by omega)
      obtain ⟨P2, E2, p6, sd6, e6, h6, v0, v1⟩ := hyper_l0 hs (40 + m.toNat) p5 sd5 72 [] (by simp; omega) (by simp) u0 (by omega)
      refine ⟨P2, E2, p6, sd6, ev_bind _ (Ev.now _) (ev_neg c ?_), h6, v0, by omega⟩
      simp only [e2]
      refine ev_bind _ (Ev.now _) ?_
      simp only [e3]
      refine ev_bind _ (Ev.now _) ?_
      simp only [e4]
      refine ev_bind _ (Ev.now _) (ev_pos c2 ?_)
      simp only [e5]
      refine ev_bind _ (Ev.now _) (ev_succ ?_)
      simp only [spec_l1Cur_hyper.j0]
      rw [w64 (by omega) (by omega), show 40 + m = ((40 + m.toNat : Nat) : Int) from by omega]
      exact e6
    · obtain ⟨P2, E2, p6, sd6, e6, h6, v0, v1⟩ := hyper_l0 hs n.toNat p4 sd4 (wrap64 (3 + a)) [] (by simp; omega) (by simp) t0 (by omega)
      refine ⟨P2, E2, p6, sd6, ev_bind _ (Ev.now _) (ev_neg c ?_), h6, v0, by omega⟩
      simp only [e2]
      refine ev_bind _ (Ev.now _) ?_
      simp only [e3]
      refine ev_bind _ (Ev.now _) ?_
      simp only [e4]
      refine ev_bind _ (Ev.now _) (ev_neg c2 (ev_succ ?_))
      simp only [spec_l1Cur_hyper.j0]
      rw [show ((n.toNat : Nat) : Int) = n from by omega] at e6
      exact e6
end Go.Proofs.YthkcgimnagpmaaaQ
namespace Go.Proofs.YthkcgimnagpmaaaQ
open Go Go.RowKit Go.Proofs.YthkcgimnagpmaaaW.PrintWords Go.Proofs.YthkcgimnagpmaaaGp Go.Proofs.Ythkcgimnagpmaaa.PA

theorem most_f (a b : Int) : spec_l1Most.f a b = some (if a > b then a else b) := by
  unfold spec_l1Most.f
  split <;> rfl
end Go.Proofs.YthkcgimnagpmaaaQ
namespace Go.Proofs.Ythkcgimnagpmaaa.Pure
open Go Go.RowKit Go.Proofs.YthkcgimnagpmaaaW.PrintWords Go.Proofs.YthkcgimnagpmaaaW.PrintMore Go.Proofs.YthkcgimnagpmaaaGp Go.Proofs.Ythkcgimnagpmaaa.PA Go.Proofs.YthkcgimnagpmaaaQ

theorem spec_IsCore_f (P : Int) (E : Edges) (l : List Int) (hE : E.length ≤ 1000) (hr : ∀ e ∈ E, (e.length : Int) ≤ 9223372036854775806) (hl : l.length ≤ 1000) : Ev (fun k => spec_IsCore.f k P E l) (coreB P E l) := by
  unfold spec_IsCore.f coreB
  rw [w64 (by omega) (by omega)]
  refine ev_bind _ (spec_peGood_f P E (by omega) hr) ?_
  by_cases g : goodB P E = true
  · obtain ⟨hG, hP, _, _⟩ := goodB_ok g
    rw [if_pos g]
    refine ev_pos g ?_
    by_cases z : l.length = 0
    · rw [if_neg (fun h : _ ∧ _ => by omega)]
      exact ev_pos (by omega) (Ev.now _)
    · refine ev_neg (by omega) (ev_bind _ (spec_rising_f 0 ((E.length : Int) - 1) l (by omega)) ?_)
      by_cases c : risF 0 ((E.length : Int) - 1) none l = true
      · rw [if_pos (And.intro c (by omega))]
        obtain ⟨S, rfl, hS⟩ := rising_rg c
        rw [cast_back]
        have := spec_free_f hG (L := S) (fun i hi => hS.lt hi) (by rw [castL_len] at hl; exact hl)
        rw [hP] at this
        refine ev_pos c (ev_bind _ this (ev_some ?_))
        congr 1
        by_cases f : freeL P.toNat E S = []
        · rw [f]; rfl
        · rw [decide_eq_false f, beq_eq_false_iff_ne]
          intro h
          exact f (List.length_eq_zero_iff.1 (by omega))
      · rw [if_neg (fun h : _ ∧ _ => c h.1)]
        exact ev_neg c (Ev.now _)
  · rw [if_neg g]
    exact ev_neg g (Ev.now _)
theorem spec_ord_l0 {P : Nat} {E : Edges} (hG : GoodH P E) (x0 : List S51) (hx : (x0.length : Int) ≤ 1000000) : ∀ (t pre : List S51) (L : List Nat), x0 = pre ++ t → Rg E.length L →
    Ev (fun k => spec_peOrder.l0 k (castL L) x0 (x0.length : Int) (pre.length : Int) (P : Int) E) (ordM E t L) := by
  have hn := hG.len
  intro t
  induction t with
  | nil =>
    intro pre L h hL
    have hp : x0 = pre := by rw [h, List.append_nil]
    subst hp
    refine ev_succ ?_
    simp only [spec_peOrder.l0]
    refine ev_neg (by omega) (ev_some ?_)
    rw [castL_len, ordM, Bool.eq_iff_iff, beq_iff_eq, beq_iff_eq]
    omega
  | cons s t ih =>
    intro pre L h hL
    have hm : ((pre.length : Nat) : Int) < (x0.length : Int) := by rw [h]; exact lt_mid
    have hg : rd_T51 x0 (pre.length : Int) = s := by simp [rd_T51, h]
    have hLl := hL.len
    have hin : ∀ i ∈ L, i < E.length := fun i hi => hL.lt hi
    refine ev_succ ?_
    simp only [spec_peOrder.l0, hg]
    refine ev_pos hm (ev_pos (by omega) (ev_pos hm (ev_bind _ (spec_l1Has_f (castL L) s.f0 (by rw [castL_len]; omega)) ?_)))
    unfold ordM
    by_cases c : (castL L).contains s.f0 = true
    · have hc : 0 ≤ s.f0 ∧ s.f0.toNat ∈ L := by
        rw [List.contains_iff_mem] at c
        simp only [castL, List.mem_map] at c
        obtain ⟨i, hi, e⟩ := c
        rw [← e]
        exact ⟨Int.natCast_nonneg i, hi⟩
      have hi : s.f0 = ((s.f0.toNat : Nat) : Int) := by omega
      have hp := hG.plc
      have hfl := freeL_len P E L
      refine ev_pos c (ev_bind _ (spec_free_f hG hin (by omega)) (ev_bind _ (spec_l1Has_f (freeL P E L) s.f1 (by omega)) ?_))
      by_cases d : s.f1 ∈ freeL P E L
      · have hd := (mem_freeL.1 d).2
        refine ev_pos (by simpa using d) (ev_bind _ (spec_with_f hG hin (by omega) s.f1) ?_)
        by_cases e : s.f1 ∈ edg E s.f0.toNat
        · have hw := withE_one hd hc.2 e
          rw [hw, if_pos (stepOk_iff.2 ⟨hc.1, hc.2, e, hd⟩), winc (by omega)]
          refine ev_pos (by simp only [withV]; omega) ?_
          have hdr := spec_drop_f (L := L) (by omega) s.f0.toNat
          rw [← hi] at hdr
          refine ev_bind _ hdr ?_
          have := ih (pre ++ [s]) (dropE L s.f0.toNat) (by rw [h]; simp) (hL.drop _)
          rw [len_one] at this
          exact this
        · rw [if_neg (fun hh => e (stepOk_iff.1 hh).2.2.1)]
          refine ev_neg ?_ (Ev.now _)
          intro hw
          cases hq : withE E L s.f1 with
          | none => rw [hq] at hw; simp only [withV] at hw; omega
          | some j =>
            rw [hq] at hw
            simp only [withV] at hw
            have : j = s.f0.toNat := by omega
            rw [← this] at e
            exact e (withE_some hq).2
      · rw [if_neg (fun hh => ?_)]
        · exact ev_neg (by simpa using d) (Ev.now _)
        · obtain ⟨_, h2, h3, h4⟩ := stepOk_iff.1 hh
          exact d (deg_free hG.rng h4)
    · rw [if_neg (fun hh => ?_)]
      · exact ev_neg c (Ev.now _)
      · obtain ⟨h1, h2, _⟩ := stepOk_iff.1 hh
        refine c ?_
        rw [List.contains_iff_mem]
        simp only [castL, List.mem_map]
        exact ⟨s.f0.toNat, h2, Int.toNat_of_nonneg h1⟩
theorem spec_IsPeelOrder_f (P : Int) (E : Edges) (st : List S51) (hE : E.length ≤ 1000) (hr : ∀ e ∈ E, (e.length : Int) ≤ 9223372036854775806) (hs : (st.length : Int) ≤ 1000000) : Ev (fun k => spec_IsPeelOrder.f k P E st) (ordB P E st) := by
  unfold spec_IsPeelOrder.f ordB
  refine ev_bind _ (spec_peGood_f P E (by omega) hr) ?_
  by_cases g : goodB P E = true
  · obtain ⟨hG, hP, _, _⟩ := goodB_ok g
    rw [if_pos g]
    have := spec_ord_l0 hG st hs st [] (allE E) rfl (Rg.all _)
    rw [hP] at this
    refine ev_pos g (ev_bind (ordM E st (allE E)) ?_ (Ev.now _))
    unfold spec_peOrder.f
    exact ev_bind _ (spec_peAll_f hE _) this
  · rw [if_neg g]
    exact ev_neg g (Ev.now _)

theorem place_ok {s : List Int} (hs : Bys s) {p : Int} (sd : Int) {n : Int} (hn : n ≤ 100000) (h0 : 0 ≤ p) (h1 : p ≤ 2000000000000000000) : ∃ v p' sd', spec_l1Cur_place.f s p sd n = some (v, p', sd') ∧ 0 ≤ p' ∧ p' ≤ p + 2 := by
  obtain ⟨v, p', sd', e, hv, q0, q1⟩ := pick_ok hs sd (n := (if n > 0 then n else 0) + 4) h0 (by omega)
  refine ⟨wrap64 (v - 1), p', sd', ?_, q0, q1⟩
  unfold spec_l1Cur_place.f
  rw [most_f]
  simp only [Option.bind_some]
  rw [w64 (x := (if n > 0 then n else 0) + 4) (by split <;> omega) (by split <;> omega), e]
  rfl
theorem drawCore_l0 {s : List Int} (hs : Bys s) (P : Int) {E : Edges} (hE : E.length ≤ 1000) : ∀ (n : Nat) (x : List Int) (p sd : Int), x.length + n ≤ 1000 → 0 ≤ p → p + 2 * (n : Int) ≤ 1000000000000000000 →
    ∃ v, Ev (fun k => spec_DrawIsCore.l0 k x (n : Int) s p sd P E) (P, E, v) ∧ v.length ≤ 1000 := by
  intro n
  induction n with
  | zero =>
    intro x p sd hx h0 h1
    refine ⟨x, ev_succ ?_, by omega⟩
    simp only [spec_DrawIsCore.l0]
    exact ev_neg (by omega) (Ev.now _)
  | succ n ih =>
    intro x p sd hx h0 h1
    obtain ⟨v, p', sd', e, q0, q1⟩ := place_ok hs sd (n := (E.length : Int)) (by omega) h0 (by omega)
    obtain ⟨u, eu, hu⟩ := ih (x ++ [v]) p' sd' (by simp; omega) q0 (by omega)
    refine ⟨u, ev_succ ?_, hu⟩
    simp only [spec_DrawIsCore.l0, e]
    refine ev_pos (by omega) (ev_bind _ (Ev.now _) (ev_pos (by omega) ?_))
    rw [wdec (by omega)]
    exact eu
theorem drawCore_j0 {s : List Int} (hs : Bys s) {P : Int} {E : Edges} (hE : E.length ≤ 1000) {p : Int} (sd : Int) (h0 : 0 ≤ p) (h1 : p ≤ 900000000000000000) (b : Bool) (hb : b = true → goodB P E = true) :
    ∃ v, Ev (fun k => spec_DrawIsCore.j0 k b s p sd P E) (P, E, v) ∧ v.length ≤ 1000 := by
  by_cases c : b = true
  · obtain ⟨hG, hP, hl, _⟩ := goodB_ok (hb c)
    have hcore := spec_peCore_f hG
    rw [hP] at hcore
    have hcl : (coreE P.toNat E).length ≤ E.length := by
      have := List.Sublist.length_le (core_sub (P := P.toNat) (E := E))
      simpa [allE] using this
    obtain ⟨b2, p2, sd2, e2, q0, q1⟩ := one_ok hs sd 4 h0 (by omega)
    have keep : ∀ (q sd3 : Int), Ev (fun k => spec_DrawIsCore.j1 k (castL (coreE P.toNat E)) false s q sd3 P E) (P, E, castL (coreE P.toNat E)) := fun q sd3 => by
      refine ev_succ ?_
      simp only [spec_DrawIsCore.j1]
      exact ev_neg (by simp) (Ev.now _)
    by_cases c2 : b2 = true
    · by_cases c3 : 0 < (coreE P.toNat E).length
      · obtain ⟨v, p3, sd3, e3, hv, r0, r1⟩ := pick_ok hs sd2 (n := ((coreE P.toNat E).length : Int)) q0 (by omega)
        have hj : rd (castL (coreE P.toNat E)) v = (((coreE P.toNat E).getD v.toNat 0 : Nat) : Int) := by
          have hlt : v.toNat < (coreE P.toNat E).length := by omega
          have := rd_cast (L := coreE P.toNat E) hlt
          rw [show ((v.toNat : Nat) : Int) = v from by omega] at this
          rw [this, List.getD_eq_getElem?_getD, List.getElem?_eq_getElem hlt]
          rfl
        have hd := spec_drop_f (L := coreE P.toNat E) (by omega) ((coreE P.toNat E).getD v.toNat 0)
        refine ⟨castL (dropE (coreE P.toNat E) ((coreE P.toNat E).getD v.toNat 0)), ev_succ ?_, ?_⟩
        · simp only [spec_DrawIsCore.j0]
          refine ev_pos c (ev_bind _ hcore ?_)
          simp only [e2]
          refine ev_bind _ (Ev.now _) (ev_pos c2 ?_)
          rw [castL_len, decide_eq_true (by omega)]
          refine ev_succ ?_
          simp only [spec_DrawIsCore.j1, castL_len, e3]
          refine ev_pos trivial (ev_bind _ (Ev.now _) (ev_pos hv.1 (ev_pos (by omega) ?_)))
          rw [hj]
          exact ev_bind _ hd (Ev.now _)
        · rw [castL_len]
          have := List.Sublist.length_le (dropE_sub (coreE P.toNat E) ((coreE P.toNat E).getD v.toNat 0))
          omega
      · refine ⟨castL (coreE P.toNat E), ev_succ ?_, by rw [castL_len]; omega⟩
        simp only [spec_DrawIsCore.j0]
        refine ev_pos c (ev_bind _ hcore ?_)
        simp only [e2]
        refine ev_bind _ (Ev.now _) (ev_pos c2 ?_)
        rw [castL_len, decide_eq_false (by omega)]
        exact keep _ _
    · refine ⟨castL (coreE P.toNat E), ev_succ ?_, by rw [castL_len]; omega⟩
      simp only [spec_DrawIsCore.j0]
      refine ev_pos c (ev_bind _ hcore ?_)
      simp only [e2]
      exact ev_bind _ (Ev.now _) (ev_neg c2 (keep _ _))
  · obtain ⟨v, p2, sd2, e2, hv, q0, q1⟩ := pick_ok hs sd (n := 4) h0 (by omega)
    obtain ⟨u, eu, hu⟩ := drawCore_l0 hs P hE v.toNat [] p2 sd2 (by simp; omega) q0 (by omega)
    refine ⟨u, ev_succ ?_, hu⟩
    simp only [spec_DrawIsCore.j0, e2]
    refine ev_neg c (ev_bind _ (Ev.now _) ?_)
    rw [show ((v.toNat : Nat) : Int) = v from by omega] at eu
    exact eu
theorem drawCore_f {s : List Int} (hs : Bys s) : ∃ P E l, Ev (fun k => spec_DrawIsCore.f k s) (P, E, l) ∧ ((E : Edges).length ≤ 1000 ∧ ∀ e ∈ E, (e.length : Int) ≤ 9223372036854775806) ∧ l.length ≤ 1000 := by
  obtain ⟨P, E, p1, sd1, e1, ⟨hE, hE5⟩, q0, q1⟩ := hyper_ok hs 0 (p := 0) (by omega) (by omega)
  have hr : ∀ e ∈ E, (e.length : Int) ≤ 9223372036854775806 := fun e he => by have := hE5 e he; omega
  have hg := spec_peGood_f P E (by omega) hr
  by_cases g : goodB P E = true
  · obtain ⟨b, p2, sd2, e2, r0, r1⟩ := one_ok hs sd1 2 q0 (by omega)
    obtain ⟨v, ev, hv⟩ := drawCore_j0 hs (P := P) (E := E) (by omega) sd2 r0 (by omega) b (fun _ => g)
    refine ⟨P, E, v, ?_, ⟨by omega, hr⟩, hv⟩
    unfold spec_DrawIsCore.f
    refine ev_bind _ e1 (ev_bind _ hg (ev_pos g ?_))
    simp only [e2]
    exact ev_bind _ (Ev.now _) ev
  · obtain ⟨v, ev, hv⟩ := drawCore_j0 hs (P := P) (E := E) (by omega) sd1 q0 (by omega) false (by simp)
    refine ⟨P, E, v, ?_, ⟨by omega, hr⟩, hv⟩
    unfold spec_DrawIsCore.f
    exact ev_bind _ e1 (ev_bind _ hg (ev_neg g ev))
theorem drawOrd_l0 {s : List Int} (hs : Bys s) {P : Int} {E : Edges} (g : goodB P E = true) : ∀ (n : Nat) (x : List Int) (p sd : Int), x.length + n ≤ 1000 → (∀ c ∈ x, 0 ≤ c) → 0 ≤ p → p + 2 * (n : Int) ≤ 900000000000000000 →
    ∃ v, Ev (fun k => spec_DrawIsPeelOrder.l0 k x (n : Int) s p sd P E) (P, E, v) ∧ v.length ≤ 1000 := by
  obtain ⟨hG, hP, hl, hP72⟩ := goodB_ok g
  intro n
  induction n with
  | zero =>
    intro x p sd hx hc h0 h1
    have hpe := spec_pePeel_f hG hc (by omega : x.length ≤ 1000) true
    rw [hP] at hpe
    have hst : (stepsL (peelC P.toNat E (chc x ++ if true = true then List.replicate E.length 0 else []) (allE E)).1).length ≤ 1000 := by
      rw [stepsL_len]
      have := (peelC_len2 (P := P.toNat) (E := E) (chc x ++ if true = true then List.replicate E.length 0 else [])).1
      omega
    obtain ⟨v, p2, sd2, e2, hv, q0, q1⟩ := pick_ok hs sd (n := 6) h0 (by omega)
    generalize hS : stepsL (peelC P.toNat E (chc x ++ if true = true then List.replicate E.length 0 else []) (allE E)).1 = S at hpe hst
    by_cases c0 : v = 0
    · by_cases z : (S.length : Int) > 0
      · obtain ⟨u, p3, sd3, e3, hu, r0, r1⟩ := pick_ok hs sd2 (n := (S.length : Int)) q0 (by omega)
        obtain ⟨w, p4, sd4, e4, s0, s1⟩ := place_ok hs sd3 (n := P) (by omega) r0 (by omega)
        refine ⟨S.set u.toNat ⟨(rd_T51 S u).f0, w⟩, ev_succ ?_, by rw [List.length_set]; exact hst⟩
        simp only [spec_DrawIsPeelOrder.l0, e2]
        refine ev_neg (by omega) (ev_bind _ hpe (ev_bind _ (Ev.now _) (ev_pos c0 (ev_pos z ?_))))
        simp only [e3]
        refine ev_bind _ (Ev.now _) ?_
        simp only [e4]
        exact ev_bind _ (Ev.now _) (ev_pos hu.1 (ev_pos (by omega) (Ev.now _)))
      · refine ⟨S, ev_succ ?_, hst⟩
        simp only [spec_DrawIsPeelOrder.l0, e2]
        exact ev_neg (by omega) (ev_bind _ hpe (ev_bind _ (Ev.now _) (ev_pos c0 (ev_neg z (Ev.now _)))))
    · by_cases c1 : v = 1
      · by_cases z : (S.length : Int) > 0
        · obtain ⟨u, p3, sd3, e3, hu, r0, r1⟩ := pick_ok hs sd2 (n := (S.length : Int)) q0 (by omega)
          obtain ⟨w, p4, sd4, e4, s0, s1⟩ := place_ok hs sd3 (n := (E.length : Int)) (by omega) r0 (by omega)
          refine ⟨S.set u.toNat ⟨w, (rd_T51 S u).f1⟩, ev_succ ?_, by rw [List.length_set]; exact hst⟩
          simp only [spec_DrawIsPeelOrder.l0, e2]
          refine ev_neg (by omega) (ev_bind _ hpe (ev_bind _ (Ev.now _) (ev_neg c0 (ev_pos c1 (ev_pos z ?_)))))
          simp only [e3]
          refine ev_bind _ (Ev.now _) ?_
          simp only [e4]
          exact ev_bind _ (Ev.now _) (ev_pos hu.1 (ev_pos (by omega) (Ev.now _)))
        · refine ⟨S, ev_succ ?_, hst⟩
          simp only [spec_DrawIsPeelOrder.l0, e2]
          exact ev_neg (by omega) (ev_bind _ hpe (ev_bind _ (Ev.now _) (ev_neg c0 (ev_pos c1 (ev_neg z (Ev.now _))))))
      · by_cases c2 : v = 2
        · by_cases z : (S.length : Int) > 1
          · refine ⟨(S.set (0 : Int).toNat ⟨(rd_T51 S ((S.length : Int) - 1)).f0, (rd_T51 S ((S.length : Int) - 1)).f1⟩).set ((S.length : Int) - 1).toNat ⟨(rd_T51 S 0).f0, (rd_T51 S 0).f1⟩, ev_succ ?_, by simp only [List.length_set]; exact hst⟩
            simp only [spec_DrawIsPeelOrder.l0, e2]
            refine ev_neg (by omega) (ev_bind _ hpe (ev_bind _ (Ev.now _) (ev_neg c0 (ev_neg c1 (ev_pos c2 (ev_pos z ?_))))))
            simp only []
            rw [w64 (by omega) (by omega)]
            exact ev_pos (by omega) (ev_pos (by omega) (ev_pos (by omega) (Ev.now _)))
          · refine ⟨S, ev_succ ?_, hst⟩
            simp only [spec_DrawIsPeelOrder.l0, e2]
            exact ev_neg (by omega) (ev_bind _ hpe (ev_bind _ (Ev.now _) (ev_neg c0 (ev_neg c1 (ev_pos c2 (ev_neg z (Ev.now _)))))))
        · refine ⟨S, ev_succ ?_, hst⟩
          simp only [spec_DrawIsPeelOrder.l0, e2]
          exact ev_neg (by omega) (ev_bind _ hpe (ev_bind _ (Ev.now _) (ev_neg c0 (ev_neg c1 (ev_neg c2 (Ev.now _))))))
  | succ n ih =>
    intro x p sd hx hc h0 h1
    obtain ⟨v, p', sd', e, hv, q0, q1⟩ := pick_ok hs sd (n := 100) h0 (by omega)
    obtain ⟨u, eu, hu⟩ := ih (x ++ [v]) p' sd' (by simp; omega) (fun y hy => (List.mem_append.1 hy).elim (hc y) (fun h => List.mem_singleton.1 h ▸ hv.1)) q0 (by omega)
    refine ⟨u, ev_succ ?_, hu⟩
    simp only [spec_DrawIsPeelOrder.l0, e]
    refine ev_pos (by omega) (ev_bind _ (Ev.now _) (ev_pos (by omega) ?_))
    rw [wdec (by omega)]
    exact eu
theorem drawOrd_f {s : List Int} (hs : Bys s) : ∃ P E st, Ev (fun k => spec_DrawIsPeelOrder.f k s) (P, E, st) ∧ st.length ≤ 1000 := by
  obtain ⟨P, E, p1, sd1, e1, ⟨hE, hE5⟩, q0, q1⟩ := hyper_ok hs 0 (p := 0) (by omega) (by omega)
  have hg := spec_peGood_f P E (by omega) (fun e he => by have := hE5 e he; omega)
  by_cases g : goodB P E = true
  · obtain ⟨v, p2, sd2, e2, hv, r0, r1⟩ := pick_ok hs sd1 (n := 10) q0 (by omega)
    obtain ⟨st, es, hst⟩ := drawOrd_l0 hs g v.toNat [] p2 sd2 (by simp; omega) (by simp) r0 (by omega)
    refine ⟨P, E, st, ?_, hst⟩
    unfold spec_DrawIsPeelOrder.f
    refine ev_bind _ e1 (ev_bind _ hg (ev_pos g ?_))
    simp only [e2]
    refine ev_bind _ (Ev.now _) ?_
    rw [show ((v.toNat : Nat) : Int) = v from by omega] at es
    exact es
  · refine ⟨P, E, [], ?_, by simp⟩
    unfold spec_DrawIsPeelOrder.f
    exact ev_bind _ e1 (ev_bind _ hg (ev_neg g (Ev.now _)))
theorem FnProofsExclude : laws_FnProofsExclude.Pure := by
  intro l0 l1 h0 _ hw0 h1 _ hw1
  refine Ev.rounds (r := true) ?_
  unfold laws_FnProofsExclude.f
  obtain ⟨b, eb, hb⟩ := big_f h0 h1
  rw [eb]
  refine ev_bind _ (Ev.now _) ?_
  by_cases c : b = true
  · exact ev_pos c (Ev.now _)
  obtain ⟨g0, g1⟩ := hb (by simpa using c)
  obtain ⟨P, E, l, ed, ⟨hE, hr⟩, hl⟩ := drawCore_f (bys g0 hw0)
  obtain ⟨P2, E2, st, es, hst⟩ := drawOrd_f (bys g1 hw1)
  refine ev_neg c (ev_bind _ ed (ev_bind _ (impl_IsCore_f P E l hE (by omega)) (ev_bind _ (spec_IsCore_f P E l hE hr hl) (ev_neg (by simp) (ev_succ ?_)))))
  simp only [laws_FnProofsExclude.j0]
  refine ev_neg (by simp) (ev_bind _ es (ev_bind _ (impl_IsPeelOrder_f P E st hE (by omega)) (ev_bind _ (spec_IsPeelOrder_f P E st hE hr (by omega)) (ev_neg (by simp) (ev_neg (by simp) ?_)))))
  by_cases k : (coreB P E l).1 = true
  · have hk := k
    unfold coreB at hk
    by_cases g : goodB P E = true
    · rw [if_pos g] at hk
      by_cases r : risF 0 ((E.length : Int) - 1) none l = true ∧ l.length > 0
      · rw [if_pos r] at hk
        simp only [decide_eq_true_eq] at hk
        obtain ⟨hG, hP, _, _⟩ := goodB_ok g
        obtain ⟨S, rfl, hS⟩ := rising_rg r.1
        rw [cast_back] at hk
        have hst2 : Stable E S := (stable_iff hG.rng).2 hk
        have hne : S ≠ [] := fun e => by have := r.2; rw [e] at this; simp [castL] at this
        have ho : ¬ (ordB P E st).1 = true := fun h => by
          unfold ordB at h
          rw [if_pos g] at h
          exact hne (ord_stable hst2 st _ hS h)
        have hv : orderV P E = ([], false) := if_neg (fun h : _ ∧ _ => by
          have h2 := stable_core (P := P.toNat) hst2 hS
          rw [List.length_eq_zero_iff.1 h.2] at h2
          exact hne (List.sublist_nil.1 h2))
        have hpo := impl_Order_f P E hE
        rw [hv] at hpo
        exact ev_pos k (ev_neg ho (ev_bind _ hpo (ev_some rfl)))
      · rw [if_neg r] at hk; cases hk
    · rw [if_neg g] at hk; cases hk
  · exact ev_neg k (ev_bind _ (impl_Order_f P E hE) (Ev.now _))
end Go.Proofs.Ythkcgimnagpmaaa.Pure
