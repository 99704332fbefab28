import Derived.Test.YtmehagedoaopeaaGreatCZ1
import Derived.Test.YtmehagedoaopeaaGreatCZ2
-- printed by a program of this session (wip/gp) out of the translation; Lean checks it
namespace Go.Proofs.YtmehagedoaopeaaGreat.PZ
open Go.RowKit Go.Proofs.YtmehagedoaopeaaGreatW.PrintWords Go.Proofs.YtmehagedoaopeaaGreatW.PrintLast Go.Proofs.YtmehagedoaopeaaGreatW.PrintMore Go.Proofs.YtmehagedoaopeaaGreatSq
attribute [local go_sem] max2_int min2_int max_two min_two max_three min_three max_four min_four   -- for this text's walks alone
attribute [local go_sem] Go.Proofs.YtmehagedoaopeaaGreatGp.str_geq Go.Proofs.YtmehagedoaopeaaGreatGp.str_gtr Go.Proofs.YtmehagedoaopeaaGreatGp.str_leq
set_option linter.unusedVariables false
set_option linter.unusedSimpArgs false

set_option maxHeartbeats 8000000
set_option maxRecDepth 100000
def impl_hyper.l0 : Nat → Int → Int → List ByteArray → Int → Int → Int → List (List Int) → Option (Int × (List (List Int)))
 | 0, _, _, _, _, _, _, _ => none
 | k + 1, x0, x2, x13, x14, x15, x299000, x299001 => if x15 < x14 then (if 0 ≤ x15 then (if x15 < (x13.length : Int) then ((impl_threePlaces.f k x0 (rdOf ByteArray.empty x13 x15) x2).bind fun t300 => (if x299001.length < 5864062014805 then (impl_hyper.l0 k x0 x2 x13 x14 (wrap64 (x15 + 1)) x299000 (x299001 ++ [t300])) else (none))) else (none)) else (none)) else (some (x299000, x299001))
def impl_hyper.f (k : Nat) (a0 : Int) (l1 : List ByteArray) (a2 : Int) : Option (Int × (List (List Int))) := impl_hyper.l0 k a0 a2 l1 (l1.length : Int) 0 (wrap64 (3 * a2)) ([] : List (List Int))
def impl_hyper.T5 : Bool × List (List Nat × List Nat) := (true, [([], []), ([0], [0]), ([], []), ([], []), ([], []), ([2, 3, 4], [2, 3, 4]), ([5], [5]), ([1, 6, 5], [1, 6]), ([0, 1, 2, 3, 4, 5, 6, 7], []), ([8, 7, 7, 0, 1, 2, 3, 4, 5, 6, 7], [7, 8])])
def impl_hyper.B5 : List Nat := [0, 1, 0, 0, 0, 28, 60, 127, 255, 511]
theorem impl_hyper.tab5 : rtab .any (opsOf Tryz.f41 5) = impl_hyper.T5 := by kernel_rfl
theorem impl_hyper.bits5 : waitsOk impl_hyper.T5.2 impl_hyper.B5 = true := by kernel_rfl
theorem impl_hyper.calls (k : Nat) (a0 : Int) (A1 : Option Addr) (c1 : Nat) (l1 : List ByteArray) (a2 : Int) (r1 : Int) (r2 : List (List Int)) (w : World) (hr1 : Kd.C Kd.string w A1 l1.length l1) (hc1 : l1.length ≤ c1) (h : impl_hyper.f k a0 l1 a2 = some (r1, r2)) :
  Calls Tryz.prog 41 #[.int .i64 a0, .slice A1 l1.length c1, .int .i64 a2] w fun e w' => ∃ v1_ : Value, e = .returned (.agg #[.int .i64 r1, v1_]) ∧ Kd.S (Kd.slice 3 (Kd.int .i64)) 27 w' w.heap.size (fun _ => True) v1_ r2 ∧ Below w.heap.size w w' := by
 have hu35 := Tryz.underlying35; have HR1 := am hr1; have HC1 := am hc1; clear hr1 hc1; have HB := am (Below.refl w.heap.size w); have H : (impl_hyper.l0 k a0 a2 l1 (l1.length : Int) 0 (wrap64 (3 * a2)) ([] : List (List Int))) = some (r1, r2) := h; clear h; have H' := am H; clear H
 go_enter Tryz.func41, Tryz.ntmps41
 go_wp2_with (first | ((with_reducible refine gate_dst (N := 6) rfl ?_); refine bE 6 #[.int .i64 0, .slice none 0 0] 35 ?_; intro gb297 hg w4 hbox hb; have n0_ := Bb HB hb; have n1_ := am (hbox); have n2_ := Gl HB hg; have n3_ := Gl HB hg; clear HB; revert n0_ n1_ n2_ n3_; intro HB BK297 GW297 GE297; clear hb hbox hg) | ((with_reducible refine gate_dst (N := 7) rfl ?_); refine bE 7 #[.int .i64 0, .slice none 0 0] 35 ?_; intro gb298 hg w5 hbox hb; have n0_ := Kb BK297 hb; have n1_ := Bc HB hb; have n2_ := am (hbox); have n3_ := Gm HB hg; have n4_ := Gm HB hg; have n5_ := Nl BK297 hg; have n6_ := Ng BK297 hg; clear BK297 HB; revert n0_ n1_ n2_ n3_ n4_ n5_ n6_; intro BK297 HB BK298 GW298 GE298 NB297_298 NB298_297; clear hb hbox hg; have hnb6 := NB298_297.out; have hnc6 := NB297_298.out; obtain ⟨hcz7_0, hcz7_1, hfz7_0, hfz7_1⟩ := cf2 (w := w5) BK298))
 (try simp only [aP])
 go_loopg [15] k (fun kq v15 w' => ∃ (x15_1 : Int) (x299001_1 : List (List Int)) (u299001 : Value), v15 = .int .i64 x15_1 ∧ Aside0 (impl_hyper.l0 kq a0 a2 l1 (l1.length : Int) x15_1 (wrap64 (3 * a2)) x299001_1 = some (r1, r2)) ∧ Aside0 (kq ≤ k) ∧ Aside0 (Kd.S (Kd.slice 3 (Kd.int .i64)) 27 w' w.heap.size (fun _ => True) u299001 x299001_1) ∧ Aside0 (w'.heap[gb297]? = some (.cells #[.int .i64 0, (.slice none 0 0)] 35 (0, 0))) ∧ Aside0 (w'.heap[gb298]? = some (.cells #[.int .i64 (wrap64 (3 * a2)), u299001] 35 (0, 0))) ∧ Aside0 (Below w.heap.size w w'))
 case atStart => exact ⟨(0), (([] : List (List Int))), (.slice none 0 0), wZ, H', ⟨Nat.le_refl _⟩, ⟨by first | exact Kd.S_nil _ _ _ _ _ | exact Kd.N_nil _ _ _ _ _ | exact Kd.V_nil _ _ _ _ _ | exact Kd.Q_nil _ _ _ _ _ | exact Kd.R_nil _ _ _ _ _⟩, ⟨by (with_reducible repeat (first | refine blk_drewN ?_ _ | refine blk_drew ?_ | refine blk_alloc ?_ _)); refine blk_far ?_ NB297_298.out _; (with_reducible repeat (first | refine blk_drewN ?_ _ | refine blk_drew ?_ | refine blk_alloc ?_ _)); refine blk_far ?_ NB297_298.out _; (with_reducible repeat (first | refine blk_drewN ?_ _ | refine blk_drew ?_ | refine blk_alloc ?_ _)); exact BK297.out⟩, ⟨by (with_reducible repeat (first | refine blk_drewN ?_ _ | refine blk_drew ?_ | refine blk_alloc ?_ _)); refine blk_put (cs := #[.int .i64 (wrap64 (3 * a2)), .slice none 0 0]) ?_ 1 _ rfl; (with_reducible repeat (first | refine blk_drewN ?_ _ | refine blk_drew ?_ | refine blk_alloc ?_ _)); refine blk_put (cs := #[.int .i64 0, .slice none 0 0]) ?_ 0 _ rfl; (with_reducible repeat (first | refine blk_drewN ?_ _ | refine blk_drew ?_ | refine blk_alloc ?_ _)); exact BK298.out⟩, ⟨Bq⟩⟩
 case round =>
  clear H'
  try clear c1
  try clear p2
  try clear c4
  try clear c6
  try clear p6
  try clear hcz7_0
  try clear hcz7_1
  try clear hfz7_0
  try clear hfz7_1
  obtain ⟨x15_1, x299001_1, u299001, rfl, HA, HK1, HO_299001, BK297, BK298, HB⟩ := hrel; cases gk with
  | zero => exact absurd HA.out (by simp [impl_hyper.l0])
  | succ k1 =>
   have H := HA.out; clear HA
   simp only [impl_hyper.l0] at H
   by_cases c8 : x15_1 < (l1.length : Int)
   ·rw [if_pos c8] at H
    have c8b0 : decide (x15_1 < (l1.length : Int)) = true := decide_eq_true c8; clear c8
    by_cases c9 : 0 ≤ x15_1
    ·rw [if_pos c9] at H
     have c9b0 : decide (0 ≤ x15_1) = true := decide_eq_true c9; clear c9
     by_cases c10 : x15_1 < (l1.length : Int)
     ·rw [if_pos c10] at H
      have c10b0 : decide (x15_1 < (l1.length : Int)) = true := decide_eq_true c10; clear c10; replace H := Option.bind_eq_some_iff.mp H; obtain ⟨t300, A110, H⟩ := H; (try dsimp -simprocs only at H); have A11 := am A110; clear A110
      by_cases c12 : x299001_1.length < 5864062014805
      ·rw [if_pos c12] at H
       have LMc12 := am c12; clear c12; obtain ⟨y303, hy303⟩ : ∃ y_ : List (List Int), y_ = (x299001_1 ++ [t300]) := ⟨_, rfl⟩
       replace H : (impl_hyper.l0 k1 a0 a2 l1 (l1.length : Int) (wrap64 (x15_1 + 1)) (wrap64 (3 * a2)) y303) = some (r1, r2) := by first | (rw [hy303]; with_reducible exact H) | (have H2_ := (Option.bind_some _ _).symm.trans H; rw [hy303]; with_reducible exact H2_) | (have H2_ := (Option.bind_some _ _).symm.trans H; with_reducible exact H2_) | with_reducible exact H | (rw [hy303]; exact H) | exact H
       have Ny303 := am hy303; clear hy303; have H' := am H; clear H; have p299 : 0 ≤ (x15_1 : Int) := dT; have q299 : x15_1 < (l1.length : Int) := dT; obtain ⟨ad299, e299, hx299_0⟩ := Kd.at_string HR1.out x15_1 p299 q299; cases e299; replace hx299_0 := (HB.out.cell (World.block_lt_of_cell? w _ hx299_0)).trans hx299_0; replace p299 := eq_true p299; replace q299 := eq_true q299
       try go_wp2
       have n0_ := am (Kd.S_drew HO_299001.out); have n1_ := am (blk_drew BK297.out); have n2_ := am (blk_drew BK298.out); have n3_ := am (below_drew1 HB.out); clear HO_299001 BK297 BK298 HB; revert n0_ n1_ n2_ n3_; intro HO_299001 BK297 BK298 HB; refine start_ (n := 10) (S := fun w' => w'.cell? ⟨gb298, 0, none⟩ = some (.int .i64 (wrap64 (3 * a2))) ∧ w'.cell? ⟨gb298, 1, none⟩ = some (u299001)) (ds := [9]) (bA 10 0) (by kernel_rfl) rfl rfl ⟨cz BK298 0, cz BK298 1⟩ (fun hHeld => ?_); refine with_tabW impl_hyper.tab5 impl_hyper.bits5 (fun HT_ HW_ => ?_); generalize wr.drew = w13 at HO_299001 BK297 BK298 HB hHeld ⊢; refine pZ 0 (some 19) (bA 10 1) HT_.out ?_; refine pZ 2 (some 21) (bA 10 5) HT_.out ?_; refine pZ 3 (some 22) (bA 10 13) HT_.out ?_; refine pZ 4 (some 23) (bA 10 29) HT_.out ?_; refine tZ2 1 (some 20) (bA 10 31) HT_.out HW_.out hHeld ?_; refine oZ 5 (some 24) (bA 10 63) HT_.out (fun K hK => ?_); refine gZ Tryz.func75 #[.int .i64 a0, .string (rdOf ByteArray.empty l1 x15_1), .int .i64 a2] ?_
       with_reducible refine (impl_threePlaces.calls k1 a0 (rdOf ByteArray.empty l1 x15_1) a2 t300 _ A11.out).mono ?_
       rintro e w14 ⟨v301, rfl, ho0, hb⟩; refine ⟨_, rfl, ?_⟩; have n0_ := am (Kd.S_elder' (by (with_reducible repeat (first | apply Kd.S_alloc | apply Kd.S_drewN | apply Kd.S_drew)); exact HO_299001.out) (Kd.R_base ho0) hb); have n1_ := Rm ho0 HB; have n2_ := Kb BK297 hb; have n3_ := Kb BK298 hb; have n4_ := Bc HB hb; clear HO_299001 BK297 BK298 HB; revert n0_ n1_ n2_ n3_ n4_; intro HO_299001 HO302 BK297 BK298 HB
       (try clear hb)
       (try clear hb2)
       (try clear hk)
       (try clear hi)
       (try clear ho0)
       obtain ⟨Ao16, co16, eo16⟩ := Kd.R_slice HO302.out
       (first | subst eo16 | (injection eo16 with f1_ f2_ f3_; have f4_ := f1_.symm; have f5_ := f3_.symm; clear f1_ f2_ f3_; subst f4_; subst f5_))
       refine hK.out _ _ ⟨cz BK298 0, cz BK298 1⟩ (fun hHeld => ?_); clear hK K; refine norm_ (a' := ?_) ?_ ?_; rotate_left; show Act.put _ (some 24) _ = _; simp only [aP, i64_w, i32_w]; rfl; refine oZ 6 (some 25) (bA 10 127) HT_.out (fun K hK => ?_); refine value_ (w1 := ?_) (v := ?_) (by rfl) rfl ?_ ?_
       rotate_left 2
       ·go_simp
        constructor
        ·rfl
        ·rfl
       refine hK.out _ _ ⟨(blk_cell (blk_alloc BK298.out _) 0).trans rfl, (blk_cell (blk_alloc BK298.out _) 1).trans rfl⟩ (fun hHeld => ?_); clear hK K; refine norm_ (a' := ?_) ?_ ?_; rotate_left; show Act.put _ (some 25) _ = _; simp only [aP, i64_w, i32_w]; rfl; refine oZ 7 (some 26) (bA 10 255) HT_.out (fun K hK => ?_); refine Kd.S_append_step (Kd.slice 3 (Kd.int .i64)) (w0 := w) w.heap.size (by rfl) (.tmp 20) (.tmp 25) 33 27 (.slice none 0 0) 24 rfl Tryz.underlying33 info27 rfl (by decide) (by omega) u299001 x299001_1 t300 [.slice Ao16 t300.length co16] (fun _ => True) (fun k_ => some k_ = (.slice Ao16 t300.length co16 : Value).ownBlock) rfl rfl ?aP (fun k_ hk_ => ((Kd.R_mono (ok' := fun k_ => ((fun _ => True)) k_ ∧ some k_ ≠ (u299001 : Value).ownBlock) (Kd.R_apart' (HO302.out) (Kd.S_typed HO_299001.out) (by decide)) (fun k_ hk => ⟨trivial, hk.2⟩))).1 k_ hk_.symm) ?aF ?aO ?aB ?aS ?aL ?_
       (case aP => exact Kd.M_row (Kd.R_mono (Kd.R_tight rfl (Kd.R_mono (ok' := fun k_ => ((fun _ => True)) k_ ∧ some k_ ≠ (u299001 : Value).ownBlock) (Kd.R_apart' (HO302.out) (Kd.S_typed HO_299001.out) (by decide)) (fun k_ hk => ⟨trivial, hk.2⟩))) (fun _ h_ => h_)))
       (case aB => exact (Bq))
       (case aF => exact (fun _ _ => trivial))
       (case aO => exact (by (with_reducible repeat (first | apply Kd.S_alloc | apply Kd.S_drewN | apply Kd.S_drew)); exact Kd.S_mono HO_299001.out (fun k_ hk => ⟨trivial, fun e_ => hk.2 e_⟩)))
       (case aS => exact (below_size (w := w) (Bq)))
       (case aL => have := LMc12.out; omega)
       intro v304 w15 ho hb hg hat; rw [← Ny303.out] at ho; have n0_ := am (blk_grown (g := gb297) (o := .cells #[.int .i64 0, .slice none 0 0] 35 (0, 0)) (Kz BK297.out) hg (Kd.S_ne HO_299001.out BK297.out (by decide))); have n1_ := am (blk_grown (g := gb298) (o := .cells #[.int .i64 (wrap64 (3 * a2)), u299001] 35 (0, 0)) (Kz BK298.out) hg (Kd.S_ne HO_299001.out BK298.out (by decide))); have n2_ := am (hb); have n3_ := am (ho); clear BK297 BK298 HB HO_299001 HO302; revert n0_ n1_ n2_ n3_; intro BK297 BK298 HB HO305; clear ho hb hg hat; obtain ⟨Ao17, co17, eo17⟩ := Kd.S_slice HO305.out
       (first | subst eo17 | (injection eo17 with f1_ f2_ f3_; have f4_ := f1_.symm; have f5_ := f3_.symm; clear f1_ f2_ f3_; subst f4_; subst f5_))
       refine hK.out _ _ ⟨cz BK298 0, cz BK298 1⟩ (fun hHeld => ?_); clear hK K; refine norm_ (a' := ?_) ?_ ?_; rotate_left; show Act.put _ (some 26) _ = _; simp only [aP, i64_w, i32_w]; rfl; refine pZ 8 (some 27) (bA 10 511) HT_.out ?_; refine lZ 9 none (bA 10 1023) HT_.out (fun K hK => ?_); have hs18 : w15.cell? ⟨gb298, 1, none⟩ = some (u299001) := cz BK298 1; have hfs18 := blk_frozen BK298.out 1; have hns18_0 := NB297_298.out; have hms18_0 := NB298_297.out; refine skip_ (w1 := ?_) (by rfl) rfl ?_ ?_
       rotate_left
       ·go_simp
        rfl
       refine hK.out _ _ ?_; clear hK K; refine done_ (done_of HT_.out (by kernel_rfl)) ?_
       try go_wp2
       go_roundg k1
       case measure => have := HK1.out; omega
       case rel => exact ⟨(wrap64 (x15_1 + 1)), (y303), (.slice Ao17 y303.length co17), wZ, H', ⟨by have := HK1.out; omega⟩, ⟨by (with_reducible repeat (first | apply Kd.S_alloc | apply Kd.S_drewN | apply Kd.S_drew)); exact Kd.S_mono (Kd.S_far (p := ⟨gb298, 1, none⟩) (Kd.S_types HO305.out BK298.out (by decide)) (fun _ hk => hk.2) (.slice Ao17 y303.length co17)) (fun _ hk => trivial)⟩, ⟨by (with_reducible repeat (first | refine blk_drewN ?_ _ | refine blk_drew ?_ | refine blk_alloc ?_ _)); refine blk_far ?_ NB297_298.out _; (with_reducible repeat (first | refine blk_drewN ?_ _ | refine blk_drew ?_ | refine blk_alloc ?_ _)); exact BK297.out⟩, ⟨by (with_reducible repeat (first | refine blk_drewN ?_ _ | refine blk_drew ?_ | refine blk_alloc ?_ _)); refine blk_put (cs := #[.int .i64 (wrap64 (3 * a2)), u299001]) ?_ 1 _ rfl; (with_reducible repeat (first | refine blk_drewN ?_ _ | refine blk_drew ?_ | refine blk_alloc ?_ _)); exact BK298.out⟩, ⟨Bq⟩⟩
      ·rw [if_neg c12] at H
       exact absurd H (by simp)
     ·rw [if_neg c10] at H
      exact absurd H (by simp)
    ·rw [if_neg c9] at H
     exact absurd H (by simp)
   ·rw [if_neg c8] at H
    have c8b0 : decide (x15_1 < (l1.length : Int)) = false := decide_eq_false c8; clear c8
    simp only [Option.some.injEq, Prod.mk.injEq] at H
    obtain ⟨rfl, rfl⟩ := H; have hnb19 := NB298_297.out; have hnc19 := NB297_298.out; obtain ⟨hcz20_0, hcz20_1, hfz20_0, hfz20_1⟩ := cf2 (w := wr) BK298; obtain ⟨hcz21_0, hcz21_1, hfz21_0, hfz21_1⟩ := cf2 (w := wr) BK297; obtain ⟨Ao22, co22, eo22⟩ := Kd.S_slice HO_299001.out; subst eo22
    go_wp2
    refine bodyPost_ret (results_cell_row rfl _ _ gb297 35 #[.int .i64 (wrap64 (3 * a2)), .slice Ao22 x299001_1.length co22] (0, 0) _ rfl (by (with_reducible repeat (first | refine blk_drewN ?_ _ | refine blk_drew ?_ | refine blk_alloc ?_ _)); refine blk_put (cs := #[.int .i64 (wrap64 (3 * a2)), .slice none 0 0]) ?_ 1 _ rfl; (with_reducible repeat (first | refine blk_drewN ?_ _ | refine blk_drew ?_ | refine blk_alloc ?_ _)); refine blk_put (cs := #[.int .i64 0, .slice none 0 0]) ?_ 0 _ rfl; exact Kz BK297.out) Tryz.underlying35 rfl (by kernel_rfl)) rfl ?_; exact ⟨_, eZ, by (with_reducible repeat (first | apply Kd.S_alloc | apply Kd.S_drewN | apply Kd.S_drew)); exact Kd.S_mono (Kd.S_far (p := ⟨gb297, 1, none⟩) (Kd.S_far (p := ⟨gb297, 0, none⟩) (Kd.S_types HO_299001.out BK297.out (by decide)) (fun _ hk => hk.2) (.int .i64 (wrap64 (3 * a2)))) (fun _ hk => hk.2) (.slice Ao22 x299001_1.length co22)) (fun _ hk => trivial), Bq⟩

def impl_HyperOf.f (k : Nat) (a0 : Int) (l1 : List ByteArray) (a2 : Int) : Option (Int × (List (List Int)) × Bool) := (impl_isSeed.f a0).bind fun t307 => (if t307 = true then ((impl_AreKeys.f k l1).bind fun t308 => (if t308 = true then ((impl_segmentOk.f a2).bind fun t309 => (if t309 = true then ((impl_hyper.f k a0 l1 a2).bind fun bt310 => (some (bt310.1, bt310.2, true))) else (some (0, ([] : List (List Int)), false)))) else (some (0, ([] : List (List Int)), false)))) else (some (0, ([] : List (List Int)), false)))
theorem impl_HyperOf.calls (k : Nat) (a0 : Int) (A1 : Option Addr) (c1 : Nat) (l1 : List ByteArray) (a2 : Int) (r1 : Int) (r2 : List (List Int)) (r3 : Bool) (w : World) (hr1 : Kd.C Kd.string w A1 l1.length l1) (hc1 : l1.length ≤ c1) (h : impl_HyperOf.f k a0 l1 a2 = some (r1, r2, r3)) :
  Calls Tryz.prog 9 #[.int .i64 a0, .slice A1 l1.length c1, .int .i64 a2] w fun e w' => ∃ v1_ : Value, e = .returned (.tuple #[.agg #[.int .i64 r1, v1_], .bool r3]) ∧ Kd.S (Kd.slice 3 (Kd.int .i64)) 27 w' w.heap.size (fun _ => True) v1_ r2 ∧ Below w.heap.size w w' := by
 have hu35 := Tryz.underlying35; have HR1 := am hr1; have HC1 := am hc1; clear hr1 hc1; have HB := am (Below.refl w.heap.size w); have H : ((impl_isSeed.f a0).bind fun t307 => (if t307 = true then ((impl_AreKeys.f k l1).bind fun t308 => (if t308 = true then ((impl_segmentOk.f a2).bind fun t309 => (if t309 = true then ((impl_hyper.f k a0 l1 a2).bind fun bt310 => (some (bt310.1, bt310.2, true))) else (some (0, ([] : List (List Int)), false)))) else (some (0, ([] : List (List Int)), false)))) else (some (0, ([] : List (List Int)), false)))) = some (r1, r2, r3) := h; clear h; replace H := Option.bind_eq_some_iff.mp H; obtain ⟨t307, A40, H⟩ := H; (try dsimp -simprocs only at H); have A4 := am A40; clear A40
 by_cases c5 : t307 = true
 ·subst c5
  rw [if_pos rfl] at H; replace H := Option.bind_eq_some_iff.mp H; obtain ⟨t308, A60, H⟩ := H; (try dsimp -simprocs only at H); have A6 := am A60; clear A60
  by_cases c7 : t308 = true
  ·subst c7
   rw [if_pos rfl] at H; replace H := Option.bind_eq_some_iff.mp H; obtain ⟨t309, A80, H⟩ := H; (try dsimp -simprocs only at H); have A8 := am A80; clear A80
   by_cases c9 : t309 = true
   ·subst c9
    rw [if_pos rfl] at H; replace H := Option.bind_eq_some_iff.mp H; obtain ⟨⟨t310, t311⟩, A100, H⟩ := H; (try dsimp -simprocs only at H); have A10 := am A100; clear A100
    simp only [Option.some.injEq, Prod.mk.injEq] at H
    obtain ⟨rfl, rfl, rfl⟩ := H
    go_enter Tryz.func9, Tryz.ntmps9
    go_wp2_with (first | ((with_reducible refine gate_dst (N := 6) rfl ?_); refine bE 6 #[.int .i64 0, .slice none 0 0] 35 ?_; intro gb306 hg w11 hbox hb; have n0_ := Bb HB hb; have n1_ := am (hbox); have n2_ := Gl HB hg; have n3_ := Gl HB hg; clear HB; revert n0_ n1_ n2_ n3_; intro HB BK306 GW306 GE306; clear hb hbox hg) | ((with_reducible refine gate_callee (f := 38) rfl ?_); refine gL (some 9) Tryz.func38 #[.int .i64 a0] ?_; (with_reducible refine (impl_isSeed.calls a0 true _ A4.out).mono ?_); rintro e w' ⟨rfl, ⟨nd, rfl⟩⟩; refine ⟨_, rfl, ?_⟩; (try (rw [drewN_self w11]; generalize hq_ : World.drewN w11 _ = w11; have n0_ : Aside0 (w11.heap[gb306]? = some (.cells #[.int .i64 0, .slice none 0 0] 35 (0, 0))) := ⟨by rw [← hq_]; exact (Kz BK306.out)⟩; have n1_ : Aside0 (Below w.heap.size w w11) := ⟨by rw [← hq_]; exact (Bq)⟩; clear BK306 HB hq_; revert n0_ n1_; intro BK306 HB))) | (go_at_call 39; (with_reducible refine (impl_AreKeys.calls k _ _ l1 true _ ?side1 ?side2 A6.out).mono ?_); (case side1 => exact Cz (Kd.C_below HR1.out HB.out)); (case side2 => exact HC1.out); rintro e w' ⟨rfl, ⟨nd, rfl⟩⟩; (try (rw [drewN_self w11]; generalize hq_ : World.drewN w11 _ = w11; have n0_ : Aside0 (w11.heap[gb306]? = some (.cells #[.int .i64 0, .slice none 0 0] 35 (0, 0))) := ⟨by rw [← hq_]; exact (Kz BK306.out)⟩; have n1_ : Aside0 (Below w.heap.size w w11) := ⟨by rw [← hq_]; exact (Bq)⟩; clear BK306 HB hq_; revert n0_ n1_; intro BK306 HB))) | (go_at_call 40; (with_reducible refine (impl_segmentOk.calls a2 true _ A8.out).mono ?_); rintro e w' ⟨rfl, ⟨nd, rfl⟩⟩; (try (rw [drewN_self w11]; generalize hq_ : World.drewN w11 _ = w11; have n0_ : Aside0 (w11.heap[gb306]? = some (.cells #[.int .i64 0, .slice none 0 0] 35 (0, 0))) := ⟨by rw [← hq_]; exact (Kz BK306.out)⟩; have n1_ : Aside0 (Below w.heap.size w w11) := ⟨by rw [← hq_]; exact (Bq)⟩; clear BK306 HB hq_; revert n0_ n1_; intro BK306 HB))) | ((with_reducible refine gate_callee (f := 41) rfl ?_); refine gL (some 25) Tryz.func41 #[.int .i64 a0, .slice A1 l1.length c1, .int .i64 a2] ?_; (with_reducible refine (impl_hyper.calls k a0 _ _ l1 a2 t310 t311 _ ?side1 ?side2 A10.out).mono ?_); (case side1 => exact Cz (Kd.C_below HR1.out HB.out)); (case side2 => exact HC1.out); rintro e w12 ⟨v312, rfl, ho0, hb⟩; refine ⟨_, rfl, ?_⟩; have n0_ := am (Kd.S_lower ho0 (below_size (w := w) (Bq))); have n1_ := Kb BK306 hb; have n2_ := Bc HB hb; clear BK306 HB; revert n0_ n1_ n2_; intro HO313 BK306 HB; (try clear hb); (try clear hb2); (try clear hk); (try clear hi); (try clear ho0); obtain ⟨hcz13_0, hcz13_1, hfz13_0, hfz13_1⟩ := cf2 (w := w12) BK306; obtain ⟨Ao14, co14, eo14⟩ := Kd.S_slice HO313.out; subst eo14))
    refine bodyPost_ret (results_ct rfl _ _ gb306 35 #[.int .i64 t310, .slice Ao14 t311.length co14] (0, 0) _ rfl (by (with_reducible repeat (first | refine blk_drewN ?_ _ | refine blk_drew ?_ | refine blk_alloc ?_ _)); refine blk_put (cs := #[.int .i64 t310, .slice none 0 0]) ?_ 1 _ rfl; (with_reducible repeat (first | refine blk_drewN ?_ _ | refine blk_drew ?_ | refine blk_alloc ?_ _)); refine blk_put (cs := #[.int .i64 0, .slice none 0 0]) ?_ 0 _ rfl; exact Kz BK306.out) Tryz.underlying35 rfl (by kernel_rfl)) rfl ?_; exact ⟨_, eZ, by (with_reducible repeat (first | apply Kd.S_alloc | apply Kd.S_drewN | apply Kd.S_drew)); exact Kd.S_mono (Kd.S_far (p := ⟨gb306, 1, none⟩) (Kd.S_far (p := ⟨gb306, 0, none⟩) (Kd.S_types HO313.out BK306.out (by decide)) (fun _ hk => hk.2) (.int .i64 t310)) (fun _ hk => hk.2) (.slice Ao14 t311.length co14)) (fun _ hk => trivial), Bq⟩
   ·replace c9 := Bool.eq_false_iff.mpr c9
    subst c9
    rw [if_neg (show ¬ (false = true) by decide)] at H
    simp only [Option.some.injEq, Prod.mk.injEq] at H
    obtain ⟨rfl, rfl, rfl⟩ := H
    go_enter Tryz.func9, Tryz.ntmps9
    go_wp2_with (first | ((with_reducible refine gate_dst (N := 6) rfl ?_); refine bE 6 #[.int .i64 0, .slice none 0 0] 35 ?_; intro gb306 hg w15 hbox hb; have n0_ := Bb HB hb; have n1_ := am (hbox); have n2_ := Gl HB hg; have n3_ := Gl HB hg; clear HB; revert n0_ n1_ n2_ n3_; intro HB BK306 GW306 GE306; clear hb hbox hg) | ((with_reducible refine gate_callee (f := 38) rfl ?_); refine gL (some 9) Tryz.func38 #[.int .i64 a0] ?_; (with_reducible refine (impl_isSeed.calls a0 true _ A4.out).mono ?_); rintro e w' ⟨rfl, ⟨nd, rfl⟩⟩; refine ⟨_, rfl, ?_⟩; (try (rw [drewN_self w15]; generalize hq_ : World.drewN w15 _ = w15; have n0_ : Aside0 (w15.heap[gb306]? = some (.cells #[.int .i64 0, .slice none 0 0] 35 (0, 0))) := ⟨by rw [← hq_]; exact (Kz BK306.out)⟩; have n1_ : Aside0 (Below w.heap.size w w15) := ⟨by rw [← hq_]; exact (Bq)⟩; clear BK306 HB hq_; revert n0_ n1_; intro BK306 HB))) | (go_at_call 39; (with_reducible refine (impl_AreKeys.calls k _ _ l1 true _ ?side1 ?side2 A6.out).mono ?_); (case side1 => exact Cz (Kd.C_below HR1.out HB.out)); (case side2 => exact HC1.out); rintro e w' ⟨rfl, ⟨nd, rfl⟩⟩; (try (rw [drewN_self w15]; generalize hq_ : World.drewN w15 _ = w15; have n0_ : Aside0 (w15.heap[gb306]? = some (.cells #[.int .i64 0, .slice none 0 0] 35 (0, 0))) := ⟨by rw [← hq_]; exact (Kz BK306.out)⟩; have n1_ : Aside0 (Below w.heap.size w w15) := ⟨by rw [← hq_]; exact (Bq)⟩; clear BK306 HB hq_; revert n0_ n1_; intro BK306 HB))) | (go_at_call 40; (with_reducible refine (impl_segmentOk.calls a2 false _ A8.out).mono ?_); rintro e w' ⟨rfl, ⟨nd, rfl⟩⟩; (try (rw [drewN_self w15]; generalize hq_ : World.drewN w15 _ = w15; have n0_ : Aside0 (w15.heap[gb306]? = some (.cells #[.int .i64 0, .slice none 0 0] 35 (0, 0))) := ⟨by rw [← hq_]; exact (Kz BK306.out)⟩; have n1_ : Aside0 (Below w.heap.size w w15) := ⟨by rw [← hq_]; exact (Bq)⟩; clear BK306 HB hq_; revert n0_ n1_; intro BK306 HB)); obtain ⟨hcz16_0, hcz16_1, hfz16_0, hfz16_1⟩ := cf2 (w := w15) BK306))
    refine bodyPost_ret (results_ct rfl _ _ gb306 35 #[.int .i64 0, .slice none 0 0] (0, 0) _ rfl (by (with_reducible repeat (first | refine blk_drewN ?_ _ | refine blk_drew ?_ | refine blk_alloc ?_ _)); refine blk_put (cs := #[.int .i64 0, .slice none 0 0]) ?_ 1 _ rfl; (with_reducible repeat (first | refine blk_drewN ?_ _ | refine blk_drew ?_ | refine blk_alloc ?_ _)); refine blk_put (cs := #[.int .i64 0, .slice none 0 0]) ?_ 0 _ rfl; exact Kz BK306.out) Tryz.underlying35 rfl (by kernel_rfl)) rfl ?_; exact ⟨_, eZ, by first | exact Kd.S_nil _ _ _ _ _ | exact Kd.N_nil _ _ _ _ _ | exact Kd.V_nil _ _ _ _ _ | exact Kd.Q_nil _ _ _ _ _ | exact Kd.R_nil _ _ _ _ _, Bq⟩
  ·replace c7 := Bool.eq_false_iff.mpr c7
   subst c7
   rw [if_neg (show ¬ (false = true) by decide)] at H
   simp only [Option.some.injEq, Prod.mk.injEq] at H
   obtain ⟨rfl, rfl, rfl⟩ := H
   go_enter Tryz.func9, Tryz.ntmps9
   go_wp2_with (first | ((with_reducible refine gate_dst (N := 6) rfl ?_); refine bE 6 #[.int .i64 0, .slice none 0 0] 35 ?_; intro gb306 hg w17 hbox hb; have n0_ := Bb HB hb; have n1_ := am (hbox); have n2_ := Gl HB hg; have n3_ := Gl HB hg; clear HB; revert n0_ n1_ n2_ n3_; intro HB BK306 GW306 GE306; clear hb hbox hg) | ((with_reducible refine gate_callee (f := 38) rfl ?_); refine gL (some 9) Tryz.func38 #[.int .i64 a0] ?_; (with_reducible refine (impl_isSeed.calls a0 true _ A4.out).mono ?_); rintro e w' ⟨rfl, ⟨nd, rfl⟩⟩; refine ⟨_, rfl, ?_⟩; (try (rw [drewN_self w17]; generalize hq_ : World.drewN w17 _ = w17; have n0_ : Aside0 (w17.heap[gb306]? = some (.cells #[.int .i64 0, .slice none 0 0] 35 (0, 0))) := ⟨by rw [← hq_]; exact (Kz BK306.out)⟩; have n1_ : Aside0 (Below w.heap.size w w17) := ⟨by rw [← hq_]; exact (Bq)⟩; clear BK306 HB hq_; revert n0_ n1_; intro BK306 HB))) | (go_at_call 39; (with_reducible refine (impl_AreKeys.calls k _ _ l1 false _ ?side1 ?side2 A6.out).mono ?_); (case side1 => exact Cz (Kd.C_below HR1.out HB.out)); (case side2 => exact HC1.out); rintro e w' ⟨rfl, ⟨nd, rfl⟩⟩; (try (rw [drewN_self w17]; generalize hq_ : World.drewN w17 _ = w17; have n0_ : Aside0 (w17.heap[gb306]? = some (.cells #[.int .i64 0, .slice none 0 0] 35 (0, 0))) := ⟨by rw [← hq_]; exact (Kz BK306.out)⟩; have n1_ : Aside0 (Below w.heap.size w w17) := ⟨by rw [← hq_]; exact (Bq)⟩; clear BK306 HB hq_; revert n0_ n1_; intro BK306 HB)); obtain ⟨hcz18_0, hcz18_1, hfz18_0, hfz18_1⟩ := cf2 (w := w17) BK306))
   refine bodyPost_ret (results_ct rfl _ _ gb306 35 #[.int .i64 0, .slice none 0 0] (0, 0) _ rfl (by (with_reducible repeat (first | refine blk_drewN ?_ _ | refine blk_drew ?_ | refine blk_alloc ?_ _)); refine blk_put (cs := #[.int .i64 0, .slice none 0 0]) ?_ 1 _ rfl; (with_reducible repeat (first | refine blk_drewN ?_ _ | refine blk_drew ?_ | refine blk_alloc ?_ _)); refine blk_put (cs := #[.int .i64 0, .slice none 0 0]) ?_ 0 _ rfl; exact Kz BK306.out) Tryz.underlying35 rfl (by kernel_rfl)) rfl ?_; exact ⟨_, eZ, by first | exact Kd.S_nil _ _ _ _ _ | exact Kd.N_nil _ _ _ _ _ | exact Kd.V_nil _ _ _ _ _ | exact Kd.Q_nil _ _ _ _ _ | exact Kd.R_nil _ _ _ _ _, Bq⟩
 ·replace c5 := Bool.eq_false_iff.mpr c5
  subst c5
  rw [if_neg (show ¬ (false = true) by decide)] at H
  simp only [Option.some.injEq, Prod.mk.injEq] at H
  obtain ⟨rfl, rfl, rfl⟩ := H
  go_enter Tryz.func9, Tryz.ntmps9
  go_wp2_with (first | ((with_reducible refine gate_dst (N := 6) rfl ?_); refine bE 6 #[.int .i64 0, .slice none 0 0] 35 ?_; intro gb306 hg w19 hbox hb; have n0_ := Bb HB hb; have n1_ := am (hbox); have n2_ := Gl HB hg; have n3_ := Gl HB hg; clear HB; revert n0_ n1_ n2_ n3_; intro HB BK306 GW306 GE306; clear hb hbox hg) | ((with_reducible refine gate_callee (f := 38) rfl ?_); refine gL (some 9) Tryz.func38 #[.int .i64 a0] ?_; (with_reducible refine (impl_isSeed.calls a0 false _ A4.out).mono ?_); rintro e w' ⟨rfl, ⟨nd, rfl⟩⟩; refine ⟨_, rfl, ?_⟩; (try (rw [drewN_self w19]; generalize hq_ : World.drewN w19 _ = w19; have n0_ : Aside0 (w19.heap[gb306]? = some (.cells #[.int .i64 0, .slice none 0 0] 35 (0, 0))) := ⟨by rw [← hq_]; exact (Kz BK306.out)⟩; have n1_ : Aside0 (Below w.heap.size w w19) := ⟨by rw [← hq_]; exact (Bq)⟩; clear BK306 HB hq_; revert n0_ n1_; intro BK306 HB)); obtain ⟨hcz20_0, hcz20_1, hfz20_0, hfz20_1⟩ := cf2 (w := w19) BK306))
  refine bodyPost_ret (results_ct rfl _ _ gb306 35 #[.int .i64 0, .slice none 0 0] (0, 0) _ rfl (by (with_reducible repeat (first | refine blk_drewN ?_ _ | refine blk_drew ?_ | refine blk_alloc ?_ _)); refine blk_put (cs := #[.int .i64 0, .slice none 0 0]) ?_ 1 _ rfl; (with_reducible repeat (first | refine blk_drewN ?_ _ | refine blk_drew ?_ | refine blk_alloc ?_ _)); refine blk_put (cs := #[.int .i64 0, .slice none 0 0]) ?_ 0 _ rfl; exact Kz BK306.out) Tryz.underlying35 rfl (by kernel_rfl)) rfl ?_; exact ⟨_, eZ, by first | exact Kd.S_nil _ _ _ _ _ | exact Kd.N_nil _ _ _ _ _ | exact Kd.V_nil _ _ _ _ _ | exact Kd.Q_nil _ _ _ _ _ | exact Kd.R_nil _ _ _ _ _, Bq⟩

def impl_Hyper_none.f (a0_0 : Int) (l0_1 : List (List Int)) : Option (List Bool) := if 0 ≤ (l0_1.length : Int) then (if ((l0_1.length : Int) : Int).toNat ≤ 281474976710656 then (some (List.replicate ((l0_1.length : Int) : Int).toNat false)) else (none)) else (none)
theorem impl_Hyper_none.calls (g0 : Nat) (a0_0 : Int) (A0_1 : Option Addr) (c0_1 : Nat) (l0_1 : List (List Int)) (r : List Bool) (w : World) (hb0 : w.heap[g0]? = some (.cells #[.int .i64 a0_0, .slice A0_1 l0_1.length c0_1] 35 (0, 0))) (hr0_1 : Kd.C (Kd.slice 3 (Kd.int .i64)) w A0_1 l0_1.length l0_1) (hc0_1 : l0_1.length ≤ c0_1) (h : impl_Hyper_none.f a0_0 l0_1 = some r) :
  Calls Tryz.prog 93 #[.pointer (some ⟨g0, 0, none⟩)] w fun e w' => ∃ v0_ : Value, e = .returned (v0_) ∧ Kd.R Kd.bool 4 w' w.heap.size (fun _ => True) v0_ r ∧ Below w.heap.size w w' := by
 have HR0_1 := am hr0_1; have HC0_1 := am hc0_1; clear hr0_1 hc0_1; have BK0 := am hb0; clear hb0; have HB := am (Below.refl w.heap.size w); have H : (if 0 ≤ (l0_1.length : Int) then (if ((l0_1.length : Int) : Int).toNat ≤ 281474976710656 then (some (List.replicate ((l0_1.length : Int) : Int).toNat false)) else (none)) else (none)) = some r := h; clear h
 by_cases c2 : 0 ≤ (l0_1.length : Int)
 ·rw [if_pos c2] at H
  have c2b0 := eq_true c2; have c2b1 : decide (0 ≤ (l0_1.length : Int)) = true := decide_eq_true c2; clear c2
  by_cases c3 : ((l0_1.length : Int) : Int).toNat ≤ 281474976710656
  ·rw [if_pos c3] at H
   have c3b0 := eq_true c3; have c3b1 : decide (((l0_1.length : Int) : Int).toNat ≤ 281474976710656) = true := decide_eq_true c3; clear c3; obtain ⟨y314, hy314⟩ : ∃ y_ : List Bool, y_ = (List.replicate ((l0_1.length : Int) : Int).toNat false) := ⟨_, rfl⟩
   replace H : (some y314) = some r := by first | (rw [hy314]; with_reducible exact H) | (have H2_ := (Option.bind_some _ _).symm.trans H; rw [hy314]; with_reducible exact H2_) | (have H2_ := (Option.bind_some _ _).symm.trans H; with_reducible exact H2_) | with_reducible exact H | (rw [hy314]; exact H) | exact H
   have Ny314 := am hy314; clear hy314; obtain rfl := Option.some.inj H; obtain ⟨hcz4_0, hcz4_1, hfz4_0, hfz4_1⟩ := cf2 (w := w) BK0
   go_enter Tryz.func93, Tryz.ntmps93
   go_wp2_with (first | ((with_reducible refine gate_dst (N := 8) rfl ?_); refine Kd.R_make Kd.bool _ 4 rfl (N := 8) rfl 114 _ _ rfl (l0_1.length : Int) rfl rfl Tryz.underlying114 (.bool false) 1 info4 rfl (by decide) (by omega) false (ok := fun _ => True) (okp := fun _ => True) rfl (fun _ hk => hk) trivial (dT) (Nat.le_trans (Nat.mul_le_mul_right _ (dT : (l0_1.length : Int).toNat ≤ 281474976710656)) (by omega)) (Below.refl _ _) (Nat.le_refl _) ?_; intro v315 w5 ho6 hb hg_ hnew_; clear hg_ hnew_; (first | rw [← Ny314.out] at ho6 | (simp only [Int.reduceToNat] at ho6; rw [← Ny314.out] at ho6)); have n0_ := Rm ho6 HB; have n1_ := Kb BK0 hb; have n2_ := Bc HB hb; clear BK0 HB; revert n0_ n1_ n2_; intro HO316 BK0 HB; clear hb ho6))
   go_ret
   exact ⟨_, eZ, Rz HO316.out, Bq⟩
  ·rw [if_neg c3] at H
   exact absurd H (by simp)
 ·rw [if_neg c2] at H
  exact absurd H (by simp)

mutual
def impl_Hyper_degrees.l0 : Nat → List Bool → List Int → List (List Int) → Int → Int → Option (List Int)
 | 0, _, _, _, _, _ => none
 | k + 1, x1, x5, x18, x19, x20 => if x20 < x19 then (if 0 ≤ x20 then (if x20 < (x18.length : Int) then (if x20 < (x1.length : Int) then (if rdOf false x1 x20 = true then (impl_Hyper_degrees.l0 k x1 x5 x18 x19 (wrap64 (x20 + 1))) else (impl_Hyper_degrees.l1 k x1 x5 x18 x19 x20 (rd_L3 x18 x20) ((rd_L3 x18 x20).length : Int) 0)) else (none)) else (none)) else (none)) else (some x5)
def impl_Hyper_degrees.l1 : Nat → List Bool → List Int → List (List Int) → Int → Int → List Int → Int → Int → Option (List Int)
 | 0, _, _, _, _, _, _, _, _ => none
 | k + 1, x1, x5, x18, x19, x20, x29, x30, x31 => if x31 < x30 then (if 0 ≤ x31 then (if x31 < (x29.length : Int) then (if 0 ≤ (rd x29 x31) then (if (rd x29 x31) < (x5.length : Int) then (impl_Hyper_degrees.l1 k x1 (x5.set ((rd x29 x31) : Int).toNat (wrap64 ((rd x5 (rd x29 x31)) + 1))) x18 x19 x20 x29 x30 (wrap64 (x31 + 1))) else (none)) else (none)) else (none)) else (none)) else (impl_Hyper_degrees.l0 k x1 x5 x18 x19 (wrap64 (x20 + 1)))
end
def impl_Hyper_degrees.f (k : Nat) (a0_0 : Int) (l0_1 : List (List Int)) (l1 : List Bool) : Option (List Int) := if 0 ≤ a0_0 then (if (a0_0 : Int).toNat ≤ 35184372088832 then (impl_Hyper_degrees.l0 k l1 (List.replicate (a0_0 : Int).toNat 0) l0_1 (l0_1.length : Int) 0) else (none)) else (none)
theorem impl_Hyper_degrees.calls (k : Nat) (g0 : Nat) (a0_0 : Int) (A0_1 : Option Addr) (c0_1 : Nat) (l0_1 : List (List Int)) (A1 : Option Addr) (c1 : Nat) (l1 : List Bool) (r : List Int) (w : World) (hb0 : w.heap[g0]? = some (.cells #[.int .i64 a0_0, .slice A0_1 l0_1.length c0_1] 35 (0, 0))) (hr0_1 : Kd.C (Kd.slice 3 (Kd.int .i64)) w A0_1 l0_1.length l0_1) (hc0_1 : l0_1.length ≤ c0_1) (hr1 : Kd.C Kd.bool w A1 l1.length l1) (hc1 : l1.length ≤ c1) (h : impl_Hyper_degrees.f k a0_0 l0_1 l1 = some r) :
  Calls Tryz.prog 107 #[.pointer (some ⟨g0, 0, none⟩), .slice A1 l1.length c1] w fun e w' => ∃ v0_ : Value, e = .returned (v0_) ∧ Kd.R (Kd.int .i64) 3 w' w.heap.size (fun _ => True) v0_ r ∧ Below w.heap.size w w' := by
 have HR0_1 := am hr0_1; have HC0_1 := am hc0_1; clear hr0_1 hc0_1; have HR1 := am hr1; have HC1 := am hc1; clear hr1 hc1; have BK0 := am hb0; clear hb0; have HB := am (Below.refl w.heap.size w); have H : (if 0 ≤ a0_0 then (if (a0_0 : Int).toNat ≤ 35184372088832 then (impl_Hyper_degrees.l0 k l1 (List.replicate (a0_0 : Int).toNat 0) l0_1 (l0_1.length : Int) 0) else (none)) else (none)) = some r := h; clear h
 by_cases c3 : 0 ≤ a0_0
 ·rw [if_pos c3] at H
  have c3b0 := eq_true c3; have c3b1 : decide (0 ≤ a0_0) = true := decide_eq_true c3; clear c3
  by_cases c4 : (a0_0 : Int).toNat ≤ 35184372088832
  ·rw [if_pos c4] at H
   have c4b0 := eq_true c4; have c4b1 : decide ((a0_0 : Int).toNat ≤ 35184372088832) = true := decide_eq_true c4; clear c4; obtain ⟨y317, hy317⟩ : ∃ y_ : List Int, y_ = (List.replicate (a0_0 : Int).toNat 0) := ⟨_, rfl⟩
   replace H : (impl_Hyper_degrees.l0 k l1 y317 l0_1 (l0_1.length : Int) 0) = some r := by first | (rw [hy317]; with_reducible exact H) | (have H2_ := (Option.bind_some _ _).symm.trans H; rw [hy317]; with_reducible exact H2_) | (have H2_ := (Option.bind_some _ _).symm.trans H; with_reducible exact H2_) | with_reducible exact H | (rw [hy317]; exact H) | exact H
   have Ny317 := am hy317; clear hy317; have H' := am H; clear H; obtain ⟨hcz5_0, hcz5_1, hfz5_0, hfz5_1⟩ := cf2 (w := w) BK0
   go_enter Tryz.func107, Tryz.ntmps107
   go_wp2_with (first | ((with_reducible refine gate_dst (N := 14) rfl ?_); refine Kd.R_make (Kd.int .i64) _ 3 rfl (N := 14) rfl 27 _ _ rfl a0_0 rfl rfl Tryz.underlying27 (.int .i64 0) 8 info3 rfl (by decide) (by omega) 0 (ok := fun _ => True) (okp := fun _ => True) rfl (fun _ hk => hk) trivial (dT) (Nat.le_trans (Nat.mul_le_mul_right _ (dT : a0_0.toNat ≤ 35184372088832)) (by omega)) (Below.refl _ _) (Nat.le_refl _) ?_; intro v318 w6 ho7 hb hg_ hnew_; clear hg_ hnew_; (first | rw [← Ny317.out] at ho7 | (simp only [Int.reduceToNat] at ho7; rw [← Ny317.out] at ho7)); have n0_ := Rm ho7 HB; have n1_ := Kb BK0 hb; have n2_ := Bc HB hb; clear BK0 HB; revert n0_ n1_ n2_; intro HO319 BK0 HB; clear hb ho7; obtain ⟨hcz8_0, hcz8_1, hfz8_0, hfz8_1⟩ := cf2 (w := w6) BK0))
   (try simp only [aP])
   go_loopg [20] k (fun kq v20 w' => ∃ (x5_1 : List Int) (x20_1 : Int), v20 = .int .i64 x20_1 ∧ Aside0 (impl_Hyper_degrees.l0 kq l1 x5_1 l0_1 (l0_1.length : Int) x20_1 = some r) ∧ Aside0 (kq ≤ k) ∧ Aside0 (Kd.R (Kd.int .i64) 3 w' w.heap.size (fun _ => True) v318 x5_1) ∧ Aside0 (w'.heap[g0]? = some (.cells #[.int .i64 a0_0, (.slice A0_1 l0_1.length c0_1)] 35 (0, 0))) ∧ Aside0 (Below w.heap.size w w'))
   case atStart => exact ⟨(y317), (0), wZ, H', ⟨Nat.le_refl _⟩, ⟨Rz HO319.out⟩, ⟨Kz BK0.out⟩, ⟨Bq⟩⟩
   case round =>
    clear H'
    try clear c1
    try clear p2
    try clear c3
    try clear c3b0
    try clear c3b1
    try clear c4
    try clear c4b0
    try clear c4b1
    try clear hcz5_0
    try clear hcz5_1
    try clear hcz8_0
    try clear hcz8_1
    try clear hfz5_0
    try clear hfz5_1
    try clear hfz8_0
    try clear hfz8_1
    obtain ⟨x5_1, x20_1, rfl, HA, HK1, HO_5, BK0, HB⟩ := hrel; cases gk with
    | zero => exact absurd HA.out (by simp [impl_Hyper_degrees.l0])
    | succ k1 =>
     have H := HA.out; clear HA
     simp only [impl_Hyper_degrees.l0] at H
     by_cases c9 : x20_1 < (l0_1.length : Int)
     ·rw [if_pos c9] at H
      have c9b0 : decide (x20_1 < (l0_1.length : Int)) = true := decide_eq_true c9; clear c9
      by_cases c10 : 0 ≤ x20_1
      ·rw [if_pos c10] at H
       have c10b0 : decide (0 ≤ x20_1) = true := decide_eq_true c10; clear c10
       by_cases c11 : x20_1 < (l0_1.length : Int)
       ·rw [if_pos c11] at H
        have c11b0 : decide (x20_1 < (l0_1.length : Int)) = true := decide_eq_true c11; clear c11
        by_cases c12 : x20_1 < (l1.length : Int)
        ·rw [if_pos c12] at H
         have c12b0 : decide (x20_1 < (l1.length : Int)) = true := decide_eq_true c12; clear c12; obtain ⟨bq13, hbq13⟩ : ∃ b_ : Bool, b_ = (rdOf false l1 x20_1) := ⟨_, rfl⟩
         replace H : (if bq13 = true then (impl_Hyper_degrees.l0 k1 l1 x5_1 l0_1 (l0_1.length : Int) (wrap64 (x20_1 + 1))) else (impl_Hyper_degrees.l1 k1 l1 x5_1 l0_1 (l0_1.length : Int) x20_1 (rd_L3 l0_1 x20_1) ((rd_L3 l0_1 x20_1).length : Int) 0)) = some r := by rw [← hbq13] at H; exact H
         have Nbq13 := am hbq13; clear hbq13
         by_cases c14 : bq13 = true
         ·subst c14
          rw [if_pos rfl] at H; have H' := am H; clear H; have p320 : 0 ≤ (x20_1 : Int) := dT; have q320 : x20_1 < (l0_1.length : Int) := dT; obtain ⟨ad320, A320_0, c320_0, e320, hx320_0, hl320_0, hi320_0⟩ := at_L3 HR0_1.out x20_1 p320 q320; cases e320; replace hx320_0 := (HB.out.cell (World.block_lt_of_cell? w _ hx320_0)).trans hx320_0; have HR320_0 := am hi320_0; have HC320_0 := am hl320_0; clear hi320_0 hl320_0; replace p320 := eq_true p320; replace q320 := eq_true q320; have p321 : 0 ≤ (x20_1 : Int) := dT; have q321 : x20_1 < (l1.length : Int) := dT; obtain ⟨ad321, e321, hx321_0⟩ := Kd.at_bool HR1.out x20_1 p321 q321
          (try rw [← Nbq13.out] at hx321_0)
          cases e321; replace hx321_0 := (HB.out.cell (World.block_lt_of_cell? w _ hx321_0)).trans hx321_0; replace p321 := eq_true p321; replace q321 := eq_true q321
          go_wp2
          go_roundg k1
          case measure => have := HK1.out; omega
          case rel => exact ⟨(x5_1), (wrap64 (x20_1 + 1)), wZ, H', ⟨by have := HK1.out; omega⟩, ⟨Rz HO_5.out⟩, ⟨Kz BK0.out⟩, ⟨Bq⟩⟩
         ·replace c14 := Bool.eq_false_iff.mpr c14
          subst c14
          rw [if_neg (show ¬ (false = true) by decide)] at H; have H' := am H; clear H; have p320 : 0 ≤ (x20_1 : Int) := dT; have q320 : x20_1 < (l0_1.length : Int) := dT; obtain ⟨ad320, A320_0, c320_0, e320, hx320_0, hl320_0, hi320_0⟩ := at_L3 HR0_1.out x20_1 p320 q320; cases e320; replace hx320_0 := (HB.out.cell (World.block_lt_of_cell? w _ hx320_0)).trans hx320_0; have HR320_0 := am hi320_0; have HC320_0 := am hl320_0; clear hi320_0 hl320_0; replace p320 := eq_true p320; replace q320 := eq_true q320; have p321 : 0 ≤ (x20_1 : Int) := dT; have q321 : x20_1 < (l1.length : Int) := dT; obtain ⟨ad321, e321, hx321_0⟩ := Kd.at_bool HR1.out x20_1 p321 q321
          (try rw [← Nbq13.out] at hx321_0)
          cases e321; replace hx321_0 := (HB.out.cell (World.block_lt_of_cell? w _ hx321_0)).trans hx321_0; replace p321 := eq_true p321; replace q321 := eq_true q321
          go_wp2
          go_loopg [31] k1 (fun kq v31 w' => ∃ (x5_2 : List Int) (x31_2 : Int), v31 = .int .i64 x31_2 ∧ Aside0 (impl_Hyper_degrees.l1 kq l1 x5_2 l0_1 (l0_1.length : Int) x20_1 (rd_L3 l0_1 x20_1) ((rd_L3 l0_1 x20_1).length : Int) x31_2 = some r) ∧ Aside0 (kq ≤ k1) ∧ Aside0 (Kd.R (Kd.int .i64) 3 w' w.heap.size (fun _ => True) v318 x5_2) ∧ Aside0 (w'.heap[g0]? = some (.cells #[.int .i64 a0_0, (.slice (some ad320) l0_1.length c0_1)] 35 (0, 0))) ∧ Aside0 (Below w.heap.size w w'))
          case atStart => exact ⟨(x5_1), (0), wZ, H', ⟨Nat.le_refl _⟩, ⟨Rz HO_5.out⟩, ⟨Kz BK0.out⟩, ⟨Bq⟩⟩
          case round =>
           clear H'
           try clear c1
           try clear q1
           try clear p2
           try clear c3
           try clear c3b0
           try clear c3b1
           try clear p3
           try clear q3
           try clear hx3
           try clear c4
           try clear c4b0
           try clear c4b1
           try clear p6
           try clear c9
           try clear c9b0
           try clear c10
           try clear c10b0
           try clear c11
           try clear c11b0
           try clear c12
           try clear c12b0
           try clear q13
           try clear c14
           try clear hcz5_0
           try clear hcz5_1
           try clear hcz8_0
           try clear hcz8_1
           try clear hfz5_0
           try clear hfz5_1
           try clear hfz8_0
           try clear hfz8_1
           try clear hx320_0
           try clear hx321_0
           try clear p2
           try clear p320
           try clear p321
           try clear q320
           try clear q321
           obtain ⟨x5_2, x31_2, rfl, HA, HK2, HO_5, BK0, HB⟩ := hrel; cases gk with
           | zero => exact absurd HA.out (by simp [impl_Hyper_degrees.l1])
           | succ k2 =>
            have H := HA.out; clear HA
            simp only [impl_Hyper_degrees.l1] at H
            by_cases c15 : x31_2 < ((rd_L3 l0_1 x20_1).length : Int)
            ·rw [if_pos c15] at H
             have c15b0 : decide (x31_2 < ((rd_L3 l0_1 x20_1).length : Int)) = true := decide_eq_true c15; clear c15
             by_cases c16 : 0 ≤ x31_2
             ·rw [if_pos c16] at H
              have c16b0 : decide (0 ≤ x31_2) = true := decide_eq_true c16; clear c16
              by_cases c17 : x31_2 < ((rd_L3 l0_1 x20_1).length : Int)
              ·rw [if_pos c17] at H
               have c17b0 : decide (x31_2 < ((rd_L3 l0_1 x20_1).length : Int)) = true := decide_eq_true c17; clear c17
               by_cases c18 : 0 ≤ (rd (rd_L3 l0_1 x20_1) x31_2)
               ·rw [if_pos c18] at H
                have c18b0 : decide (0 ≤ (rd (rd_L3 l0_1 x20_1) x31_2)) = true := decide_eq_true c18; clear c18
                by_cases c19 : (rd (rd_L3 l0_1 x20_1) x31_2) < (x5_2.length : Int)
                ·rw [if_pos c19] at H
                 have c19b0 : decide ((rd (rd_L3 l0_1 x20_1) x31_2) < (x5_2.length : Int)) = true := decide_eq_true c19; clear c19; obtain ⟨y324, hy324⟩ : ∃ y_ : List Int, y_ = (x5_2.set ((rd (rd_L3 l0_1 x20_1) x31_2) : Int).toNat (wrap64 ((rd x5_2 (rd (rd_L3 l0_1 x20_1) x31_2)) + 1))) := ⟨_, rfl⟩
                 replace H : (impl_Hyper_degrees.l1 k2 l1 y324 l0_1 (l0_1.length : Int) x20_1 (rd_L3 l0_1 x20_1) ((rd_L3 l0_1 x20_1).length : Int) (wrap64 (x31_2 + 1))) = some r := by first | (rw [hy324]; with_reducible exact H) | (have H2_ := (Option.bind_some _ _).symm.trans H; rw [hy324]; with_reducible exact H2_) | (have H2_ := (Option.bind_some _ _).symm.trans H; with_reducible exact H2_) | with_reducible exact H | (rw [hy324]; exact H) | exact H
                 have Ny324 := am hy324; clear hy324; have H' := am H; clear H; have p322 : 0 ≤ (x31_2 : Int) := dT; have q322 : x31_2 < ((rd_L3 l0_1 x20_1).length : Int) := dT; obtain ⟨ad322, e322, hx322_0⟩ := Kd.at_int HR320_0.out x31_2 p322 q322; cases e322; replace hx322_0 := (HB.out.cell (World.block_lt_of_cell? w _ hx322_0)).trans hx322_0; replace p322 := eq_true p322; replace q322 := eq_true q322; obtain ⟨Ao21, co21, eo21⟩ := Kd.R_slice HO_5.out; subst eo21; obtain ⟨ad323, e323, hx323_0⟩ := Kd.at_int (Kd.R_reads' HO_5.out).2.2 (rd (rd_L3 l0_1 x20_1) x31_2) dT dT; cases e323; have p323 := eT (0 ≤ ((rd (rd_L3 l0_1 x20_1) x31_2) : Int)); have q323 := eT ((rd (rd_L3 l0_1 x20_1) x31_2) < (x5_2.length : Int)); have p20 : 0 ≤ ((rd (rd_L3 l0_1 x20_1) x31_2) : Int) := dT; have q20 : ((rd (rd_L3 l0_1 x20_1) x31_2) : Int) < ((x5_2.length : Int) : Int) := dT; obtain ⟨go20, co20, eo20, gb20, gl20, cl20, HG20⟩ := Kd.R_form HO_5.out (by omega)
                 (first | cases eo20 | (injection eo20 with ea_ en_ ec_; (first | subst ea_ | (injection ea_ with ea_; subst ea_)); subst ec_; clear en_))
                 have GB20 := am gb20; have GG20 := am HG20; clear gb20 gl20 HG20
                 (first | simp only [add_plain] at hx323_0 | skip)
                 obtain ⟨hx20_0, hf20_0⟩ := Kd.R_celln 0 HO_5.out ((rd (rd_L3 l0_1 x20_1) x31_2) : Int) p20 q20; replace p20 := eq_true p20; replace q20 := eq_true q20; have HP22 := Kd.R_putg HO_5.out ((rd (rd_L3 l0_1 x20_1) x31_2) : Int) (wrap64 ((rd x5_2 (rd (rd_L3 l0_1 x20_1) x31_2)) + 1))
                 go_wp2_with (first | ((with_reducible refine gate_store (t := 3) (p := 40) rfl ?_); refine store_event (t := 3) (p := 40) (v := ?vo_w23) (w1 := (wr.setCell ⟨go20, ((rd (rd_L3 l0_1 x20_1) x31_2) : Int).toNat, none⟩ (.int .i64 (wrap64 ((rd x5_2 (rd (rd_L3 l0_1 x20_1) x31_2)) + 1))))) ?hg ?ho ?hn ?hr ?_; (case ho => rfl); (case hg => rfl); (case hn => rfl); (case hr => first | (go_simp; done) | (go_simp; rfl)); intro w23 hw; have hg : wr.grownBy w23 (some go20) := (by rw [hw]; exact HP22.2); have hp_ : Kd.R (Kd.int .i64) 3 w23 w.heap.size (fun _ => True) (.slice (some ⟨go20, 0, none⟩) x5_2.length co21) y324 := (by rw [hw, Ny324.out]; exact HP22.1); clear HP22; have n0_ := am (hp_); have n1_ := am (blk_grown (g := g0) (o := .cells #[.int .i64 a0_0, .slice (some ad320) l0_1.length c0_1] 35 (0, 0)) (Kz BK0.out) hg (Kd.R_ne HO_5.out BK0.out (by decide))); have n2_ := am ((by rw [hw]; exact below_set (HB.out) GB20.out : Below w.heap.size w w23)); clear HO_5 BK0 HB; revert n0_ n1_ n2_; intro HO_5 BK0 HB; clear hg hw hp_))
                 go_roundg k2
                 case measure => have := HK1.out; have := HK2.out; omega
                 case rel => exact ⟨(y324), (wrap64 (x31_2 + 1)), wZ, H', ⟨by have := HK1.out; have := HK2.out; omega⟩, ⟨Rz HO_5.out⟩, ⟨Kz BK0.out⟩, ⟨Bq⟩⟩
                ·rw [if_neg c19] at H
                 exact absurd H (by simp)
               ·rw [if_neg c18] at H
                exact absurd H (by simp)
              ·rw [if_neg c17] at H
               exact absurd H (by simp)
             ·rw [if_neg c16] at H
              exact absurd H (by simp)
            ·rw [if_neg c15] at H
             have c15b0 : decide (x31_2 < ((rd_L3 l0_1 x20_1).length : Int)) = false := decide_eq_false c15; clear c15; have H' := am H; clear H
             go_wp2
             go_roundg k2
             case measure => have := HK1.out; have := HK2.out; omega
             case rel => exact ⟨(x5_2), (wrap64 (x20_1 + 1)), wZ, H', ⟨by have := HK1.out; have := HK2.out; omega⟩, ⟨Rz HO_5.out⟩, ⟨Kz BK0.out⟩, ⟨Bq⟩⟩
        ·rw [if_neg c12] at H
         exact absurd H (by simp)
       ·rw [if_neg c11] at H
        exact absurd H (by simp)
      ·rw [if_neg c10] at H
       exact absurd H (by simp)
     ·rw [if_neg c9] at H
      have c9b0 : decide (x20_1 < (l0_1.length : Int)) = false := decide_eq_false c9; clear c9; obtain rfl := Option.some.inj H
      go_wp2
      go_ret
      exact ⟨_, eZ, Rz HO_5.out, Bq⟩
  ·rw [if_neg c4] at H
   exact absurd H (by simp)
 ·rw [if_neg c3] at H
  exact absurd H (by simp)

def impl_Hyper_singles.l0 : Nat → List Int → List Int → Int → Int → Option (List Int)
 | 0, _, _, _, _ => none
 | k + 1, x5, x11, x12, x13 => if x13 < x12 then (if 0 ≤ x13 then (if x13 < (x11.length : Int) then (if (rd x11 x13) = 1 then (if x5.length < 17592186044416 then (impl_Hyper_singles.l0 k (x5 ++ [x13]) x11 x12 (wrap64 (x13 + 1))) else (none)) else (impl_Hyper_singles.l0 k x5 x11 x12 (wrap64 (x13 + 1)))) else (none)) else (none)) else (some x5)
def impl_Hyper_singles.f (k : Nat) (a0_0 : Int) (l0_1 : List (List Int)) (l1 : List Bool) : Option (List Int) := (impl_Hyper_degrees.f k a0_0 l0_1 l1).bind fun t328 => (impl_Hyper_singles.l0 k (([] : List Int)) t328 (t328.length : Int) 0)
theorem impl_Hyper_singles.calls (k : Nat) (g0 : Nat) (a0_0 : Int) (A0_1 : Option Addr) (c0_1 : Nat) (l0_1 : List (List Int)) (A1 : Option Addr) (c1 : Nat) (l1 : List Bool) (r : List Int) (w : World) (hb0 : w.heap[g0]? = some (.cells #[.int .i64 a0_0, .slice A0_1 l0_1.length c0_1] 35 (0, 0))) (hr0_1 : Kd.C (Kd.slice 3 (Kd.int .i64)) w A0_1 l0_1.length l0_1) (hc0_1 : l0_1.length ≤ c0_1) (hr1 : Kd.C Kd.bool w A1 l1.length l1) (hc1 : l1.length ≤ c1) (h : impl_Hyper_singles.f k a0_0 l0_1 l1 = some r) :
  Calls Tryz.prog 94 #[.pointer (some ⟨g0, 0, none⟩), .slice A1 l1.length c1] w fun e w' => ∃ v0_ : Value, e = .returned (v0_) ∧ Kd.R (Kd.int .i64) 3 w' w.heap.size (fun _ => True) v0_ r ∧ Below w.heap.size w w' := by
 have HR0_1 := am hr0_1; have HC0_1 := am hc0_1; clear hr0_1 hc0_1; have HR1 := am hr1; have HC1 := am hc1; clear hr1 hc1; have BK0 := am hb0; clear hb0; have HB := am (Below.refl w.heap.size w); have H : ((impl_Hyper_degrees.f k a0_0 l0_1 l1).bind fun t328 => (impl_Hyper_singles.l0 k (([] : List Int)) t328 (t328.length : Int) 0)) = some r := h; clear h; obtain ⟨y325, hy325⟩ : ∃ y_ : List Int, y_ = (([] : List Int)) := ⟨_, rfl⟩
 replace H : ((impl_Hyper_degrees.f k a0_0 l0_1 l1).bind fun t328 => (impl_Hyper_singles.l0 k y325 t328 (t328.length : Int) 0)) = some r := by first | (rw [hy325]; with_reducible exact H) | (have H2_ := (Option.bind_some _ _).symm.trans H; rw [hy325]; with_reducible exact H2_) | (have H2_ := (Option.bind_some _ _).symm.trans H; with_reducible exact H2_) | with_reducible exact H | (rw [hy325]; exact H) | exact H
 have Ny325 := am hy325; clear hy325; replace H := Option.bind_eq_some_iff.mp H; obtain ⟨t328, A30, H⟩ := H; (try dsimp -simprocs only at H); have A3 := am A30; clear A30; have H' := am H; clear H
 go_enter Tryz.func94, Tryz.ntmps94
 go_wp2_with (first | ((with_reducible refine gate_dst (N := 8) rfl ?_); refine Kd.R_lit (Kd.int .i64) _ 3 ?hg (N := 8) ?hd (xs := ([] : List Int)) (inner := []) (ok := fun _ => True) (okp := fun _ => True) ?hr ?hp (fun _ hk => hk) trivial (Below.refl _ _) (Nat.le_refl _) (by simp) ?_; (case hd => rfl); (case hg => rfl); (case hr => first | (go_simp; done) | (go_simp; rfl)); (case hp => exact (Reps.none _ _)); intro v326 w4 ho5 hb hg_ hnew_; clear hg_ hnew_; (first | rw [← Ny325.out] at ho5 | (simp only [Int.reduceToNat] at ho5; rw [← Ny325.out] at ho5)); have n0_ := Rm ho5 HB; have n1_ := Kb BK0 hb; have n2_ := Bc HB hb; clear BK0 HB; revert n0_ n1_ n2_; intro HO327 BK0 HB; clear hb ho5) | ((with_reducible refine gate_callee (f := 107) rfl ?_); refine gL (some 11) Tryz.func107 #[.pointer (some ⟨g0, 0, none⟩), .slice A1 l1.length c1] ?_; (with_reducible refine (impl_Hyper_degrees.calls k g0 a0_0 A0_1 c0_1 l0_1 _ _ l1 t328 _ ?side1 ?side2 ?side3 ?side4 ?side5 A3.out).mono ?_); (case side1 => exact Kz BK0.out); (case side2 => exact Cz (Kd.C_below HR0_1.out HB.out)); (case side3 => exact HC0_1.out); (case side4 => exact Cz (Kd.C_below HR1.out HB.out)); (case side5 => exact HC1.out); rintro e w6 ⟨v329, rfl, ho0, hb⟩; refine ⟨_, rfl, ?_⟩; have n0_ := Re HO327 (Kd.R_base ho0) hb; have n1_ := Rm (Kd.R_new' ho0 (Kd.R_lt (Rz HO327.out))) HB; have n2_ := Kb BK0 hb; have n3_ := Bc HB hb; clear HO327 BK0 HB; revert n0_ n1_ n2_ n3_; intro HO327 HO330 BK0 HB; (try clear hb); (try clear hb2); (try clear hk); (try clear hi); (try clear ho0); obtain ⟨Ao7, co7, eo7⟩ := Kd.R_slice HO330.out; subst eo7))
 (try simp only [aP])
 go_loopg [5, 13] k (fun kq v5 v13 w' => ∃ (x5_1 : List Int) (x13_1 : Int), v13 = .int .i64 x13_1 ∧ Aside0 (impl_Hyper_singles.l0 kq x5_1 t328 (t328.length : Int) x13_1 = some r) ∧ Aside0 (kq ≤ k) ∧ Aside0 (Kd.R (Kd.int .i64) 3 w' w.heap.size (fun k_ => some k_ ≠ ((.slice Ao7 t328.length co7) : Value).ownBlock) v5 x5_1) ∧ Aside0 (Kd.R (Kd.int .i64) 3 w' w.heap.size (fun k_ => some k_ ≠ (v5 : Value).ownBlock) (.slice Ao7 t328.length co7) t328) ∧ Aside0 (w'.heap[g0]? = some (.cells #[.int .i64 a0_0, (.slice A0_1 l0_1.length c0_1)] 35 (0, 0))) ∧ Aside0 (Below w.heap.size w w'))
 case atStart => exact ⟨(y325), (0), wZ, H', ⟨Nat.le_refl _⟩, ⟨Rz (Kd.R_mono HO327.out (fun _ hk => hk.2))⟩, ⟨Rz (Kd.R_mono HO330.out (fun _ hk => hk.2))⟩, ⟨Kz BK0.out⟩, ⟨Bq⟩⟩
 case round =>
  clear H'
  try clear c1
  try clear p2
  obtain ⟨x5_1, x13_1, rfl, HA, HK1, HO_5, HO_11, BK0, HB⟩ := hrel; cases gk with
  | zero => exact absurd HA.out (by simp [impl_Hyper_singles.l0])
  | succ k1 =>
   have H := HA.out; clear HA
   simp only [impl_Hyper_singles.l0] at H
   by_cases c8 : x13_1 < (t328.length : Int)
   ·rw [if_pos c8] at H
    have c8b0 : decide (x13_1 < (t328.length : Int)) = true := decide_eq_true c8; clear c8
    by_cases c9 : 0 ≤ x13_1
    ·rw [if_pos c9] at H
     have c9b0 : decide (0 ≤ x13_1) = true := decide_eq_true c9; clear c9
     by_cases c10 : x13_1 < (t328.length : Int)
     ·rw [if_pos c10] at H
      have c10b0 : decide (x13_1 < (t328.length : Int)) = true := decide_eq_true c10; clear c10
      by_cases c11 : (rd t328 x13_1) = 1
      ·rw [if_pos c11] at H
       have c11b0 : ((rd t328 x13_1) == 1) = true := beq_iff_eq.mpr c11; have c11b1 : ((rd t328 x13_1) != 1) = false := bne_eq_false_iff_eq.mpr c11; clear c11
       by_cases c12 : x5_1.length < 17592186044416
       ·rw [if_pos c12] at H
        have LMc12 := am c12; clear c12; obtain ⟨y332, hy332⟩ : ∃ y_ : List Int, y_ = (x5_1 ++ [x13_1]) := ⟨_, rfl⟩
        replace H : (impl_Hyper_singles.l0 k1 y332 t328 (t328.length : Int) (wrap64 (x13_1 + 1))) = some r := by first | (rw [hy332]; with_reducible exact H) | (have H2_ := (Option.bind_some _ _).symm.trans H; rw [hy332]; with_reducible exact H2_) | (have H2_ := (Option.bind_some _ _).symm.trans H; with_reducible exact H2_) | with_reducible exact H | (rw [hy332]; exact H) | exact H
        have Ny332 := am hy332; clear hy332; have H' := am H; clear H; obtain ⟨ad331, e331, hx331_0⟩ := Kd.at_int (Kd.R_reads' HO_11.out).2.2 x13_1 dT dT; cases e331; have p331 := eT (0 ≤ (x13_1 : Int)); have q331 := eT (x13_1 < (t328.length : Int))
        go_wp2_with (first | ((with_reducible refine gate_builtin (b := .append) (xs := #[.tmp 20, .tmp 22]) rfl ?_); at_builtin; refine Kd.R_append (Kd.int .i64) (w0 := w) w.heap.size rfl (.tmp 20) (.tmp 22) 27 3 (.int .i64 0) 8 rfl Tryz.underlying27 info3 rfl (by decide) (by omega) u5 x5_1 x13_1 [.int .i64 x13_1] (fun k_ => some k_ ≠ (.slice (some ad331) t328.length co7 : Value).ownBlock) (fun _ => False) rfl rfl ?aP (fun _ hk => hk.elim) ?aF ?aO ?aB ?aS ?aL ?_; (case aP => exact rfl); (case aB => exact (Bq)); (case aF => exact (fun k_ hk => Kd.fresh' (Kd.R_lt (Rz HO_11.out)) k_ hk)); (case aO => exact (Rz HO_5.out)); (case aS => exact (below_size (w := w) (Bq))); (case aL => have := LMc12.out; omega); intro v333 w13 ho hb hg hat; rw [← Ny332.out] at ho; have n0_ := am (Kd.R_after (ok := (fun _ => True)) (Rz (Kd.R_mono HO_11.out (fun _ hk => ⟨trivial, hk⟩))) hg hat); have n1_ := am (blk_grown (g := g0) (o := .cells #[.int .i64 a0_0, .slice A0_1 l0_1.length c0_1] 35 (0, 0)) (Kz BK0.out) hg (Kd.R_ne HO_5.out BK0.out (by decide))); have n2_ := am (hb); have n3_ := am (ho); clear HO_11 BK0 HB HO_5; revert n0_ n1_ n2_ n3_; intro HO_11 BK0 HB HO334; clear ho hb hg hat))
        go_roundg k1
        case measure => have := HK1.out; omega
        case rel => exact ⟨(y332), (wrap64 (x13_1 + 1)), wZ, H', ⟨by have := HK1.out; omega⟩, ⟨Rz HO334.out⟩, ⟨Rz (Kd.R_mono HO_11.out (fun _ hk => hk.2))⟩, ⟨Kz BK0.out⟩, ⟨Bq⟩⟩
       ·rw [if_neg c12] at H
        exact absurd H (by simp)
      ·rw [if_neg c11] at H
       have c11b0 : ((rd t328 x13_1) == 1) = false := beq_eq_false_iff_ne.mpr c11; have c11b1 : ((rd t328 x13_1) != 1) = true := bne_iff_ne.mpr c11; have H' := am H; clear H; obtain ⟨ad331, e331, hx331_0⟩ := Kd.at_int (Kd.R_reads' HO_11.out).2.2 x13_1 dT dT; cases e331; have p331 := eT (0 ≤ (x13_1 : Int)); have q331 := eT (x13_1 < (t328.length : Int))
       go_wp2
       go_roundg k1
       case measure => have := HK1.out; omega
       case rel => exact ⟨(x5_1), (wrap64 (x13_1 + 1)), wZ, H', ⟨by have := HK1.out; omega⟩, ⟨Rz HO_5.out⟩, ⟨Rz HO_11.out⟩, ⟨Kz BK0.out⟩, ⟨Bq⟩⟩
     ·rw [if_neg c10] at H
      exact absurd H (by simp)
    ·rw [if_neg c9] at H
     exact absurd H (by simp)
   ·rw [if_neg c8] at H
    have c8b0 : decide (x13_1 < (t328.length : Int)) = false := decide_eq_false c8; clear c8; obtain rfl := Option.some.inj H
    go_wp2
    go_ret
    exact ⟨_, eZ, Rz (Kd.R_mono HO_5.out (fun _ hk => trivial)), Bq⟩

def impl_left.l0 : Nat → List Int → List Bool → Int → Int → Option (List Int)
 | 0, _, _, _, _ => none
 | k + 1, x3, x7, x8, x9 => if x9 < x8 then (if 0 ≤ x9 then (if x9 < (x7.length : Int) then (if rdOf false x7 x9 = true then (impl_left.l0 k x3 x7 x8 (wrap64 (x9 + 1))) else (if x3.length < 17592186044416 then (impl_left.l0 k (x3 ++ [x9]) x7 x8 (wrap64 (x9 + 1))) else (none))) else (none)) else (none)) else (some x3)
def impl_left.f (k : Nat) (l0 : List Bool) : Option (List Int) := impl_left.l0 k (([] : List Int)) l0 (l0.length : Int) 0
theorem impl_left.calls (k : Nat) (A0 : Option Addr) (c0 : Nat) (l0 : List Bool) (r : List Int) (w : World) (hr0 : Kd.C Kd.bool w A0 l0.length l0) (hc0 : l0.length ≤ c0) (h : impl_left.f k l0 = some r) :
  Calls Tryz.prog 95 #[.slice A0 l0.length c0] w fun e w' => ∃ v0_ : Value, e = .returned (v0_) ∧ Kd.R (Kd.int .i64) 3 w' w.heap.size (fun _ => True) v0_ r ∧ Below w.heap.size w w' := by
 have HR0 := am hr0; have HC0 := am hc0; clear hr0 hc0; have HB := am (Below.refl w.heap.size w); have H : (impl_left.l0 k (([] : List Int)) l0 (l0.length : Int) 0) = some r := h; clear h; obtain ⟨y335, hy335⟩ : ∃ y_ : List Int, y_ = (([] : List Int)) := ⟨_, rfl⟩
 replace H : (impl_left.l0 k y335 l0 (l0.length : Int) 0) = some r := by first | (rw [hy335]; with_reducible exact H) | (have H2_ := (Option.bind_some _ _).symm.trans H; rw [hy335]; with_reducible exact H2_) | (have H2_ := (Option.bind_some _ _).symm.trans H; with_reducible exact H2_) | with_reducible exact H | (rw [hy335]; exact H) | exact H
 have Ny335 := am hy335; clear hy335; have H' := am H; clear H
 go_enter Tryz.func95, Tryz.ntmps95
 go_wp2_with (first | ((with_reducible refine gate_dst (N := 6) rfl ?_); refine Kd.R_lit (Kd.int .i64) _ 3 ?hg (N := 6) ?hd (xs := ([] : List Int)) (inner := []) (ok := fun _ => True) (okp := fun _ => True) ?hr ?hp (fun _ hk => hk) trivial (Below.refl _ _) (Nat.le_refl _) (by simp) ?_; (case hd => rfl); (case hg => rfl); (case hr => first | (go_simp; done) | (go_simp; rfl)); (case hp => exact (Reps.none _ _)); intro v336 w2 ho3 hb hg_ hnew_; clear hg_ hnew_; (first | rw [← Ny335.out] at ho3 | (simp only [Int.reduceToNat] at ho3; rw [← Ny335.out] at ho3)); have n0_ := Rl ho3 HB; have n1_ := Bb HB hb; clear HB; revert n0_ n1_; intro HO337 HB; clear hb ho3))
 (try simp only [aP])
 go_loopg [3, 9] k (fun kq v3 v9 w' => ∃ (x3_1 : List Int) (x9_1 : Int), v9 = .int .i64 x9_1 ∧ Aside0 (impl_left.l0 kq x3_1 l0 (l0.length : Int) x9_1 = some r) ∧ Aside0 (kq ≤ k) ∧ Aside0 (Kd.R (Kd.int .i64) 3 w' w.heap.size (fun _ => True) v3 x3_1) ∧ Aside0 (Below w.heap.size w w'))
 case atStart => exact ⟨(y335), (0), wZ, H', ⟨Nat.le_refl _⟩, ⟨Rz HO337.out⟩, ⟨Bz HB.out⟩⟩
 case round =>
  clear H'
  try clear p2
  obtain ⟨x3_1, x9_1, rfl, HA, HK1, HO_3, HB⟩ := hrel; cases gk with
  | zero => exact absurd HA.out (by simp [impl_left.l0])
  | succ k1 =>
   have H := HA.out; clear HA
   simp only [impl_left.l0] at H
   by_cases c4 : x9_1 < (l0.length : Int)
   ·rw [if_pos c4] at H
    have c4b0 : decide (x9_1 < (l0.length : Int)) = true := decide_eq_true c4; clear c4
    by_cases c5 : 0 ≤ x9_1
    ·rw [if_pos c5] at H
     have c5b0 : decide (0 ≤ x9_1) = true := decide_eq_true c5; clear c5
     by_cases c6 : x9_1 < (l0.length : Int)
     ·rw [if_pos c6] at H
      have c6b0 : decide (x9_1 < (l0.length : Int)) = true := decide_eq_true c6; clear c6; obtain ⟨bq7, hbq7⟩ : ∃ b_ : Bool, b_ = (rdOf false l0 x9_1) := ⟨_, rfl⟩
      replace H : (if bq7 = true then (impl_left.l0 k1 x3_1 l0 (l0.length : Int) (wrap64 (x9_1 + 1))) else (if x3_1.length < 17592186044416 then (impl_left.l0 k1 (x3_1 ++ [x9_1]) l0 (l0.length : Int) (wrap64 (x9_1 + 1))) else (none))) = some r := by rw [← hbq7] at H; exact H
      have Nbq7 := am hbq7; clear hbq7
      by_cases c8 : bq7 = true
      ·subst c8
       rw [if_pos rfl] at H; have H' := am H; clear H; have p338 : 0 ≤ (x9_1 : Int) := dT; have q338 : x9_1 < (l0.length : Int) := dT; obtain ⟨ad338, e338, hx338_0⟩ := Kd.at_bool HR0.out x9_1 p338 q338
       (try rw [← Nbq7.out] at hx338_0)
       cases e338; replace hx338_0 := (HB.out.cell (World.block_lt_of_cell? w _ hx338_0)).trans hx338_0; replace p338 := eq_true p338; replace q338 := eq_true q338
       go_wp2
       go_roundg k1
       case measure => have := HK1.out; omega
       case rel => exact ⟨(x3_1), (wrap64 (x9_1 + 1)), wZ, H', ⟨by have := HK1.out; omega⟩, ⟨Rz HO_3.out⟩, ⟨Bz HB.out⟩⟩
      ·replace c8 := Bool.eq_false_iff.mpr c8
       subst c8
       rw [if_neg (show ¬ (false = true) by decide)] at H
       by_cases c9 : x3_1.length < 17592186044416
       ·rw [if_pos c9] at H
        have LMc9 := am c9; clear c9; obtain ⟨y339, hy339⟩ : ∃ y_ : List Int, y_ = (x3_1 ++ [x9_1]) := ⟨_, rfl⟩
        replace H : (impl_left.l0 k1 y339 l0 (l0.length : Int) (wrap64 (x9_1 + 1))) = some r := by first | (rw [hy339]; with_reducible exact H) | (have H2_ := (Option.bind_some _ _).symm.trans H; rw [hy339]; with_reducible exact H2_) | (have H2_ := (Option.bind_some _ _).symm.trans H; with_reducible exact H2_) | with_reducible exact H | (rw [hy339]; exact H) | exact H
        have Ny339 := am hy339; clear hy339; have H' := am H; clear H; have p338 : 0 ≤ (x9_1 : Int) := dT; have q338 : x9_1 < (l0.length : Int) := dT; obtain ⟨ad338, e338, hx338_0⟩ := Kd.at_bool HR0.out x9_1 p338 q338
        (try rw [← Nbq7.out] at hx338_0)
        cases e338; replace hx338_0 := (HB.out.cell (World.block_lt_of_cell? w _ hx338_0)).trans hx338_0; replace p338 := eq_true p338; replace q338 := eq_true q338
        go_wp2_with (first | ((with_reducible refine gate_builtin (b := .append) (xs := #[.tmp 16, .tmp 18]) rfl ?_); at_builtin; refine Kd.R_append (Kd.int .i64) (w0 := w) w.heap.size rfl (.tmp 16) (.tmp 18) 27 3 (.int .i64 0) 8 rfl Tryz.underlying27 info3 rfl (by decide) (by omega) u3 x3_1 x9_1 [.int .i64 x9_1] (fun _ => True) (fun _ => False) rfl rfl ?aP (fun _ hk => hk.elim) ?aF ?aO ?aB ?aS ?aL ?_; (case aP => exact rfl); (case aB => exact (Bz HB.out)); (case aF => exact (fun _ _ => trivial)); (case aO => exact (Rz HO_3.out)); (case aS => exact (below_size (Bz HB.out))); (case aL => have := LMc9.out; omega); intro v340 w10 ho hb hg hat; rw [← Ny339.out] at ho; have n0_ := am (hb); have n1_ := am (ho); clear HB HO_3; revert n0_ n1_; intro HB HO341; clear ho hb hg hat))
        go_roundg k1
        case measure => have := HK1.out; omega
        case rel => exact ⟨(y339), (wrap64 (x9_1 + 1)), wZ, H', ⟨by have := HK1.out; omega⟩, ⟨Rz HO341.out⟩, ⟨Bz HB.out⟩⟩
       ·rw [if_neg c9] at H
        exact absurd H (by simp)
     ·rw [if_neg c6] at H
      exact absurd H (by simp)
    ·rw [if_neg c5] at H
     exact absurd H (by simp)
   ·rw [if_neg c4] at H
    have c4b0 : decide (x9_1 < (l0.length : Int)) = false := decide_eq_false c4; clear c4; obtain rfl := Option.some.inj H
    go_wp2
    go_ret
    exact ⟨_, eZ, Rz HO_3.out, Bz HB.out⟩

def slices_Index_int_int.l0 : Nat → List Int → Int → Int → Int → Option (Int)
 | 0, _, _, _, _ => none
 | k + 1, x0, x1, x7, x8 => if x8 < x7 then (if 0 ≤ x8 then (if x8 < (x0.length : Int) then (if x1 = (rd x0 x8) then (some x8) else (slices_Index_int_int.l0 k x0 x1 x7 (wrap64 (x8 + 1)))) else (none)) else (none)) else (some (-1))
def slices_Index_int_int.f (k : Nat) (l0 : List Int) (a1 : Int) : Option (Int) := slices_Index_int_int.l0 k l0 a1 (l0.length : Int) 0
theorem slices_Index_int_int.calls (k : Nat) (A0 : Option Addr) (c0 : Nat) (l0 : List Int) (a1 : Int) (r : Int) (w : World) (hr0 : Kd.C (Kd.int .i64) w A0 l0.length l0) (hc0 : l0.length ≤ c0) (h : slices_Index_int_int.f k l0 a1 = some r) :
  Calls Tryz.prog 29 #[.slice A0 l0.length c0, .int .i64 a1] w fun e w' => e = .returned (.int .i64 r) ∧ Drawn0 w w' := by
 have HR0 := am hr0; have HC0 := am hc0; clear hr0 hc0; have H : (slices_Index_int_int.l0 k l0 a1 (l0.length : Int) 0) = some r := h; clear h; have H' := am H; clear H
 go_enter Tryz.func29, Tryz.ntmps29
 go_wp2
 go_loopg [8] k (fun kq v8 w' => ∃ (x8_1 : Int), v8 = .int .i64 x8_1 ∧ Aside0 (slices_Index_int_int.l0 kq l0 a1 (l0.length : Int) x8_1 = some r) ∧ Aside0 (kq ≤ k) ∧ Drawn0 w w')
 case atStart => exact ⟨(0), wZ, H', ⟨Nat.le_refl _⟩, by repeat (first | exact Drawn0.refl _ | apply Drawn0.step)⟩
 case round =>
  clear H'
  try clear c2
  try clear p2
  obtain ⟨x8_1, rfl, HA, HK1, ⟨m1, rfl⟩⟩ := hrel; cases gk with
  | zero => exact absurd HA.out (by simp [slices_Index_int_int.l0])
  | succ k1 =>
   have H := HA.out; clear HA
   simp only [slices_Index_int_int.l0] at H
   by_cases c3 : x8_1 < (l0.length : Int)
   ·rw [if_pos c3] at H
    have c3b0 : decide (x8_1 < (l0.length : Int)) = true := decide_eq_true c3; clear c3
    by_cases c4 : 0 ≤ x8_1
    ·rw [if_pos c4] at H
     have c4b0 : decide (0 ≤ x8_1) = true := decide_eq_true c4; clear c4
     by_cases c5 : x8_1 < (l0.length : Int)
     ·rw [if_pos c5] at H
      have c5b0 : decide (x8_1 < (l0.length : Int)) = true := decide_eq_true c5; clear c5
      by_cases c6 : a1 = (rd l0 x8_1)
      ·rw [if_pos c6] at H
       have c6b0 : (a1 == (rd l0 x8_1)) = true := beq_iff_eq.mpr c6; have c6b1 : (a1 != (rd l0 x8_1)) = false := bne_eq_false_iff_eq.mpr c6; clear c6; obtain rfl := Option.some.inj H; obtain ⟨ad342, e342, hx342_0⟩ := Kd.at_int HR0.out x8_1 dT dT; cases e342; have p342 := eT (0 ≤ (x8_1 : Int)); have q342 := eT (x8_1 < (l0.length : Int))
       go_wp2
       go_ret
       exact ⟨by first | rfl | (simp; done) | (simp [*]; done), by repeat (first | exact Drawn0.refl _ | apply Drawn0.step)⟩
      ·rw [if_neg c6] at H
       have c6b0 : (a1 == (rd l0 x8_1)) = false := beq_eq_false_iff_ne.mpr c6; have c6b1 : (a1 != (rd l0 x8_1)) = true := bne_iff_ne.mpr c6; have H' := am H; clear H; obtain ⟨ad342, e342, hx342_0⟩ := Kd.at_int HR0.out x8_1 dT dT; cases e342; have p342 := eT (0 ≤ (x8_1 : Int)); have q342 := eT (x8_1 < (l0.length : Int))
       go_wp2
       go_roundg k1
       case measure => have := HK1.out; omega
       case rel => exact ⟨(wrap64 (x8_1 + 1)), wZ, H', ⟨by have := HK1.out; omega⟩, by repeat (first | exact Drawn0.refl _ | apply Drawn0.step)⟩
     ·rw [if_neg c5] at H
      exact absurd H (by simp)
    ·rw [if_neg c4] at H
     exact absurd H (by simp)
   ·rw [if_neg c3] at H
    have c3b0 : decide (x8_1 < (l0.length : Int)) = false := decide_eq_false c3; clear c3; obtain rfl := Option.some.inj H
    go_wp2
    go_ret
    exact ⟨by first | rfl | (simp; done) | (simp [*]; done), by repeat (first | exact Drawn0.refl _ | apply Drawn0.step)⟩

def slices_Contains_int_int.f (k : Nat) (l0 : List Int) (a1 : Int) : Option (Bool) := (slices_Index_int_int.f k l0 a1).bind fun t343 => (some (decide (t343 ≥ 0)))
theorem slices_Contains_int_int.calls (k : Nat) (A0 : Option Addr) (c0 : Nat) (l0 : List Int) (a1 : Int) (r : Bool) (w : World) (hr0 : Kd.C (Kd.int .i64) w A0 l0.length l0) (hc0 : l0.length ≤ c0) (h : slices_Contains_int_int.f k l0 a1 = some r) :
  Calls Tryz.prog 108 #[.slice A0 l0.length c0, .int .i64 a1] w fun e w' => e = .returned (.bool r) ∧ Drawn0 w w' := by
 have HR0 := am hr0; have HC0 := am hc0; clear hr0 hc0; have H : ((slices_Index_int_int.f k l0 a1).bind fun t343 => (some (decide (t343 ≥ 0)))) = some r := h; clear h; replace H := Option.bind_eq_some_iff.mp H; obtain ⟨t343, A30, H⟩ := H; (try dsimp -simprocs only at H); have A3 := am A30; clear A30; obtain rfl := Option.some.inj H
 go_enter Tryz.func108, Tryz.ntmps108
 go_wp2_with (first | ((with_reducible refine gate_callee (f := 29) rfl ?_); refine gL (some 7) Tryz.func29 #[.slice A0 l0.length c0, .int .i64 a1] ?_; (with_reducible refine (slices_Index_int_int.calls k _ _ l0 a1 t343 _ ?side1 ?side2 A3.out).mono ?_); (case side1 => exact Cz HR0.out); (case side2 => exact HC0.out); rintro e w' ⟨rfl, ⟨nd, rfl⟩⟩; refine ⟨_, rfl, ?_⟩))
 go_ret
 exact ⟨by first | rfl | (simp; done) | (simp [*]; done), by repeat (first | exact Drawn0.refl _ | apply Drawn0.step)⟩

def impl_Hyper_edgeAt.l0 : Nat → List Bool → Int → Int → Int → List (List Int) → Option (Int)
 | 0, _, _, _, _, _ => none
 | k + 1, x1, x2, x7, x1000, x1001 => if 0 ≤ x7 then (if x7 < (x1.length : Int) then (if rdOf false x1 x7 = true then (impl_Hyper_edgeAt.l0 k x1 x2 (wrap64 (x7 + 1)) x1000 x1001) else (if x7 < (x1001.length : Int) then ((slices_Contains_int_int.f k (rd_L3 x1001 x7) x2).bind fun t346 => (if t346 = true then (some x7) else (impl_Hyper_edgeAt.l0 k x1 x2 (wrap64 (x7 + 1)) x1000 x1001))) else (none))) else (none)) else (none)
def impl_Hyper_edgeAt.f (k : Nat) (a0_0 : Int) (l0_1 : List (List Int)) (l1 : List Bool) (a2 : Int) : Option (Int) := impl_Hyper_edgeAt.l0 k l1 a2 0 a0_0 l0_1
theorem impl_Hyper_edgeAt.calls (k : Nat) (g0 : Nat) (a0_0 : Int) (A0_1 : Option Addr) (c0_1 : Nat) (l0_1 : List (List Int)) (A1 : Option Addr) (c1 : Nat) (l1 : List Bool) (a2 : Int) (r : Int) (w : World) (hb0 : w.heap[g0]? = some (.cells #[.int .i64 a0_0, .slice A0_1 l0_1.length c0_1] 35 (0, 0))) (hr0_1 : Kd.C (Kd.slice 3 (Kd.int .i64)) w A0_1 l0_1.length l0_1) (hc0_1 : l0_1.length ≤ c0_1) (hr1 : Kd.C Kd.bool w A1 l1.length l1) (hc1 : l1.length ≤ c1) (h : impl_Hyper_edgeAt.f k a0_0 l0_1 l1 a2 = some r) :
  Calls Tryz.prog 96 #[.pointer (some ⟨g0, 0, none⟩), .slice A1 l1.length c1, .int .i64 a2] w fun e w' => e = .returned (.int .i64 r) ∧ Drawn0 w w' := by
 have HR0_1 := am hr0_1; have HC0_1 := am hc0_1; clear hr0_1 hc0_1; have HR1 := am hr1; have HC1 := am hc1; clear hr1 hc1; have BK0 := am hb0; clear hb0; have H : (impl_Hyper_edgeAt.l0 k l1 a2 0 a0_0 l0_1) = some r := h; clear h; have H' := am H; clear H
 go_enter Tryz.func96, Tryz.ntmps96
 go_wp2
 go_loopg [7] k (fun kq v7 w' => ∃ (x7_1 : Int), v7 = .int .i64 x7_1 ∧ Aside0 (impl_Hyper_edgeAt.l0 kq l1 a2 x7_1 a0_0 l0_1 = some r) ∧ Aside0 (kq ≤ k) ∧ Aside0 (w'.heap[g0]? = some (.cells #[.int .i64 a0_0, (.slice A0_1 l0_1.length c0_1)] 35 (0, 0))) ∧ Drawn0 w w')
 case atStart => exact ⟨(0), wZ, H', ⟨Nat.le_refl _⟩, ⟨Kz BK0.out⟩, by repeat (first | exact Drawn0.refl _ | apply Drawn0.step)⟩
 case round =>
  clear H'
  try clear c1
  try clear p2
  obtain ⟨x7_1, rfl, HA, HK1, BK0, ⟨m1, rfl⟩⟩ := hrel; cases gk with
  | zero => exact absurd HA.out (by simp [impl_Hyper_edgeAt.l0])
  | succ k1 =>
   have H := HA.out; clear HA
   simp only [impl_Hyper_edgeAt.l0] at H
   by_cases c4 : 0 ≤ x7_1
   ·rw [if_pos c4] at H
    have c4b0 : decide (0 ≤ x7_1) = true := decide_eq_true c4; clear c4
    by_cases c5 : x7_1 < (l1.length : Int)
    ·rw [if_pos c5] at H
     have c5b0 : decide (x7_1 < (l1.length : Int)) = true := decide_eq_true c5; clear c5; obtain ⟨bq6, hbq6⟩ : ∃ b_ : Bool, b_ = (rdOf false l1 x7_1) := ⟨_, rfl⟩
     replace H : (if bq6 = true then (impl_Hyper_edgeAt.l0 k1 l1 a2 (wrap64 (x7_1 + 1)) a0_0 l0_1) else (if x7_1 < (l0_1.length : Int) then ((slices_Contains_int_int.f k1 (rd_L3 l0_1 x7_1) a2).bind fun t346 => (if t346 = true then (some x7_1) else (impl_Hyper_edgeAt.l0 k1 l1 a2 (wrap64 (x7_1 + 1)) a0_0 l0_1))) else (none))) = some r := by rw [← hbq6] at H; exact H
     have Nbq6 := am hbq6; clear hbq6
     by_cases c7 : bq6 = true
     ·subst c7
      rw [if_pos rfl] at H; have H' := am H; clear H; have p344 : 0 ≤ (x7_1 : Int) := dT; have q344 : x7_1 < (l1.length : Int) := dT; obtain ⟨ad344, e344, hx344_0⟩ := Kd.at_bool HR1.out x7_1 p344 q344
      (try rw [← Nbq6.out] at hx344_0)
      cases e344; replace p344 := eq_true p344; replace q344 := eq_true q344
      go_wp2
      go_roundg k1
      case measure => have := HK1.out; omega
      case rel => exact ⟨(wrap64 (x7_1 + 1)), wZ, H', ⟨by have := HK1.out; omega⟩, ⟨Kz BK0.out⟩, by repeat (first | exact Drawn0.refl _ | apply Drawn0.step)⟩
     ·replace c7 := Bool.eq_false_iff.mpr c7
      subst c7
      rw [if_neg (show ¬ (false = true) by decide)] at H
      by_cases c8 : x7_1 < (l0_1.length : Int)
      ·rw [if_pos c8] at H
       have c8b0 : decide (x7_1 < (l0_1.length : Int)) = true := decide_eq_true c8; clear c8; replace H := Option.bind_eq_some_iff.mp H; obtain ⟨t346, A90, H⟩ := H; (try dsimp -simprocs only at H); have A9 := am A90; clear A90
       by_cases c10 : t346 = true
       ·subst c10
        rw [if_pos rfl] at H; obtain rfl := Option.some.inj H; have p344 : 0 ≤ (x7_1 : Int) := dT; have q344 : x7_1 < (l1.length : Int) := dT; obtain ⟨ad344, e344, hx344_0⟩ := Kd.at_bool HR1.out x7_1 p344 q344
        (try rw [← Nbq6.out] at hx344_0)
        cases e344; replace p344 := eq_true p344; replace q344 := eq_true q344; have hcz11_0 : (_ : World).cell? ⟨g0, 0, none⟩ = some (.int .i64 a0_0) := cz BK0 0; have hcz11_1 : (_ : World).cell? ⟨g0, 1, none⟩ = some (.slice A0_1 l0_1.length c0_1) := cz BK0 1; have hfz11_0 := blk_frozen BK0.out 0; have hfz11_1 := blk_frozen BK0.out 1; have p345 : 0 ≤ (x7_1 : Int) := dT; have q345 : x7_1 < (l0_1.length : Int) := dT; obtain ⟨ad345, A345_0, c345_0, e345, hx345_0, hl345_0, hi345_0⟩ := at_L3 HR0_1.out x7_1 p345 q345; cases e345; have HR345_0 := am hi345_0; have HC345_0 := am hl345_0; clear hi345_0 hl345_0; replace p345 := eq_true p345; replace q345 := eq_true q345
        go_wp2_with (first | (go_at_call 108; (with_reducible refine (slices_Contains_int_int.calls k1 _ _ (rd_L3 l0_1 x7_1) a2 true _ ?side1 ?side2 A9.out).mono ?_); (case side1 => exact Cz HR345_0.out); (case side2 => exact HC345_0.out); rintro e w' ⟨rfl, ⟨nd, rfl⟩⟩))
        go_ret
        exact ⟨by first | rfl | (simp; done) | (simp [*]; done), by repeat (first | exact Drawn0.refl _ | apply Drawn0.step)⟩
       ·replace c10 := Bool.eq_false_iff.mpr c10
        subst c10
        rw [if_neg (show ¬ (false = true) by decide)] at H; have H' := am H; clear H; have p344 : 0 ≤ (x7_1 : Int) := dT; have q344 : x7_1 < (l1.length : Int) := dT; obtain ⟨ad344, e344, hx344_0⟩ := Kd.at_bool HR1.out x7_1 p344 q344
        (try rw [← Nbq6.out] at hx344_0)
        cases e344; replace p344 := eq_true p344; replace q344 := eq_true q344; have hcz12_0 : (_ : World).cell? ⟨g0, 0, none⟩ = some (.int .i64 a0_0) := cz BK0 0; have hcz12_1 : (_ : World).cell? ⟨g0, 1, none⟩ = some (.slice A0_1 l0_1.length c0_1) := cz BK0 1; have hfz12_0 := blk_frozen BK0.out 0; have hfz12_1 := blk_frozen BK0.out 1; have p345 : 0 ≤ (x7_1 : Int) := dT; have q345 : x7_1 < (l0_1.length : Int) := dT; obtain ⟨ad345, A345_0, c345_0, e345, hx345_0, hl345_0, hi345_0⟩ := at_L3 HR0_1.out x7_1 p345 q345; cases e345; have HR345_0 := am hi345_0; have HC345_0 := am hl345_0; clear hi345_0 hl345_0; replace p345 := eq_true p345; replace q345 := eq_true q345
        go_wp2_with (first | (go_at_call 108; (with_reducible refine (slices_Contains_int_int.calls k1 _ _ (rd_L3 l0_1 x7_1) a2 false _ ?side1 ?side2 A9.out).mono ?_); (case side1 => exact Cz HR345_0.out); (case side2 => exact HC345_0.out); rintro e w' ⟨rfl, ⟨nd, rfl⟩⟩))
        go_roundg k1
        case measure => have := HK1.out; omega
        case rel => exact ⟨(wrap64 (x7_1 + 1)), wZ, H', ⟨by have := HK1.out; omega⟩, ⟨Kz BK0.out⟩, by repeat (first | exact Drawn0.refl _ | apply Drawn0.step)⟩
      ·rw [if_neg c8] at H
       exact absurd H (by simp)
    ·rw [if_neg c5] at H
     exact absurd H (by simp)
   ·rw [if_neg c4] at H
    exact absurd H (by simp)

def impl_Hyper_peel.l0 : Nat → List (S71) → List Bool → Int → List (List Int) → Option ((List (S71)) × List Int)
 | 0, _, _, _, _ => none
 | k + 1, x4, x5, x1000, x1001 => (impl_Hyper_singles.f k x1000 x1001 x5).bind fun t353 => (if (t353.length : Int) = 0 then ((impl_left.f k x5).bind fun t356 => (some (x4, t356))) else (if 0 < (t353.length : Int) then ((impl_Hyper_edgeAt.f k x1000 x1001 x5 (rd t353 0)).bind fun t360 => (if 0 ≤ t360 then (if t360 < (x5.length : Int) then (if x4.length < 8796093022208 then (impl_Hyper_peel.l0 k (x4 ++ [(⟨t360, rd t353 0⟩ : S71)]) (x5.set (t360 : Int).toNat true) x1000 x1001) else (none)) else (none)) else (none))) else (none)))
def impl_Hyper_peel.f (k : Nat) (a0_0 : Int) (l0_1 : List (List Int)) : Option ((List (S71)) × List Int) := (impl_Hyper_none.f a0_0 l0_1).bind fun t350 => (impl_Hyper_peel.l0 k (([] : List (S71))) t350 a0_0 l0_1)
theorem impl_Hyper_peel.calls (k : Nat) (g0 : Nat) (a0_0 : Int) (A0_1 : Option Addr) (c0_1 : Nat) (l0_1 : List (List Int)) (r1 : List (S71)) (r2 : List Int) (w : World) (hb0 : w.heap[g0]? = some (.cells #[.int .i64 a0_0, .slice A0_1 l0_1.length c0_1] 35 (0, 0))) (hr0_1 : Kd.C (Kd.slice 3 (Kd.int .i64)) w A0_1 l0_1.length l0_1) (hc0_1 : l0_1.length ≤ c0_1) (h : impl_Hyper_peel.f k a0_0 l0_1 = some (r1, r2)) :
  Calls Tryz.prog 64 #[.pointer (some ⟨g0, 0, none⟩)] w fun e w' => ∃ v0_ v1_ : Value, e = .returned (.tuple #[v0_, v1_]) ∧ Kd.R k71 71 w' w.heap.size (fun _ => True) v0_ r1 ∧ Kd.R (Kd.int .i64) 3 w' w.heap.size (fun _ => True) v1_ r2 ∧ Below w.heap.size w w' := by
 have hu71 := Tryz.underlying71; have HR0_1 := am hr0_1; have HC0_1 := am hc0_1; clear hr0_1 hc0_1; have BK0 := am hb0; clear hb0; have HB := am (Below.refl w.heap.size w); have H : ((impl_Hyper_none.f a0_0 l0_1).bind fun t350 => (impl_Hyper_peel.l0 k (([] : List (S71))) t350 a0_0 l0_1)) = some (r1, r2) := h; clear h; obtain ⟨y347, hy347⟩ : ∃ y_ : List (S71), y_ = (([] : List (S71))) := ⟨_, rfl⟩
 replace H : ((impl_Hyper_none.f a0_0 l0_1).bind fun t350 => (impl_Hyper_peel.l0 k y347 t350 a0_0 l0_1)) = some (r1, r2) := by first | (rw [hy347]; with_reducible exact H) | (have H2_ := (Option.bind_some _ _).symm.trans H; rw [hy347]; with_reducible exact H2_) | (have H2_ := (Option.bind_some _ _).symm.trans H; with_reducible exact H2_) | with_reducible exact H | (rw [hy347]; exact H) | exact H
 have Ny347 := am hy347; clear hy347; replace H := Option.bind_eq_some_iff.mp H; obtain ⟨t350, A20, H⟩ := H; (try dsimp -simprocs only at H); have A2 := am A20; clear A20; have H' := am H; clear H
 go_enter Tryz.func64, Tryz.ntmps64
 go_wp2_with (first | ((with_reducible refine gate_dst (N := 8) rfl ?_); refine Kd.R_lit k71 _ 71 ?hg (N := 8) ?hd (xs := ([] : List (S71))) (inner := []) (ok := fun _ => True) (okp := fun _ => True) ?hr ?hp (fun _ hk => hk) trivial (Below.refl _ _) (Nat.le_refl _) (by simp) ?_; (case hd => rfl); (case hg => rfl); (case hr => first | (go_simp; done) | (go_simp; rfl)); (case hp => exact (Reps.none _ _)); intro v348 w3 ho4 hb hg_ hnew_; clear hg_ hnew_; (first | rw [← Ny347.out] at ho4 | (simp only [Int.reduceToNat] at ho4; rw [← Ny347.out] at ho4)); have n0_ := Rm ho4 HB; have n1_ := Kb BK0 hb; have n2_ := Bc HB hb; clear BK0 HB; revert n0_ n1_ n2_; intro HO349 BK0 HB; clear hb ho4) | ((with_reducible refine gate_callee (f := 93) rfl ?_); refine gL (some 10) Tryz.func93 #[.pointer (some ⟨g0, 0, none⟩)] ?_; (with_reducible refine (impl_Hyper_none.calls g0 a0_0 A0_1 c0_1 l0_1 t350 _ ?side1 ?side2 ?side3 A2.out).mono ?_); (case side1 => exact Kz BK0.out); (case side2 => exact Cz (Kd.C_below HR0_1.out HB.out)); (case side3 => exact HC0_1.out); rintro e w5 ⟨v351, rfl, ho0, hb⟩; refine ⟨_, rfl, ?_⟩; have n0_ := Rb HO349 hb; have n1_ := Rm ho0 HB; have n2_ := Kb BK0 hb; have n3_ := Bc HB hb; clear HO349 BK0 HB; revert n0_ n1_ n2_ n3_; intro HO349 HO352 BK0 HB; (try clear hb); (try clear hb2); (try clear hk); (try clear hi); (try clear ho0)))
 (try simp only [aP])
 go_loopg [4] k (fun kq v4 w' => ∃ (x4_1 : List (S71)) (x5_1 : List Bool), Aside0 (impl_Hyper_peel.l0 kq x4_1 x5_1 a0_0 l0_1 = some (r1, r2)) ∧ Aside0 (kq ≤ k) ∧ Aside0 (Kd.R k71 71 w' w.heap.size (fun _ => True) v4 x4_1) ∧ Aside0 (Kd.R Kd.bool 4 w' w.heap.size (fun _ => True) v351 x5_1) ∧ Aside0 (w'.heap[g0]? = some (.cells #[.int .i64 a0_0, (.slice A0_1 l0_1.length c0_1)] 35 (0, 0))) ∧ Aside0 (Below w.heap.size w w'))
 case atStart => exact ⟨(y347), (t350), H', ⟨Nat.le_refl _⟩, ⟨Rz HO349.out⟩, ⟨Rz HO352.out⟩, ⟨Kz BK0.out⟩, ⟨Bq⟩⟩
 case round =>
  clear H'
  try clear p2
  obtain ⟨x4_1, x5_1, HA, HK1, HO_4, HO_5, BK0, HB⟩ := hrel; cases gk with
  | zero => exact absurd HA.out (by simp [impl_Hyper_peel.l0])
  | succ k1 =>
   have H := HA.out; clear HA
   simp only [impl_Hyper_peel.l0] at H
   replace H := Option.bind_eq_some_iff.mp H; obtain ⟨t353, A60, H⟩ := H; (try dsimp -simprocs only at H); have A6 := am A60; clear A60
   by_cases c7 : (t353.length : Int) = 0
   ·rw [if_pos c7] at H
    have c7b0 : ((t353.length : Int) == 0) = true := beq_iff_eq.mpr c7; have c7b1 : ((t353.length : Int) != 0) = false := bne_eq_false_iff_eq.mpr c7; clear c7; replace H := Option.bind_eq_some_iff.mp H; obtain ⟨t356, A80, H⟩ := H; (try dsimp -simprocs only at H); have A8 := am A80; clear A80
    simp only [Option.some.injEq, Prod.mk.injEq] at H
    obtain ⟨rfl, rfl⟩ := H; obtain ⟨Ao9, co9, eo9⟩ := Kd.R_slice HO_5.out; subst eo9
    go_wp2_with (first | ((with_reducible refine gate_callee (f := 94) rfl ?_); refine gL (some 13) Tryz.func94 #[.pointer (some ⟨g0, 0, none⟩), .slice Ao9 x5_1.length co9] ?_; (with_reducible refine (impl_Hyper_singles.calls k1 g0 a0_0 A0_1 c0_1 l0_1 _ _ x5_1 t353 _ ?side1 ?side2 ?side3 ?side4 ?side5 A6.out).mono ?_); (case side1 => exact Kz BK0.out); (case side2 => exact Cz (Kd.C_below HR0_1.out HB.out)); (case side3 => exact HC0_1.out); (case side4 => exact Cz ((Kd.R_reads' HO_5.out).2.2)); (case side5 => exact (Kd.R_reads' HO_5.out).2.1); rintro e w10 ⟨v354, rfl, ho0, hb⟩; refine ⟨_, rfl, ?_⟩; have n0_ := Rb HO_4 hb; have n1_ := Rb HO_5 hb; have n2_ := Rm ho0 HB; have n3_ := Kb BK0 hb; have n4_ := Bc HB hb; clear HO_4 HO_5 BK0 HB; revert n0_ n1_ n2_ n3_ n4_; intro HO_4 HO_5 HO355 BK0 HB; (try clear hb); (try clear hb2); (try clear hk); (try clear hi); (try clear ho0); obtain ⟨Ao11, co11, eo11⟩ := Kd.R_slice HO355.out; subst eo11) | ((with_reducible refine gate_callee (f := 95) rfl ?_); refine gL (some 19) Tryz.func95 #[.slice Ao9 x5_1.length co9] ?_; (with_reducible refine (impl_left.calls k1 _ _ x5_1 t356 _ ?side1 ?side2 A8.out).mono ?_); (case side1 => exact Cz ((Kd.R_reads' HO_5.out).2.2)); (case side2 => exact (Kd.R_reads' HO_5.out).2.1); rintro e w12 ⟨v357, rfl, ho0, hb⟩; refine ⟨_, rfl, ?_⟩; have n0_ := Rb HO_4 hb; have n1_ := Rb HO_5 hb; have n2_ := Re HO355 (Kd.R_base ho0) hb; have n3_ := Rm (Kd.R_new' ho0 (Kd.R_lt (Rz HO355.out))) HB; have n4_ := Kb BK0 hb; have n5_ := Bc HB hb; clear HO_4 HO_5 HO355 BK0 HB; revert n0_ n1_ n2_ n3_ n4_ n5_; intro HO_4 HO_5 HO355 HO358 BK0 HB; (try clear hb); (try clear hb2); (try clear hk); (try clear hi); (try clear ho0)))
    go_ret2
    exact ⟨_, _, eZ, Rz HO_4.out, Rz (Kd.R_mono HO358.out (fun _ hk => trivial)), Bq⟩
   ·rw [if_neg c7] at H
    have c7b0 : ((t353.length : Int) == 0) = false := beq_eq_false_iff_ne.mpr c7; have c7b1 : ((t353.length : Int) != 0) = true := bne_iff_ne.mpr c7
    have c7b2 : ¬ (t353 = []) := fun h_ => c7 (by rw [h_]; rfl)
    by_cases c13 : 0 < (t353.length : Int)
    ·rw [if_pos c13] at H
     have c13b0 : decide (0 < (t353.length : Int)) = true := decide_eq_true c13; have c13b1 : decide (0 < t353.length) = true := decide_eq_true (by omega); clear c13; replace H := Option.bind_eq_some_iff.mp H; obtain ⟨t360, A140, H⟩ := H; (try dsimp -simprocs only at H); have A14 := am A140; clear A140
     by_cases c15 : 0 ≤ t360
     ·rw [if_pos c15] at H
      have c15b0 : decide (0 ≤ t360) = true := decide_eq_true c15; clear c15
      by_cases c16 : t360 < (x5_1.length : Int)
      ·rw [if_pos c16] at H
       have c16b0 : decide (t360 < (x5_1.length : Int)) = true := decide_eq_true c16; clear c16; obtain ⟨y361, hy361⟩ : ∃ y_ : List Bool, y_ = (x5_1.set (t360 : Int).toNat true) := ⟨_, rfl⟩
       replace H : (if x4_1.length < 8796093022208 then (impl_Hyper_peel.l0 k1 (x4_1 ++ [(⟨t360, rd t353 0⟩ : S71)]) y361 a0_0 l0_1) else (none)) = some (r1, r2) := by first | (rw [hy361]; with_reducible exact H) | (have H2_ := (Option.bind_some _ _).symm.trans H; rw [hy361]; with_reducible exact H2_) | (have H2_ := (Option.bind_some _ _).symm.trans H; with_reducible exact H2_) | with_reducible exact H | (rw [hy361]; exact H) | exact H
       have Ny361 := am hy361; clear hy361
       by_cases c18 : x4_1.length < 8796093022208
       ·rw [if_pos c18] at H
        have LMc18 := am c18; clear c18; obtain ⟨y363, hy363⟩ : ∃ y_ : List (S71), y_ = (x4_1 ++ [(⟨t360, rd t353 0⟩ : S71)]) := ⟨_, rfl⟩
        replace H : (impl_Hyper_peel.l0 k1 y363 y361 a0_0 l0_1) = some (r1, r2) := by first | (rw [hy363]; with_reducible exact H) | (have H2_ := (Option.bind_some _ _).symm.trans H; rw [hy363]; with_reducible exact H2_) | (have H2_ := (Option.bind_some _ _).symm.trans H; with_reducible exact H2_) | with_reducible exact H | (rw [hy363]; exact H) | exact H
        have Ny363 := am hy363; clear hy363; have H' := am H; clear H; obtain ⟨Ao19, co19, eo19⟩ := Kd.R_slice HO_5.out; subst eo19
        go_wp2_with (first | ((with_reducible refine gate_callee (f := 94) rfl ?_); refine gL (some 13) Tryz.func94 #[.pointer (some ⟨g0, 0, none⟩), .slice Ao19 x5_1.length co19] ?_; (with_reducible refine (impl_Hyper_singles.calls k1 g0 a0_0 A0_1 c0_1 l0_1 _ _ x5_1 t353 _ ?side1 ?side2 ?side3 ?side4 ?side5 A6.out).mono ?_); (case side1 => exact Kz BK0.out); (case side2 => exact Cz (Kd.C_below HR0_1.out HB.out)); (case side3 => exact HC0_1.out); (case side4 => exact Cz ((Kd.R_reads' HO_5.out).2.2)); (case side5 => exact (Kd.R_reads' HO_5.out).2.1); rintro e w20 ⟨v354, rfl, ho0, hb⟩; refine ⟨_, rfl, ?_⟩; have n0_ := Rb HO_4 hb; have n1_ := Rb HO_5 hb; have n2_ := Rm ho0 HB; have n3_ := Kb BK0 hb; have n4_ := Bc HB hb; clear HO_4 HO_5 BK0 HB; revert n0_ n1_ n2_ n3_ n4_; intro HO_4 HO_5 HO355 BK0 HB; (try clear hb); (try clear hb2); (try clear hk); (try clear hi); (try clear ho0); obtain ⟨Ao21, co21, eo21⟩ := Kd.R_slice HO355.out; subst eo21; have p359 : 0 ≤ (0 : Int) := (by omega); have q359 : 0 < (t353.length : Int) := dT; obtain ⟨ad359, e359, hx359_0⟩ := Kd.at_int (Kd.R_reads' HO355.out).2.2 0 p359 q359; cases e359; have qi359 : (0 < t353.length) = True := eq_true (by omega); (try rw [show ((0 : Int)).toNat = 0 from rfl] at hx359_0); (try rw [Addr.add_zero'] at hx359_0); replace p359 := eq_true p359; replace q359 := eq_true q359) | ((with_reducible refine gate_callee (f := 96) rfl ?_); refine gL (some 25) Tryz.func96 #[.pointer (some ⟨g0, 0, none⟩), .slice Ao19 x5_1.length co19, .int .i64 (rd t353 0)] ?_; (with_reducible refine (impl_Hyper_edgeAt.calls k1 g0 a0_0 A0_1 c0_1 l0_1 _ _ x5_1 (rd t353 0) t360 _ ?side1 ?side2 ?side3 ?side4 ?side5 A14.out).mono ?_); (case side1 => exact Kz BK0.out); (case side2 => exact Cz (Kd.C_below HR0_1.out HB.out)); (case side3 => exact HC0_1.out); (case side4 => exact Cz ((Kd.R_reads' HO_5.out).2.2)); (case side5 => exact (Kd.R_reads' HO_5.out).2.1); rintro e w' ⟨rfl, ⟨nd, rfl⟩⟩; refine ⟨_, rfl, ?_⟩; (try (rw [drewN_self w20]; generalize hq_ : World.drewN w20 _ = w20; have n0_ : Aside0 (Kd.R (Kd.int .i64) 3 w20 w.heap.size (fun _ => True) (.slice (some ad359) t353.length co21) t353) := ⟨by rw [← hq_]; exact (Rz HO355.out)⟩; have n1_ : Aside0 (Kd.R k71 71 w20 w.heap.size (fun _ => True) u4 x4_1) := ⟨by rw [← hq_]; exact (Rz HO_4.out)⟩; have n2_ : Aside0 (Kd.R Kd.bool 4 w20 w.heap.size (fun _ => True) (.slice Ao19 x5_1.length co19) x5_1) := ⟨by rw [← hq_]; exact (Rz HO_5.out)⟩; have n3_ : Aside0 (w20.heap[g0]? = some (.cells #[.int .i64 a0_0, .slice A0_1 l0_1.length c0_1] 35 (0, 0))) := ⟨by rw [← hq_]; exact (Kz BK0.out)⟩; have n4_ : Aside0 (Below w.heap.size w w20) := ⟨by rw [← hq_]; exact (Bq)⟩; clear HO355 HO_4 HO_5 BK0 HB hq_; revert n0_ n1_ n2_ n3_ n4_; intro HO355 HO_4 HO_5 BK0 HB)); have p17 : 0 ≤ (t360 : Int) := dT; have q17 : (t360 : Int) < ((x5_1.length : Int) : Int) := dT; obtain ⟨go17, co17, eo17, gb17, gl17, cl17, HG17⟩ := Kd.R_form HO_5.out (by omega); (first | cases eo17 | (injection eo17 with ea_ en_ ec_; (first | subst ea_ | (injection ea_ with ea_; subst ea_)); subst ec_; clear en_)); have GB17 := am gb17; have GG17 := am HG17; clear gb17 gl17 HG17; obtain ⟨hx17_0, hf17_0⟩ := Kd.R_celln false HO_5.out (t360 : Int) p17 q17; replace p17 := eq_true p17; replace q17 := eq_true q17; obtain ⟨hy22_, hz22_⟩ := Kd.R_celln false HO_5.out (t360 : Int) (dT) (dT); have HP22 := Kd.R_putg HO_5.out (t360 : Int) true) | ((with_reducible refine gate_store (t := 4) (p := 28) rfl ?_); refine store_event (t := 4) (p := 28) (v := ?vo_w23) (w1 := (w20.setCell ⟨go17, (t360 : Int).toNat, none⟩ (.bool true))) ?hg ?ho ?hn ?hr ?_; (case ho => rfl); (case hg => rfl); (case hn => rfl); (case hr => first | (go_simp; done) | (go_simp; rfl)); intro w23 hw; have hg : w20.grownBy w23 (some go17) := (by rw [hw]; exact HP22.2); have hp_ : Kd.R Kd.bool 4 w23 w.heap.size (fun _ => True) (.slice (some ⟨go17, 0, none⟩) x5_1.length co19) y361 := (by rw [hw, Ny361.out]; exact HP22.1); clear HP22; have n0_ := am (Kd.R_over' (v := (.slice (some ⟨go17, 0, none⟩) x5_1.length co19)) (Rz HO_4.out) (Kd.R_typed HO_5.out) (by decide) hg); have n1_ := am (hp_); have n2_ := am (blk_grown (g := g0) (o := .cells #[.int .i64 a0_0, .slice A0_1 l0_1.length c0_1] 35 (0, 0)) (Kz BK0.out) hg (Kd.R_ne HO_5.out BK0.out (by decide))); have n3_ := am (Kd.R_over' (v := (.slice (some ⟨go17, 0, none⟩) x5_1.length co19)) (Rz HO355.out) (Kd.R_typed HO_5.out) (by decide) hg); have n4_ := am ((by rw [hw]; exact below_set (HB.out) GB17.out : Below w.heap.size w w23)); clear HO_4 HO_5 BK0 HO355 HB; revert n0_ n1_ n2_ n3_ n4_; intro HO_4 HO_5 BK0 HO355 HB; clear hg hw hp_; have p362 : 0 ≤ (0 : Int) := (by omega); have q362 : 0 < (t353.length : Int) := dT; obtain ⟨ad362, e362, hx362_0⟩ := Kd.at_int (Kd.R_reads' HO355.out).2.2 0 p362 q362; obtain rfl : ad359 = ad362 := (by injection e362); have qi362 : (0 < t353.length) = True := eq_true (by omega); (try rw [show ((0 : Int)).toNat = 0 from rfl] at hx362_0); (try rw [Addr.add_zero'] at hx362_0); replace p362 := eq_true p362; replace q362 := eq_true q362) | ((with_reducible refine gate_builtin (b := .append) (xs := #[.tmp 29, .tmp 35]) rfl ?_); at_builtin; refine Kd.R_append k71 (w0 := w) w.heap.size rfl (.tmp 29) (.tmp 35) 38 71 (.agg #[(.int .i64 0), (.int .i64 0)]) 16 rfl Tryz.underlying38 info71 rfl (by decide) (by omega) u4 x4_1 (⟨t360, rd t353 0⟩ : S71) [.int .i64 t360, .int .i64 (rd t353 0)] (fun _ => True) (fun _ => False) rfl rfl ?aP (fun _ hk => hk.elim) ?aF ?aO ?aB ?aS ?aL ?_; (case aP => exact k71_mkM _ _ _ (⟨t360, rd t353 0⟩ : S71)); (case aB => exact (Bq)); (case aF => exact (fun _ _ => trivial)); (case aO => exact (Rz HO_4.out)); (case aS => exact (below_size (w := w) (Bq))); (case aL => have := LMc18.out; omega); intro v364 w24 ho hb hg hat; rw [← Ny363.out] at ho; have n0_ := am (Kd.R_over' (Rz HO_5.out) (Kd.R_typed (Rz HO_4.out)) (by decide) hg); have n1_ := am (blk_grown (g := g0) (o := .cells #[.int .i64 a0_0, .slice A0_1 l0_1.length c0_1] 35 (0, 0)) (Kz BK0.out) hg (Kd.R_ne HO_4.out BK0.out (by decide))); have n2_ := am (Kd.R_over' (Rz HO355.out) (Kd.R_typed (Rz HO_4.out)) (by decide) hg); have n3_ := am (hb); have n4_ := am (ho); clear HO_5 BK0 HO355 HB HO_4; revert n0_ n1_ n2_ n3_ n4_; intro HO_5 BK0 HO355 HB HO365; clear ho hb hg hat))
        go_roundg k1
        case measure => have := HK1.out; omega
        case rel => exact ⟨(y363), (y361), H', ⟨by have := HK1.out; omega⟩, ⟨Rz HO365.out⟩, ⟨Rz HO_5.out⟩, ⟨Kz BK0.out⟩, ⟨Bq⟩⟩
       ·rw [if_neg c18] at H
        exact absurd H (by simp)
      ·rw [if_neg c16] at H
       exact absurd H (by simp)
     ·rw [if_neg c15] at H
      exact absurd H (by simp)
    ·rw [if_neg c13] at H
     exact absurd H (by simp)

def impl_Hyper_order.f (k : Nat) (a0_0 : Int) (l0_1 : List (List Int)) : Option ((List (S71)) × Bool) := (impl_Hyper_peel.f k a0_0 l0_1).bind fun bt366 => (some (bt366.1, ((bt366.2.length : Int) == 0)))
theorem impl_Hyper_order.calls (k : Nat) (g0 : Nat) (a0_0 : Int) (A0_1 : Option Addr) (c0_1 : Nat) (l0_1 : List (List Int)) (r1 : List (S71)) (r2 : Bool) (w : World) (hb0 : w.heap[g0]? = some (.cells #[.int .i64 a0_0, .slice A0_1 l0_1.length c0_1] 35 (0, 0))) (hr0_1 : Kd.C (Kd.slice 3 (Kd.int .i64)) w A0_1 l0_1.length l0_1) (hc0_1 : l0_1.length ≤ c0_1) (h : impl_Hyper_order.f k a0_0 l0_1 = some (r1, r2)) :
  Calls Tryz.prog 26 #[.pointer (some ⟨g0, 0, none⟩)] w fun e w' => ∃ v0_ : Value, e = .returned (.tuple #[v0_, .bool r2]) ∧ Kd.R k71 71 w' w.heap.size (fun _ => True) v0_ r1 ∧ Below w.heap.size w w' := by
 have HR0_1 := am hr0_1; have HC0_1 := am hc0_1; clear hr0_1 hc0_1; have BK0 := am hb0; clear hb0; have HB := am (Below.refl w.heap.size w); have H : ((impl_Hyper_peel.f k a0_0 l0_1).bind fun bt366 => (some (bt366.1, ((bt366.2.length : Int) == 0)))) = some (r1, r2) := h; clear h; replace H := Option.bind_eq_some_iff.mp H; obtain ⟨⟨t366, t367⟩, A20, H⟩ := H; (try dsimp -simprocs only at H); have A2 := am A20; clear A20
 simp only [Option.some.injEq, Prod.mk.injEq] at H
 obtain ⟨rfl, rfl⟩ := H
 go_enter Tryz.func26, Tryz.ntmps26
 go_wp2_with (first | ((with_reducible refine gate_callee (f := 64) rfl ?_); refine gL (some 8) Tryz.func64 #[.pointer (some ⟨g0, 0, none⟩)] ?_; (with_reducible refine (impl_Hyper_peel.calls k g0 a0_0 A0_1 c0_1 l0_1 t366 t367 _ ?side1 ?side2 ?side3 A2.out).mono ?_); (case side1 => exact Kz BK0.out); (case side2 => exact Cz HR0_1.out); (case side3 => exact HC0_1.out); rintro e w3 ⟨v368, v370, rfl, ho0, ho1, hb⟩; refine ⟨_, rfl, ?_⟩; have n0_ := Rm ho0 HB; have n1_ := Rm ho1 HB; have n2_ := Kb BK0 hb; have n3_ := Bc HB hb; clear BK0 HB; revert n0_ n1_ n2_ n3_; intro HO369 HO371 BK0 HB; (try clear hb); (try clear hb2); (try clear hk); (try clear hi); (try clear ho0); (try clear ho1); obtain ⟨Ao4, co4, eo4⟩ := Kd.R_slice HO371.out; subst eo4))
 go_ret2
 exact ⟨_, eZ, Rz HO369.out, Bq⟩

-- BY HAND: function 27 (slices_Repeat_int_int)

-- NOT PRINTED: function 66 (impl_PeelStep_1)

-- NOT PRINTED: function 28 (impl_PeelStep)

def impl_led.f (l0 : List Int) (l1 : List Int) : Option (Int) := if 0 < (l1.length : Int) then (if 0 ≤ (rd l1 0) then (if (rd l1 0) < (l0.length : Int) then (if 1 < (l1.length : Int) then (if 0 ≤ (rd l1 1) then (if (rd l1 1) < (l0.length : Int) then (if 2 < (l1.length : Int) then (if 0 ≤ (rd l1 2) then (if (rd l1 2) < (l0.length : Int) then (some (Int.tmod (wrap64 ((wrap64 ((rd l0 (rd l1 0)) + (rd l0 (rd l1 1)))) + (rd l0 (rd l1 2)))) 3)) else (none)) else (none)) else (none)) else (none)) else (none)) else (none)) else (none)) else (none)) else (none)
theorem impl_led.calls (A0 : Option Addr) (c0 : Nat) (l0 : List Int) (A1 : Option Addr) (c1 : Nat) (l1 : List Int) (r : Int) (w : World) (hr0 : Kd.C (Kd.int .i64) w A0 l0.length l0) (hc0 : l0.length ≤ c0) (hr1 : Kd.C (Kd.int .i64) w A1 l1.length l1) (hc1 : l1.length ≤ c1) (h : impl_led.f l0 l1 = some r) :
  Calls Tryz.prog 30 #[.slice A0 l0.length c0, .slice A1 l1.length c1] w fun e w' => e = .returned (.int .i64 r) ∧ Drawn0 w w' := by
 have HR0 := am hr0; have HC0 := am hc0; clear hr0 hc0; have HR1 := am hr1; have HC1 := am hc1; clear hr1 hc1; have H : (if 0 < (l1.length : Int) then (if 0 ≤ (rd l1 0) then (if (rd l1 0) < (l0.length : Int) then (if 1 < (l1.length : Int) then (if 0 ≤ (rd l1 1) then (if (rd l1 1) < (l0.length : Int) then (if 2 < (l1.length : Int) then (if 0 ≤ (rd l1 2) then (if (rd l1 2) < (l0.length : Int) then (some (Int.tmod (wrap64 ((wrap64 ((rd l0 (rd l1 0)) + (rd l0 (rd l1 1)))) + (rd l0 (rd l1 2)))) 3)) else (none)) else (none)) else (none)) else (none)) else (none)) else (none)) else (none)) else (none)) else (none)) = some r := h; clear h
 by_cases c3 : 0 < (l1.length : Int)
 ·rw [if_pos c3] at H
  have c3b0 : decide (0 < (l1.length : Int)) = true := decide_eq_true c3; have c3b1 : decide (0 < l1.length) = true := decide_eq_true (by omega); clear c3
  by_cases c4 : 0 ≤ (rd l1 0)
  ·rw [if_pos c4] at H
   have c4b0 : decide (0 ≤ (rd l1 0)) = true := decide_eq_true c4; clear c4
   by_cases c5 : (rd l1 0) < (l0.length : Int)
   ·rw [if_pos c5] at H
    have c5b0 : decide ((rd l1 0) < (l0.length : Int)) = true := decide_eq_true c5; clear c5
    by_cases c6 : 1 < (l1.length : Int)
    ·rw [if_pos c6] at H
     have c6b0 : decide (1 < (l1.length : Int)) = true := decide_eq_true c6; have c6b1 : decide (1 < l1.length) = true := decide_eq_true (by omega); clear c6
     by_cases c7 : 0 ≤ (rd l1 1)
     ·rw [if_pos c7] at H
      have c7b0 : decide (0 ≤ (rd l1 1)) = true := decide_eq_true c7; clear c7
      by_cases c8 : (rd l1 1) < (l0.length : Int)
      ·rw [if_pos c8] at H
       have c8b0 : decide ((rd l1 1) < (l0.length : Int)) = true := decide_eq_true c8; clear c8
       by_cases c9 : 2 < (l1.length : Int)
       ·rw [if_pos c9] at H
        have c9b0 : decide (2 < (l1.length : Int)) = true := decide_eq_true c9; have c9b1 : decide (2 < l1.length) = true := decide_eq_true (by omega); clear c9
        by_cases c10 : 0 ≤ (rd l1 2)
        ·rw [if_pos c10] at H
         have c10b0 : decide (0 ≤ (rd l1 2)) = true := decide_eq_true c10; clear c10
         by_cases c11 : (rd l1 2) < (l0.length : Int)
         ·rw [if_pos c11] at H
          have c11b0 : decide ((rd l1 2) < (l0.length : Int)) = true := decide_eq_true c11; clear c11; obtain rfl := Option.some.inj H; have p374 : 0 ≤ (0 : Int) := (by omega); have q374 : 0 < (l1.length : Int) := dT; obtain ⟨ad374, e374, hx374_0⟩ := Kd.at_int HR1.out 0 p374 q374; cases e374; have qi374 : (0 < l1.length) = True := eq_true (by omega)
          (try rw [show ((0 : Int)).toNat = 0 from rfl] at hx374_0)
          (try rw [Addr.add_zero'] at hx374_0)
          replace p374 := eq_true p374; replace q374 := eq_true q374; obtain ⟨ad375, e375, hx375_0⟩ := Kd.at_int HR0.out (rd l1 0) dT dT; cases e375; have p375 := eT (0 ≤ ((rd l1 0) : Int)); have q375 := eT ((rd l1 0) < (l0.length : Int)); have p376 : 0 ≤ (1 : Int) := (by omega); have q376 : 1 < (l1.length : Int) := dT; obtain ⟨ad376, e376, hx376_0⟩ := Kd.at_int HR1.out 1 p376 q376; obtain rfl : ad374 = ad376 := (by injection e376)
          (try simp only [show (1 : Int).toNat = 1 from rfl, Nat.reduceMul, Nat.reduceEqDiff, Go.Addr.add, ↓reduceIte] at hx376_0)
          have qi376 : (1 < l1.length) = True := eq_true (by omega)
          (try rw [show ((1 : Int)).toNat = 1 from rfl] at hx376_0)
          replace p376 := eq_true p376; replace q376 := eq_true q376; have p377 : 0 ≤ ((rd l1 1) : Int) := dT; have q377 : (rd l1 1) < (l0.length : Int) := dT; obtain ⟨ad377, e377, hx377_0⟩ := Kd.at_int HR0.out (rd l1 1) p377 q377; obtain rfl : ad375 = ad377 := (by injection e377); replace p377 := eq_true p377; replace q377 := eq_true q377; have p378 : 0 ≤ (2 : Int) := (by omega); have q378 : 2 < (l1.length : Int) := dT; obtain ⟨ad378, e378, hx378_0⟩ := Kd.at_int HR1.out 2 p378 q378; obtain rfl : ad374 = ad378 := (by injection e378)
          (try simp only [show (2 : Int).toNat = 2 from rfl, Nat.reduceMul, Nat.reduceEqDiff, Go.Addr.add, ↓reduceIte] at hx378_0)
          have qi378 : (2 < l1.length) = True := eq_true (by omega)
          (try rw [show ((2 : Int)).toNat = 2 from rfl] at hx378_0)
          replace p378 := eq_true p378; replace q378 := eq_true q378; have p379 : 0 ≤ ((rd l1 2) : Int) := dT; have q379 : (rd l1 2) < (l0.length : Int) := dT; obtain ⟨ad379, e379, hx379_0⟩ := Kd.at_int HR0.out (rd l1 2) p379 q379; obtain rfl : ad375 = ad379 := (by injection e379); replace p379 := eq_true p379; replace q379 := eq_true q379
          go_enter Tryz.func30, Tryz.ntmps30
          go_wp2
          repeat (go_quiet (fail); try go_wp2)
          go_ret
          exact ⟨by first | rfl | (simp; done) | (simp [*]; done), by repeat (first | exact Drawn0.refl _ | apply Drawn0.step)⟩
         ·rw [if_neg c11] at H
          exact absurd H (by simp)
        ·rw [if_neg c10] at H
         exact absurd H (by simp)
       ·rw [if_neg c9] at H
        exact absurd H (by simp)
      ·rw [if_neg c8] at H
       exact absurd H (by simp)
     ·rw [if_neg c7] at H
      exact absurd H (by simp)
    ·rw [if_neg c6] at H
     exact absurd H (by simp)
   ·rw [if_neg c5] at H
    exact absurd H (by simp)
  ·rw [if_neg c4] at H
   exact absurd H (by simp)
 ·rw [if_neg c3] at H
  exact absurd H (by simp)

open Go Go.Shelf Go.Proofs.YtmehagedoaopeaaGreatGp
def impl_BuildPeeled.in3 (e : List Int) (n : Nat) : Bool := decide (2 < e.length) && (decide (0 ≤ rd e 0) && (decide (rd e 0 < (n : Int)) && (decide (0 ≤ rd e 1) && (decide (rd e 1 < (n : Int)) && (decide (0 ≤ rd e 2) && decide (rd e 2 < (n : Int)))))))
theorem impl_BuildPeeled.in3E {e : List Int} {n : Nat} (h : impl_BuildPeeled.in3 e n = true) : 2 < e.length ∧ 0 ≤ rd e 0 ∧ rd e 0 < (n : Int) ∧ 0 ≤ rd e 1 ∧ rd e 1 < (n : Int) ∧ 0 ≤ rd e 2 ∧ rd e 2 < (n : Int) := by
  simp only [impl_BuildPeeled.in3, Bool.and_eq_true, decide_eq_true_eq] at h
  exact ⟨h.1, h.2.1, h.2.2.1, h.2.2.2.1, h.2.2.2.2.1, h.2.2.2.2.2.1, h.2.2.2.2.2.2⟩
def impl_BuildPeeled.ok (E : List (List Int)) (n : Nat) (s : S71) : Bool := decide (0 ≤ s.f1) && (decide (s.f1 < (n : Int)) && (decide (0 ≤ s.f0) && (decide (s.f0 < (E.length : Int)) && (impl_BuildPeeled.in3 (rd_L3 E s.f0) n && decide ((rd_L3 E s.f0).length ≤ 1000)))))
def impl_BuildPeeled.sum (m e : List Int) : Int := Int.tmod (wrap64 ((wrap64 ((rd m (rd e 0)) + (rd m (rd e 1)))) + (rd m (rd e 2)))) 3
def impl_BuildPeeled.idx (p : Int) : List Int → Int → Int
 | [], _ => -1
 | x :: t, i => if p = x then i else impl_BuildPeeled.idx p t (i + 1)
theorem impl_BuildPeeled.idxL (e : List Int) (p : Int) (hl : e.length ≤ 1000) : ∀ (t pre : List Int), e = pre ++ t → slices_Index_int_int.l0 (t.length + 1) e p (e.length : Int) (pre.length : Int) = some (impl_BuildPeeled.idx p t (pre.length : Int)) := by
  intro t
  induction t with
  | nil =>
    intro pre h
    have hn : ¬ ((pre.length : Nat) : Int) < (e.length : Int) := by rw [h]; simp
    simp only [slices_Index_int_int.l0]
    rw [if_neg hn]; rfl
  | cons x t ih =>
    intro pre h
    have hm : ((pre.length : Nat) : Int) < (e.length : Int) := by rw [h]; simp; omega
    have hg : rd e ((pre.length : Nat) : Int) = x := by simp [rd, h]
    have hw : wrap64 (((pre.length : Nat) : Int) + 1) = (((pre ++ [x]).length : Nat) : Int) := by have := hm; simp; unfold wrap64; omega
    have hi := ih (pre ++ [x]) (by rw [h]; simp)
    simp only [slices_Index_int_int.l0, List.length_cons, hg, hw]
    rw [if_pos hm, if_pos (by omega), if_pos hm]
    by_cases c : p = x
    · rw [if_pos c]; simp only [impl_BuildPeeled.idx]; rw [if_pos c]
    · rw [if_neg c]; simp only [impl_BuildPeeled.idx]; rw [if_neg c, show (((pre.length : Nat) : Int) + 1) = (((pre ++ [x]).length : Nat) : Int) by simp]; exact hi
theorem impl_BuildPeeled.idxE (e : List Int) (p : Int) (hl : e.length ≤ 1000) : ∃ k, slices_Index_int_int.f k e p = some (impl_BuildPeeled.idx p e 0) := ⟨e.length + 1, impl_BuildPeeled.idxL e p hl e [] rfl⟩
def impl_BuildPeeled.step (E : List (List Int)) (m : List Int) (s : S71) : List Int := (m.set ((s.f1) : Int).toNat 0).set ((s.f1) : Int).toNat (Int.tmod (wrap64 ((wrap64 (impl_BuildPeeled.idx (s.f1) (rd_L3 E (s.f0)) 0 - impl_BuildPeeled.sum (m.set ((s.f1) : Int).toNat 0) (rd_L3 E (s.f0)))) + 3)) 3)
theorem impl_BuildPeeled.ord {e : List Int} (m : List Int) (h : impl_BuildPeeled.in3 e m.length = true) : impl_led.f m e = some (impl_BuildPeeled.sum m e) := by
  obtain ⟨h2, a0, b0, a1, b1, a2, b2⟩ := impl_BuildPeeled.in3E h
  unfold impl_led.f impl_BuildPeeled.sum
  rw [if_pos (by omega), if_pos a0, if_pos b0, if_pos (by omega), if_pos a1, if_pos b1, if_pos (by omega), if_pos a2, if_pos b2]
theorem impl_BuildPeeled.okE {E : List (List Int)} {n : Nat} {s : S71} (h : impl_BuildPeeled.ok E n s = true) : 0 ≤ s.f1 ∧ s.f1 < (n : Int) ∧ 0 ≤ s.f0 ∧ s.f0 < (E.length : Int) ∧ impl_BuildPeeled.in3 (rd_L3 E s.f0) n = true ∧ (rd_L3 E s.f0).length ≤ 1000 := by
  simp only [impl_BuildPeeled.ok, Bool.and_eq_true, decide_eq_true_eq] at h
  exact ⟨h.1, h.2.1, h.2.2.1, h.2.2.2.1, h.2.2.2.2.1, h.2.2.2.2.2⟩
def impl_BuildPeeled.l0 (xs : List S71) (_ : Int) (_ : Int) (E : List (List Int)) (o0 o1 : Int) (m : List Int) : Option (Int × Int × List Int × Bool) := if (xs.all (impl_BuildPeeled.ok E m.length) = true ∧ 0 < m.length ∧ xs.length ≤ 17592186044416) then (some (o0, o1, xs.foldr (fun s m => impl_BuildPeeled.step E m s) m, true)) else (none)
def impl_BuildPeeled.f (k : Nat) (a0 : Int) (l1 : List ByteArray) (a2 : Int) : Option (Int × Int × List Int × Bool) := (impl_HyperOf.f k a0 l1 a2).bind fun bt381 => (if bt381.2.2 = true then ((impl_Hyper_order.f k bt381.1 bt381.2.1).bind fun bt387 => (if bt387.2 = true then ((slices_Repeat_int_int.f (([3] : List Int)) bt381.1).bind fun t394 => (impl_BuildPeeled.l0 bt387.1 (wrap64 ((bt387.1.length : Int) - 1)) bt381.1 bt381.2.1 a0 a2 t394)) else (some (0, 0, ([] : List Int), false)))) else (some (0, 0, ([] : List Int), false)))
def impl_BuildPeeled.T12 : Bool × List (List Nat × List Nat) := (true, [([], []), ([0], [0]), ([], []), ([2], [2]), ([], []), ([], []), ([5], [5]), ([4, 6], [4, 6]), ([], []), ([8], [8]), ([], []), ([9, 10, 7], [9, 10]), ([7, 11], [7, 11]), ([12], [12]), ([13], [13]), ([1, 3, 0, 1, 2, 3, 4, 5, 6, 7, 8, 9, 10, 11, 12, 13, 14], [1, 3]), ([15, 14, 11, 0, 1, 2, 3, 4, 5, 6, 7, 8, 9, 10, 11, 12, 13, 14], [14, 15])])
def impl_BuildPeeled.B12 : List Nat := [0, 1, 0, 4, 0, 0, 32, 112, 0, 256, 0, 2032, 4080, 8176, 16368, 32767, 65535]
theorem impl_BuildPeeled.tab12 : rtab .any (opsOf Tryz.f6 12) = impl_BuildPeeled.T12 := by kernel_rfl
theorem impl_BuildPeeled.bits12 : waitsOk impl_BuildPeeled.T12.2 impl_BuildPeeled.B12 = true := by kernel_rfl
theorem impl_BuildPeeled.calls (k : Nat) (a0 : Int) (A1 : Option Addr) (c1 : Nat) (l1 : List ByteArray) (a2 : Int) (r1 : Int) (r2 : Int) (r3 : List Int) (r4 : Bool) (w : World) (hr1 : Kd.C Kd.string w A1 l1.length l1) (hc1 : l1.length ≤ c1) (h : impl_BuildPeeled.f k a0 l1 a2 = some (r1, r2, r3, r4)) :
  Calls Tryz.prog 6 #[.int .i64 a0, .slice A1 l1.length c1, .int .i64 a2] w fun e w' => ∃ v2_ : Value, e = .returned (.tuple #[.agg #[.int .i64 r1, .int .i64 r2, v2_], .bool r4]) ∧ Kd.R (Kd.int .i64) 3 w' w.heap.size (fun _ => True) v2_ r3 ∧ Below w.heap.size w w' := by
 have hu29 := Tryz.underlying29; have hu35 := Tryz.underlying35; have hu71 := Tryz.underlying71; have HR1 := am hr1; have HC1 := am hc1; clear hr1 hc1; have HB := am (Below.refl w.heap.size w); have H : ((impl_HyperOf.f k a0 l1 a2).bind fun bt381 => (if bt381.2.2 = true then ((impl_Hyper_order.f k bt381.1 bt381.2.1).bind fun bt387 => (if bt387.2 = true then ((slices_Repeat_int_int.f (([3] : List Int)) bt381.1).bind fun t394 => (impl_BuildPeeled.l0 bt387.1 (wrap64 ((bt387.1.length : Int) - 1)) bt381.1 bt381.2.1 a0 a2 t394)) else (some (0, 0, ([] : List Int), false)))) else (some (0, 0, ([] : List Int), false)))) = some (r1, r2, r3, r4) := h; clear h; replace H := Option.bind_eq_some_iff.mp H; obtain ⟨⟨t381, t382, t385⟩, A40, H⟩ := H; (try dsimp -simprocs only at H); have A4 := am A40; clear A40
 by_cases c5 : t385 = true
 ·subst c5
  rw [if_pos rfl] at H; replace H := Option.bind_eq_some_iff.mp H; obtain ⟨⟨t387, t388⟩, A60, H⟩ := H; (try dsimp -simprocs only at H); have A6 := am A60; clear A60
  by_cases c7 : t388 = true
  ·subst c7
   rw [if_pos rfl] at H; obtain ⟨y391, hy391⟩ : ∃ y_ : List Int, y_ = (([3] : List Int)) := ⟨_, rfl⟩
   replace H : ((slices_Repeat_int_int.f y391 t381).bind fun t394 => (impl_BuildPeeled.l0 t387 (wrap64 ((t387.length : Int) - 1)) t381 t382 a0 a2 t394)) = some (r1, r2, r3, r4) := by first | (rw [hy391]; with_reducible exact H) | (have H2_ := (Option.bind_some _ _).symm.trans H; rw [hy391]; with_reducible exact H2_) | (have H2_ := (Option.bind_some _ _).symm.trans H; with_reducible exact H2_) | with_reducible exact H | (rw [hy391]; exact H) | exact H
   have Ny391 := am hy391; clear hy391; replace H := Option.bind_eq_some_iff.mp H; obtain ⟨t394, A80, H⟩ := H; (try dsimp -simprocs only at H); have A8 := am A80; clear A80; have H' := am H; clear H
   let bp_ : Exit → Act → World → Prop := bodyPost Tryz.prog Tryz.f6 (fun _ _ => True); refine calls_marks Tryz.func6 rfl ?_; simp only [Tryz.ntmps6, List.size_toArray, List.length_cons, List.length_nil, Nat.reduceAdd, Nat.reduceSub, Array.replicate_succ, Array.replicate_zero, List.push_toArray, List.append_toArray, List.nil_append, List.cons_append]
   go_wp2_with (first | ((with_reducible refine gate_dst (N := 6) rfl ?_); refine bE 6 #[.int .i64 0, .int .i64 0, .slice none 0 0] 29 ?_; intro gb380 hg w9 hbox hb; have n0_ := Bb HB hb; have n1_ := am (hbox); have n2_ := Gl HB hg; have n3_ := Gl HB hg; clear HB; revert n0_ n1_ n2_ n3_; intro HB BK380 GW380 GE380; clear hb hbox hg) | ((with_reducible refine gate_callee (f := 9) rfl ?_); refine gL (some 19) Tryz.func9 #[.int .i64 a0, .slice A1 l1.length c1, .int .i64 a2] ?_; (with_reducible refine (impl_HyperOf.calls k a0 _ _ l1 a2 t381 t382 true _ ?side1 ?side2 A4.out).mono ?_); (case side1 => exact Cz (Kd.C_below HR1.out HB.out)); (case side2 => exact HC1.out); rintro e w10 ⟨v383, rfl, ho0, hb⟩; refine ⟨_, rfl, ?_⟩; have n0_ := am (Kd.S_lower ho0 (below_size (w := w) (Bq))); have n1_ := Kb BK380 hb; have n2_ := Bc HB hb; clear BK380 HB; revert n0_ n1_ n2_; intro HO384 BK380 HB; (try clear hb); (try clear hb2); (try clear hk); (try clear hi); (try clear ho0)) | ((with_reducible refine gate_dst (N := 8) rfl ?_); refine bE 8 #[.int .i64 0, .slice none 0 0] 35 ?_; intro gb386 hg w11 hbox hb; have n0_ := am (Kd.S_below (by (with_reducible repeat (first | apply Kd.S_alloc | apply Kd.S_drewN | apply Kd.S_drew)); exact HO384.out) hb); have n1_ := Kb BK380 hb; have n2_ := Bc HB hb; have n3_ := am (hbox); have n4_ := Gm HB hg; have n5_ := Gm HB hg; have n6_ := Nl BK380 hg; have n7_ := Ng BK380 hg; clear HO384 BK380 HB; revert n0_ n1_ n2_ n3_ n4_ n5_ n6_ n7_; intro HO384 BK380 HB BK386 GW386 GE386 NB380_386 NB386_380; clear hb hbox hg; have hnb12 := NB386_380.out; have hnc12 := NB380_386.out; obtain ⟨hcz13_0, hcz13_1, hfz13_0, hfz13_1⟩ := cf2 (w := w11) BK386; obtain ⟨Ao14, co14, eo14⟩ := Kd.S_slice HO384.out; subst eo14) | ((with_reducible refine gate_callee (f := 26) rfl ?_); refine gL (some 26) Tryz.func26 #[.pointer (some ⟨gb386, 0, none⟩)] ?_; (with_reducible refine (impl_Hyper_order.calls k gb386 t381 Ao14 co14 t382 t387 true _ ?side1 ?side2 ?side3 A6.out).mono ?_); (case side1 => (with_reducible repeat (first | refine blk_drewN ?_ _ | refine blk_drew ?_ | refine blk_alloc ?_ _)); refine blk_put (cs := #[.int .i64 t381, .slice none 0 0]) ?_ 1 _ rfl; (with_reducible repeat (first | refine blk_drewN ?_ _ | refine blk_drew ?_ | refine blk_alloc ?_ _)); refine blk_put (cs := #[.int .i64 0, .slice none 0 0]) ?_ 0 _ rfl; exact Kz BK386.out); (case side2 => refine (Kd.S_reads' (e := 27) (base := w.heap.size) (ok := fun k_ => True) (n := t382.length) (c := co14) ?_).2.2; exact (by (with_reducible repeat (first | apply Kd.S_alloc | apply Kd.S_drewN | apply Kd.S_drew)); exact (Kd.S_mono (Kd.S_far (p := ⟨gb386, 1, none⟩) (Kd.S_far (p := ⟨gb386, 0, none⟩) (Kd.S_types HO384.out BK386.out (by decide)) (fun _ hk => hk.2) (.int .i64 t381)) (fun _ hk => hk.2) (.slice Ao14 t382.length co14)) (fun _ h_ => h_.1)))); (case side3 => exact (Kd.S_reads' HO384.out).2.1); rintro e w15 ⟨v389, rfl, ho0, hb⟩; refine ⟨_, rfl, ?_⟩; have n0_ := am (Kd.S_below (by (with_reducible repeat (first | apply Kd.S_alloc | apply Kd.S_drewN | apply Kd.S_drew)); exact (Kd.S_mono (Kd.S_far (p := ⟨gb386, 1, none⟩) (Kd.S_far (p := ⟨gb386, 0, none⟩) (Kd.S_types HO384.out BK386.out (by decide)) (fun _ hk => hk.2) (.int .i64 t381)) (fun _ hk => hk.2) (.slice Ao14 t382.length co14)) (fun _ h_ => h_.1))) hb); have n1_ := Rm ho0 HB; have n2_ := am (blk_below (g := gb380) (o := .cells #[.int .i64 0, .int .i64 0, .slice none 0 0] 29 (0, 0)) (by (with_reducible repeat (first | refine blk_drewN ?_ _ | refine blk_drew ?_ | refine blk_alloc ?_ _)); refine blk_far ?_ NB380_386.out _; (with_reducible repeat (first | refine blk_drewN ?_ _ | refine blk_drew ?_ | refine blk_alloc ?_ _)); refine blk_far ?_ NB380_386.out _; exact Kz BK380.out) hb); have n3_ := am (blk_below (g := gb386) (o := .cells #[.int .i64 t381, .slice Ao14 t382.length co14] 35 (0, 0)) (by (with_reducible repeat (first | refine blk_drewN ?_ _ | refine blk_drew ?_ | refine blk_alloc ?_ _)); refine blk_put (cs := #[.int .i64 t381, .slice none 0 0]) ?_ 1 _ rfl; (with_reducible repeat (first | refine blk_drewN ?_ _ | refine blk_drew ?_ | refine blk_alloc ?_ _)); refine blk_put (cs := #[.int .i64 0, .slice none 0 0]) ?_ 0 _ rfl; exact Kz BK386.out) hb); have n4_ := Bc HB hb; clear HO384 BK380 BK386 HB; revert n0_ n1_ n2_ n3_ n4_; intro HO384 HO390 BK380 BK386 HB; (try clear hb); (try clear hb2); (try clear hk); (try clear hi); (try clear ho0)) | ((with_reducible refine gate_dst (N := 34) rfl ?_); refine Kd.R_lit (Kd.int .i64) _ 3 ?hg (N := 34) ?hd (xs := ([3] : List Int)) (inner := [.int .i64 3]) (ok := fun _ => True) (okp := fun _ => True) ?hr ?hp (fun _ hk => hk) trivial (Below.refl _ _) (Nat.le_refl _) (by simp) ?_; (case hd => rfl); (case hg => rfl); (case hr => first | (go_simp; done) | (go_simp; rfl)); (case hp => exact (Reps.one (show Kd.M (Kd.int .i64) _ _ _ 3 [.int .i64 3] from rfl) (Reps.none _ _))); intro v392 w16 ho17 hb hg_ hnew_; clear hg_ hnew_; (first | rw [← Ny391.out] at ho17 | (simp only [Int.reduceToNat] at ho17; rw [← Ny391.out] at ho17)); have n0_ := am (Kd.S_elder' (by (with_reducible repeat (first | apply Kd.S_alloc | apply Kd.S_drewN | apply Kd.S_drew)); exact HO384.out) (Kd.R_base ho17) hb); have n1_ := Rb HO390 hb; have n2_ := Rm ho17 HB; have n3_ := Kb BK380 hb; have n4_ := Kb BK386 hb; have n5_ := Bc HB hb; clear HO384 HO390 BK380 BK386 HB; revert n0_ n1_ n2_ n3_ n4_ n5_; intro HO384 HO390 HO393 BK380 BK386 HB; clear hb ho17; obtain ⟨hcz18_0, hcz18_1, hfz18_0, hfz18_1⟩ := cf2 (w := w16) BK386; obtain ⟨Ao19, co19, eo19⟩ := Kd.R_slice HO393.out; subst eo19) | ((with_reducible refine gate_callee (f := 27) rfl ?_); refine gL (some 37) Tryz.func27 #[.slice Ao19 y391.length co19, .int .i64 t381] ?_; (with_reducible refine (slices_Repeat_int_int.calls _ _ y391 t381 t394 _ ?side1 ?side2 A8.out).mono ?_); (case side1 => exact Cz ((Kd.R_reads' HO393.out).2.2)); (case side2 => exact (Kd.R_reads' HO393.out).2.1); rintro e w20 ⟨v395, rfl, ho0, hb⟩; refine ⟨_, rfl, ?_⟩; have n0_ := am (Kd.S_elder' (by (with_reducible repeat (first | apply Kd.S_alloc | apply Kd.S_drewN | apply Kd.S_drew)); exact HO384.out) (Kd.R_base ho0) hb); have n1_ := Rb HO390 hb; have n2_ := Re HO393 (Kd.R_base ho0) hb; have n3_ := Rm (Kd.R_new' ho0 (Kd.R_lt (Rz HO393.out))) HB; have n4_ := Kb BK380 hb; have n5_ := Kb BK386 hb; have n6_ := Bc HB hb; clear HO384 HO390 HO393 BK380 BK386 HB; revert n0_ n1_ n2_ n3_ n4_ n5_ n6_; intro HO384 HO390 HO393 HO396 BK380 BK386 HB; (try clear hb); (try clear hb2); (try clear hk); (try clear hi); (try clear ho0); obtain ⟨Ao21, co21, eo21⟩ := Kd.R_slice HO396.out; subst eo21) | ((with_reducible refine gate_dst (N := 11) rfl ?_); refine bE 11 #[.int .i64 0, .int .i64 0, .slice none 0 0] 29 ?_; intro gb397 hg w22 hbox hb; have n0_ := am (Kd.S_below (by (with_reducible repeat (first | apply Kd.S_alloc | apply Kd.S_drewN | apply Kd.S_drew)); exact HO384.out) hb); have n1_ := Rb HO390 hb; have n2_ := Rb HO393 hb; have n3_ := Rb HO396 hb; have n4_ := Kb BK380 hb; have n5_ := Kb BK386 hb; have n6_ := Bc HB hb; have n7_ := am (hbox); have n8_ := Gm HB hg; have n9_ := Gm HB hg; have n10_ := Nl BK380 hg; have n11_ := Ng BK380 hg; have n12_ := Nl BK386 hg; have n13_ := Ng BK386 hg; clear HO384 HO390 HO393 HO396 BK380 BK386 HB; revert n0_ n1_ n2_ n3_ n4_ n5_ n6_ n7_ n8_ n9_ n10_ n11_ n12_ n13_; intro HO384 HO390 HO393 HO396 BK380 BK386 HB BK397 GW397 GE397 NB380_397 NB397_380 NB386_397 NB397_386; clear hb hbox hg; have hnb23 := NB397_380.out; have hnc23 := NB380_397.out; have hnb24 := NB397_386.out; have hnc24 := NB386_397.out; obtain ⟨hcz25_0, hcz25_1, hcz25_2, hfz25_0, hfz25_1, hfz25_2⟩ := cf3 (w := w22) BK397; obtain ⟨Ao26, co26, eo26⟩ := Kd.R_slice HO390.out; subst eo26) | ((with_reducible refine gate_callee (f := 28) rfl ?_); refine gL (some 40) Tryz.func28 #[.slice Ao26 t387.length co26] ?_; (with_reducible refine (Backward.calls Ao26 t387.length co26 _).mono ?_); rintro e wB ⟨gbB, hgB, rfl, hbox, hb⟩; refine ⟨_, rfl, ?_⟩; have n0_ : Aside0 (Kd.R k71 71 wB w.heap.size (fun _ => True) (.slice Ao26 t387.length co26) t387) := Rbl hb ⟨Rz (Kd.R_mono (Kd.R_far (p := ⟨gb397, 2, none⟩) (Kd.R_far (p := ⟨gb397, 1, none⟩) (Kd.R_far (p := ⟨gb397, 0, none⟩) (Kd.R_types HO390.out BK397.out (by decide)) (fun _ hk => hk.2) (.int .i64 a0)) (fun _ hk => hk.2) (.int .i64 a2)) (fun _ hk => hk.2) (.slice Ao21 t394.length co21)) (fun _ hk => trivial))⟩; have n1_ : Aside0 (Kd.S (Kd.slice 3 (Kd.int .i64)) 27 wB w.heap.size (fun k_ => some k_ ≠ ((.slice Ao21 t394.length co21) : Value).ownBlock) (.slice Ao14 t382.length co14) t382) := Sbl hb ⟨by (with_reducible repeat (first | apply Kd.S_alloc | apply Kd.S_drewN | apply Kd.S_drew)); exact Kd.S_mono (Kd.S_far (p := ⟨gb397, 2, none⟩) (Kd.S_far (p := ⟨gb397, 1, none⟩) (Kd.S_far (p := ⟨gb397, 0, none⟩) (Kd.S_types HO384.out BK397.out (by decide)) (fun _ hk => hk.2) (.int .i64 a0)) (fun _ hk => hk.2) (.int .i64 a2)) (fun _ hk => hk.2) (.slice Ao21 t394.length co21)) (fun _ hk => hk.1.2)⟩; have n2_ : Aside0 (Kd.R (Kd.int .i64) 3 wB w.heap.size (fun _ => True) (.slice Ao21 t394.length co21) t394) := Rbl hb ⟨Rz (Kd.R_mono (Kd.R_far (p := ⟨gb397, 2, none⟩) (Kd.R_far (p := ⟨gb397, 1, none⟩) (Kd.R_far (p := ⟨gb397, 0, none⟩) (Kd.R_types HO396.out BK397.out (by decide)) (fun _ hk => hk.2) (.int .i64 a0)) (fun _ hk => hk.2) (.int .i64 a2)) (fun _ hk => hk.2) (.slice Ao21 t394.length co21)) (fun _ hk => trivial))⟩; have n3_ : Aside0 (wB.heap[gb380]? = some (.cells #[.int .i64 0, .int .i64 0, (.slice none 0 0)] 29 (0, 0))) := Kbl hb ⟨by (with_reducible repeat (first | refine blk_drewN ?_ _ | refine blk_drew ?_ | refine blk_alloc ?_ _)); refine blk_far ?_ NB380_397.out _; (with_reducible repeat (first | refine blk_drewN ?_ _ | refine blk_drew ?_ | refine blk_alloc ?_ _)); refine blk_far ?_ NB380_397.out _; (with_reducible repeat (first | refine blk_drewN ?_ _ | refine blk_drew ?_ | refine blk_alloc ?_ _)); refine blk_far ?_ NB380_397.out _; (with_reducible repeat (first | refine blk_drewN ?_ _ | refine blk_drew ?_ | refine blk_alloc ?_ _)); exact BK380.out⟩; have n4_ : Aside0 (wB.heap[gb386]? = some (.cells #[.int .i64 t381, (.slice Ao14 t382.length co14)] 35 (0, 0))) := Kbl hb ⟨by (with_reducible repeat (first | refine blk_drewN ?_ _ | refine blk_drew ?_ | refine blk_alloc ?_ _)); refine blk_far ?_ NB386_397.out _; (with_reducible repeat (first | refine blk_drewN ?_ _ | refine blk_drew ?_ | refine blk_alloc ?_ _)); refine blk_far ?_ NB386_397.out _; (with_reducible repeat (first | refine blk_drewN ?_ _ | refine blk_drew ?_ | refine blk_alloc ?_ _)); refine blk_far ?_ NB386_397.out _; (with_reducible repeat (first | refine blk_drewN ?_ _ | refine blk_drew ?_ | refine blk_alloc ?_ _)); exact BK386.out⟩; have n5_ : Aside0 (wB.heap[gb397]? = some (.cells #[.int .i64 a0, .int .i64 a2, (.slice Ao21 t394.length co21)] 29 (0, 0))) := Kbl hb ⟨by (with_reducible repeat (first | refine blk_drewN ?_ _ | refine blk_drew ?_ | refine blk_alloc ?_ _)); refine blk_put (cs := #[.int .i64 a0, .int .i64 a2, .slice none 0 0]) ?_ 2 _ rfl; (with_reducible repeat (first | refine blk_drewN ?_ _ | refine blk_drew ?_ | refine blk_alloc ?_ _)); refine blk_put (cs := #[.int .i64 a0, .int .i64 0, .slice none 0 0]) ?_ 1 _ rfl; (with_reducible repeat (first | refine blk_drewN ?_ _ | refine blk_drew ?_ | refine blk_alloc ?_ _)); refine blk_put (cs := #[.int .i64 0, .int .i64 0, .slice none 0 0]) ?_ 0 _ rfl; (with_reducible repeat (first | refine blk_drewN ?_ _ | refine blk_drew ?_ | refine blk_alloc ?_ _)); exact BK397.out⟩; have n6_ : Aside0 (Below w.heap.size w wB) := Bbl hb ⟨Bq⟩; have nb_ := am hbox; clear hbox hb hgB; clear HO384 HO390 HO393 HO396 BK380 BK386 HB BK397; revert n0_ n1_ n2_ n3_ n4_ n5_ n6_ nb_; intro HO_39 HO_387001 HO_398002 BK380 BK386 BK397 HB BKB))
   (try simp only [aP])
   have hq_ := H'.out; unfold impl_BuildPeeled.l0 at hq_; split at hq_
   case isFalse => cases hq_
   case isTrue hc_ =>
    obtain ⟨hall, hpos, hreach⟩ := hc_; have HE_ := Option.some.inj hq_; simp only [Prod.mk.injEq] at HE_; obtain ⟨er0, er1, er2, er3⟩ := HE_; subst er0; subst er1; subst er3; clear hq_
    obtain ⟨go34, co34, eo34, gb34, gl34, cl34, HG34⟩ := Kd.R_form HO_398002.out (by omega); (first | cases eo34 | (injection eo34 with ea_ en_ ec_; (first | subst ea_ | (injection ea_ with ea_; subst ea_)); subst ec_; clear en_))
    have hneB : gbB ≠ go34 := fun e_ => Kd.R_ne HO_398002.out BKB.out (by decide) (by rw [e_]; rfl)
    refine range_back t387 gbB Ao26 co26 go34 co21 w.heap.size t394 rfl (by omega) BKB.out (Kd.R_mono (Kd.R_types HO_39.out HG34 (by decide)) (fun _ hk => hk.2)) gl34 hneB (R_int_ok HO_398002.out) (fun m s => impl_BuildPeeled.step t382 m s) 13 ?assign ?body ?done
    case assign =>
     intro l j s W K hK
     have hQ_ : ¬ LetsOut (Exit.then K (fun _ _ _ => False)) := by rintro ⟨a_, w_, h_⟩; simp [Exit.then] at h_
     refine regionIn (by rfl) hQ_ ?_
     (try simp only [aP])
     go_wp2_with (first | ((with_reducible refine gate_dst (N := 13) rfl ?_); refine bE 13 #[.int .i64 0, .int .i64 0] 71 ?_; intro gb399 hg w_ hbox hb; have BX_ := am hbox; have HG_ := am hg; have HB_ := am hb; clear hbox hg hb; obtain ⟨hc0_, hc1_, hf0_, hf1_⟩ := cf2 (w := w_) BX_))
     obtain ⟨h1_, h2_⟩ := box_two HG_.out HB_.out BX_.out; exact hK gb399 _ HG_.out h1_ h2_
    case body =>
     intro l m j s gb399 W hmem hlen hG hgb hbox hR
     obtain ⟨c1_, c2_, c3_, c4_, c5_, c6_⟩ := impl_BuildPeeled.okE (List.all_eq_true.1 hall s hmem); rw [← hlen] at c2_ c5_
     have hord := impl_BuildPeeled.ord (e := rd_L3 t382 s.f0) (m.set ((s.f1) : Int).toNat 0) (by rw [List.length_set]; exact c5_); obtain ⟨k1, hidx⟩ := impl_BuildPeeled.idxE (rd_L3 t382 s.f0) s.f1 c6_
     obtain ⟨t402, hz_⟩ : ∃ t_ : Int, t_ = impl_BuildPeeled.idx s.f1 (rd_L3 t382 s.f0) 0 := ⟨_, rfl⟩; rw [← hz_] at hidx; have A35 := am hidx; clear hidx
     obtain ⟨y401, hy1_⟩ : ∃ y_ : List Int, y_ = (m.set ((s.f1) : Int).toNat 0) := ⟨_, rfl⟩; rw [← hy1_] at hord; obtain ⟨t403, ht_⟩ : ∃ t_ : Int, t_ = impl_BuildPeeled.sum y401 (rd_L3 t382 s.f0) := ⟨_, rfl⟩; rw [← ht_] at hord; have A36 := am hord; obtain ⟨y404, hy2_⟩ : ∃ y_ : List Int, y_ = (y401.set ((s.f1) : Int).toNat (Int.tmod (wrap64 ((wrap64 (t402 - t403)) + 3)) 3)) := ⟨_, rfl⟩
     have hst_ : impl_BuildPeeled.step t382 m s = y404 := by rw [hy2_, ht_, hz_, hy1_]; rfl
     have hyl_ : y404.length = m.length := by rw [hy2_, hy1_, List.length_set, List.length_set]
     have Ny401 := am hy1_; have Ny404 := am hy2_; clear hy1_ hy2_ ht_ hord hz_
     have c30b0 : decide (0 ≤ (s.f0)) = true := by first | exact decide_eq_true (by omega) | exact beq_eq_false_iff_ne.mpr c6_ | exact bne_iff_ne.mpr c6_ | exact fun h_ => c6_ (by rw [h_]; rfl)
     have c31b0 : decide ((s.f0) < (t382.length : Int)) = true := by first | exact decide_eq_true (by omega) | exact beq_eq_false_iff_ne.mpr c6_ | exact bne_iff_ne.mpr c6_ | exact fun h_ => c6_ (by rw [h_]; rfl)
     have c32b0 : decide (0 ≤ (s.f1)) = true := by first | exact decide_eq_true (by omega) | exact beq_eq_false_iff_ne.mpr c6_ | exact bne_iff_ne.mpr c6_ | exact fun h_ => c6_ (by rw [h_]; rfl)
     have c33b0 : decide ((s.f1) < (m.length : Int)) = true := by first | exact decide_eq_true (by omega) | exact beq_eq_false_iff_ne.mpr c6_ | exact bne_iff_ne.mpr c6_ | exact fun h_ => c6_ (by rw [h_]; rfl)
     have n0_ := am (Kd.R_grown (Kd.R_mono (Kd.R_bound (Kd.R_types HO_39.out HG34 (by decide))) (fun k_ hk => (⟨by have := hk.2.2.1; omega, hk.1.2⟩ : k_ ≠ gb399 ∧ k_ ≠ go34))) hG (fun k_ hk e_ => hk.2 (Option.some.inj e_)))
     have n1_ : Aside0 (Kd.S (Kd.slice 3 (Kd.int .i64)) 27 W w.heap.size (fun k_ => some k_ ≠ (.slice (some ⟨go34, 0, none⟩) m.length co21 : Value).ownBlock) (.slice Ao14 t382.length co14) t382) := ⟨Kd.S_mono (Kd.S_grown HO_387001.out hG (fun k_ hk => by first | exact hk | exact hk.1)) (fun k_ hk => by first | exact hk | exact ⟨hk.1, hk.2⟩)⟩
     have n2_ : Aside0 (Kd.R (Kd.int .i64) 3 W w.heap.size (fun _ => True) (.slice (some ⟨go34, 0, none⟩) m.length co21) m) := ⟨Kd.R_mono hR (fun _ _ => trivial)⟩
     have n3_ : Aside0 (W.heap[gb380]? = some (.cells #[.int .i64 0, .int .i64 0, (.slice none 0 0)] 29 (0, 0))) := ⟨by first | exact blk_grown BK380.out hG (Kd.R_ne HO_398002.out BK380.out (by decide)) | (rw [hlen]; exact blk_grown BK380.out hG (Kd.R_ne HO_398002.out BK380.out (by decide)))⟩
     have n4_ : Aside0 (W.heap[gb386]? = some (.cells #[.int .i64 t381, (.slice Ao14 t382.length co14)] 35 (0, 0))) := ⟨by first | exact blk_grown BK386.out hG (Kd.R_ne HO_398002.out BK386.out (by decide)) | (rw [hlen]; exact blk_grown BK386.out hG (Kd.R_ne HO_398002.out BK386.out (by decide)))⟩
     have n5_ : Aside0 (W.heap[gb397]? = some (.cells #[.int .i64 a0, .int .i64 a2, (.slice (some ⟨go34, 0, none⟩) m.length co21)] 29 (0, 0))) := ⟨by first | exact blk_grown BK397.out hG (Kd.R_ne HO_398002.out BK397.out (by decide)) | (rw [hlen]; exact blk_grown BK397.out hG (Kd.R_ne HO_398002.out BK397.out (by decide)))⟩
     have n6_ : Aside0 (Below w.heap.size w W) := ⟨HB.out.grown hG (below_size (w := w) HB.out) (fun k_ e_ => by cases e_; exact gb34)⟩
     have NB380_399 := am (show gb380 ≠ gb399 by have := blk_lt BK380.out; omega)
     have NB399_380 := am (show gb399 ≠ gb380 by have := blk_lt BK380.out; omega)
     have NB386_399 := am (show gb386 ≠ gb399 by have := blk_lt BK386.out; omega)
     have NB399_386 := am (show gb399 ≠ gb386 by have := blk_lt BK386.out; omega)
     have NB397_399 := am (show gb397 ≠ gb399 by have := blk_lt BK397.out; omega)
     have NB399_397 := am (show gb399 ≠ gb397 by have := blk_lt BK397.out; omega)
     obtain ⟨cl_, HGW_⟩ := Kd.R_typed hR go34 rfl
     have GB34 := am gb34; have GG34 := am HGW_; have nx_ := am hbox; clear hbox HGW_ BKB HO_39 HO_387001 HO_398002 BK380 BK386 BK397 HB; revert n0_ n1_ n2_ n3_ n4_ n5_ n6_ nx_; intro HO_39 HO_387001 HO_398002 BK380 BK386 BK397 HB BK399
     have HLN := am hlen; have HYL := am hyl_; have HST := am hst_; have HALL := am hall; clear hlen hyl_ hst_ hall hG hR c5_
     (try simp only [aP, List.setIfInBounds_toArray, List.set_cons_zero, List.set_cons_succ])
     refine wpIn_block ?_; refine wpIn_seq ?_; refine regionIn (by rfl) (by rintro ⟨a_, w_, h_⟩; simp [Exit.then, Exit.inBlock] at h_) ?_
     have hnb44 := NB386_380.out
     have hnc44 := NB380_386.out
     have hnb45 := NB386_397.out
     have hnc45 := NB397_386.out
     obtain ⟨hcz46_0, hcz46_1, hfz46_0, hfz46_1⟩ := cf2 (w := W) BK386
     obtain ⟨hcz47_0, hcz47_1, hfz47_0, hfz47_1⟩ := cf2 (w := W) BK399
     have p400 : 0 ≤ ((s.f0) : Int) := dT
     have q400 : (s.f0) < (t382.length : Int) := dT
     obtain ⟨ad400, A400_0, c400_0, e400, hx400_0, hl400_0, hi400_0⟩ := at_L3 (Kd.S_reads' HO_387001.out).2.2 (s.f0) p400 q400
     cases e400
     obtain ⟨ce400, hce400, hMe400, hcc400⟩ := Kd.S_get HO_387001.out [] (s.f0) p400 (by first | exact q400 | exact dT | (have e_ := (Kd.S_reads' HO_387001.out).1; omega))
     obtain ⟨ve400_0, rfl, ge400_0⟩ := hMe400
     have hv400_0 := hcc400 0 _ rfl
     rw [Nat.add_zero, show ((Kd.slice 3 (Kd.int .i64))).sz = 1 from rfl, Nat.mul_one] at hv400_0
     replace hv400_0 := Option.some.inj (hv400_0.symm.trans hx400_0)
     rw [hv400_0] at ge400_0
     have HL400_0 := am (show Kd.R (Kd.int .i64) 3 _ _ _ _ (rd_L3 t382 (s.f0)) from ge400_0)
     clear hv400_0 ge400_0
     clear hcc400 hce400
     have HR400_0 := am hi400_0
     have HC400_0 := am hl400_0
     clear hi400_0 hl400_0
     replace p400 := eq_true p400
     replace q400 := eq_true q400
     have hnb48 := NB397_380.out
     have hnc48 := NB380_397.out
     obtain ⟨hcz49_0, hcz49_1, hcz49_2, hfz49_0, hfz49_1, hfz49_2⟩ := cf3 (w := W) BK397
     have p34 : 0 ≤ ((s.f1) : Int) := dT
     have q34 : ((s.f1) : Int) < ((m.length : Int) : Int) := dT
     obtain ⟨hx34_0, hf34_0⟩ := Kd.R_celln 0 HO_398002.out ((s.f1) : Int) p34 q34
     replace p34 := eq_true p34
     replace q34 := eq_true q34
     obtain ⟨hy50_, hz50_⟩ := Kd.R_celln 0 HO_398002.out ((s.f1) : Int) (dT) (dT)
     have HP50 := Kd.R_putg HO_398002.out ((s.f1) : Int) 0
     go_wp2
     refine wpIn_seq ?_; refine regionIn (by rfl) (by rintro ⟨a_, w_, h_⟩; simp [Exit.then, Exit.inBlock] at h_) ?_
     go_wp2_with (first | ((with_reducible refine gate_store (t := 3) (p := 53) rfl ?_); refine store_event (t := 3) (p := 53) (v := ?vo_w51) (w1 := (W.setCell ⟨go34, ((s.f1) : Int).toNat, none⟩ (.int .i64 0))) ?hg ?ho ?hn ?hr ?_; (case ho => rfl); (case hg => rfl); (case hn => rfl); (case hr => first | (go_simp; done) | (go_simp; rfl)); intro w51 hw; have hg : W.grownBy w51 (some go34) := (by rw [hw]; exact HP50.2); have hp_ : Kd.R (Kd.int .i64) 3 w51 w.heap.size (fun _ => True) (.slice (some ⟨go34, 0, none⟩) m.length co21) y401 := (by rw [hw, Ny401.out]; exact HP50.1); clear HP50; have n0_ := am (Kd.R_over' (v := (.slice (some ⟨go34, 0, none⟩) m.length co21)) (Rz HO_39.out) (Kd.R_typed HO_398002.out) (by decide) hg); have n1_ := am (Kd.S_after (v := (.slice (some ⟨go34, 0, none⟩) m.length co21)) (v1 := (.slice (some ⟨go34, 0, none⟩) m.length co21)) (ok := (fun _ => True)) (by (with_reducible repeat (first | apply Kd.S_alloc | apply Kd.S_drewN | apply Kd.S_drew)); exact Kd.S_mono HO_387001.out (fun _ hk => ⟨trivial, hk⟩)) hg (.inl rfl)); have n2_ := am (hp_); have n3_ := am (blk_grown (g := gb380) (o := .cells #[.int .i64 0, .int .i64 0, .slice none 0 0] 29 (0, 0)) (Kz BK380.out) hg (Kd.R_ne HO_398002.out BK380.out (by decide))); have n4_ := am (blk_grown (g := gb386) (o := .cells #[.int .i64 t381, .slice (some ad400) t382.length co14] 35 (0, 0)) (Kz BK386.out) hg (Kd.R_ne HO_398002.out BK386.out (by decide))); have n5_ := am (blk_grown (g := gb397) (o := .cells #[.int .i64 a0, .int .i64 a2, .slice (some ⟨go34, 0, none⟩) m.length co21] 29 (0, 0)) (Kz BK397.out) hg (Kd.R_ne HO_398002.out BK397.out (by decide))); have n6_ := am (blk_grown (g := gb399) (o := .cells #[.int .i64 (s.f0), .int .i64 (s.f1)] 71 (0, 0)) (Kz BK399.out) hg (Kd.R_ne HO_398002.out BK399.out (by decide))); have n7_ := am (Kd.R_after (v := (.slice (some ⟨go34, 0, none⟩) m.length co21)) (v1 := (.slice (some ⟨go34, 0, none⟩) m.length co21)) (ok := (fun k_ => some k_ ≠ (.slice (some ad400) t382.length co14 : Value).ownBlock)) (Rz (Kd.R_mono HL400_0.out (fun _ hk => ⟨hk.2, hk.1⟩))) hg (.inl rfl)); have n8_ := am ((by rw [hw]; exact below_set (HB.out) GB34.out : Below w.heap.size w w51)); clear HO_39 HO_387001 HO_398002 BK380 BK386 BK397 BK399 HL400_0 HB; revert n0_ n1_ n2_ n3_ n4_ n5_ n6_ n7_ n8_; intro HO_39 HO_387001 HO_398002 BK380 BK386 BK397 BK399 HL400_0 HB; have HGW := am hg; clear hg hw hp_))
     have n0_ := am (Kd.R_drew HO_39.out); have n1_ := am (Kd.S_drew HO_387001.out); have n2_ := am (Kd.R_drew HO_398002.out); have n3_ := am (Kd.R_drew HL400_0.out); have n4_ := am (blk_drew BK380.out); have n5_ := am (blk_drew BK386.out); have n6_ := am (blk_drew BK397.out); have n7_ := am (blk_drew BK399.out); have n8_ := am (below_drew1 HB.out); clear HO_39 HO_387001 HO_398002 HL400_0 BK380 BK386 BK397 BK399 HB; revert n0_ n1_ n2_ n3_ n4_ n5_ n6_ n7_ n8_; intro HO_39 HO_387001 HO_398002 HL400_0 BK380 BK386 BK397 BK399 HB; replace HGW := am (grown_drew HGW.out); refine startIn (m := 17) (S := fun w' => w'.cell? ⟨gb397, 0, none⟩ = some (.int .i64 a0) ∧ w'.cell? ⟨gb397, 1, none⟩ = some (.int .i64 a2) ∧ w'.cell? ⟨gb397, 2, none⟩ = some (.slice (some ⟨go34, 0, none⟩) m.length co21) ∧ w'.cell? ⟨gb399, 0, none⟩ = some (.int .i64 (s.f0)) ∧ w'.cell? ⟨gb399, 1, none⟩ = some (.int .i64 (s.f1))) (ds := [16]) (bA 17 0) (by kernel_rfl) rfl rfl ⟨cz BK397 0, cz BK397 1, cz BK397 2, cz BK399 0, cz BK399 1⟩ (by rfl) (by rintro ⟨a_, w_, h_⟩; simp [Exit.then, Exit.inBlock] at h_) (fun hHeld => ?_); refine with_tabW impl_BuildPeeled.tab12 impl_BuildPeeled.bits12 (fun HT_ HW_ => ?_); generalize w51.drew = w52 at HGW HO_39 HO_387001 HO_398002 HL400_0 BK380 BK386 BK397 BK399 HB hHeld ⊢; refine pZ 0 (some 54) (bA 17 1) HT_.out ?_; refine pZ 2 (some 56) (bA 17 5) HT_.out ?_; refine pZ 4 (some 58) (bA 17 21) HT_.out ?_; refine pZ 5 (some 59) (bA 17 53) HT_.out ?_; refine pZ 8 (some 62) (bA 17 309) HT_.out ?_; refine pZ 10 (some 64) (bA 17 1333) HT_.out ?_; refine tZ5 1 (some 55) (bA 17 1335) HT_.out HW_.out hHeld ?_; refine tZ5 3 (some 57) (bA 17 1343) HT_.out HW_.out hHeld ?_; refine tZ5 6 (some 60) (bA 17 1407) HT_.out HW_.out hHeld ?_; refine tZ5 9 (some 63) (bA 17 1919) HT_.out HW_.out hHeld ?_; refine oZ 7 (some 61) (bA 17 2047) HT_.out (fun K hK => ?_); refine gZ Tryz.func29 #[.slice A400_0 (rd_L3 t382 (s.f0)).length c400_0, .int .i64 (s.f1)] ?_
     with_reducible refine (slices_Index_int_int.calls k1 _ _ (rd_L3 t382 (s.f0)) (s.f1) t402 _ ?side1 ?side2 A35.out).mono ?_
     (case side1 => repeat (first | exact ((Kd.R_reads' (Rz HL400_0.out)).2.2) | (with_reducible refine Kd.C_alloc ?_ _) | (with_reducible refine Kd.C_drewN ?_ _) | (with_reducible refine Kd.C_drew ?_)))
     (case side2 => exact HC400_0.out)
     rintro e w' ⟨rfl, ⟨nd, rfl⟩⟩; refine ⟨_, rfl, ?_⟩; refine hK.out _ _ ⟨cz BK397 0, cz BK397 1, cz BK397 2, cz BK399 0, cz BK399 1⟩ (fun hHeld => ?_); clear hK K; refine norm_ (a' := ?_) ?_ ?_; rotate_left; show Act.put _ (some 61) _ = _; simp only [aP, i64_w, i32_w]; rfl; refine oZ 11 (some 65) (bA 17 4095) HT_.out (fun K hK => ?_); refine goes_ Tryz.func30 (by kernel_rfl) rfl #[.slice (some ⟨go34, 0, none⟩) y401.length co21, .slice A400_0 (rd_L3 t382 (s.f0)).length c400_0] (by rfl) rfl rfl (by (try simp only [List.map_toArray, List.map_cons, List.map_nil]); first | done | (rw [show y401.length = m.length from (Kd.R_reads' HO_398002.out).1.symm] <;> rfl) | rfl | (simp only [List.length_drop, List.length_take]; rfl)) ?_
     with_reducible refine (impl_led.calls _ _ y401 _ _ (rd_L3 t382 (s.f0)) t403 _ ?side1 ?side2 ?side3 ?side4 A36.out).mono ?_
     (case side1 => exact Cz ((Kd.R_reads' HO_398002.out).2.2))
     (case side2 => rw [show y401.length = m.length from (Kd.R_reads' HO_398002.out).1.symm]; exact (Kd.R_reads' HO_398002.out).2.1)
     (case side3 => repeat (first | exact ((Kd.R_reads' (Rz HL400_0.out)).2.2) | (with_reducible refine Kd.C_alloc ?_ _) | (with_reducible refine Kd.C_drewN ?_ _) | (with_reducible refine Kd.C_drew ?_)))
     (case side4 => exact HC400_0.out)
     rintro e w' ⟨rfl, ⟨nd, rfl⟩⟩; refine ⟨_, rfl, ?_⟩; have p37 : 0 ≤ ((s.f1) : Int) := dT; have q37 : ((s.f1) : Int) < ((m.length : Int) : Int) := dT; obtain ⟨hx37_0, hf37_0⟩ := Kd.R_celln 0 HO_398002.out ((s.f1) : Int) p37 q37; replace p37 := eq_true p37; replace q37 := eq_true q37; have HP53 := Kd.R_putn HO_398002.out ((s.f1) : Int) (Int.tmod (wrap64 ((wrap64 (t402 - t403)) + 3)) 3); rw [← Ny404.out] at HP53; have HQ53 := am HP53; clear HP53; refine hK.out _ _ ⟨cz BK397 0, cz BK397 1, cz BK397 2, cz BK399 0, cz BK399 1⟩ (fun hHeld => ?_); clear hK K; refine norm_ (a' := ?_) ?_ ?_; rotate_left; show Act.put _ (some 65) _ = _; simp only [aP, i64_w, i32_w]; rfl; refine pZ 12 (some 66) (bA 17 8191) HT_.out ?_; refine pZ 13 (some 67) (bA 17 16383) HT_.out ?_; refine pZ 14 (some 68) (bA 17 32767) HT_.out ?_; refine pZ 15 (some 69) (bA 17 65535) HT_.out ?_; refine lZ 16 none (bA 17 131071) HT_.out (fun K hK => ?_); refine skip_ (w1 := ?_) (by rfl) rfl ?_ ?_
     rotate_left
     ·go_simp
      rfl
     refine hK.out _ _ ?_; clear hK K; refine done_ (done_of HT_.out (by kernel_rfl)) ?_
     simp only [Exit.inBlock, Exit.then]
     rw [HST.out]
     refine ⟨by trivial, by repeat (first | exact HGW.out | apply grown_set | apply grown_drewN | apply grown_drew), HYL.out.trans HLN.out, ?_⟩
     refine R_int_ok (ok := fun _ => True) ?_
     first | exact HQ53.out | exact Rz HQ53.out
    case done =>
     intro D m W hD hm hlen hG hR hK
     obtain rfl : r3 = m := (hm.trans er2).symm
     have n2_ : Aside0 (Kd.R (Kd.int .i64) 3 W w.heap.size (fun _ => True) (.slice (some ⟨go34, 0, none⟩) r3.length co21) r3) := ⟨Kd.R_mono hR (fun _ _ => trivial)⟩
     have n3_ : Aside0 (W.heap[gb380]? = some (.cells #[.int .i64 0, .int .i64 0, (.slice none 0 0)] 29 (0, 0))) := ⟨by first | exact blk_grown BK380.out hG (Kd.R_ne HO_398002.out BK380.out (by decide)) | (rw [hlen]; exact blk_grown BK380.out hG (Kd.R_ne HO_398002.out BK380.out (by decide)))⟩
     have n4_ : Aside0 (W.heap[gb386]? = some (.cells #[.int .i64 t381, (.slice Ao14 t382.length co14)] 35 (0, 0))) := ⟨by first | exact blk_grown BK386.out hG (Kd.R_ne HO_398002.out BK386.out (by decide)) | (rw [hlen]; exact blk_grown BK386.out hG (Kd.R_ne HO_398002.out BK386.out (by decide)))⟩
     have n5_ : Aside0 (W.heap[gb397]? = some (.cells #[.int .i64 a0, .int .i64 a2, (.slice (some ⟨go34, 0, none⟩) r3.length co21)] 29 (0, 0))) := ⟨by first | exact blk_grown BK397.out hG (Kd.R_ne HO_398002.out BK397.out (by decide)) | (rw [hlen]; exact blk_grown BK397.out hG (Kd.R_ne HO_398002.out BK397.out (by decide)))⟩
     have n6_ : Aside0 (Below w.heap.size w W) := ⟨HB.out.grown hG (below_size (w := w) HB.out) (fun k_ e_ => by cases e_; exact gb34)⟩
     have hneD : D ≠ gb380 := by have := blk_lt BK380.out; omega
     have hneG : D ≠ go34 := by omega
     have hDb : w.heap.size ≤ D := Nat.le_trans (below_size (w := w) HB.out) hD
     have HLN := am hlen; have HD_ := am hD; have HK_ := am hK; clear hlen hD hK hm hall hG hR BKB HO_39 HO_387001 HO_398002 BK380 BK386 BK397 HB; revert n2_ n3_ n4_ n5_ n6_; intro HO_398002 BK380 BK386 BK397 HB
     have hnb54 := NB397_380.out
     have hnc54 := NB380_397.out
     have hnb55 := NB397_386.out
     have hnc55 := NB386_397.out
     obtain ⟨hcz56_0, hcz56_1, hcz56_2, hfz56_0, hfz56_1, hfz56_2⟩ := cf3 (w := W) BK397
     have hnb57 := NB380_386.out
     have hnc57 := NB386_380.out
     obtain ⟨hcz58_0, hcz58_1, hcz58_2, hfz58_0, hfz58_1, hfz58_2⟩ := cf3 (w := W) BK380
     go_wp2
     refine bodyPostM_mark (D := D) rfl (by repeat (first | exact HK_.out | refine (Below.heap_setCell _ _ _ D hneD).trans ?_)) (results_ct rfl _ _ gb380 29 #[.int .i64 a0, .int .i64 a2, .slice (some ⟨go34, 0, none⟩) r3.length co21] (0, 0) _ rfl ((World.putObj_heap_other hneD.symm).trans (by (with_reducible repeat (first | refine blk_drewN ?_ _ | refine blk_drew ?_ | refine blk_alloc ?_ _)); refine blk_put (cs := #[.int .i64 a0, .int .i64 a2, .slice none 0 0]) ?_ 2 _ rfl; (with_reducible repeat (first | refine blk_drewN ?_ _ | refine blk_drew ?_ | refine blk_alloc ?_ _)); refine blk_put (cs := #[.int .i64 a0, .int .i64 0, .slice none 0 0]) ?_ 1 _ rfl; (with_reducible repeat (first | refine blk_drewN ?_ _ | refine blk_drew ?_ | refine blk_alloc ?_ _)); refine blk_put (cs := #[.int .i64 0, .int .i64 0, .slice none 0 0]) ?_ 0 _ rfl; exact Kz BK380.out)) Tryz.underlying29 rfl (by kernel_rfl)) ?_; refine ⟨_, eZ, ?_, ?_⟩
     ·refine Kd.R_mono (R_only (w := _) (R_int_ok (ok := fun _ => True) ?_) (grownBy_putObj' _ D _) (fun r_ e_ => by cases e_; exact hneG)) (fun _ _ => trivial)
      exact Rz (Kd.R_mono (Kd.R_far (p := ⟨gb380, 2, none⟩) (Kd.R_far (p := ⟨gb380, 1, none⟩) (Kd.R_far (p := ⟨gb380, 0, none⟩) (Kd.R_types HO_398002.out BK380.out (by decide)) (fun _ hk => hk.2) (.int .i64 a0)) (fun _ hk => hk.2) (.int .i64 a2)) (fun _ hk => hk.2) (.slice (some ⟨go34, 0, none⟩) r3.length co21)) (fun _ hk => trivial))
     ·refine Below.grown (w := _) (?_ : Below w.heap.size w _) (grownBy_putObj' _ D _) ?_ (fun k_ e_ => by cases e_; exact hDb)
      ·exact Bq
      ·exact below_size (w := w) Bq
  ·replace c7 := Bool.eq_false_iff.mpr c7
   subst c7
   rw [if_neg (show ¬ (false = true) by decide)] at H
   simp only [Option.some.injEq, Prod.mk.injEq] at H
   obtain ⟨rfl, rfl, rfl, rfl⟩ := H
   let bp_ : Exit → Act → World → Prop := bodyPost Tryz.prog Tryz.f6 (fun _ _ => True); refine calls_marks Tryz.func6 rfl ?_; simp only [Tryz.ntmps6, List.size_toArray, List.length_cons, List.length_nil, Nat.reduceAdd, Nat.reduceSub, Array.replicate_succ, Array.replicate_zero, List.push_toArray, List.append_toArray, List.nil_append, List.cons_append]
   go_wp2_with (first | ((with_reducible refine gate_dst (N := 6) rfl ?_); refine bE 6 #[.int .i64 0, .int .i64 0, .slice none 0 0] 29 ?_; intro gb380 hg w60 hbox hb; have n0_ := Bb HB hb; have n1_ := am (hbox); have n2_ := Gl HB hg; have n3_ := Gl HB hg; clear HB; revert n0_ n1_ n2_ n3_; intro HB BK380 GW380 GE380; clear hb hbox hg) | ((with_reducible refine gate_callee (f := 9) rfl ?_); refine gL (some 19) Tryz.func9 #[.int .i64 a0, .slice A1 l1.length c1, .int .i64 a2] ?_; (with_reducible refine (impl_HyperOf.calls k a0 _ _ l1 a2 t381 t382 true _ ?side1 ?side2 A4.out).mono ?_); (case side1 => exact Cz (Kd.C_below HR1.out HB.out)); (case side2 => exact HC1.out); rintro e w61 ⟨v383, rfl, ho0, hb⟩; refine ⟨_, rfl, ?_⟩; have n0_ := am (Kd.S_lower ho0 (below_size (w := w) (Bq))); have n1_ := Kb BK380 hb; have n2_ := Bc HB hb; clear BK380 HB; revert n0_ n1_ n2_; intro HO384 BK380 HB; (try clear hb); (try clear hb2); (try clear hk); (try clear hi); (try clear ho0)) | ((with_reducible refine gate_dst (N := 8) rfl ?_); refine bE 8 #[.int .i64 0, .slice none 0 0] 35 ?_; intro gb386 hg w62 hbox hb; have n0_ := am (Kd.S_below (by (with_reducible repeat (first | apply Kd.S_alloc | apply Kd.S_drewN | apply Kd.S_drew)); exact HO384.out) hb); have n1_ := Kb BK380 hb; have n2_ := Bc HB hb; have n3_ := am (hbox); have n4_ := Gm HB hg; have n5_ := Gm HB hg; have n6_ := Nl BK380 hg; have n7_ := Ng BK380 hg; clear HO384 BK380 HB; revert n0_ n1_ n2_ n3_ n4_ n5_ n6_ n7_; intro HO384 BK380 HB BK386 GW386 GE386 NB380_386 NB386_380; clear hb hbox hg; have hnb63 := NB386_380.out; have hnc63 := NB380_386.out; obtain ⟨hcz64_0, hcz64_1, hfz64_0, hfz64_1⟩ := cf2 (w := w62) BK386; obtain ⟨Ao65, co65, eo65⟩ := Kd.S_slice HO384.out; subst eo65) | ((with_reducible refine gate_callee (f := 26) rfl ?_); refine gL (some 26) Tryz.func26 #[.pointer (some ⟨gb386, 0, none⟩)] ?_; (with_reducible refine (impl_Hyper_order.calls k gb386 t381 Ao65 co65 t382 t387 false _ ?side1 ?side2 ?side3 A6.out).mono ?_); (case side1 => (with_reducible repeat (first | refine blk_drewN ?_ _ | refine blk_drew ?_ | refine blk_alloc ?_ _)); refine blk_put (cs := #[.int .i64 t381, .slice none 0 0]) ?_ 1 _ rfl; (with_reducible repeat (first | refine blk_drewN ?_ _ | refine blk_drew ?_ | refine blk_alloc ?_ _)); refine blk_put (cs := #[.int .i64 0, .slice none 0 0]) ?_ 0 _ rfl; exact Kz BK386.out); (case side2 => refine (Kd.S_reads' (e := 27) (base := w.heap.size) (ok := fun k_ => True) (n := t382.length) (c := co65) ?_).2.2; exact (by (with_reducible repeat (first | apply Kd.S_alloc | apply Kd.S_drewN | apply Kd.S_drew)); exact (Kd.S_mono (Kd.S_far (p := ⟨gb386, 1, none⟩) (Kd.S_far (p := ⟨gb386, 0, none⟩) (Kd.S_types HO384.out BK386.out (by decide)) (fun _ hk => hk.2) (.int .i64 t381)) (fun _ hk => hk.2) (.slice Ao65 t382.length co65)) (fun _ h_ => h_.1)))); (case side3 => exact (Kd.S_reads' HO384.out).2.1); rintro e w66 ⟨v389, rfl, ho0, hb⟩; refine ⟨_, rfl, ?_⟩; have n0_ := am (Kd.S_below (by (with_reducible repeat (first | apply Kd.S_alloc | apply Kd.S_drewN | apply Kd.S_drew)); exact (Kd.S_mono (Kd.S_far (p := ⟨gb386, 1, none⟩) (Kd.S_far (p := ⟨gb386, 0, none⟩) (Kd.S_types HO384.out BK386.out (by decide)) (fun _ hk => hk.2) (.int .i64 t381)) (fun _ hk => hk.2) (.slice Ao65 t382.length co65)) (fun _ h_ => h_.1))) hb); have n1_ := Rm ho0 HB; have n2_ := am (blk_below (g := gb380) (o := .cells #[.int .i64 0, .int .i64 0, .slice none 0 0] 29 (0, 0)) (by (with_reducible repeat (first | refine blk_drewN ?_ _ | refine blk_drew ?_ | refine blk_alloc ?_ _)); refine blk_far ?_ NB380_386.out _; (with_reducible repeat (first | refine blk_drewN ?_ _ | refine blk_drew ?_ | refine blk_alloc ?_ _)); refine blk_far ?_ NB380_386.out _; exact Kz BK380.out) hb); have n3_ := am (blk_below (g := gb386) (o := .cells #[.int .i64 t381, .slice Ao65 t382.length co65] 35 (0, 0)) (by (with_reducible repeat (first | refine blk_drewN ?_ _ | refine blk_drew ?_ | refine blk_alloc ?_ _)); refine blk_put (cs := #[.int .i64 t381, .slice none 0 0]) ?_ 1 _ rfl; (with_reducible repeat (first | refine blk_drewN ?_ _ | refine blk_drew ?_ | refine blk_alloc ?_ _)); refine blk_put (cs := #[.int .i64 0, .slice none 0 0]) ?_ 0 _ rfl; exact Kz BK386.out) hb); have n4_ := Bc HB hb; clear HO384 BK380 BK386 HB; revert n0_ n1_ n2_ n3_ n4_; intro HO384 HO390 BK380 BK386 HB; (try clear hb); (try clear hb2); (try clear hk); (try clear hi); (try clear ho0); obtain ⟨hcz67_0, hcz67_1, hcz67_2, hfz67_0, hfz67_1, hfz67_2⟩ := cf3 (w := w66) BK380))
   refine bodyPostM_ret (results_ct rfl _ _ gb380 29 #[.int .i64 0, .int .i64 0, .slice none 0 0] (0, 0) _ rfl (by (with_reducible repeat (first | refine blk_drewN ?_ _ | refine blk_drew ?_ | refine blk_alloc ?_ _)); refine blk_put (cs := #[.int .i64 0, .int .i64 0, .slice none 0 0]) ?_ 2 _ rfl; (with_reducible repeat (first | refine blk_drewN ?_ _ | refine blk_drew ?_ | refine blk_alloc ?_ _)); refine blk_put (cs := #[.int .i64 0, .int .i64 0, .slice none 0 0]) ?_ 1 _ rfl; (with_reducible repeat (first | refine blk_drewN ?_ _ | refine blk_drew ?_ | refine blk_alloc ?_ _)); refine blk_put (cs := #[.int .i64 0, .int .i64 0, .slice none 0 0]) ?_ 0 _ rfl; exact Kz BK380.out) Tryz.underlying29 rfl (by kernel_rfl)) rfl ?_; exact ⟨_, eZ, nZ, Bq⟩
 ·replace c5 := Bool.eq_false_iff.mpr c5
  subst c5
  rw [if_neg (show ¬ (false = true) by decide)] at H
  simp only [Option.some.injEq, Prod.mk.injEq] at H
  obtain ⟨rfl, rfl, rfl, rfl⟩ := H
  let bp_ : Exit → Act → World → Prop := bodyPost Tryz.prog Tryz.f6 (fun _ _ => True); refine calls_marks Tryz.func6 rfl ?_; simp only [Tryz.ntmps6, List.size_toArray, List.length_cons, List.length_nil, Nat.reduceAdd, Nat.reduceSub, Array.replicate_succ, Array.replicate_zero, List.push_toArray, List.append_toArray, List.nil_append, List.cons_append]
  go_wp2_with (first | ((with_reducible refine gate_dst (N := 6) rfl ?_); refine bE 6 #[.int .i64 0, .int .i64 0, .slice none 0 0] 29 ?_; intro gb380 hg w68 hbox hb; have n0_ := Bb HB hb; have n1_ := am (hbox); have n2_ := Gl HB hg; have n3_ := Gl HB hg; clear HB; revert n0_ n1_ n2_ n3_; intro HB BK380 GW380 GE380; clear hb hbox hg) | ((with_reducible refine gate_callee (f := 9) rfl ?_); refine gL (some 19) Tryz.func9 #[.int .i64 a0, .slice A1 l1.length c1, .int .i64 a2] ?_; (with_reducible refine (impl_HyperOf.calls k a0 _ _ l1 a2 t381 t382 false _ ?side1 ?side2 A4.out).mono ?_); (case side1 => exact Cz (Kd.C_below HR1.out HB.out)); (case side2 => exact HC1.out); rintro e w69 ⟨v383, rfl, ho0, hb⟩; refine ⟨_, rfl, ?_⟩; have n0_ := am (Kd.S_lower ho0 (below_size (w := w) (Bq))); have n1_ := Kb BK380 hb; have n2_ := Bc HB hb; clear BK380 HB; revert n0_ n1_ n2_; intro HO384 BK380 HB; (try clear hb); (try clear hb2); (try clear hk); (try clear hi); (try clear ho0)) | ((with_reducible refine gate_dst (N := 8) rfl ?_); refine bE 8 #[.int .i64 0, .slice none 0 0] 35 ?_; intro gb386 hg w70 hbox hb; have n0_ := am (Kd.S_below (by (with_reducible repeat (first | apply Kd.S_alloc | apply Kd.S_drewN | apply Kd.S_drew)); exact HO384.out) hb); have n1_ := Kb BK380 hb; have n2_ := Bc HB hb; have n3_ := am (hbox); have n4_ := Gm HB hg; have n5_ := Gm HB hg; have n6_ := Nl BK380 hg; have n7_ := Ng BK380 hg; clear HO384 BK380 HB; revert n0_ n1_ n2_ n3_ n4_ n5_ n6_ n7_; intro HO384 BK380 HB BK386 GW386 GE386 NB380_386 NB386_380; clear hb hbox hg; have hnb71 := NB386_380.out; have hnc71 := NB380_386.out; obtain ⟨hcz72_0, hcz72_1, hfz72_0, hfz72_1⟩ := cf2 (w := w70) BK386; obtain ⟨Ao73, co73, eo73⟩ := Kd.S_slice HO384.out; subst eo73; obtain ⟨hcz74_0, hcz74_1, hcz74_2, hfz74_0, hfz74_1, hfz74_2⟩ := cf3 (w := w70) BK380))
  refine bodyPostM_ret (results_ct rfl _ _ gb380 29 #[.int .i64 0, .int .i64 0, .slice none 0 0] (0, 0) _ rfl (by (with_reducible repeat (first | refine blk_drewN ?_ _ | refine blk_drew ?_ | refine blk_alloc ?_ _)); refine blk_put (cs := #[.int .i64 0, .int .i64 0, .slice none 0 0]) ?_ 2 _ rfl; (with_reducible repeat (first | refine blk_drewN ?_ _ | refine blk_drew ?_ | refine blk_alloc ?_ _)); refine blk_put (cs := #[.int .i64 0, .int .i64 0, .slice none 0 0]) ?_ 1 _ rfl; (with_reducible repeat (first | refine blk_drewN ?_ _ | refine blk_drew ?_ | refine blk_alloc ?_ _)); refine blk_put (cs := #[.int .i64 0, .int .i64 0, .slice none 0 0]) ?_ 0 _ rfl; (with_reducible repeat (first | refine blk_drewN ?_ _ | refine blk_drew ?_ | refine blk_alloc ?_ _)); refine blk_far ?_ NB380_386.out _; (with_reducible repeat (first | refine blk_drewN ?_ _ | refine blk_drew ?_ | refine blk_alloc ?_ _)); refine blk_far ?_ NB380_386.out _; exact Kz BK380.out) Tryz.underlying29 rfl (by kernel_rfl)) rfl ?_; exact ⟨_, eZ, nZ, Bq⟩
def spec_l1In.f (a0 : Int) (a1 : Int) (a2 : Int) : Option (Bool) := if a0 ≥ a1 then (some (decide (a0 ≤ a2))) else (some false)
theorem spec_l1In.calls (a0 : Int) (a1 : Int) (a2 : Int) (r : Bool) (w : World) (h : spec_l1In.f a0 a1 a2 = some r) :
  Calls Tryz.prog 67 #[.int .i64 a0, .int .i64 a1, .int .i64 a2] w fun e w' => e = .returned (.bool r) ∧ Drawn0 w w' := by
 have H : (if a0 ≥ a1 then (some (decide (a0 ≤ a2))) else (some false)) = some r := h; clear h
 by_cases c4 : a0 ≥ a1
 ·rw [if_pos c4] at H
  have c4b0 : decide (a1 ≤ a0) = true := decide_eq_true c4; clear c4; obtain rfl := Option.some.inj H
  go_enter Tryz.func67, Tryz.ntmps67
  go_wp2
  go_ret
  exact ⟨by first | rfl | (simp; done) | (simp [*]; done), by repeat (first | exact Drawn0.refl _ | apply Drawn0.step)⟩
 ·rw [if_neg c4] at H
  have c4b0 : decide (a1 ≤ a0) = false := decide_eq_false c4; clear c4; obtain rfl := Option.some.inj H
  go_enter Tryz.func67, Tryz.ntmps67
  go_wp2
  go_ret
  exact ⟨by first | rfl | (simp; done) | (simp [*]; done), by repeat (first | exact Drawn0.refl _ | apply Drawn0.step)⟩

def spec_IsKey.l0 : Nat → ByteArray → Int → Option (Bool)
 | 0, _, _ => none
 | k + 1, x0, x3 => if x3 < (x0.size : Int) then (if 0 ≤ x3 then (if (bt x0 x3) < 33 then (some false) else (if (bt x0 x3) > 125 then (some false) else (spec_IsKey.l0 k x0 (wrap64 (x3 + 1))))) else (none)) else ((spec_l1In.f (x0.size : Int) 1 12).bind fun t405 => (some t405))
def spec_IsKey.f (k : Nat) (a0 : ByteArray) : Option (Bool) := spec_IsKey.l0 k a0 0
theorem spec_IsKey.calls (k : Nat) (a0 : ByteArray) (r : Bool) (w : World) (h : spec_IsKey.f k a0 = some r) :
  Calls Tryz.prog 99 #[.string a0] w fun e w' => e = .returned (.bool r) ∧ Drawn0 w w' := by
 have H : (spec_IsKey.l0 k a0 0) = some r := h; clear h; have H' := am H; clear H
 go_enter Tryz.func99, Tryz.ntmps99
 go_wp2
 go_loopg [3] k (fun kq v3 w' => ∃ (x3_1 : Int), v3 = .int .i64 x3_1 ∧ Aside0 (spec_IsKey.l0 kq a0 x3_1 = some r) ∧ Aside0 (kq ≤ k) ∧ Drawn0 w w')
 case atStart => exact ⟨(0), wZ, H', ⟨Nat.le_refl _⟩, by repeat (first | exact Drawn0.refl _ | apply Drawn0.step)⟩
 case round =>
  clear H'; obtain ⟨x3_1, rfl, HA, HK1, ⟨m1, rfl⟩⟩ := hrel; cases gk with
  | zero => exact absurd HA.out (by simp [spec_IsKey.l0])
  | succ k1 =>
   have H := HA.out; clear HA
   simp only [spec_IsKey.l0] at H
   by_cases c2 : x3_1 < (a0.size : Int)
   ·rw [if_pos c2] at H
    have c2b0 : decide (x3_1 < (a0.size : Int)) = true := decide_eq_true c2; clear c2
    by_cases c3 : 0 ≤ x3_1
    ·rw [if_pos c3] at H
     have c3b0 : decide (0 ≤ x3_1) = true := decide_eq_true c3; clear c3
     by_cases c5 : (bt a0 x3_1) < 33
     ·rw [if_pos c5] at H
      have c5b0 : decide ((bt a0 x3_1) < 33) = true := decide_eq_true c5; clear c5; obtain rfl := Option.some.inj H; have p4 : 0 ≤ (x3_1 : Int) := dT; have q4 : x3_1 < (a0.size : Int) := dT; have hx4 := bt_at a0 x3_1; replace p4 := eq_true p4; replace q4 := eq_true q4
      go_wp2
      go_ret
      exact ⟨by first | rfl | (simp; done) | (simp [*]; done), by repeat (first | exact Drawn0.refl _ | apply Drawn0.step)⟩
     ·rw [if_neg c5] at H
      have c5b0 : decide ((bt a0 x3_1) < 33) = false := decide_eq_false c5; clear c5
      by_cases c7 : (bt a0 x3_1) > 125
      ·rw [if_pos c7] at H
       have c7b0 : decide (125 < (bt a0 x3_1)) = true := decide_eq_true c7; clear c7; obtain rfl := Option.some.inj H; have p4 : 0 ≤ (x3_1 : Int) := dT; have q4 : x3_1 < (a0.size : Int) := dT; have hx4 := bt_at a0 x3_1; replace p4 := eq_true p4; replace q4 := eq_true q4; have p6 : 0 ≤ (x3_1 : Int) := dT; have q6 : x3_1 < (a0.size : Int) := dT; have hx6 := bt_at a0 x3_1; replace p6 := eq_true p6; replace q6 := eq_true q6
       go_wp2
       go_ret
       exact ⟨by first | rfl | (simp; done) | (simp [*]; done), by repeat (first | exact Drawn0.refl _ | apply Drawn0.step)⟩
      ·rw [if_neg c7] at H
       have c7b0 : decide (125 < (bt a0 x3_1)) = false := decide_eq_false c7; clear c7; have H' := am H; clear H; have p4 : 0 ≤ (x3_1 : Int) := dT; have q4 : x3_1 < (a0.size : Int) := dT; have hx4 := bt_at a0 x3_1; replace p4 := eq_true p4; replace q4 := eq_true q4; have p6 : 0 ≤ (x3_1 : Int) := dT; have q6 : x3_1 < (a0.size : Int) := dT; have hx6 := bt_at a0 x3_1; replace p6 := eq_true p6; replace q6 := eq_true q6
       go_wp2
       go_roundg k1
       case measure => have := HK1.out; omega
       case rel => exact ⟨(wrap64 (x3_1 + 1)), wZ, H', ⟨by have := HK1.out; omega⟩, by repeat (first | exact Drawn0.refl _ | apply Drawn0.step)⟩
    ·rw [if_neg c3] at H
     exact absurd H (by simp)
   ·rw [if_neg c2] at H
    have c2b0 : decide (x3_1 < (a0.size : Int)) = false := decide_eq_false c2; clear c2; replace H := Option.bind_eq_some_iff.mp H; obtain ⟨t405, A80, H⟩ := H; (try dsimp -simprocs only at H); have A8 := am A80; clear A80; obtain rfl := Option.some.inj H
    go_wp2_with (first | ((with_reducible refine gate_callee (f := 67) rfl ?_); refine gL (some 22) Tryz.func67 #[.int .i64 (a0.size : Int), .int .i64 1, .int .i64 12] ?_; (with_reducible refine (spec_l1In.calls (a0.size : Int) 1 12 t405 _ A8.out).mono ?_); rintro e w' ⟨rfl, ⟨nd, rfl⟩⟩; refine ⟨_, rfl, ?_⟩))
    go_ret
    exact ⟨by first | rfl | (simp; done) | (simp [*]; done), by repeat (first | exact Drawn0.refl _ | apply Drawn0.step)⟩

end Go.Proofs.YtmehagedoaopeaaGreat.PZ
-- printed by a program of this session (wip/gp) out of the translation; Lean checks it
namespace Go.Proofs.YtmehagedoaopeaaGreat.PZ
open Go.RowKit Go.Proofs.YtmehagedoaopeaaGreatW.PrintWords Go.Proofs.YtmehagedoaopeaaGreatW.PrintLast Go.Proofs.YtmehagedoaopeaaGreatW.PrintMore Go.Proofs.YtmehagedoaopeaaGreatSq
attribute [local go_sem] max2_int min2_int max_two min_two max_three min_three max_four min_four   -- for this text's walks alone
attribute [local go_sem] Go.Proofs.YtmehagedoaopeaaGreatGp.str_geq Go.Proofs.YtmehagedoaopeaaGreatGp.str_gtr Go.Proofs.YtmehagedoaopeaaGreatGp.str_leq
set_option linter.unusedVariables false
set_option linter.unusedSimpArgs false

set_option maxHeartbeats 8000000
set_option maxRecDepth 100000
def spec_biKeys.l0 : Nat → List ByteArray → List ByteArray → Int → Int → Option (Bool)
 | 0, _, _, _, _ => none
 | k + 1, x0, x5, x6, x7 => if x7 < x6 then (if 0 ≤ x7 then (if x7 < (x5.length : Int) then ((spec_IsKey.f k (rdOf ByteArray.empty x5 x7)).bind fun t407 => (if t407 = true then (if x7 > 0 then (if 0 ≤ (wrap64 (x7 - 1)) then (if (wrap64 (x7 - 1)) < (x0.length : Int) then (if ((Op.bytesLess ((rdOf ByteArray.empty x0 (wrap64 (x7 - 1))).toList) ((rdOf ByteArray.empty x5 x7).toList)) = true) then (spec_biKeys.l0 k x0 x5 x6 (wrap64 (x7 + 1))) else (some false)) else (none)) else (none)) else (spec_biKeys.l0 k x0 x5 x6 (wrap64 (x7 + 1)))) else (some false))) else (none)) else (none)) else (some (decide ((x0.length : Int) ≤ 40)))
def spec_biKeys.f (k : Nat) (l0 : List ByteArray) : Option (Bool) := spec_biKeys.l0 k l0 l0 (l0.length : Int) 0
theorem spec_biKeys.calls (k : Nat) (A0 : Option Addr) (c0 : Nat) (l0 : List ByteArray) (r : Bool) (w : World) (hr0 : Kd.C Kd.string w A0 l0.length l0) (hc0 : l0.length ≤ c0) (h : spec_biKeys.f k l0 = some r) :
  Calls Tryz.prog 68 #[.slice A0 l0.length c0] w fun e w' => e = .returned (.bool r) ∧ Drawn0 w w' := by
 have HR0 := am hr0; have HC0 := am hc0; clear hr0 hc0; have H : (spec_biKeys.l0 k l0 l0 (l0.length : Int) 0) = some r := h; clear h; have H' := am H; clear H
 go_enter Tryz.func68, Tryz.ntmps68
 go_wp2
 go_loopg [7] k (fun kq v7 w' => ∃ (x7_1 : Int), v7 = .int .i64 x7_1 ∧ Aside0 (spec_biKeys.l0 kq l0 l0 (l0.length : Int) x7_1 = some r) ∧ Aside0 (kq ≤ k) ∧ Drawn0 w w')
 case atStart => exact ⟨(0), wZ, H', ⟨Nat.le_refl _⟩, by repeat (first | exact Drawn0.refl _ | apply Drawn0.step)⟩
 case round =>
  clear H'; obtain ⟨x7_1, rfl, HA, HK1, ⟨m1, rfl⟩⟩ := hrel; cases gk with
  | zero => exact absurd HA.out (by simp [spec_biKeys.l0])
  | succ k1 =>
   have H := HA.out; clear HA
   simp only [spec_biKeys.l0] at H
   by_cases c2 : x7_1 < (l0.length : Int)
   ·rw [if_pos c2] at H
    have c2b0 : decide (x7_1 < (l0.length : Int)) = true := decide_eq_true c2; clear c2
    by_cases c3 : 0 ≤ x7_1
    ·rw [if_pos c3] at H
     have c3b0 : decide (0 ≤ x7_1) = true := decide_eq_true c3; clear c3
     by_cases c4 : x7_1 < (l0.length : Int)
     ·rw [if_pos c4] at H
      have c4b0 : decide (x7_1 < (l0.length : Int)) = true := decide_eq_true c4; clear c4; replace H := Option.bind_eq_some_iff.mp H; obtain ⟨t407, A50, H⟩ := H; (try dsimp -simprocs only at H); have A5 := am A50; clear A50
      by_cases c6 : t407 = true
      ·subst c6
       rw [if_pos rfl] at H
       by_cases c7 : x7_1 > 0
       ·rw [if_pos c7] at H
        have c7b0 : decide (0 < x7_1) = true := decide_eq_true c7; clear c7; obtain ⟨ji8, hji8⟩ : ∃ j_ : Int, (wrap64 (x7_1 - 1)) = j_ := ⟨_, rfl⟩
        replace H : (if 0 ≤ (ji8) then (if (ji8) < (l0.length : Int) then (if ((Op.bytesLess ((rdOf ByteArray.empty l0 (ji8)).toList) ((rdOf ByteArray.empty l0 x7_1).toList)) = true) then (spec_biKeys.l0 k1 l0 l0 (l0.length : Int) (wrap64 (x7_1 + 1))) else (some false)) else (none)) else (none)) = some r := by first | (rw [hji8] at H; exact H) | (simp only [hji8] at H ⊢; exact H)
        (try rw [hji8] at A5)
        have hji8w : (IntKind.i64.wrap (x7_1 - 1)) = ji8 := (i64_w _).trans hji8
        by_cases c9 : 0 ≤ (ji8)
        ·rw [if_pos c9] at H
         have c9b0 : decide (0 ≤ (ji8)) = true := decide_eq_true c9; clear c9
         by_cases c10 : (ji8) < (l0.length : Int)
         ·rw [if_pos c10] at H
          have c10b0 : decide ((ji8) < (l0.length : Int)) = true := decide_eq_true c10; clear c10
          by_cases c11 : ((Op.bytesLess ((rdOf ByteArray.empty l0 (ji8)).toList) ((rdOf ByteArray.empty l0 x7_1).toList)) = true)
          ·rw [if_pos c11] at H
           have c11b0 : (Op.bytesLess ((rdOf ByteArray.empty l0 (ji8)).toList) ((rdOf ByteArray.empty l0 x7_1).toList)) = true := c11; clear c11; have H' := am H; clear H; obtain ⟨ad406, e406, hx406_0⟩ := Kd.at_string HR0.out x7_1 dT dT; cases e406; have p406 := eT (0 ≤ (x7_1 : Int)); have q406 := eT (x7_1 < (l0.length : Int))
           go_wp2_with (first | ((with_reducible refine gate_callee (f := 99) rfl ?_); refine gL (some 13) Tryz.func99 #[.string (rdOf ByteArray.empty l0 x7_1)] ?_; (with_reducible refine (spec_IsKey.calls k1 (rdOf ByteArray.empty l0 x7_1) true _ A5.out).mono ?_); rintro e w' ⟨rfl, ⟨nd, rfl⟩⟩; refine ⟨_, rfl, ?_⟩; have p408 : 0 ≤ ((ji8) : Int) := dT; have q408 : (ji8) < (l0.length : Int) := dT; obtain ⟨ad408, e408, hx408_0⟩ := Kd.at_string HR0.out (ji8) p408 q408; obtain rfl : ad406 = ad408 := (by injection e408); replace p408 := eq_true p408; replace q408 := eq_true q408))
           go_roundg k1
           case measure => have := HK1.out; omega
           case rel => exact ⟨(wrap64 (x7_1 + 1)), wZ, H', ⟨by have := HK1.out; omega⟩, by repeat (first | exact Drawn0.refl _ | apply Drawn0.step)⟩
          ·rw [if_neg c11] at H
           have c11b0 : (Op.bytesLess ((rdOf ByteArray.empty l0 (ji8)).toList) ((rdOf ByteArray.empty l0 x7_1).toList)) = false := by simpa using c11
           clear c11; obtain rfl := Option.some.inj H; obtain ⟨ad406, e406, hx406_0⟩ := Kd.at_string HR0.out x7_1 dT dT; cases e406; have p406 := eT (0 ≤ (x7_1 : Int)); have q406 := eT (x7_1 < (l0.length : Int))
           go_wp2_with (first | ((with_reducible refine gate_callee (f := 99) rfl ?_); refine gL (some 13) Tryz.func99 #[.string (rdOf ByteArray.empty l0 x7_1)] ?_; (with_reducible refine (spec_IsKey.calls k1 (rdOf ByteArray.empty l0 x7_1) true _ A5.out).mono ?_); rintro e w' ⟨rfl, ⟨nd, rfl⟩⟩; refine ⟨_, rfl, ?_⟩; have p408 : 0 ≤ ((ji8) : Int) := dT; have q408 : (ji8) < (l0.length : Int) := dT; obtain ⟨ad408, e408, hx408_0⟩ := Kd.at_string HR0.out (ji8) p408 q408; obtain rfl : ad406 = ad408 := (by injection e408); replace p408 := eq_true p408; replace q408 := eq_true q408))
           go_ret
           exact ⟨by first | rfl | (simp; done) | (simp only [← hji8] <;> (first | rfl | simp)) | (simp [*]; done), by repeat (first | exact Drawn0.refl _ | apply Drawn0.step)⟩
         ·rw [if_neg c10] at H
          exact absurd H (by simp)
        ·rw [if_neg c9] at H
         exact absurd H (by simp)
       ·rw [if_neg c7] at H
        have c7b0 : decide (0 < x7_1) = false := decide_eq_false c7; clear c7; have H' := am H; clear H; obtain ⟨ad406, e406, hx406_0⟩ := Kd.at_string HR0.out x7_1 dT dT; cases e406; have p406 := eT (0 ≤ (x7_1 : Int)); have q406 := eT (x7_1 < (l0.length : Int))
        go_wp2_with (first | ((with_reducible refine gate_callee (f := 99) rfl ?_); refine gL (some 13) Tryz.func99 #[.string (rdOf ByteArray.empty l0 x7_1)] ?_; (with_reducible refine (spec_IsKey.calls k1 (rdOf ByteArray.empty l0 x7_1) true _ A5.out).mono ?_); rintro e w' ⟨rfl, ⟨nd, rfl⟩⟩; refine ⟨_, rfl, ?_⟩))
        go_roundg k1
        case measure => have := HK1.out; omega
        case rel => exact ⟨(wrap64 (x7_1 + 1)), wZ, H', ⟨by have := HK1.out; omega⟩, by repeat (first | exact Drawn0.refl _ | apply Drawn0.step)⟩
      ·replace c6 := Bool.eq_false_iff.mpr c6
       subst c6
       rw [if_neg (show ¬ (false = true) by decide)] at H; obtain rfl := Option.some.inj H; obtain ⟨ad406, e406, hx406_0⟩ := Kd.at_string HR0.out x7_1 dT dT; cases e406; have p406 := eT (0 ≤ (x7_1 : Int)); have q406 := eT (x7_1 < (l0.length : Int))
       go_wp2_with (first | ((with_reducible refine gate_callee (f := 99) rfl ?_); refine gL (some 13) Tryz.func99 #[.string (rdOf ByteArray.empty l0 x7_1)] ?_; (with_reducible refine (spec_IsKey.calls k1 (rdOf ByteArray.empty l0 x7_1) false _ A5.out).mono ?_); rintro e w' ⟨rfl, ⟨nd, rfl⟩⟩; refine ⟨_, rfl, ?_⟩))
       go_ret
       exact ⟨by first | rfl | (simp; done) | (simp [*]; done), by repeat (first | exact Drawn0.refl _ | apply Drawn0.step)⟩
     ·rw [if_neg c4] at H
      exact absurd H (by simp)
    ·rw [if_neg c3] at H
     exact absurd H (by simp)
   ·rw [if_neg c2] at H
    have c2b0 : decide (x7_1 < (l0.length : Int)) = false := decide_eq_false c2; clear c2; obtain rfl := Option.some.inj H
    go_wp2
    go_ret
    exact ⟨by first | rfl | (simp; done) | (simp [*]; done), by repeat (first | exact Drawn0.refl _ | apply Drawn0.step)⟩

def spec_peKeyed.f (k : Nat) (a0 : Int) (l1 : List ByteArray) (a2 : Int) : Option (Bool) := (spec_l1In.f a0 0 9999).bind fun t409 => (if t409 = true then ((spec_biKeys.f k l1).bind fun t410 => (if t410 = true then ((spec_l1In.f a2 1 24).bind fun t411 => (some t411)) else (some false))) else (some false))
theorem spec_peKeyed.calls (k : Nat) (a0 : Int) (A1 : Option Addr) (c1 : Nat) (l1 : List ByteArray) (a2 : Int) (r : Bool) (w : World) (hr1 : Kd.C Kd.string w A1 l1.length l1) (hc1 : l1.length ≤ c1) (h : spec_peKeyed.f k a0 l1 a2 = some r) :
  Calls Tryz.prog 31 #[.int .i64 a0, .slice A1 l1.length c1, .int .i64 a2] w fun e w' => e = .returned (.bool r) ∧ Drawn0 w w' := by
 have HR1 := am hr1; have HC1 := am hc1; clear hr1 hc1; have H : ((spec_l1In.f a0 0 9999).bind fun t409 => (if t409 = true then ((spec_biKeys.f k l1).bind fun t410 => (if t410 = true then ((spec_l1In.f a2 1 24).bind fun t411 => (some t411)) else (some false))) else (some false))) = some r := h; clear h; replace H := Option.bind_eq_some_iff.mp H; obtain ⟨t409, A40, H⟩ := H; (try dsimp -simprocs only at H); have A4 := am A40; clear A40
 by_cases c5 : t409 = true
 ·subst c5
  rw [if_pos rfl] at H; replace H := Option.bind_eq_some_iff.mp H; obtain ⟨t410, A60, H⟩ := H; (try dsimp -simprocs only at H); have A6 := am A60; clear A60
  by_cases c7 : t410 = true
  ·subst c7
   rw [if_pos rfl] at H; replace H := Option.bind_eq_some_iff.mp H; obtain ⟨t411, A80, H⟩ := H; (try dsimp -simprocs only at H); have A8 := am A80; clear A80; obtain rfl := Option.some.inj H
   go_enter Tryz.func31, Tryz.ntmps31
   go_wp2_with (first | ((with_reducible refine gate_callee (f := 67) rfl ?_); refine gL (some 8) Tryz.func67 #[.int .i64 a0, .int .i64 0, .int .i64 9999] ?_; (with_reducible refine (spec_l1In.calls a0 0 9999 true _ A4.out).mono ?_); rintro e w' ⟨rfl, ⟨nd, rfl⟩⟩; refine ⟨_, rfl, ?_⟩) | (go_at_call 68; (with_reducible refine (spec_biKeys.calls k _ _ l1 true _ ?side1 ?side2 A6.out).mono ?_); (case side1 => exact Cz HR1.out); (case side2 => exact HC1.out); rintro e w' ⟨rfl, ⟨nd, rfl⟩⟩) | (go_at_call 67; (with_reducible refine (spec_l1In.calls a2 1 24 t411 _ A8.out).mono ?_); rintro e w' ⟨rfl, ⟨nd, rfl⟩⟩))
   go_ret
   exact ⟨by first | rfl | (simp; done) | (simp [*]; done), by repeat (first | exact Drawn0.refl _ | apply Drawn0.step)⟩
  ·replace c7 := Bool.eq_false_iff.mpr c7
   subst c7
   rw [if_neg (show ¬ (false = true) by decide)] at H; obtain rfl := Option.some.inj H
   go_enter Tryz.func31, Tryz.ntmps31
   go_wp2_with (first | ((with_reducible refine gate_callee (f := 67) rfl ?_); refine gL (some 8) Tryz.func67 #[.int .i64 a0, .int .i64 0, .int .i64 9999] ?_; (with_reducible refine (spec_l1In.calls a0 0 9999 true _ A4.out).mono ?_); rintro e w' ⟨rfl, ⟨nd, rfl⟩⟩; refine ⟨_, rfl, ?_⟩) | (go_at_call 68; (with_reducible refine (spec_biKeys.calls k _ _ l1 false _ ?side1 ?side2 A6.out).mono ?_); (case side1 => exact Cz HR1.out); (case side2 => exact HC1.out); rintro e w' ⟨rfl, ⟨nd, rfl⟩⟩))
   go_ret
   exact ⟨by first | rfl | (simp; done) | (simp [*]; done), by repeat (first | exact Drawn0.refl _ | apply Drawn0.step)⟩
 ·replace c5 := Bool.eq_false_iff.mpr c5
  subst c5
  rw [if_neg (show ¬ (false = true) by decide)] at H; obtain rfl := Option.some.inj H
  go_enter Tryz.func31, Tryz.ntmps31
  go_wp2_with (first | ((with_reducible refine gate_callee (f := 67) rfl ?_); refine gL (some 8) Tryz.func67 #[.int .i64 a0, .int .i64 0, .int .i64 9999] ?_; (with_reducible refine (spec_l1In.calls a0 0 9999 false _ A4.out).mono ?_); rintro e w' ⟨rfl, ⟨nd, rfl⟩⟩; refine ⟨_, rfl, ?_⟩))
  go_ret
  exact ⟨by first | rfl | (simp; done) | (simp [*]; done), by repeat (first | exact Drawn0.refl _ | apply Drawn0.step)⟩

def spec_biHash.l0 : Nat → ByteArray → Int → Int → Option (Int)
 | 0, _, _, _ => none
 | k + 1, x2, x7, x8 => if x8 < (x2.size : Int) then (if 0 ≤ x8 then (spec_biHash.l0 k x2 (Int.tmod (wrap64 ((wrap64 (263 * x7)) + (wrap64 (bt x2 x8)))) 65521) (wrap64 (x8 + 1))) else (none)) else (some (Int.tmod (wrap64 ((Int.tmod (wrap64 ((Int.tmod (wrap64 ((Int.tmod (wrap64 ((Int.tmod (wrap64 (x7 * x7)) 65521) * (Int.tmod (wrap64 (x7 * x7)) 65521))) 65521) * x7)) 65521) * (Int.tmod (wrap64 ((Int.tmod (wrap64 ((Int.tmod (wrap64 (x7 * x7)) 65521) * (Int.tmod (wrap64 (x7 * x7)) 65521))) 65521) * x7)) 65521))) 65521) * x7)) 65521))
def spec_biHash.f (k : Nat) (a0 : Int) (a1 : Int) (a2 : ByteArray) : Option (Int) := spec_biHash.l0 k a2 (Int.tmod (wrap64 ((wrap64 ((wrap64 (31 * a0)) + (wrap64 (977 * a1)))) + 7)) 65521) 0
theorem spec_biHash.calls (k : Nat) (a0 : Int) (a1 : Int) (a2 : ByteArray) (r : Int) (w : World) (h : spec_biHash.f k a0 a1 a2 = some r) :
  Calls Tryz.prog 109 #[.int .i64 a0, .int .i64 a1, .string a2] w fun e w' => e = .returned (.int .i64 r) ∧ Drawn0 w w' := by
 have H : (spec_biHash.l0 k a2 (Int.tmod (wrap64 ((wrap64 ((wrap64 (31 * a0)) + (wrap64 (977 * a1)))) + 7)) 65521) 0) = some r := h; clear h; have H' := am H; clear H
 go_enter Tryz.func109, Tryz.ntmps109
 go_wp2
 go_loopg [7, 8] k (fun kq v7 v8 w' => ∃ (x7_1 : Int) (x8_1 : Int), v7 = .int .i64 x7_1 ∧ v8 = .int .i64 x8_1 ∧ Aside0 (spec_biHash.l0 kq a2 x7_1 x8_1 = some r) ∧ Aside0 (kq ≤ k) ∧ Drawn0 w w')
 case atStart => exact ⟨(Int.tmod (wrap64 ((wrap64 ((wrap64 (31 * a0)) + (wrap64 (977 * a1)))) + 7)) 65521), (0), wZ, wZ, H', ⟨Nat.le_refl _⟩, by repeat (first | exact Drawn0.refl _ | apply Drawn0.step)⟩
 case round =>
  clear H'
  try clear c1
  try clear p2
  obtain ⟨x7_1, x8_1, rfl, rfl, HA, HK1, ⟨m1, rfl⟩⟩ := hrel; cases gk with
  | zero => exact absurd HA.out (by simp [spec_biHash.l0])
  | succ k1 =>
   have H := HA.out; clear HA
   simp only [spec_biHash.l0] at H
   by_cases c4 : x8_1 < (a2.size : Int)
   ·rw [if_pos c4] at H
    have c4b0 : decide (x8_1 < (a2.size : Int)) = true := decide_eq_true c4; clear c4
    by_cases c5 : 0 ≤ x8_1
    ·rw [if_pos c5] at H
     have c5b0 : decide (0 ≤ x8_1) = true := decide_eq_true c5; clear c5; have H' := am H; clear H; have p6 : 0 ≤ (x8_1 : Int) := dT; have q6 : x8_1 < (a2.size : Int) := dT; have hx6 := bt_at a2 x8_1; replace p6 := eq_true p6; replace q6 := eq_true q6
     go_wp2
     go_roundg k1
     case measure => have := HK1.out; omega
     case rel => exact ⟨(Int.tmod (wrap64 ((wrap64 (263 * x7_1)) + (wrap64 (bt a2 x8_1)))) 65521), (wrap64 (x8_1 + 1)), wZ, wZ, H', ⟨by have := HK1.out; omega⟩, by repeat (first | exact Drawn0.refl _ | apply Drawn0.step)⟩
    ·rw [if_neg c5] at H
     exact absurd H (by simp)
   ·rw [if_neg c4] at H
    have c4b0 : decide (x8_1 < (a2.size : Int)) = false := decide_eq_false c4; clear c4; obtain rfl := Option.some.inj H
    go_wp2
    go_ret
    exact ⟨by first | rfl | (simp; done) | (simp [*]; done), by repeat (first | exact Drawn0.refl _ | apply Drawn0.step)⟩

def spec_biPlace.f (k : Nat) (a0 : Int) (a1 : Int) (a2 : ByteArray) (a3 : Int) : Option (Int) := (spec_biHash.f k a0 a1 a2).bind fun t412 => (some (wrap64 (Int.tdiv (wrap64 (t412 * a3)) 65521)))
theorem spec_biPlace.calls (k : Nat) (a0 : Int) (a1 : Int) (a2 : ByteArray) (a3 : Int) (r : Int) (w : World) (h : spec_biPlace.f k a0 a1 a2 a3 = some r) :
  Calls Tryz.prog 100 #[.int .i64 a0, .int .i64 a1, .string a2, .int .i64 a3] w fun e w' => e = .returned (.int .i64 r) ∧ Drawn0 w w' := by
 have H : ((spec_biHash.f k a0 a1 a2).bind fun t412 => (some (wrap64 (Int.tdiv (wrap64 (t412 * a3)) 65521)))) = some r := h; clear h; replace H := Option.bind_eq_some_iff.mp H; obtain ⟨t412, A50, H⟩ := H; (try dsimp -simprocs only at H); have A5 := am A50; clear A50; obtain rfl := Option.some.inj H
 go_enter Tryz.func100, Tryz.ntmps100
 go_wp2_with (first | ((with_reducible refine gate_callee (f := 109) rfl ?_); refine gL (some 12) Tryz.func109 #[.int .i64 a0, .int .i64 a1, .string a2] ?_; (with_reducible refine (spec_biHash.calls k a0 a1 a2 t412 _ A5.out).mono ?_); rintro e w' ⟨rfl, ⟨nd, rfl⟩⟩; refine ⟨_, rfl, ?_⟩))
 go_ret
 exact ⟨by first | rfl | (simp; done) | (simp [*]; done), by repeat (first | exact Drawn0.refl _ | apply Drawn0.step)⟩

def spec_peTriple.l0 : Nat → Int → ByteArray → Int → List Int → Int → Option (List Int)
 | 0, _, _, _, _, _ => none
 | k + 1, x0, x1, x2, x7, x8 => if x8 < 3 then ((spec_biPlace.f k x0 x8 x1 x2).bind fun t413 => (if x7.length < 17592186044416 then (spec_peTriple.l0 k x0 x1 x2 (x7 ++ [wrap64 (t413 + (wrap64 (x8 * x2)))]) (wrap64 (x8 + 1))) else (none))) else (some x7)
def spec_peTriple.f (k : Nat) (a0 : Int) (a1 : ByteArray) (a2 : Int) : Option (List Int) := spec_peTriple.l0 k a0 a1 a2 ([] : List Int) 0
theorem spec_peTriple.calls (k : Nat) (a0 : Int) (a1 : ByteArray) (a2 : Int) (r : List Int) (w : World) (h : spec_peTriple.f k a0 a1 a2 = some r) :
  Calls Tryz.prog 70 #[.int .i64 a0, .string a1, .int .i64 a2] w fun e w' => ∃ v0_ : Value, e = .returned (v0_) ∧ Kd.R (Kd.int .i64) 3 w' w.heap.size (fun _ => True) v0_ r ∧ Below w.heap.size w w' := by
 have HB := am (Below.refl w.heap.size w); have H : (spec_peTriple.l0 k a0 a1 a2 ([] : List Int) 0) = some r := h; clear h; have H' := am H; clear H
 go_enter Tryz.func70, Tryz.ntmps70
 go_wp2
 go_loopg [7, 8] k (fun kq v7 v8 w' => ∃ (x7_1 : List Int) (x8_1 : Int), v8 = .int .i64 x8_1 ∧ Aside0 (spec_peTriple.l0 kq a0 a1 a2 x7_1 x8_1 = some r) ∧ Aside0 (kq ≤ k) ∧ Aside0 (Kd.R (Kd.int .i64) 3 w' w.heap.size (fun _ => True) v7 x7_1) ∧ Aside0 (Below w.heap.size w w'))
 case atStart => exact ⟨(([] : List Int)), (0), wZ, H', ⟨Nat.le_refl _⟩, ⟨nZ⟩, ⟨Bz HB.out⟩⟩
 case round =>
  clear H'
  try clear p2
  obtain ⟨x7_1, x8_1, rfl, HA, HK1, HO_7, HB⟩ := hrel; cases gk with
  | zero => exact absurd HA.out (by simp [spec_peTriple.l0])
  | succ k1 =>
   have H := HA.out; clear HA
   simp only [spec_peTriple.l0] at H
   by_cases c4 : x8_1 < 3
   ·rw [if_pos c4] at H
    have c4b0 : decide (x8_1 < 3) = true := decide_eq_true c4; clear c4; replace H := Option.bind_eq_some_iff.mp H; obtain ⟨t413, A50, H⟩ := H; (try dsimp -simprocs only at H); have A5 := am A50; clear A50
    by_cases c6 : x7_1.length < 17592186044416
    ·rw [if_pos c6] at H
     have LMc6 := am c6; clear c6; obtain ⟨y414, hy414⟩ : ∃ y_ : List Int, y_ = (x7_1 ++ [wrap64 (t413 + (wrap64 (x8_1 * a2)))]) := ⟨_, rfl⟩
     replace H : (spec_peTriple.l0 k1 a0 a1 a2 y414 (wrap64 (x8_1 + 1))) = some r := by first | (rw [hy414]; with_reducible exact H) | (have H2_ := (Option.bind_some _ _).symm.trans H; rw [hy414]; with_reducible exact H2_) | (have H2_ := (Option.bind_some _ _).symm.trans H; with_reducible exact H2_) | with_reducible exact H | (rw [hy414]; exact H) | exact H
     have Ny414 := am hy414; clear hy414; have H' := am H; clear H
     go_wp2_with (first | ((with_reducible refine gate_callee (f := 100) rfl ?_); refine gL (some 18) Tryz.func100 #[.int .i64 a0, .int .i64 x8_1, .string a1, .int .i64 a2] ?_; (with_reducible refine (spec_biPlace.calls k1 a0 x8_1 a1 a2 t413 _ A5.out).mono ?_); rintro e w' ⟨rfl, ⟨nd, rfl⟩⟩; refine ⟨_, rfl, ?_⟩) | ((with_reducible refine gate_builtin (b := .append) (xs := #[.tmp 13, .tmp 23]) rfl ?_); at_builtin; refine Kd.R_append (Kd.int .i64) (w0 := w) w.heap.size rfl (.tmp 13) (.tmp 23) 27 3 (.int .i64 0) 8 rfl Tryz.underlying27 info3 rfl (by decide) (by omega) u7 x7_1 (wrap64 (t413 + (wrap64 (x8_1 * a2)))) [.int .i64 (wrap64 (t413 + (wrap64 (x8_1 * a2))))] (fun _ => True) (fun _ => False) rfl rfl ?aP (fun _ hk => hk.elim) ?aF ?aO ?aB ?aS ?aL ?_; (case aP => exact rfl); (case aB => exact (Bz HB.out)); (case aF => exact (fun _ _ => trivial)); (case aO => exact (Rz HO_7.out)); (case aS => exact (below_size (Bz HB.out))); (case aL => have := LMc6.out; omega); intro v415 w7 ho hb hg hat; rw [← Ny414.out] at ho; have n0_ := am (hb); have n1_ := am (ho); clear HB HO_7; revert n0_ n1_; intro HB HO416; clear ho hb hg hat))
     go_roundg k1
     case measure => have := HK1.out; omega
     case rel => exact ⟨(y414), (wrap64 (x8_1 + 1)), wZ, H', ⟨by have := HK1.out; omega⟩, ⟨Rz HO416.out⟩, ⟨Bz HB.out⟩⟩
    ·rw [if_neg c6] at H
     exact absurd H (by simp)
   ·rw [if_neg c4] at H
    have c4b0 : decide (x8_1 < 3) = false := decide_eq_false c4; clear c4; obtain rfl := Option.some.inj H
    go_wp2
    go_ret
    exact ⟨_, eZ, Rz HO_7.out, Bz HB.out⟩

def spec_peHyper.l0 : Nat → Int → Int → List ByteArray → Int → Int → Int → List (List Int) → Option (Int × (List (List Int)))
 | 0, _, _, _, _, _, _, _ => none
 | k + 1, x0, x2, x13, x14, x15, x419000, x419001 => if x15 < x14 then (if 0 ≤ x15 then (if x15 < (x13.length : Int) then ((spec_peTriple.f k x0 (rdOf ByteArray.empty x13 x15) x2).bind fun t420 => (if x419001.length < 5864062014805 then (spec_peHyper.l0 k x0 x2 x13 x14 (wrap64 (x15 + 1)) x419000 (x419001 ++ [t420])) else (none))) else (none)) else (none)) else (some (x419000, x419001))
def spec_peHyper.f (k : Nat) (a0 : Int) (l1 : List ByteArray) (a2 : Int) : Option (Int × (List (List Int))) := spec_peHyper.l0 k a0 a2 l1 (l1.length : Int) 0 (wrap64 (3 * a2)) ([] : List (List Int))
def spec_peHyper.T5 : Bool × List (List Nat × List Nat) := (true, [([], []), ([0], [0]), ([], []), ([], []), ([], []), ([2, 3, 4], [2, 3, 4]), ([5], [5]), ([1, 6, 5], [1, 6]), ([0, 1, 2, 3, 4, 5, 6, 7], []), ([8, 7, 7, 0, 1, 2, 3, 4, 5, 6, 7], [7, 8])])
def spec_peHyper.B5 : List Nat := [0, 1, 0, 0, 0, 28, 60, 127, 255, 511]
theorem spec_peHyper.tab5 : rtab .any (opsOf Tryz.f33 5) = spec_peHyper.T5 := by kernel_rfl
theorem spec_peHyper.bits5 : waitsOk spec_peHyper.T5.2 spec_peHyper.B5 = true := by kernel_rfl
theorem spec_peHyper.calls (k : Nat) (a0 : Int) (A1 : Option Addr) (c1 : Nat) (l1 : List ByteArray) (a2 : Int) (r1 : Int) (r2 : List (List Int)) (w : World) (hr1 : Kd.C Kd.string w A1 l1.length l1) (hc1 : l1.length ≤ c1) (h : spec_peHyper.f k a0 l1 a2 = some (r1, r2)) :
  Calls Tryz.prog 33 #[.int .i64 a0, .slice A1 l1.length c1, .int .i64 a2] w fun e w' => ∃ v1_ : Value, e = .returned (.agg #[.int .i64 r1, v1_]) ∧ Kd.S (Kd.slice 3 (Kd.int .i64)) 27 w' w.heap.size (fun _ => True) v1_ r2 ∧ Below w.heap.size w w' := by
 have hu35 := Tryz.underlying35; have HR1 := am hr1; have HC1 := am hc1; clear hr1 hc1; have HB := am (Below.refl w.heap.size w); have H : (spec_peHyper.l0 k a0 a2 l1 (l1.length : Int) 0 (wrap64 (3 * a2)) ([] : List (List Int))) = some (r1, r2) := h; clear h; have H' := am H; clear H
 go_enter Tryz.func33, Tryz.ntmps33
 go_wp2_with (first | ((with_reducible refine gate_dst (N := 6) rfl ?_); refine bE 6 #[.int .i64 0, .slice none 0 0] 35 ?_; intro gb417 hg w4 hbox hb; have n0_ := Bb HB hb; have n1_ := am (hbox); have n2_ := Gl HB hg; have n3_ := Gl HB hg; clear HB; revert n0_ n1_ n2_ n3_; intro HB BK417 GW417 GE417; clear hb hbox hg) | ((with_reducible refine gate_dst (N := 7) rfl ?_); refine bE 7 #[.int .i64 0, .slice none 0 0] 35 ?_; intro gb418 hg w5 hbox hb; have n0_ := Kb BK417 hb; have n1_ := Bc HB hb; have n2_ := am (hbox); have n3_ := Gm HB hg; have n4_ := Gm HB hg; have n5_ := Nl BK417 hg; have n6_ := Ng BK417 hg; clear BK417 HB; revert n0_ n1_ n2_ n3_ n4_ n5_ n6_; intro BK417 HB BK418 GW418 GE418 NB417_418 NB418_417; clear hb hbox hg; have hnb6 := NB418_417.out; have hnc6 := NB417_418.out; obtain ⟨hcz7_0, hcz7_1, hfz7_0, hfz7_1⟩ := cf2 (w := w5) BK418))
 (try simp only [aP])
 go_loopg [15] k (fun kq v15 w' => ∃ (x15_1 : Int) (x419001_1 : List (List Int)) (u419001 : Value), v15 = .int .i64 x15_1 ∧ Aside0 (spec_peHyper.l0 kq a0 a2 l1 (l1.length : Int) x15_1 (wrap64 (3 * a2)) x419001_1 = some (r1, r2)) ∧ Aside0 (kq ≤ k) ∧ Aside0 (Kd.S (Kd.slice 3 (Kd.int .i64)) 27 w' w.heap.size (fun _ => True) u419001 x419001_1) ∧ Aside0 (w'.heap[gb417]? = some (.cells #[.int .i64 0, (.slice none 0 0)] 35 (0, 0))) ∧ Aside0 (w'.heap[gb418]? = some (.cells #[.int .i64 (wrap64 (3 * a2)), u419001] 35 (0, 0))) ∧ Aside0 (Below w.heap.size w w'))
 case atStart => exact ⟨(0), (([] : List (List Int))), (.slice none 0 0), wZ, H', ⟨Nat.le_refl _⟩, ⟨by first | exact Kd.S_nil _ _ _ _ _ | exact Kd.N_nil _ _ _ _ _ | exact Kd.V_nil _ _ _ _ _ | exact Kd.Q_nil _ _ _ _ _ | exact Kd.R_nil _ _ _ _ _⟩, ⟨by (with_reducible repeat (first | refine blk_drewN ?_ _ | refine blk_drew ?_ | refine blk_alloc ?_ _)); refine blk_far ?_ NB417_418.out _; (with_reducible repeat (first | refine blk_drewN ?_ _ | refine blk_drew ?_ | refine blk_alloc ?_ _)); refine blk_far ?_ NB417_418.out _; (with_reducible repeat (first | refine blk_drewN ?_ _ | refine blk_drew ?_ | refine blk_alloc ?_ _)); exact BK417.out⟩, ⟨by (with_reducible repeat (first | refine blk_drewN ?_ _ | refine blk_drew ?_ | refine blk_alloc ?_ _)); refine blk_put (cs := #[.int .i64 (wrap64 (3 * a2)), .slice none 0 0]) ?_ 1 _ rfl; (with_reducible repeat (first | refine blk_drewN ?_ _ | refine blk_drew ?_ | refine blk_alloc ?_ _)); refine blk_put (cs := #[.int .i64 0, .slice none 0 0]) ?_ 0 _ rfl; (with_reducible repeat (first | refine blk_drewN ?_ _ | refine blk_drew ?_ | refine blk_alloc ?_ _)); exact BK418.out⟩, ⟨Bq⟩⟩
 case round =>
  clear H'
  try clear c1
  try clear p2
  try clear c3
  try clear c6
  try clear p6
  try clear hcz7_0
  try clear hcz7_1
  try clear hfz7_0
  try clear hfz7_1
  obtain ⟨x15_1, x419001_1, u419001, rfl, HA, HK1, HO_419001, BK417, BK418, HB⟩ := hrel; cases gk with
  | zero => exact absurd HA.out (by simp [spec_peHyper.l0])
  | succ k1 =>
   have H := HA.out; clear HA
   simp only [spec_peHyper.l0] at H
   by_cases c8 : x15_1 < (l1.length : Int)
   ·rw [if_pos c8] at H
    have c8b0 : decide (x15_1 < (l1.length : Int)) = true := decide_eq_true c8; clear c8
    by_cases c9 : 0 ≤ x15_1
    ·rw [if_pos c9] at H
     have c9b0 : decide (0 ≤ x15_1) = true := decide_eq_true c9; clear c9
     by_cases c10 : x15_1 < (l1.length : Int)
     ·rw [if_pos c10] at H
      have c10b0 : decide (x15_1 < (l1.length : Int)) = true := decide_eq_true c10; clear c10; replace H := Option.bind_eq_some_iff.mp H; obtain ⟨t420, A110, H⟩ := H; (try dsimp -simprocs only at H); have A11 := am A110; clear A110
      by_cases c12 : x419001_1.length < 5864062014805
      ·rw [if_pos c12] at H
       have LMc12 := am c12; clear c12; obtain ⟨y423, hy423⟩ : ∃ y_ : List (List Int), y_ = (x419001_1 ++ [t420]) := ⟨_, rfl⟩
       replace H : (spec_peHyper.l0 k1 a0 a2 l1 (l1.length : Int) (wrap64 (x15_1 + 1)) (wrap64 (3 * a2)) y423) = some (r1, r2) := by first | (rw [hy423]; with_reducible exact H) | (have H2_ := (Option.bind_some _ _).symm.trans H; rw [hy423]; with_reducible exact H2_) | (have H2_ := (Option.bind_some _ _).symm.trans H; with_reducible exact H2_) | with_reducible exact H | (rw [hy423]; exact H) | exact H
       have Ny423 := am hy423; clear hy423; have H' := am H; clear H; have p419 : 0 ≤ (x15_1 : Int) := dT; have q419 : x15_1 < (l1.length : Int) := dT; obtain ⟨ad419, e419, hx419_0⟩ := Kd.at_string HR1.out x15_1 p419 q419; cases e419; replace hx419_0 := (HB.out.cell (World.block_lt_of_cell? w _ hx419_0)).trans hx419_0; replace p419 := eq_true p419; replace q419 := eq_true q419
       try go_wp2
       have n0_ := am (Kd.S_drew HO_419001.out); have n1_ := am (blk_drew BK417.out); have n2_ := am (blk_drew BK418.out); have n3_ := am (below_drew1 HB.out); clear HO_419001 BK417 BK418 HB; revert n0_ n1_ n2_ n3_; intro HO_419001 BK417 BK418 HB; refine start_ (n := 10) (S := fun w' => w'.cell? ⟨gb418, 0, none⟩ = some (.int .i64 (wrap64 (3 * a2))) ∧ w'.cell? ⟨gb418, 1, none⟩ = some (u419001)) (ds := [9]) (bA 10 0) (by kernel_rfl) rfl rfl ⟨cz BK418 0, cz BK418 1⟩ (fun hHeld => ?_); refine with_tabW spec_peHyper.tab5 spec_peHyper.bits5 (fun HT_ HW_ => ?_); generalize wr.drew = w13 at HO_419001 BK417 BK418 HB hHeld ⊢; refine pZ 0 (some 19) (bA 10 1) HT_.out ?_; refine pZ 2 (some 21) (bA 10 5) HT_.out ?_; refine pZ 3 (some 22) (bA 10 13) HT_.out ?_; refine pZ 4 (some 23) (bA 10 29) HT_.out ?_; refine tZ2 1 (some 20) (bA 10 31) HT_.out HW_.out hHeld ?_; refine oZ 5 (some 24) (bA 10 63) HT_.out (fun K hK => ?_); refine gZ Tryz.func70 #[.int .i64 a0, .string (rdOf ByteArray.empty l1 x15_1), .int .i64 a2] ?_
       with_reducible refine (spec_peTriple.calls k1 a0 (rdOf ByteArray.empty l1 x15_1) a2 t420 _ A11.out).mono ?_
       rintro e w14 ⟨v421, rfl, ho0, hb⟩; refine ⟨_, rfl, ?_⟩; have n0_ := am (Kd.S_elder' (by (with_reducible repeat (first | apply Kd.S_alloc | apply Kd.S_drewN | apply Kd.S_drew)); exact HO_419001.out) (Kd.R_base ho0) hb); have n1_ := Rm ho0 HB; have n2_ := Kb BK417 hb; have n3_ := Kb BK418 hb; have n4_ := Bc HB hb; clear HO_419001 BK417 BK418 HB; revert n0_ n1_ n2_ n3_ n4_; intro HO_419001 HO422 BK417 BK418 HB
       (try clear hb)
       (try clear hb2)
       (try clear hk)
       (try clear hi)
       (try clear ho0)
       obtain ⟨Ao16, co16, eo16⟩ := Kd.R_slice HO422.out
       (first | subst eo16 | (injection eo16 with f1_ f2_ f3_; have f4_ := f1_.symm; have f5_ := f3_.symm; clear f1_ f2_ f3_; subst f4_; subst f5_))
       refine hK.out _ _ ⟨cz BK418 0, cz BK418 1⟩ (fun hHeld => ?_); clear hK K; refine norm_ (a' := ?_) ?_ ?_; rotate_left; show Act.put _ (some 24) _ = _; simp only [aP, i64_w, i32_w]; rfl; refine oZ 6 (some 25) (bA 10 127) HT_.out (fun K hK => ?_); refine value_ (w1 := ?_) (v := ?_) (by rfl) rfl ?_ ?_
       rotate_left 2
       ·go_simp
        constructor
        ·rfl
        ·rfl
       refine hK.out _ _ ⟨(blk_cell (blk_alloc BK418.out _) 0).trans rfl, (blk_cell (blk_alloc BK418.out _) 1).trans rfl⟩ (fun hHeld => ?_); clear hK K; refine norm_ (a' := ?_) ?_ ?_; rotate_left; show Act.put _ (some 25) _ = _; simp only [aP, i64_w, i32_w]; rfl; refine oZ 7 (some 26) (bA 10 255) HT_.out (fun K hK => ?_); refine Kd.S_append_step (Kd.slice 3 (Kd.int .i64)) (w0 := w) w.heap.size (by rfl) (.tmp 20) (.tmp 25) 33 27 (.slice none 0 0) 24 rfl Tryz.underlying33 info27 rfl (by decide) (by omega) u419001 x419001_1 t420 [.slice Ao16 t420.length co16] (fun _ => True) (fun k_ => some k_ = (.slice Ao16 t420.length co16 : Value).ownBlock) rfl rfl ?aP (fun k_ hk_ => ((Kd.R_mono (ok' := fun k_ => ((fun _ => True)) k_ ∧ some k_ ≠ (u419001 : Value).ownBlock) (Kd.R_apart' (HO422.out) (Kd.S_typed HO_419001.out) (by decide)) (fun k_ hk => ⟨trivial, hk.2⟩))).1 k_ hk_.symm) ?aF ?aO ?aB ?aS ?aL ?_
       (case aP => exact Kd.M_row (Kd.R_mono (Kd.R_tight rfl (Kd.R_mono (ok' := fun k_ => ((fun _ => True)) k_ ∧ some k_ ≠ (u419001 : Value).ownBlock) (Kd.R_apart' (HO422.out) (Kd.S_typed HO_419001.out) (by decide)) (fun k_ hk => ⟨trivial, hk.2⟩))) (fun _ h_ => h_)))
       (case aB => exact (Bq))
       (case aF => exact (fun _ _ => trivial))
       (case aO => exact (by (with_reducible repeat (first | apply Kd.S_alloc | apply Kd.S_drewN | apply Kd.S_drew)); exact Kd.S_mono HO_419001.out (fun k_ hk => ⟨trivial, fun e_ => hk.2 e_⟩)))
       (case aS => exact (below_size (w := w) (Bq)))
       (case aL => have := LMc12.out; omega)
       intro v424 w15 ho hb hg hat; rw [← Ny423.out] at ho; have n0_ := am (blk_grown (g := gb417) (o := .cells #[.int .i64 0, .slice none 0 0] 35 (0, 0)) (Kz BK417.out) hg (Kd.S_ne HO_419001.out BK417.out (by decide))); have n1_ := am (blk_grown (g := gb418) (o := .cells #[.int .i64 (wrap64 (3 * a2)), u419001] 35 (0, 0)) (Kz BK418.out) hg (Kd.S_ne HO_419001.out BK418.out (by decide))); have n2_ := am (hb); have n3_ := am (ho); clear BK417 BK418 HB HO_419001 HO422; revert n0_ n1_ n2_ n3_; intro BK417 BK418 HB HO425; clear ho hb hg hat; obtain ⟨Ao17, co17, eo17⟩ := Kd.S_slice HO425.out
       (first | subst eo17 | (injection eo17 with f1_ f2_ f3_; have f4_ := f1_.symm; have f5_ := f3_.symm; clear f1_ f2_ f3_; subst f4_; subst f5_))
       refine hK.out _ _ ⟨cz BK418 0, cz BK418 1⟩ (fun hHeld => ?_); clear hK K; refine norm_ (a' := ?_) ?_ ?_; rotate_left; show Act.put _ (some 26) _ = _; simp only [aP, i64_w, i32_w]; rfl; refine pZ 8 (some 27) (bA 10 511) HT_.out ?_; refine lZ 9 none (bA 10 1023) HT_.out (fun K hK => ?_); have hs18 : w15.cell? ⟨gb418, 1, none⟩ = some (u419001) := cz BK418 1; have hfs18 := blk_frozen BK418.out 1; have hns18_0 := NB417_418.out; have hms18_0 := NB418_417.out; refine skip_ (w1 := ?_) (by rfl) rfl ?_ ?_
       rotate_left
       ·go_simp
        rfl
       refine hK.out _ _ ?_; clear hK K; refine done_ (done_of HT_.out (by kernel_rfl)) ?_
       try go_wp2
       go_roundg k1
       case measure => have := HK1.out; omega
       case rel => exact ⟨(wrap64 (x15_1 + 1)), (y423), (.slice Ao17 y423.length co17), wZ, H', ⟨by have := HK1.out; omega⟩, ⟨by (with_reducible repeat (first | apply Kd.S_alloc | apply Kd.S_drewN | apply Kd.S_drew)); exact Kd.S_mono (Kd.S_far (p := ⟨gb418, 1, none⟩) (Kd.S_types HO425.out BK418.out (by decide)) (fun _ hk => hk.2) (.slice Ao17 y423.length co17)) (fun _ hk => trivial)⟩, ⟨by (with_reducible repeat (first | refine blk_drewN ?_ _ | refine blk_drew ?_ | refine blk_alloc ?_ _)); refine blk_far ?_ NB417_418.out _; (with_reducible repeat (first | refine blk_drewN ?_ _ | refine blk_drew ?_ | refine blk_alloc ?_ _)); exact BK417.out⟩, ⟨by (with_reducible repeat (first | refine blk_drewN ?_ _ | refine blk_drew ?_ | refine blk_alloc ?_ _)); refine blk_put (cs := #[.int .i64 (wrap64 (3 * a2)), u419001]) ?_ 1 _ rfl; (with_reducible repeat (first | refine blk_drewN ?_ _ | refine blk_drew ?_ | refine blk_alloc ?_ _)); exact BK418.out⟩, ⟨Bq⟩⟩
      ·rw [if_neg c12] at H
       exact absurd H (by simp)
     ·rw [if_neg c10] at H
      exact absurd H (by simp)
    ·rw [if_neg c9] at H
     exact absurd H (by simp)
   ·rw [if_neg c8] at H
    have c8b0 : decide (x15_1 < (l1.length : Int)) = false := decide_eq_false c8; clear c8
    simp only [Option.some.injEq, Prod.mk.injEq] at H
    obtain ⟨rfl, rfl⟩ := H; have hnb19 := NB418_417.out; have hnc19 := NB417_418.out; obtain ⟨hcz20_0, hcz20_1, hfz20_0, hfz20_1⟩ := cf2 (w := wr) BK418; obtain ⟨hcz21_0, hcz21_1, hfz21_0, hfz21_1⟩ := cf2 (w := wr) BK417; obtain ⟨Ao22, co22, eo22⟩ := Kd.S_slice HO_419001.out; subst eo22
    go_wp2
    refine bodyPost_ret (results_cell_row rfl _ _ gb417 35 #[.int .i64 (wrap64 (3 * a2)), .slice Ao22 x419001_1.length co22] (0, 0) _ rfl (by (with_reducible repeat (first | refine blk_drewN ?_ _ | refine blk_drew ?_ | refine blk_alloc ?_ _)); refine blk_put (cs := #[.int .i64 (wrap64 (3 * a2)), .slice none 0 0]) ?_ 1 _ rfl; (with_reducible repeat (first | refine blk_drewN ?_ _ | refine blk_drew ?_ | refine blk_alloc ?_ _)); refine blk_put (cs := #[.int .i64 0, .slice none 0 0]) ?_ 0 _ rfl; exact Kz BK417.out) Tryz.underlying35 rfl (by kernel_rfl)) rfl ?_; exact ⟨_, eZ, by (with_reducible repeat (first | apply Kd.S_alloc | apply Kd.S_drewN | apply Kd.S_drew)); exact Kd.S_mono (Kd.S_far (p := ⟨gb417, 1, none⟩) (Kd.S_far (p := ⟨gb417, 0, none⟩) (Kd.S_types HO_419001.out BK417.out (by decide)) (fun _ hk => hk.2) (.int .i64 (wrap64 (3 * a2)))) (fun _ hk => hk.2) (.slice Ao22 x419001_1.length co22)) (fun _ hk => trivial), Bq⟩

def spec_peAll.l0 : Nat → List Int → Int → Int → Option (List Int)
 | 0, _, _, _ => none
 | k + 1, x3, x7, x8 => if x8 < x7 then (if x3.length < 17592186044416 then (spec_peAll.l0 k (x3 ++ [x8]) x7 (wrap64 (x8 + 1))) else (none)) else (some x3)
def spec_peAll.f (k : Nat) (a0_0 : Int) (l0_1 : List (List Int)) : Option (List Int) := spec_peAll.l0 k ([] : List Int) (l0_1.length : Int) 0
theorem spec_peAll.calls (k : Nat) (a0_0 : Int) (A0_1 : Option Addr) (c0_1 : Nat) (l0_1 : List (List Int)) (r : List Int) (w : World) (hr0_1 : Kd.C (Kd.slice 3 (Kd.int .i64)) w A0_1 l0_1.length l0_1) (hc0_1 : l0_1.length ≤ c0_1) (h : spec_peAll.f k a0_0 l0_1 = some r) :
  Calls Tryz.prog 71 #[.agg #[.int .i64 a0_0, .slice A0_1 l0_1.length c0_1]] w fun e w' => ∃ v0_ : Value, e = .returned (v0_) ∧ Kd.R (Kd.int .i64) 3 w' w.heap.size (fun _ => True) v0_ r ∧ Below w.heap.size w w' := by
 have hu35 := Tryz.underlying35; have HR0_1 := am hr0_1; have HC0_1 := am hc0_1; clear hr0_1 hc0_1; have HB := am (Below.refl w.heap.size w); have H : (spec_peAll.l0 k ([] : List Int) (l0_1.length : Int) 0) = some r := h; clear h; have H' := am H; clear H
 go_enter Tryz.func71, Tryz.ntmps71
 go_wp2_with (first | ((with_reducible refine gate_dst (N := 1) rfl ?_); refine bE 1 #[.int .i64 a0_0, .slice A0_1 l0_1.length c0_1] 35 ?_; intro gb426 hg w2 hbox hb; have n0_ := Bb HB hb; have n1_ := am (hbox); have n2_ := Gl HB hg; have n3_ := Gl HB hg; clear HB; revert n0_ n1_ n2_ n3_; intro HB BK426 GW426 GE426; clear hb hbox hg; obtain ⟨hcz3_0, hcz3_1, hfz3_0, hfz3_1⟩ := cf2 (w := w2) BK426))
 (try simp only [aP])
 go_loopg [3, 8] k (fun kq v3 v8 w' => ∃ (x3_1 : List Int) (x8_1 : Int), v8 = .int .i64 x8_1 ∧ Aside0 (spec_peAll.l0 kq x3_1 (l0_1.length : Int) x8_1 = some r) ∧ Aside0 (kq ≤ k) ∧ Aside0 (Kd.R (Kd.int .i64) 3 w' w.heap.size (fun _ => True) v3 x3_1) ∧ Aside0 (w'.heap[gb426]? = some (.cells #[.int .i64 a0_0, (.slice A0_1 l0_1.length c0_1)] 35 (0, 0))) ∧ Aside0 (Below w.heap.size w w'))
 case atStart => exact ⟨(([] : List Int)), (0), wZ, H', ⟨Nat.le_refl _⟩, ⟨nZ⟩, ⟨Kz BK426.out⟩, ⟨Bq⟩⟩
 case round =>
  clear H'
  try clear p2
  try clear hcz3_0
  try clear hcz3_1
  try clear hfz3_0
  try clear hfz3_1
  obtain ⟨x3_1, x8_1, rfl, HA, HK1, HO_3, BK426, HB⟩ := hrel; cases gk with
  | zero => exact absurd HA.out (by simp [spec_peAll.l0])
  | succ k1 =>
   have H := HA.out; clear HA
   simp only [spec_peAll.l0] at H
   by_cases c4 : x8_1 < (l0_1.length : Int)
   ·rw [if_pos c4] at H
    have c4b0 : decide (x8_1 < (l0_1.length : Int)) = true := decide_eq_true c4; clear c4
    by_cases c5 : x3_1.length < 17592186044416
    ·rw [if_pos c5] at H
     have LMc5 := am c5; clear c5; obtain ⟨y427, hy427⟩ : ∃ y_ : List Int, y_ = (x3_1 ++ [x8_1]) := ⟨_, rfl⟩
     replace H : (spec_peAll.l0 k1 y427 (l0_1.length : Int) (wrap64 (x8_1 + 1))) = some r := by first | (rw [hy427]; with_reducible exact H) | (have H2_ := (Option.bind_some _ _).symm.trans H; rw [hy427]; with_reducible exact H2_) | (have H2_ := (Option.bind_some _ _).symm.trans H; with_reducible exact H2_) | with_reducible exact H | (rw [hy427]; exact H) | exact H
     have Ny427 := am hy427; clear hy427; have H' := am H; clear H
     go_wp2_with (first | ((with_reducible refine gate_builtin (b := .append) (xs := #[.tmp 11, .tmp 13]) rfl ?_); at_builtin; refine Kd.R_append (Kd.int .i64) (w0 := w) w.heap.size rfl (.tmp 11) (.tmp 13) 27 3 (.int .i64 0) 8 rfl Tryz.underlying27 info3 rfl (by decide) (by omega) u3 x3_1 x8_1 [.int .i64 x8_1] (fun _ => True) (fun _ => False) rfl rfl ?aP (fun _ hk => hk.elim) ?aF ?aO ?aB ?aS ?aL ?_; (case aP => exact rfl); (case aB => exact (Bq)); (case aF => exact (fun _ _ => trivial)); (case aO => exact (Rz HO_3.out)); (case aS => exact (below_size (w := w) (Bq))); (case aL => have := LMc5.out; omega); intro v428 w6 ho hb hg hat; rw [← Ny427.out] at ho; have n0_ := am (blk_grown (g := gb426) (o := .cells #[.int .i64 a0_0, .slice A0_1 l0_1.length c0_1] 35 (0, 0)) (Kz BK426.out) hg (Kd.R_ne HO_3.out BK426.out (by decide))); have n1_ := am (hb); have n2_ := am (ho); clear BK426 HB HO_3; revert n0_ n1_ n2_; intro BK426 HB HO429; clear ho hb hg hat))
     go_roundg k1
     case measure => have := HK1.out; omega
     case rel => exact ⟨(y427), (wrap64 (x8_1 + 1)), wZ, H', ⟨by have := HK1.out; omega⟩, ⟨Rz HO429.out⟩, ⟨Kz BK426.out⟩, ⟨Bq⟩⟩
    ·rw [if_neg c5] at H
     exact absurd H (by simp)
   ·rw [if_neg c4] at H
    have c4b0 : decide (x8_1 < (l0_1.length : Int)) = false := decide_eq_false c4; clear c4; obtain rfl := Option.some.inj H
    go_wp2
    go_ret
    exact ⟨_, eZ, Rz HO_3.out, Bq⟩

mutual
def spec_peDegrees.l0 : Nat → List Int → List Int → Int → Int → Int → List (List Int) → Option (List Int)
 | 0, _, _, _, _, _, _ => none
 | k + 1, x5, x13, x14, x15, x431000, x431001 => if x15 < x14 then (if 0 ≤ x15 then (if x15 < (x13.length : Int) then (if 0 ≤ (rd x13 x15) then (if (rd x13 x15) < (x431001.length : Int) then (spec_peDegrees.l1 k x5 x13 x14 x15 (rd_L3 x431001 (rd x13 x15)) ((rd_L3 x431001 (rd x13 x15)).length : Int) 0 x431000 x431001) else (none)) else (none)) else (none)) else (none)) else (some x5)
def spec_peDegrees.l1 : Nat → List Int → List Int → Int → Int → List Int → Int → Int → Int → List (List Int) → Option (List Int)
 | 0, _, _, _, _, _, _, _, _, _ => none
 | k + 1, x5, x13, x14, x15, x23, x24, x25, x431000, x431001 => if x25 < x24 then (if 0 ≤ x25 then (if x25 < (x23.length : Int) then (if 0 ≤ (rd x23 x25) then (if (rd x23 x25) < (x5.length : Int) then (spec_peDegrees.l1 k (x5.set ((rd x23 x25) : Int).toNat (wrap64 ((rd x5 (rd x23 x25)) + 1))) x13 x14 x15 x23 x24 (wrap64 (x25 + 1)) x431000 x431001) else (none)) else (none)) else (none)) else (none)) else (spec_peDegrees.l0 k x5 x13 x14 (wrap64 (x15 + 1)) x431000 x431001)
end
def spec_peDegrees.f (k : Nat) (a0_0 : Int) (l0_1 : List (List Int)) (l1 : List Int) : Option (List Int) := if 0 ≤ a0_0 then (if (a0_0 : Int).toNat ≤ 35184372088832 then (spec_peDegrees.l0 k (List.replicate (a0_0 : Int).toNat 0) l1 (l1.length : Int) 0 a0_0 l0_1) else (none)) else (none)
theorem spec_peDegrees.calls (k : Nat) (a0_0 : Int) (A0_1 : Option Addr) (c0_1 : Nat) (l0_1 : List (List Int)) (A1 : Option Addr) (c1 : Nat) (l1 : List Int) (r : List Int) (w : World) (hr0_1 : Kd.C (Kd.slice 3 (Kd.int .i64)) w A0_1 l0_1.length l0_1) (hc0_1 : l0_1.length ≤ c0_1) (hr1 : Kd.C (Kd.int .i64) w A1 l1.length l1) (hc1 : l1.length ≤ c1) (h : spec_peDegrees.f k a0_0 l0_1 l1 = some r) :
  Calls Tryz.prog 101 #[.agg #[.int .i64 a0_0, .slice A0_1 l0_1.length c0_1], .slice A1 l1.length c1] w fun e w' => ∃ v0_ : Value, e = .returned (v0_) ∧ Kd.R (Kd.int .i64) 3 w' w.heap.size (fun _ => True) v0_ r ∧ Below w.heap.size w w' := by
 have hu35 := Tryz.underlying35; have HR0_1 := am hr0_1; have HC0_1 := am hc0_1; clear hr0_1 hc0_1; have HR1 := am hr1; have HC1 := am hc1; clear hr1 hc1; have HB := am (Below.refl w.heap.size w); have H : (if 0 ≤ a0_0 then (if (a0_0 : Int).toNat ≤ 35184372088832 then (spec_peDegrees.l0 k (List.replicate (a0_0 : Int).toNat 0) l1 (l1.length : Int) 0 a0_0 l0_1) else (none)) else (none)) = some r := h; clear h
 by_cases c3 : 0 ≤ a0_0
 ·rw [if_pos c3] at H
  have c3b0 := eq_true c3; have c3b1 : decide (0 ≤ a0_0) = true := decide_eq_true c3; clear c3
  by_cases c4 : (a0_0 : Int).toNat ≤ 35184372088832
  ·rw [if_pos c4] at H
   have c4b0 := eq_true c4; have c4b1 : decide ((a0_0 : Int).toNat ≤ 35184372088832) = true := decide_eq_true c4; clear c4; obtain ⟨y431, hy431⟩ : ∃ y_ : List Int, y_ = (List.replicate (a0_0 : Int).toNat 0) := ⟨_, rfl⟩
   replace H : (spec_peDegrees.l0 k y431 l1 (l1.length : Int) 0 a0_0 l0_1) = some r := by first | (rw [hy431]; with_reducible exact H) | (have H2_ := (Option.bind_some _ _).symm.trans H; rw [hy431]; with_reducible exact H2_) | (have H2_ := (Option.bind_some _ _).symm.trans H; with_reducible exact H2_) | with_reducible exact H | (rw [hy431]; exact H) | exact H
   have Ny431 := am hy431; clear hy431; have H' := am H; clear H
   go_enter Tryz.func101, Tryz.ntmps101
   go_wp2_with (first | ((with_reducible refine gate_dst (N := 2) rfl ?_); refine bE 2 #[.int .i64 a0_0, .slice A0_1 l0_1.length c0_1] 35 ?_; intro gb430 hg w5 hbox hb; have n0_ := Bb HB hb; have n1_ := am (hbox); have n2_ := Gl HB hg; have n3_ := Gl HB hg; clear HB; revert n0_ n1_ n2_ n3_; intro HB BK430 GW430 GE430; clear hb hbox hg; obtain ⟨hcz6_0, hcz6_1, hfz6_0, hfz6_1⟩ := cf2 (w := w5) BK430) | ((with_reducible refine gate_dst (N := 12) rfl ?_); refine Kd.R_make (Kd.int .i64) _ 3 rfl (N := 12) rfl 27 _ _ rfl a0_0 rfl rfl Tryz.underlying27 (.int .i64 0) 8 info3 rfl (by decide) (by omega) 0 (ok := fun _ => True) (okp := fun _ => True) rfl (fun _ hk => hk) trivial (dT) (Nat.le_trans (Nat.mul_le_mul_right _ (dT : a0_0.toNat ≤ 35184372088832)) (by omega)) (Below.refl _ _) (Nat.le_refl _) ?_; intro v432 w7 ho8 hb hg_ hnew_; clear hg_ hnew_; (first | rw [← Ny431.out] at ho8 | (simp only [Int.reduceToNat] at ho8; rw [← Ny431.out] at ho8)); have n0_ := Rm ho8 HB; have n1_ := Kb BK430 hb; have n2_ := Bc HB hb; clear BK430 HB; revert n0_ n1_ n2_; intro HO433 BK430 HB; clear hb ho8))
   (try simp only [aP])
   go_loopg [15] k (fun kq v15 w' => ∃ (x5_1 : List Int) (x15_1 : Int), v15 = .int .i64 x15_1 ∧ Aside0 (spec_peDegrees.l0 kq x5_1 l1 (l1.length : Int) x15_1 a0_0 l0_1 = some r) ∧ Aside0 (kq ≤ k) ∧ Aside0 (Kd.R (Kd.int .i64) 3 w' w.heap.size (fun _ => True) v432 x5_1) ∧ Aside0 (w'.heap[gb430]? = some (.cells #[.int .i64 a0_0, (.slice A0_1 l0_1.length c0_1)] 35 (0, 0))) ∧ Aside0 (Below w.heap.size w w'))
   case atStart => exact ⟨(y431), (0), wZ, H', ⟨Nat.le_refl _⟩, ⟨Rz HO433.out⟩, ⟨Kz BK430.out⟩, ⟨Bq⟩⟩
   case round =>
    clear H'
    try clear c1
    try clear p2
    try clear c3
    try clear c3b0
    try clear c3b1
    try clear c4
    try clear c4b0
    try clear c4b1
    try clear hcz6_0
    try clear hcz6_1
    try clear hfz6_0
    try clear hfz6_1
    obtain ⟨x5_1, x15_1, rfl, HA, HK1, HO_5, BK430, HB⟩ := hrel; cases gk with
    | zero => exact absurd HA.out (by simp [spec_peDegrees.l0])
    | succ k1 =>
     have H := HA.out; clear HA
     simp only [spec_peDegrees.l0] at H
     by_cases c9 : x15_1 < (l1.length : Int)
     ·rw [if_pos c9] at H
      have c9b0 : decide (x15_1 < (l1.length : Int)) = true := decide_eq_true c9; clear c9
      by_cases c10 : 0 ≤ x15_1
      ·rw [if_pos c10] at H
       have c10b0 : decide (0 ≤ x15_1) = true := decide_eq_true c10; clear c10
       by_cases c11 : x15_1 < (l1.length : Int)
       ·rw [if_pos c11] at H
        have c11b0 : decide (x15_1 < (l1.length : Int)) = true := decide_eq_true c11; clear c11
        by_cases c12 : 0 ≤ (rd l1 x15_1)
        ·rw [if_pos c12] at H
         have c12b0 : decide (0 ≤ (rd l1 x15_1)) = true := decide_eq_true c12; clear c12
         by_cases c13 : (rd l1 x15_1) < (l0_1.length : Int)
         ·rw [if_pos c13] at H
          have c13b0 : decide ((rd l1 x15_1) < (l0_1.length : Int)) = true := decide_eq_true c13; clear c13; have H' := am H; clear H; have p434 : 0 ≤ (x15_1 : Int) := dT; have q434 : x15_1 < (l1.length : Int) := dT; obtain ⟨ad434, e434, hx434_0⟩ := Kd.at_int HR1.out x15_1 p434 q434; cases e434; replace hx434_0 := (HB.out.cell (World.block_lt_of_cell? w _ hx434_0)).trans hx434_0; replace p434 := eq_true p434; replace q434 := eq_true q434; obtain ⟨hcz14_0, hcz14_1, hfz14_0, hfz14_1⟩ := cf2 (w := wr) BK430; have p435 : 0 ≤ ((rd l1 x15_1) : Int) := dT; have q435 : (rd l1 x15_1) < (l0_1.length : Int) := dT; obtain ⟨ad435, A435_0, c435_0, e435, hx435_0, hl435_0, hi435_0⟩ := at_L3 HR0_1.out (rd l1 x15_1) p435 q435; cases e435; replace hx435_0 := (HB.out.cell (World.block_lt_of_cell? w _ hx435_0)).trans hx435_0; have HR435_0 := am hi435_0; have HC435_0 := am hl435_0; clear hi435_0 hl435_0; replace p435 := eq_true p435; replace q435 := eq_true q435
          go_wp2
          go_loopg [25] k1 (fun kq v25 w' => ∃ (x5_2 : List Int) (x25_2 : Int), v25 = .int .i64 x25_2 ∧ Aside0 (spec_peDegrees.l1 kq x5_2 l1 (l1.length : Int) x15_1 (rd_L3 l0_1 (rd l1 x15_1)) ((rd_L3 l0_1 (rd l1 x15_1)).length : Int) x25_2 a0_0 l0_1 = some r) ∧ Aside0 (kq ≤ k1) ∧ Aside0 (Kd.R (Kd.int .i64) 3 w' w.heap.size (fun _ => True) v432 x5_2) ∧ Aside0 (w'.heap[gb430]? = some (.cells #[.int .i64 a0_0, (.slice (some ad435) l0_1.length c0_1)] 35 (0, 0))) ∧ Aside0 (Below w.heap.size w w'))
          case atStart => exact ⟨(x5_1), (0), wZ, H', ⟨Nat.le_refl _⟩, ⟨Rz HO_5.out⟩, ⟨Kz BK430.out⟩, ⟨Bq⟩⟩
          case round =>
           clear H'
           try clear c1
           try clear p2
           try clear c3
           try clear c3b0
           try clear c3b1
           try clear c4
           try clear c4b0
           try clear c4b1
           try clear p4
           try clear q4
           try clear hx4
           try clear c9
           try clear c9b0
           try clear c10
           try clear c10b0
           try clear c11
           try clear c11b0
           try clear c12
           try clear c12b0
           try clear c13
           try clear c13b0
           try clear hcz14_0
           try clear hcz14_1
           try clear hcz6_0
           try clear hcz6_1
           try clear hfz14_0
           try clear hfz14_1
           try clear hfz6_0
           try clear hfz6_1
           try clear hx434_0
           try clear hx435_0
           try clear p2
           try clear p434
           try clear p435
           try clear q434
           try clear q435
           obtain ⟨x5_2, x25_2, rfl, HA, HK2, HO_5, BK430, HB⟩ := hrel; cases gk with
           | zero => exact absurd HA.out (by simp [spec_peDegrees.l1])
           | succ k2 =>
            have H := HA.out; clear HA
            simp only [spec_peDegrees.l1] at H
            by_cases c15 : x25_2 < ((rd_L3 l0_1 (rd l1 x15_1)).length : Int)
            ·rw [if_pos c15] at H
             have c15b0 : decide (x25_2 < ((rd_L3 l0_1 (rd l1 x15_1)).length : Int)) = true := decide_eq_true c15; clear c15
             by_cases c16 : 0 ≤ x25_2
             ·rw [if_pos c16] at H
              have c16b0 : decide (0 ≤ x25_2) = true := decide_eq_true c16; clear c16
              by_cases c17 : x25_2 < ((rd_L3 l0_1 (rd l1 x15_1)).length : Int)
              ·rw [if_pos c17] at H
               have c17b0 : decide (x25_2 < ((rd_L3 l0_1 (rd l1 x15_1)).length : Int)) = true := decide_eq_true c17; clear c17
               by_cases c18 : 0 ≤ (rd (rd_L3 l0_1 (rd l1 x15_1)) x25_2)
               ·rw [if_pos c18] at H
                have c18b0 : decide (0 ≤ (rd (rd_L3 l0_1 (rd l1 x15_1)) x25_2)) = true := decide_eq_true c18; clear c18
                by_cases c19 : (rd (rd_L3 l0_1 (rd l1 x15_1)) x25_2) < (x5_2.length : Int)
                ·rw [if_pos c19] at H
                 have c19b0 : decide ((rd (rd_L3 l0_1 (rd l1 x15_1)) x25_2) < (x5_2.length : Int)) = true := decide_eq_true c19; clear c19; obtain ⟨y438, hy438⟩ : ∃ y_ : List Int, y_ = (x5_2.set ((rd (rd_L3 l0_1 (rd l1 x15_1)) x25_2) : Int).toNat (wrap64 ((rd x5_2 (rd (rd_L3 l0_1 (rd l1 x15_1)) x25_2)) + 1))) := ⟨_, rfl⟩
                 replace H : (spec_peDegrees.l1 k2 y438 l1 (l1.length : Int) x15_1 (rd_L3 l0_1 (rd l1 x15_1)) ((rd_L3 l0_1 (rd l1 x15_1)).length : Int) (wrap64 (x25_2 + 1)) a0_0 l0_1) = some r := by first | (rw [hy438]; with_reducible exact H) | (have H2_ := (Option.bind_some _ _).symm.trans H; rw [hy438]; with_reducible exact H2_) | (have H2_ := (Option.bind_some _ _).symm.trans H; with_reducible exact H2_) | with_reducible exact H | (rw [hy438]; exact H) | exact H
                 have Ny438 := am hy438; clear hy438; have H' := am H; clear H; have p436 : 0 ≤ (x25_2 : Int) := dT; have q436 : x25_2 < ((rd_L3 l0_1 (rd l1 x15_1)).length : Int) := dT; obtain ⟨ad436, e436, hx436_0⟩ := Kd.at_int HR435_0.out x25_2 p436 q436; cases e436; replace hx436_0 := (HB.out.cell (World.block_lt_of_cell? w _ hx436_0)).trans hx436_0; replace p436 := eq_true p436; replace q436 := eq_true q436; obtain ⟨Ao21, co21, eo21⟩ := Kd.R_slice HO_5.out; subst eo21; obtain ⟨ad437, e437, hx437_0⟩ := Kd.at_int (Kd.R_reads' HO_5.out).2.2 (rd (rd_L3 l0_1 (rd l1 x15_1)) x25_2) dT dT; cases e437; have p437 := eT (0 ≤ ((rd (rd_L3 l0_1 (rd l1 x15_1)) x25_2) : Int)); have q437 := eT ((rd (rd_L3 l0_1 (rd l1 x15_1)) x25_2) < (x5_2.length : Int)); have p20 : 0 ≤ ((rd (rd_L3 l0_1 (rd l1 x15_1)) x25_2) : Int) := dT; have q20 : ((rd (rd_L3 l0_1 (rd l1 x15_1)) x25_2) : Int) < ((x5_2.length : Int) : Int) := dT; obtain ⟨go20, co20, eo20, gb20, gl20, cl20, HG20⟩ := Kd.R_form HO_5.out (by omega)
                 (first | cases eo20 | (injection eo20 with ea_ en_ ec_; (first | subst ea_ | (injection ea_ with ea_; subst ea_)); subst ec_; clear en_))
                 have GB20 := am gb20; have GG20 := am HG20; clear gb20 gl20 HG20
                 (first | simp only [add_plain] at hx437_0 | skip)
                 obtain ⟨hx20_0, hf20_0⟩ := Kd.R_celln 0 HO_5.out ((rd (rd_L3 l0_1 (rd l1 x15_1)) x25_2) : Int) p20 q20; replace p20 := eq_true p20; replace q20 := eq_true q20; have HP22 := Kd.R_putg HO_5.out ((rd (rd_L3 l0_1 (rd l1 x15_1)) x25_2) : Int) (wrap64 ((rd x5_2 (rd (rd_L3 l0_1 (rd l1 x15_1)) x25_2)) + 1))
                 go_wp2_with (first | ((with_reducible refine gate_store (t := 3) (p := 34) rfl ?_); refine store_event (t := 3) (p := 34) (v := ?vo_w23) (w1 := (wr.setCell ⟨go20, ((rd (rd_L3 l0_1 (rd l1 x15_1)) x25_2) : Int).toNat, none⟩ (.int .i64 (wrap64 ((rd x5_2 (rd (rd_L3 l0_1 (rd l1 x15_1)) x25_2)) + 1))))) ?hg ?ho ?hn ?hr ?_; (case ho => rfl); (case hg => rfl); (case hn => rfl); (case hr => first | (go_simp; done) | (go_simp; rfl)); intro w23 hw; have hg : wr.grownBy w23 (some go20) := (by rw [hw]; exact HP22.2); have hp_ : Kd.R (Kd.int .i64) 3 w23 w.heap.size (fun _ => True) (.slice (some ⟨go20, 0, none⟩) x5_2.length co21) y438 := (by rw [hw, Ny438.out]; exact HP22.1); clear HP22; have n0_ := am (hp_); have n1_ := am (blk_grown (g := gb430) (o := .cells #[.int .i64 a0_0, .slice (some ad435) l0_1.length c0_1] 35 (0, 0)) (Kz BK430.out) hg (Kd.R_ne HO_5.out BK430.out (by decide))); have n2_ := am ((by rw [hw]; exact below_set (HB.out) GB20.out : Below w.heap.size w w23)); clear HO_5 BK430 HB; revert n0_ n1_ n2_; intro HO_5 BK430 HB; clear hg hw hp_))
                 go_roundg k2
                 case measure => have := HK1.out; have := HK2.out; omega
                 case rel => exact ⟨(y438), (wrap64 (x25_2 + 1)), wZ, H', ⟨by have := HK1.out; have := HK2.out; omega⟩, ⟨Rz HO_5.out⟩, ⟨Kz BK430.out⟩, ⟨Bq⟩⟩
                ·rw [if_neg c19] at H
                 exact absurd H (by simp)
               ·rw [if_neg c18] at H
                exact absurd H (by simp)
              ·rw [if_neg c17] at H
               exact absurd H (by simp)
             ·rw [if_neg c16] at H
              exact absurd H (by simp)
            ·rw [if_neg c15] at H
             have c15b0 : decide (x25_2 < ((rd_L3 l0_1 (rd l1 x15_1)).length : Int)) = false := decide_eq_false c15; clear c15; have H' := am H; clear H
             go_wp2
             go_roundg k2
             case measure => have := HK1.out; have := HK2.out; omega
             case rel => exact ⟨(x5_2), (wrap64 (x15_1 + 1)), wZ, H', ⟨by have := HK1.out; have := HK2.out; omega⟩, ⟨Rz HO_5.out⟩, ⟨Kz BK430.out⟩, ⟨Bq⟩⟩
         ·rw [if_neg c13] at H
          exact absurd H (by simp)
        ·rw [if_neg c12] at H
         exact absurd H (by simp)
       ·rw [if_neg c11] at H
        exact absurd H (by simp)
      ·rw [if_neg c10] at H
       exact absurd H (by simp)
     ·rw [if_neg c9] at H
      have c9b0 : decide (x15_1 < (l1.length : Int)) = false := decide_eq_false c9; clear c9; obtain rfl := Option.some.inj H
      go_wp2
      go_ret
      exact ⟨_, eZ, Rz HO_5.out, Bq⟩
  ·rw [if_neg c4] at H
   exact absurd H (by simp)
 ·rw [if_neg c3] at H
  exact absurd H (by simp)

def spec_peFree.l0 : Nat → List Int → List Int → Int → Int → Option (List Int)
 | 0, _, _, _, _ => none
 | k + 1, x5, x10, x11, x12 => if x12 < x11 then (if 0 ≤ x12 then (if x12 < (x10.length : Int) then (if (rd x10 x12) = 1 then (if x5.length < 17592186044416 then (spec_peFree.l0 k (x5 ++ [x12]) x10 x11 (wrap64 (x12 + 1))) else (none)) else (spec_peFree.l0 k x5 x10 x11 (wrap64 (x12 + 1)))) else (none)) else (none)) else (some x5)
def spec_peFree.f (k : Nat) (a0_0 : Int) (l0_1 : List (List Int)) (l1 : List Int) : Option (List Int) := (spec_peDegrees.f k a0_0 l0_1 l1).bind fun t440 => (spec_peFree.l0 k ([] : List Int) t440 (t440.length : Int) 0)
theorem spec_peFree.calls (k : Nat) (a0_0 : Int) (A0_1 : Option Addr) (c0_1 : Nat) (l0_1 : List (List Int)) (A1 : Option Addr) (c1 : Nat) (l1 : List Int) (r : List Int) (w : World) (hr0_1 : Kd.C (Kd.slice 3 (Kd.int .i64)) w A0_1 l0_1.length l0_1) (hc0_1 : l0_1.length ≤ c0_1) (hr1 : Kd.C (Kd.int .i64) w A1 l1.length l1) (hc1 : l1.length ≤ c1) (h : spec_peFree.f k a0_0 l0_1 l1 = some r) :
  Calls Tryz.prog 72 #[.agg #[.int .i64 a0_0, .slice A0_1 l0_1.length c0_1], .slice A1 l1.length c1] w fun e w' => ∃ v0_ : Value, e = .returned (v0_) ∧ Kd.R (Kd.int .i64) 3 w' w.heap.size (fun _ => True) v0_ r ∧ Below w.heap.size w w' := by
 have hu35 := Tryz.underlying35; have HR0_1 := am hr0_1; have HC0_1 := am hc0_1; clear hr0_1 hc0_1; have HR1 := am hr1; have HC1 := am hc1; clear hr1 hc1; have HB := am (Below.refl w.heap.size w); have H : ((spec_peDegrees.f k a0_0 l0_1 l1).bind fun t440 => (spec_peFree.l0 k ([] : List Int) t440 (t440.length : Int) 0)) = some r := h; clear h; replace H := Option.bind_eq_some_iff.mp H; obtain ⟨t440, A30, H⟩ := H; (try dsimp -simprocs only at H); have A3 := am A30; clear A30; have H' := am H; clear H
 go_enter Tryz.func72, Tryz.ntmps72
 go_wp2_with (first | ((with_reducible refine gate_dst (N := 2) rfl ?_); refine bE 2 #[.int .i64 a0_0, .slice A0_1 l0_1.length c0_1] 35 ?_; intro gb439 hg w4 hbox hb; have n0_ := Bb HB hb; have n1_ := am (hbox); have n2_ := Gl HB hg; have n3_ := Gl HB hg; clear HB; revert n0_ n1_ n2_ n3_; intro HB BK439 GW439 GE439; clear hb hbox hg; obtain ⟨hcz5_0, hcz5_1, hfz5_0, hfz5_1⟩ := cf2 (w := w4) BK439) | ((with_reducible refine gate_callee (f := 101) rfl ?_); refine gL (some 10) Tryz.func101 #[.agg #[.int .i64 a0_0, .slice A0_1 l0_1.length c0_1], .slice A1 l1.length c1] ?_; (with_reducible refine (spec_peDegrees.calls k a0_0 _ _ l0_1 _ _ l1 t440 _ ?side1 ?side2 ?side3 ?side4 A3.out).mono ?_); (case side1 => exact Cz (Kd.C_below HR0_1.out HB.out)); (case side2 => exact HC0_1.out); (case side3 => exact Cz (Kd.C_below HR1.out HB.out)); (case side4 => exact HC1.out); rintro e w6 ⟨v441, rfl, ho0, hb⟩; refine ⟨_, rfl, ?_⟩; have n0_ := Rm ho0 HB; have n1_ := Kb BK439 hb; have n2_ := Bc HB hb; clear BK439 HB; revert n0_ n1_ n2_; intro HO442 BK439 HB; (try clear hb); (try clear hb2); (try clear hk); (try clear hi); (try clear ho0); obtain ⟨Ao7, co7, eo7⟩ := Kd.R_slice HO442.out; subst eo7))
 (try simp only [aP])
 go_loopg [5, 12] k (fun kq v5 v12 w' => ∃ (x5_1 : List Int) (x12_1 : Int), v12 = .int .i64 x12_1 ∧ Aside0 (spec_peFree.l0 kq x5_1 t440 (t440.length : Int) x12_1 = some r) ∧ Aside0 (kq ≤ k) ∧ Aside0 (Kd.R (Kd.int .i64) 3 w' w.heap.size (fun k_ => some k_ ≠ ((.slice Ao7 t440.length co7) : Value).ownBlock) v5 x5_1) ∧ Aside0 (Kd.R (Kd.int .i64) 3 w' w.heap.size (fun k_ => some k_ ≠ (v5 : Value).ownBlock) (.slice Ao7 t440.length co7) t440) ∧ Aside0 (w'.heap[gb439]? = some (.cells #[.int .i64 a0_0, (.slice A0_1 l0_1.length c0_1)] 35 (0, 0))) ∧ Aside0 (Below w.heap.size w w'))
 case atStart => exact ⟨(([] : List Int)), (0), wZ, H', ⟨Nat.le_refl _⟩, ⟨nZ⟩, ⟨Rz (Kd.R_mono HO442.out (fun _ hk => (by simp [Value.ownBlock])))⟩, ⟨Kz BK439.out⟩, ⟨Bq⟩⟩
 case round =>
  clear H'
  try clear c1
  try clear p2
  try clear c7
  try clear hcz5_0
  try clear hcz5_1
  try clear hfz5_0
  try clear hfz5_1
  obtain ⟨x5_1, x12_1, rfl, HA, HK1, HO_5, HO_10, BK439, HB⟩ := hrel; cases gk with
  | zero => exact absurd HA.out (by simp [spec_peFree.l0])
  | succ k1 =>
   have H := HA.out; clear HA
   simp only [spec_peFree.l0] at H
   by_cases c8 : x12_1 < (t440.length : Int)
   ·rw [if_pos c8] at H
    have c8b0 : decide (x12_1 < (t440.length : Int)) = true := decide_eq_true c8; clear c8
    by_cases c9 : 0 ≤ x12_1
    ·rw [if_pos c9] at H
     have c9b0 : decide (0 ≤ x12_1) = true := decide_eq_true c9; clear c9
     by_cases c10 : x12_1 < (t440.length : Int)
     ·rw [if_pos c10] at H
      have c10b0 : decide (x12_1 < (t440.length : Int)) = true := decide_eq_true c10; clear c10
      by_cases c11 : (rd t440 x12_1) = 1
      ·rw [if_pos c11] at H
       have c11b0 : ((rd t440 x12_1) == 1) = true := beq_iff_eq.mpr c11; have c11b1 : ((rd t440 x12_1) != 1) = false := bne_eq_false_iff_eq.mpr c11; clear c11
       by_cases c12 : x5_1.length < 17592186044416
       ·rw [if_pos c12] at H
        have LMc12 := am c12; clear c12; obtain ⟨y444, hy444⟩ : ∃ y_ : List Int, y_ = (x5_1 ++ [x12_1]) := ⟨_, rfl⟩
        replace H : (spec_peFree.l0 k1 y444 t440 (t440.length : Int) (wrap64 (x12_1 + 1))) = some r := by first | (rw [hy444]; with_reducible exact H) | (have H2_ := (Option.bind_some _ _).symm.trans H; rw [hy444]; with_reducible exact H2_) | (have H2_ := (Option.bind_some _ _).symm.trans H; with_reducible exact H2_) | with_reducible exact H | (rw [hy444]; exact H) | exact H
        have Ny444 := am hy444; clear hy444; have H' := am H; clear H; obtain ⟨ad443, e443, hx443_0⟩ := Kd.at_int (Kd.R_reads' HO_10.out).2.2 x12_1 dT dT; cases e443; have p443 := eT (0 ≤ (x12_1 : Int)); have q443 := eT (x12_1 < (t440.length : Int))
        go_wp2_with (first | ((with_reducible refine gate_builtin (b := .append) (xs := #[.tmp 19, .tmp 21]) rfl ?_); at_builtin; refine Kd.R_append (Kd.int .i64) (w0 := w) w.heap.size rfl (.tmp 19) (.tmp 21) 27 3 (.int .i64 0) 8 rfl Tryz.underlying27 info3 rfl (by decide) (by omega) u5 x5_1 x12_1 [.int .i64 x12_1] (fun k_ => some k_ ≠ (.slice (some ad443) t440.length co7 : Value).ownBlock) (fun _ => False) rfl rfl ?aP (fun _ hk => hk.elim) ?aF ?aO ?aB ?aS ?aL ?_; (case aP => exact rfl); (case aB => exact (Bq)); (case aF => exact (fun k_ hk => Kd.fresh' (Kd.R_lt (Rz HO_10.out)) k_ hk)); (case aO => exact (Rz HO_5.out)); (case aS => exact (below_size (w := w) (Bq))); (case aL => have := LMc12.out; omega); intro v445 w13 ho hb hg hat; rw [← Ny444.out] at ho; have n0_ := am (Kd.R_after (ok := (fun _ => True)) (Rz (Kd.R_mono HO_10.out (fun _ hk => ⟨trivial, hk⟩))) hg hat); have n1_ := am (blk_grown (g := gb439) (o := .cells #[.int .i64 a0_0, .slice A0_1 l0_1.length c0_1] 35 (0, 0)) (Kz BK439.out) hg (Kd.R_ne HO_5.out BK439.out (by decide))); have n2_ := am (hb); have n3_ := am (ho); clear HO_10 BK439 HB HO_5; revert n0_ n1_ n2_ n3_; intro HO_10 BK439 HB HO446; clear ho hb hg hat))
        go_roundg k1
        case measure => have := HK1.out; omega
        case rel => exact ⟨(y444), (wrap64 (x12_1 + 1)), wZ, H', ⟨by have := HK1.out; omega⟩, ⟨Rz HO446.out⟩, ⟨Rz (Kd.R_mono HO_10.out (fun _ hk => hk.2))⟩, ⟨Kz BK439.out⟩, ⟨Bq⟩⟩
       ·rw [if_neg c12] at H
        exact absurd H (by simp)
      ·rw [if_neg c11] at H
       have c11b0 : ((rd t440 x12_1) == 1) = false := beq_eq_false_iff_ne.mpr c11; have c11b1 : ((rd t440 x12_1) != 1) = true := bne_iff_ne.mpr c11; have H' := am H; clear H; obtain ⟨ad443, e443, hx443_0⟩ := Kd.at_int (Kd.R_reads' HO_10.out).2.2 x12_1 dT dT; cases e443; have p443 := eT (0 ≤ (x12_1 : Int)); have q443 := eT (x12_1 < (t440.length : Int))
       go_wp2
       go_roundg k1
       case measure => have := HK1.out; omega
       case rel => exact ⟨(x5_1), (wrap64 (x12_1 + 1)), wZ, H', ⟨by have := HK1.out; omega⟩, ⟨Rz HO_5.out⟩, ⟨Rz HO_10.out⟩, ⟨Kz BK439.out⟩, ⟨Bq⟩⟩
     ·rw [if_neg c10] at H
      exact absurd H (by simp)
    ·rw [if_neg c9] at H
     exact absurd H (by simp)
   ·rw [if_neg c8] at H
    have c8b0 : decide (x12_1 < (t440.length : Int)) = false := decide_eq_false c8; clear c8; obtain rfl := Option.some.inj H
    go_wp2
    go_ret
    exact ⟨_, eZ, Rz (Kd.R_mono HO_5.out (fun _ hk => trivial)), Bq⟩

def spec_l1Has.l0 : Nat → Int → List Int → Int → Int → Option (Bool)
 | 0, _, _, _, _ => none
 | k + 1, x1, x7, x8, x9 => if x9 < x8 then (if 0 ≤ x9 then (if x9 < (x7.length : Int) then (if (rd x7 x9) = x1 then (some true) else (spec_l1Has.l0 k x1 x7 x8 (wrap64 (x9 + 1)))) else (none)) else (none)) else (some false)
def spec_l1Has.f (k : Nat) (l0 : List Int) (a1 : Int) : Option (Bool) := spec_l1Has.l0 k a1 l0 (l0.length : Int) 0
theorem spec_l1Has.calls (k : Nat) (A0 : Option Addr) (c0 : Nat) (l0 : List Int) (a1 : Int) (r : Bool) (w : World) (hr0 : Kd.C (Kd.int .i64) w A0 l0.length l0) (hc0 : l0.length ≤ c0) (h : spec_l1Has.f k l0 a1 = some r) :
  Calls Tryz.prog 102 #[.slice A0 l0.length c0, .int .i64 a1] w fun e w' => e = .returned (.bool r) ∧ Drawn0 w w' := by
 have HR0 := am hr0; have HC0 := am hc0; clear hr0 hc0; have H : (spec_l1Has.l0 k a1 l0 (l0.length : Int) 0) = some r := h; clear h; have H' := am H; clear H
 go_enter Tryz.func102, Tryz.ntmps102
 go_wp2
 go_loopg [9] k (fun kq v9 w' => ∃ (x9_1 : Int), v9 = .int .i64 x9_1 ∧ Aside0 (spec_l1Has.l0 kq a1 l0 (l0.length : Int) x9_1 = some r) ∧ Aside0 (kq ≤ k) ∧ Drawn0 w w')
 case atStart => exact ⟨(0), wZ, H', ⟨Nat.le_refl _⟩, by repeat (first | exact Drawn0.refl _ | apply Drawn0.step)⟩
 case round =>
  clear H'
  try clear c1
  try clear p2
  obtain ⟨x9_1, rfl, HA, HK1, ⟨m1, rfl⟩⟩ := hrel; cases gk with
  | zero => exact absurd HA.out (by simp [spec_l1Has.l0])
  | succ k1 =>
   have H := HA.out; clear HA
   simp only [spec_l1Has.l0] at H
   by_cases c3 : x9_1 < (l0.length : Int)
   ·rw [if_pos c3] at H
    have c3b0 : decide (x9_1 < (l0.length : Int)) = true := decide_eq_true c3; clear c3
    by_cases c4 : 0 ≤ x9_1
    ·rw [if_pos c4] at H
     have c4b0 : decide (0 ≤ x9_1) = true := decide_eq_true c4; clear c4
     by_cases c5 : x9_1 < (l0.length : Int)
     ·rw [if_pos c5] at H
      have c5b0 : decide (x9_1 < (l0.length : Int)) = true := decide_eq_true c5; clear c5
      by_cases c6 : (rd l0 x9_1) = a1
      ·rw [if_pos c6] at H
       have c6b0 : ((rd l0 x9_1) == a1) = true := beq_iff_eq.mpr c6; have c6b1 : ((rd l0 x9_1) != a1) = false := bne_eq_false_iff_eq.mpr c6; clear c6; obtain rfl := Option.some.inj H; obtain ⟨ad447, e447, hx447_0⟩ := Kd.at_int HR0.out x9_1 dT dT; cases e447; have p447 := eT (0 ≤ (x9_1 : Int)); have q447 := eT (x9_1 < (l0.length : Int))
       go_wp2
       go_ret
       exact ⟨by first | rfl | (simp; done) | (simp [*]; done), by repeat (first | exact Drawn0.refl _ | apply Drawn0.step)⟩
      ·rw [if_neg c6] at H
       have c6b0 : ((rd l0 x9_1) == a1) = false := beq_eq_false_iff_ne.mpr c6; have c6b1 : ((rd l0 x9_1) != a1) = true := bne_iff_ne.mpr c6; have H' := am H; clear H; obtain ⟨ad447, e447, hx447_0⟩ := Kd.at_int HR0.out x9_1 dT dT; cases e447; have p447 := eT (0 ≤ (x9_1 : Int)); have q447 := eT (x9_1 < (l0.length : Int))
       go_wp2
       go_roundg k1
       case measure => have := HK1.out; omega
       case rel => exact ⟨(wrap64 (x9_1 + 1)), wZ, H', ⟨by have := HK1.out; omega⟩, by repeat (first | exact Drawn0.refl _ | apply Drawn0.step)⟩
     ·rw [if_neg c5] at H
      exact absurd H (by simp)
    ·rw [if_neg c4] at H
     exact absurd H (by simp)
   ·rw [if_neg c3] at H
    have c3b0 : decide (x9_1 < (l0.length : Int)) = false := decide_eq_false c3; clear c3; obtain rfl := Option.some.inj H
    go_wp2
    go_ret
    exact ⟨by first | rfl | (simp; done) | (simp [*]; done), by repeat (first | exact Drawn0.refl _ | apply Drawn0.step)⟩

def spec_peWith.l0 : Nat → Int → List Int → Int → Int → Int → List (List Int) → Option (Int)
 | 0, _, _, _, _, _, _ => none
 | k + 1, x2, x9, x10, x11, x449000, x449001 => if x11 < x10 then (if 0 ≤ x11 then (if x11 < (x9.length : Int) then (if 0 ≤ (rd x9 x11) then (if (rd x9 x11) < (x449001.length : Int) then ((spec_l1Has.f k (rd_L3 x449001 (rd x9 x11)) x2).bind fun t451 => (if t451 = true then (some (rd x9 x11)) else (spec_peWith.l0 k x2 x9 x10 (wrap64 (x11 + 1)) x449000 x449001))) else (none)) else (none)) else (none)) else (none)) else (some (-1))
def spec_peWith.f (k : Nat) (a0_0 : Int) (l0_1 : List (List Int)) (l1 : List Int) (a2 : Int) : Option (Int) := spec_peWith.l0 k a2 l1 (l1.length : Int) 0 a0_0 l0_1
theorem spec_peWith.calls (k : Nat) (a0_0 : Int) (A0_1 : Option Addr) (c0_1 : Nat) (l0_1 : List (List Int)) (A1 : Option Addr) (c1 : Nat) (l1 : List Int) (a2 : Int) (r : Int) (w : World) (hr0_1 : Kd.C (Kd.slice 3 (Kd.int .i64)) w A0_1 l0_1.length l0_1) (hc0_1 : l0_1.length ≤ c0_1) (hr1 : Kd.C (Kd.int .i64) w A1 l1.length l1) (hc1 : l1.length ≤ c1) (h : spec_peWith.f k a0_0 l0_1 l1 a2 = some r) :
  Calls Tryz.prog 73 #[.agg #[.int .i64 a0_0, .slice A0_1 l0_1.length c0_1], .slice A1 l1.length c1, .int .i64 a2] w fun e w' => e = .returned (.int .i64 r) ∧ Below w.heap.size w w' := by
 have hu35 := Tryz.underlying35; have HR0_1 := am hr0_1; have HC0_1 := am hc0_1; clear hr0_1 hc0_1; have HR1 := am hr1; have HC1 := am hc1; clear hr1 hc1; have HB := am (Below.refl w.heap.size w); have H : (spec_peWith.l0 k a2 l1 (l1.length : Int) 0 a0_0 l0_1) = some r := h; clear h; have H' := am H; clear H
 go_enter Tryz.func73, Tryz.ntmps73
 go_wp2_with (first | ((with_reducible refine gate_dst (N := 3) rfl ?_); refine bE 3 #[.int .i64 a0_0, .slice A0_1 l0_1.length c0_1] 35 ?_; intro gb448 hg w4 hbox hb; have n0_ := Bb HB hb; have n1_ := am (hbox); have n2_ := Gl HB hg; have n3_ := Gl HB hg; clear HB; revert n0_ n1_ n2_ n3_; intro HB BK448 GW448 GE448; clear hb hbox hg))
 (try simp only [aP])
 go_loopg [11] k (fun kq v11 w' => ∃ (x11_1 : Int), v11 = .int .i64 x11_1 ∧ Aside0 (spec_peWith.l0 kq a2 l1 (l1.length : Int) x11_1 a0_0 l0_1 = some r) ∧ Aside0 (kq ≤ k) ∧ Aside0 (w'.heap[gb448]? = some (.cells #[.int .i64 a0_0, (.slice A0_1 l0_1.length c0_1)] 35 (0, 0))) ∧ Aside0 (Below w.heap.size w w'))
 case atStart => exact ⟨(0), wZ, H', ⟨Nat.le_refl _⟩, ⟨Kz BK448.out⟩, ⟨Bq⟩⟩
 case round =>
  clear H'
  try clear c1
  try clear p2
  obtain ⟨x11_1, rfl, HA, HK1, BK448, HB⟩ := hrel; cases gk with
  | zero => exact absurd HA.out (by simp [spec_peWith.l0])
  | succ k1 =>
   have H := HA.out; clear HA
   simp only [spec_peWith.l0] at H
   by_cases c5 : x11_1 < (l1.length : Int)
   ·rw [if_pos c5] at H
    have c5b0 : decide (x11_1 < (l1.length : Int)) = true := decide_eq_true c5; clear c5
    by_cases c6 : 0 ≤ x11_1
    ·rw [if_pos c6] at H
     have c6b0 : decide (0 ≤ x11_1) = true := decide_eq_true c6; clear c6
     by_cases c7 : x11_1 < (l1.length : Int)
     ·rw [if_pos c7] at H
      have c7b0 : decide (x11_1 < (l1.length : Int)) = true := decide_eq_true c7; clear c7
      by_cases c8 : 0 ≤ (rd l1 x11_1)
      ·rw [if_pos c8] at H
       have c8b0 : decide (0 ≤ (rd l1 x11_1)) = true := decide_eq_true c8; clear c8
       by_cases c9 : (rd l1 x11_1) < (l0_1.length : Int)
       ·rw [if_pos c9] at H
        have c9b0 : decide ((rd l1 x11_1) < (l0_1.length : Int)) = true := decide_eq_true c9; clear c9; replace H := Option.bind_eq_some_iff.mp H; obtain ⟨t451, A100, H⟩ := H; (try dsimp -simprocs only at H); have A10 := am A100; clear A100
        by_cases c11 : t451 = true
        ·subst c11
         rw [if_pos rfl] at H; obtain rfl := Option.some.inj H; have p449 : 0 ≤ (x11_1 : Int) := dT; have q449 : x11_1 < (l1.length : Int) := dT; obtain ⟨ad449, e449, hx449_0⟩ := Kd.at_int HR1.out x11_1 p449 q449; cases e449; replace hx449_0 := (HB.out.cell (World.block_lt_of_cell? w _ hx449_0)).trans hx449_0; replace p449 := eq_true p449; replace q449 := eq_true q449; obtain ⟨hcz12_0, hcz12_1, hfz12_0, hfz12_1⟩ := cf2 (w := wr) BK448; have p450 : 0 ≤ ((rd l1 x11_1) : Int) := dT; have q450 : (rd l1 x11_1) < (l0_1.length : Int) := dT; obtain ⟨ad450, A450_0, c450_0, e450, hx450_0, hl450_0, hi450_0⟩ := at_L3 HR0_1.out (rd l1 x11_1) p450 q450; cases e450; replace hx450_0 := (HB.out.cell (World.block_lt_of_cell? w _ hx450_0)).trans hx450_0; have HR450_0 := am hi450_0; have HC450_0 := am hl450_0; clear hi450_0 hl450_0; replace p450 := eq_true p450; replace q450 := eq_true q450
         go_wp2_with (first | ((with_reducible refine gate_callee (f := 102) rfl ?_); refine gL (some 21) Tryz.func102 #[.slice A450_0 (rd_L3 l0_1 (rd l1 x11_1)).length c450_0, .int .i64 a2] ?_; (with_reducible refine (spec_l1Has.calls k1 _ _ (rd_L3 l0_1 (rd l1 x11_1)) a2 true _ ?side1 ?side2 A10.out).mono ?_); (case side1 => exact Cz (Kd.C_below HR450_0.out HB.out)); (case side2 => exact HC450_0.out); rintro e w' ⟨rfl, ⟨nd, rfl⟩⟩; refine ⟨_, rfl, ?_⟩))
         go_ret
         exact ⟨eZ, Bq⟩
        ·replace c11 := Bool.eq_false_iff.mpr c11
         subst c11
         rw [if_neg (show ¬ (false = true) by decide)] at H; have H' := am H; clear H; have p449 : 0 ≤ (x11_1 : Int) := dT; have q449 : x11_1 < (l1.length : Int) := dT; obtain ⟨ad449, e449, hx449_0⟩ := Kd.at_int HR1.out x11_1 p449 q449; cases e449; replace hx449_0 := (HB.out.cell (World.block_lt_of_cell? w _ hx449_0)).trans hx449_0; replace p449 := eq_true p449; replace q449 := eq_true q449; obtain ⟨hcz13_0, hcz13_1, hfz13_0, hfz13_1⟩ := cf2 (w := wr) BK448; have p450 : 0 ≤ ((rd l1 x11_1) : Int) := dT; have q450 : (rd l1 x11_1) < (l0_1.length : Int) := dT; obtain ⟨ad450, A450_0, c450_0, e450, hx450_0, hl450_0, hi450_0⟩ := at_L3 HR0_1.out (rd l1 x11_1) p450 q450; cases e450; replace hx450_0 := (HB.out.cell (World.block_lt_of_cell? w _ hx450_0)).trans hx450_0; have HR450_0 := am hi450_0; have HC450_0 := am hl450_0; clear hi450_0 hl450_0; replace p450 := eq_true p450; replace q450 := eq_true q450
         go_wp2_with (first | ((with_reducible refine gate_callee (f := 102) rfl ?_); refine gL (some 21) Tryz.func102 #[.slice A450_0 (rd_L3 l0_1 (rd l1 x11_1)).length c450_0, .int .i64 a2] ?_; (with_reducible refine (spec_l1Has.calls k1 _ _ (rd_L3 l0_1 (rd l1 x11_1)) a2 false _ ?side1 ?side2 A10.out).mono ?_); (case side1 => exact Cz (Kd.C_below HR450_0.out HB.out)); (case side2 => exact HC450_0.out); rintro e w' ⟨rfl, ⟨nd, rfl⟩⟩; refine ⟨_, rfl, ?_⟩))
         go_roundg k1
         case measure => have := HK1.out; omega
         case rel => exact ⟨(wrap64 (x11_1 + 1)), wZ, H', ⟨by have := HK1.out; omega⟩, ⟨Kz BK448.out⟩, ⟨Bq⟩⟩
       ·rw [if_neg c9] at H
        exact absurd H (by simp)
      ·rw [if_neg c8] at H
       exact absurd H (by simp)
     ·rw [if_neg c7] at H
      exact absurd H (by simp)
    ·rw [if_neg c6] at H
     exact absurd H (by simp)
   ·rw [if_neg c5] at H
    have c5b0 : decide (x11_1 < (l1.length : Int)) = false := decide_eq_false c5; clear c5; obtain rfl := Option.some.inj H
    go_wp2
    go_ret
    exact ⟨eZ, Bq⟩

def spec_l1Drop.l0 : Nat → Int → List Int → List Int → Int → Int → Option (List Int)
 | 0, _, _, _, _, _ => none
 | k + 1, x1, x5, x8, x9, x10 => if x10 < x9 then (if 0 ≤ x10 then (if x10 < (x8.length : Int) then (if (rd x8 x10) = x1 then (spec_l1Drop.l0 k x1 x5 x8 x9 (wrap64 (x10 + 1))) else (if x5.length < 17592186044416 then (spec_l1Drop.l0 k x1 (x5 ++ [rd x8 x10]) x8 x9 (wrap64 (x10 + 1))) else (none))) else (none)) else (none)) else (some x5)
def spec_l1Drop.f (k : Nat) (l0 : List Int) (a1 : Int) : Option (List Int) := spec_l1Drop.l0 k a1 ([] : List Int) l0 (l0.length : Int) 0
theorem spec_l1Drop.calls (k : Nat) (A0 : Option Addr) (c0 : Nat) (l0 : List Int) (a1 : Int) (r : List Int) (w : World) (hr0 : Kd.C (Kd.int .i64) w A0 l0.length l0) (hc0 : l0.length ≤ c0) (h : spec_l1Drop.f k l0 a1 = some r) :
  Calls Tryz.prog 74 #[.slice A0 l0.length c0, .int .i64 a1] w fun e w' => ∃ v0_ : Value, e = .returned (v0_) ∧ Kd.R (Kd.int .i64) 3 w' w.heap.size (fun _ => True) v0_ r ∧ Below w.heap.size w w' := by
 have HR0 := am hr0; have HC0 := am hc0; clear hr0 hc0; have HB := am (Below.refl w.heap.size w); have H : (spec_l1Drop.l0 k a1 ([] : List Int) l0 (l0.length : Int) 0) = some r := h; clear h; have H' := am H; clear H
 go_enter Tryz.func74, Tryz.ntmps74
 go_wp2
 go_loopg [5, 10] k (fun kq v5 v10 w' => ∃ (x5_1 : List Int) (x10_1 : Int), v10 = .int .i64 x10_1 ∧ Aside0 (spec_l1Drop.l0 kq a1 x5_1 l0 (l0.length : Int) x10_1 = some r) ∧ Aside0 (kq ≤ k) ∧ Aside0 (Kd.R (Kd.int .i64) 3 w' w.heap.size (fun _ => True) v5 x5_1) ∧ Aside0 (Below w.heap.size w w'))
 case atStart => exact ⟨(([] : List Int)), (0), wZ, H', ⟨Nat.le_refl _⟩, ⟨nZ⟩, ⟨Bz HB.out⟩⟩
 case round =>
  clear H'
  try clear p2
  obtain ⟨x5_1, x10_1, rfl, HA, HK1, HO_5, HB⟩ := hrel; cases gk with
  | zero => exact absurd HA.out (by simp [spec_l1Drop.l0])
  | succ k1 =>
   have H := HA.out; clear HA
   simp only [spec_l1Drop.l0] at H
   by_cases c3 : x10_1 < (l0.length : Int)
   ·rw [if_pos c3] at H
    have c3b0 : decide (x10_1 < (l0.length : Int)) = true := decide_eq_true c3; clear c3
    by_cases c4 : 0 ≤ x10_1
    ·rw [if_pos c4] at H
     have c4b0 : decide (0 ≤ x10_1) = true := decide_eq_true c4; clear c4
     by_cases c5 : x10_1 < (l0.length : Int)
     ·rw [if_pos c5] at H
      have c5b0 : decide (x10_1 < (l0.length : Int)) = true := decide_eq_true c5; clear c5
      by_cases c6 : (rd l0 x10_1) = a1
      ·rw [if_pos c6] at H
       have c6b0 : ((rd l0 x10_1) == a1) = true := beq_iff_eq.mpr c6; have c6b1 : ((rd l0 x10_1) != a1) = false := bne_eq_false_iff_eq.mpr c6; clear c6; have H' := am H; clear H; have p452 : 0 ≤ (x10_1 : Int) := dT; have q452 : x10_1 < (l0.length : Int) := dT; obtain ⟨ad452, e452, hx452_0⟩ := Kd.at_int HR0.out x10_1 p452 q452; cases e452; replace hx452_0 := (HB.out.cell (World.block_lt_of_cell? w _ hx452_0)).trans hx452_0; replace p452 := eq_true p452; replace q452 := eq_true q452
       go_wp2
       go_roundg k1
       case measure => have := HK1.out; omega
       case rel => exact ⟨(x5_1), (wrap64 (x10_1 + 1)), wZ, H', ⟨by have := HK1.out; omega⟩, ⟨Rz HO_5.out⟩, ⟨Bz HB.out⟩⟩
      ·rw [if_neg c6] at H
       have c6b0 : ((rd l0 x10_1) == a1) = false := beq_eq_false_iff_ne.mpr c6; have c6b1 : ((rd l0 x10_1) != a1) = true := bne_iff_ne.mpr c6
       by_cases c7 : x5_1.length < 17592186044416
       ·rw [if_pos c7] at H
        have LMc7 := am c7; clear c7; obtain ⟨y453, hy453⟩ : ∃ y_ : List Int, y_ = (x5_1 ++ [rd l0 x10_1]) := ⟨_, rfl⟩
        replace H : (spec_l1Drop.l0 k1 a1 y453 l0 (l0.length : Int) (wrap64 (x10_1 + 1))) = some r := by first | (rw [hy453]; with_reducible exact H) | (have H2_ := (Option.bind_some _ _).symm.trans H; rw [hy453]; with_reducible exact H2_) | (have H2_ := (Option.bind_some _ _).symm.trans H; with_reducible exact H2_) | with_reducible exact H | (rw [hy453]; exact H) | exact H
        have Ny453 := am hy453; clear hy453; have H' := am H; clear H; have p452 : 0 ≤ (x10_1 : Int) := dT; have q452 : x10_1 < (l0.length : Int) := dT; obtain ⟨ad452, e452, hx452_0⟩ := Kd.at_int HR0.out x10_1 p452 q452; cases e452; replace hx452_0 := (HB.out.cell (World.block_lt_of_cell? w _ hx452_0)).trans hx452_0; replace p452 := eq_true p452; replace q452 := eq_true q452
        go_wp2_with (first | ((with_reducible refine gate_builtin (b := .append) (xs := #[.tmp 17, .tmp 19]) rfl ?_); at_builtin; refine Kd.R_append (Kd.int .i64) (w0 := w) w.heap.size rfl (.tmp 17) (.tmp 19) 27 3 (.int .i64 0) 8 rfl Tryz.underlying27 info3 rfl (by decide) (by omega) u5 x5_1 (rd l0 x10_1) [.int .i64 (rd l0 x10_1)] (fun _ => True) (fun _ => False) rfl rfl ?aP (fun _ hk => hk.elim) ?aF ?aO ?aB ?aS ?aL ?_; (case aP => exact rfl); (case aB => exact (Bz HB.out)); (case aF => exact (fun _ _ => trivial)); (case aO => exact (Rz HO_5.out)); (case aS => exact (below_size (Bz HB.out))); (case aL => have := LMc7.out; omega); intro v454 w8 ho hb hg hat; rw [← Ny453.out] at ho; have n0_ := am (hb); have n1_ := am (ho); clear HB HO_5; revert n0_ n1_; intro HB HO455; clear ho hb hg hat))
        go_roundg k1
        case measure => have := HK1.out; omega
        case rel => exact ⟨(y453), (wrap64 (x10_1 + 1)), wZ, H', ⟨by have := HK1.out; omega⟩, ⟨Rz HO455.out⟩, ⟨Bz HB.out⟩⟩
       ·rw [if_neg c7] at H
        exact absurd H (by simp)
     ·rw [if_neg c5] at H
      exact absurd H (by simp)
    ·rw [if_neg c4] at H
     exact absurd H (by simp)
   ·rw [if_neg c3] at H
    have c3b0 : decide (x10_1 < (l0.length : Int)) = false := decide_eq_false c3; clear c3; obtain rfl := Option.some.inj H
    go_wp2
    go_ret
    exact ⟨_, eZ, Rz HO_5.out, Bz HB.out⟩

end Go.Proofs.YtmehagedoaopeaaGreat.PZ
