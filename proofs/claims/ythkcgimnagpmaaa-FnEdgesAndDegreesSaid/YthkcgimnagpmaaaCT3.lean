import Derived.Test.YthkcgimnagpmaaaCT1
import Derived.Test.YthkcgimnagpmaaaCT2
-- printed by a program of this session (wip/gp) out of the translation; Lean checks it
namespace Go.Proofs.Ythkcgimnagpmaaa.PT
open Go.RowKit Go.Proofs.YthkcgimnagpmaaaW.PrintWords Go.Proofs.YthkcgimnagpmaaaW.PrintLast Go.Proofs.YthkcgimnagpmaaaW.PrintMore Go.Proofs.YthkcgimnagpmaaaSq
attribute [local go_sem] max2_int min2_int max_two min_two max_three min_three max_four min_four   -- for this text's walks alone
attribute [local go_sem] Go.Proofs.YthkcgimnagpmaaaGp.str_geq Go.Proofs.YthkcgimnagpmaaaGp.str_gtr Go.Proofs.YthkcgimnagpmaaaGp.str_leq
set_option linter.unusedVariables false
set_option linter.unusedSimpArgs false

set_option maxHeartbeats 8000000
set_option maxRecDepth 100000
theorem spec_DrawWithEdge.calls (k : Nat) (A0 : Option Addr) (c0 : Nat) (l0 : List Int) (r1 : Int) (r2 : List (List Int)) (r3 : List Int) (w : World) (hr0 : Kd.C (Kd.int .u8) w A0 l0.length l0) (hc0 : l0.length ≤ c0) (h : spec_DrawWithEdge.f k l0 = some (r1, r2, r3)) :
  Calls Try.prog 31 #[.slice A0 l0.length c0] w fun e w' => ∃ v1_ v2_ : Value, e = .returned (.tuple #[.agg #[.int .i64 r1, v1_], v2_]) ∧ Kd.S (Kd.slice 3 (Kd.int .i64)) 32 w' w.heap.size (fun k_ => some k_ ≠ (v2_ : Value).ownBlock) v1_ r2 ∧ Kd.R (Kd.int .i64) 3 w' w.heap.size (fun _ => True) v2_ r3 ∧ Below w.heap.size w w' := by
 have hu37 := Try.underlying37; have hu81 := Try.underlying81; have HR0 := am hr0; have HC0 := am hc0; clear hr0 hc0; have HB := am (Below.refl w.heap.size w); have H : ((spec_l1Cur_hyper.f k l0 0 0).bind fun bt394 => ((spec_l1Cur_one.f l0 bt394.2.2.1 bt394.2.2.2 12).bind fun bt401 => (if bt401.1 = true then ((spec_l1Cur_pick.f l0 bt401.2.1 bt401.2.2 2).bind fun bt404 => ((spec_l1Cur_equal.f k l0 bt404.2.1 bt404.2.2 (wrap64 (40 - bt404.1))).bind fun bt407 => (some (3, bt407.1, (([0, 1, 2] : List Int)))))) else ((spec_l1Cur_pick.f l0 bt401.2.1 bt401.2.2 6).bind fun bt415 => ((spec_l1Cur_edge.f k l0 bt415.2.1 bt415.2.2 (wrap64 (bt394.1 + (wrap64 (Int.tdiv bt415.1 5))))).bind fun bt418 => (some (bt394.1, bt394.2.1, bt418.1))))))) = some (r1, r2, r3) := h; clear h; replace H := Option.bind_eq_some_iff.mp H; obtain ⟨⟨t394, t395, t398, t399⟩, A20, H⟩ := H; (try dsimp -simprocs only at H); have A2 := am A20; clear A20; replace H := Option.bind_eq_some_iff.mp H; obtain ⟨⟨t401, t402, t403⟩, A30, H⟩ := H; (try dsimp -simprocs only at H); have A3 := am A30; clear A30
 by_cases c4 : t401 = true
 ·subst c4
  rw [if_pos rfl] at H; replace H := Option.bind_eq_some_iff.mp H; obtain ⟨⟨t404, t405, t406⟩, A50, H⟩ := H; (try dsimp -simprocs only at H); have A5 := am A50; clear A50; replace H := Option.bind_eq_some_iff.mp H; obtain ⟨⟨t407, t410, t411⟩, A60, H⟩ := H; (try dsimp -simprocs only at H); have A6 := am A60; clear A60; obtain ⟨y412, hy412⟩ : ∃ y_ : List Int, y_ = (([0, 1, 2] : List Int)) := ⟨_, rfl⟩
  replace H : (some (3, t407, y412)) = some (r1, r2, r3) := by first | (rw [hy412]; with_reducible exact H) | (have H2_ := (Option.bind_some _ _).symm.trans H; rw [hy412]; with_reducible exact H2_) | (have H2_ := (Option.bind_some _ _).symm.trans H; with_reducible exact H2_) | with_reducible exact H | (rw [hy412]; exact H) | exact H
  have Ny412 := am hy412; clear hy412
  simp only [Option.some.injEq, Prod.mk.injEq] at H
  obtain ⟨rfl, rfl, rfl⟩ := H
  go_enter Try.func31, Try.ntmps31
  go_wp2_with (first | ((with_reducible refine gate_dst (N := 2) rfl ?_); refine bE 2 #[.int .i64 0, .slice none 0 0] 37 ?_; intro gb392 hg w7 hbox hb; have n0_ := Bb HB hb; have n1_ := am (hbox); have n2_ := Gl HB hg; have n3_ := Gl HB hg; clear HB; revert n0_ n1_ n2_ n3_; intro HB BK392 GW392 GE392; clear hb hbox hg) | ((with_reducible refine gate_dst (N := 8) rfl ?_); refine bE 8 #[.slice A0 l0.length c0, .int .i64 0, .int .u64 0] 81 ?_; intro gb393 hg w8 hbox hb; have n0_ := Kb BK392 hb; have n1_ := Bc HB hb; have n2_ := am (hbox); have n3_ := Gm HB hg; have n4_ := Gm HB hg; have n5_ := Nl BK392 hg; have n6_ := Ng BK392 hg; clear BK392 HB; revert n0_ n1_ n2_ n3_ n4_ n5_ n6_; intro BK392 HB BK393 GW393 GE393 NB392_393 NB393_392; clear hb hbox hg; have HI393 := am (show IsS81 w _ gb393 l0 0 0 from ⟨A0, c0, BK393.out, GE393.out, HR0.out⟩); clear BK393) | ((with_reducible refine gate_callee (f := 82) rfl ?_); refine gL (some 10) Try.func82 #[.pointer (some ⟨gb393, 0, none⟩)] ?_; (with_reducible refine (spec_l1Cur_hyper.calls k gb393 l0 0 0 t394 t395 t398 t399 w _ ?side1 ?side2 A2.out).mono ?_); (case side1 => repeat (first | (with_reducible first | exact HI393.out | apply IsS81.alloc | apply IsS81.drewN | apply IsS81.drew | apply IsS81.set_1 | apply IsS81.set_2 | refine IsS81.far ?_ NB393_392.out _) | exact HI393.out)); (case side2 => repeat (first | (with_reducible first | exact HB.out | apply below_alloc | apply pw_below_drewN | apply below_drew1 | refine below_set ?_ (IsS81.ge HI393.out) | refine below_set ?_ GE392.out) | exact HB.out)); rintro e w9 ⟨v396, rfl, ho0, hi, hb, hk⟩; refine ⟨_, rfl, ?_⟩; have n0_ := am (KeepBut.blk hk (g' := gb392) (o := .cells #[.int .i64 0, .slice none 0 0] 37 (0, 0)) (Kz BK392.out) NB392_393.out (by simp)); have n1_ := am (Kd.S_lower ho0 (below_size (by repeat (first | (with_reducible first | exact HB.out | apply below_alloc | apply pw_below_drewN | apply below_drew1 | refine below_set ?_ (IsS81.ge HI393.out) | refine below_set ?_ GE392.out) | exact HB.out)))); have n2_ := am (hb); have n3_ := am (hi); clear BK392 HB HI393; revert n0_ n1_ n2_ n3_; intro BK392 HO397 HB HI393; (try clear hb); (try clear hb2); (try clear hk); (try clear hi); (try clear ho0)) | ((with_reducible refine gate_dst (N := 5) rfl ?_); refine bE 5 #[.int .i64 0, .slice none 0 0] 37 ?_; intro gb400 hg w10 hbox hb; have n0_ := am (Kd.S_below (by (with_reducible repeat (first | apply Kd.S_alloc | apply Kd.S_drewN | apply Kd.S_drew)); exact HO397.out) hb); have n1_ := Kb BK392 hb; have n2_ := am (IsS81.below (by repeat (first | (with_reducible first | exact HI393.out | apply IsS81.alloc | apply IsS81.drewN | apply IsS81.drew | apply IsS81.set_1 | apply IsS81.set_2 | refine IsS81.far ?_ NB393_392.out _) | exact HI393.out)) hb); have n3_ := am (below_step (by repeat (first | (with_reducible first | exact HB.out | apply below_alloc | apply pw_below_drewN | apply below_drew1 | refine below_set ?_ (IsS81.ge HI393.out) | refine below_set ?_ GE392.out) | exact HB.out)) hb); have n4_ := am (hbox); have n5_ := am ((by rw [hg]; exact (below_size (by repeat (first | (with_reducible first | exact HB.out | apply below_alloc | apply pw_below_drewN | apply below_drew1 | refine below_set ?_ (IsS81.ge HI393.out) | refine below_set ?_ GE392.out) | exact HB.out))) : w.heap.size ≤ gb400)); have n6_ := am ((by rw [hg]; exact (below_size (by repeat (first | (with_reducible first | exact HB.out | apply below_alloc | apply pw_below_drewN | apply below_drew1 | refine below_set ?_ (IsS81.ge HI393.out) | refine below_set ?_ GE392.out) | exact HB.out))) : w.heap.size ≤ gb400)); have n7_ := Nl BK392 hg; have n8_ := Ng BK392 hg; have n9_ := am ((by rw [hg]; exact Nat.ne_of_lt (IsS81.lt (show IsS81 w _ gb393 l0 t398 t399 from by repeat (first | (with_reducible first | exact HI393.out | apply IsS81.alloc | apply IsS81.drewN | apply IsS81.drew | apply IsS81.set_1 | apply IsS81.set_2 | refine IsS81.far ?_ NB393_392.out _) | exact HI393.out))) : gb393 ≠ gb400)); have n10_ := am ((by rw [hg]; exact Nat.ne_of_gt (IsS81.lt (show IsS81 w _ gb393 l0 t398 t399 from by repeat (first | (with_reducible first | exact HI393.out | apply IsS81.alloc | apply IsS81.drewN | apply IsS81.drew | apply IsS81.set_1 | apply IsS81.set_2 | refine IsS81.far ?_ NB393_392.out _) | exact HI393.out))) : gb400 ≠ gb393)); clear HO397 BK392 HI393 HB; revert n0_ n1_ n2_ n3_ n4_ n5_ n6_ n7_ n8_ n9_ n10_; intro HO397 BK392 HI393 HB BK400 GW400 GE400 NB392_400 NB400_392 NB393_400 NB400_393; clear hb hbox hg; have hnb11 := NB400_392.out; have hnc11 := NB392_400.out; have hnb12 := NB400_393.out; have hnc12 := NB393_400.out; obtain ⟨hcz13_0, hcz13_1, hfz13_0, hfz13_1⟩ := cf2 (w := w10) BK400; obtain ⟨Ao14, co14, eo14⟩ := Kd.S_slice HO397.out; subst eo14) | ((with_reducible refine gate_callee (f := 99) rfl ?_); refine gL (some 12) Try.func99 #[.pointer (some ⟨gb393, 0, none⟩), .int .i64 12] ?_; (with_reducible refine (spec_l1Cur_one.calls gb393 l0 t398 t399 12 true t402 t403 w _ ?side1 ?side2 A3.out).mono ?_); (case side1 => repeat (first | (with_reducible first | exact HI393.out | apply IsS81.alloc | apply IsS81.drewN | apply IsS81.drew | apply IsS81.set_1 | apply IsS81.set_2 | refine IsS81.far ?_ NB393_392.out _ | refine IsS81.far ?_ NB393_400.out _) | exact HI393.out)); (case side2 => repeat (first | (with_reducible first | exact HB.out | apply below_alloc | apply pw_below_drewN | apply below_drew1 | refine below_set ?_ (IsS81.ge HI393.out) | refine below_set ?_ GE392.out | refine below_set ?_ GE400.out) | exact HB.out)); rintro e w15 ⟨rfl, hi, hb, hk⟩; refine ⟨_, rfl, ?_⟩; have n0_ := am (KeepBut.blk hk (g' := gb392) (o := .cells #[.int .i64 0, .slice none 0 0] 37 (0, 0)) (by (with_reducible repeat (first | refine blk_drewN ?_ _ | refine blk_drew ?_ | refine blk_alloc ?_ _)); refine blk_far ?_ NB392_400.out _; (with_reducible repeat (first | refine blk_drewN ?_ _ | refine blk_drew ?_ | refine blk_alloc ?_ _)); refine blk_far ?_ NB392_400.out _; exact Kz BK392.out) NB392_393.out (by simp)); have n1_ := am (Kd.S_mono (Kd.S_keep (IsS81.apartS (show IsS81 w _ gb393 l0 t398 t399 from by repeat (first | (with_reducible first | exact HI393.out | apply IsS81.alloc | apply IsS81.drewN | apply IsS81.drew | apply IsS81.set_1 | apply IsS81.set_2 | refine IsS81.far ?_ NB393_392.out _ | refine IsS81.far ?_ NB393_400.out _) | exact HI393.out)) (by (with_reducible repeat (first | apply Kd.S_alloc | apply Kd.S_drewN | apply Kd.S_drew)); exact (Kd.S_mono (Kd.S_far (p := ⟨gb400, 1, none⟩) (Kd.S_far (p := ⟨gb400, 0, none⟩) (Kd.S_types HO397.out BK400.out (by decide)) (fun _ hk => hk.2) (.int .i64 t394)) (fun _ hk => hk.2) (.slice Ao14 t395.length co14)) (fun _ h_ => h_.1))) (by decide)) hk (fun _ h => h.2)) (fun _ h => h.1)); have n2_ := am (KeepBut.blk hk (g' := gb400) (o := .cells #[.int .i64 t394, .slice Ao14 t395.length co14] 37 (0, 0)) (by (with_reducible repeat (first | refine blk_drewN ?_ _ | refine blk_drew ?_ | refine blk_alloc ?_ _)); refine blk_put (cs := #[.int .i64 t394, .slice none 0 0]) ?_ 1 _ rfl; (with_reducible repeat (first | refine blk_drewN ?_ _ | refine blk_drew ?_ | refine blk_alloc ?_ _)); refine blk_put (cs := #[.int .i64 0, .slice none 0 0]) ?_ 0 _ rfl; exact Kz BK400.out) NB400_393.out (by simp)); have n3_ := am (hb); have n4_ := am (hi); clear BK392 HO397 BK400 HB HI393; revert n0_ n1_ n2_ n3_ n4_; intro BK392 HO397 BK400 HB HI393; (try clear hb); (try clear hb2); (try clear hk); (try clear hi)) | ((with_reducible refine gate_callee (f := 101) rfl ?_); refine gL (some 15) Try.func101 #[.pointer (some ⟨gb393, 0, none⟩), .int .i64 2] ?_; (with_reducible refine (spec_l1Cur_pick.calls gb393 l0 t402 t403 2 t404 t405 t406 w _ ?side1 ?side2 A5.out).mono ?_); (case side1 => repeat (first | (with_reducible first | exact HI393.out | apply IsS81.alloc | apply IsS81.drewN | apply IsS81.drew | apply IsS81.set_1 | apply IsS81.set_2 | refine IsS81.far ?_ NB393_392.out _ | refine IsS81.far ?_ NB393_400.out _) | exact HI393.out)); (case side2 => repeat (first | (with_reducible first | exact HB.out | apply below_alloc | apply pw_below_drewN | apply below_drew1 | refine below_set ?_ (IsS81.ge HI393.out) | refine below_set ?_ GE392.out | refine below_set ?_ GE400.out) | exact HB.out)); rintro e w16 ⟨rfl, hi, hb, hk⟩; refine ⟨_, rfl, ?_⟩; have n0_ := am (KeepBut.blk hk (g' := gb392) (o := .cells #[.int .i64 0, .slice none 0 0] 37 (0, 0)) (Kz BK392.out) NB392_393.out (by simp)); have n1_ := am (Kd.S_mono (Kd.S_keep (IsS81.apartS (show IsS81 w _ gb393 l0 t402 t403 from by repeat (first | (with_reducible first | exact HI393.out | apply IsS81.alloc | apply IsS81.drewN | apply IsS81.drew | apply IsS81.set_1 | apply IsS81.set_2 | refine IsS81.far ?_ NB393_392.out _ | refine IsS81.far ?_ NB393_400.out _) | exact HI393.out)) (by (with_reducible repeat (first | apply Kd.S_alloc | apply Kd.S_drewN | apply Kd.S_drew)); exact HO397.out) (by decide)) hk (fun _ h => h.2)) (fun _ h => h.1)); have n2_ := am (KeepBut.blk hk (g' := gb400) (o := .cells #[.int .i64 t394, .slice Ao14 t395.length co14] 37 (0, 0)) (Kz BK400.out) NB400_393.out (by simp)); have n3_ := am (hb); have n4_ := am (hi); clear BK392 HO397 BK400 HB HI393; revert n0_ n1_ n2_ n3_ n4_; intro BK392 HO397 BK400 HB HI393; (try clear hb); (try clear hb2); (try clear hk); (try clear hi)) | ((with_reducible refine gate_callee (f := 100) rfl ?_); refine gL (some 17) Try.func100 #[.pointer (some ⟨gb393, 0, none⟩), .int .i64 (wrap64 (40 - t404))] ?_; (with_reducible refine (spec_l1Cur_equal.calls k gb393 l0 t405 t406 (wrap64 (40 - t404)) t407 t410 t411 w _ ?side1 ?side2 A6.out).mono ?_); (case side1 => repeat (first | (with_reducible first | exact HI393.out | apply IsS81.alloc | apply IsS81.drewN | apply IsS81.drew | apply IsS81.set_1 | apply IsS81.set_2 | refine IsS81.far ?_ NB393_392.out _ | refine IsS81.far ?_ NB393_400.out _) | exact HI393.out)); (case side2 => repeat (first | (with_reducible first | exact HB.out | apply below_alloc | apply pw_below_drewN | apply below_drew1 | refine below_set ?_ (IsS81.ge HI393.out) | refine below_set ?_ GE392.out | refine below_set ?_ GE400.out) | exact HB.out)); rintro e w17 ⟨v408, rfl, ho0, hi, hb, hk⟩; refine ⟨_, rfl, ?_⟩; have n0_ := am (KeepBut.blk hk (g' := gb392) (o := .cells #[.int .i64 0, .slice none 0 0] 37 (0, 0)) (Kz BK392.out) NB392_393.out (by simp)); have n1_ := am (Kd.S_mono (Kd.S_told (Kd.S_oldK (IsS81.apartS (show IsS81 w _ gb393 l0 t405 t406 from by repeat (first | (with_reducible first | exact HI393.out | apply IsS81.alloc | apply IsS81.drewN | apply IsS81.drew | apply IsS81.set_1 | apply IsS81.set_2 | refine IsS81.far ?_ NB393_392.out _ | refine IsS81.far ?_ NB393_400.out _) | exact HI393.out)) (by (with_reducible repeat (first | apply Kd.S_alloc | apply Kd.S_drewN | apply Kd.S_drew)); exact HO397.out) (by decide)) hk) (Kd.S_base ho0)) (fun _ h_ => h_.1)); have n2_ := am (KeepBut.blk hk (g' := gb400) (o := .cells #[.int .i64 t394, .slice Ao14 t395.length co14] 37 (0, 0)) (Kz BK400.out) NB400_393.out (by simp)); have n3_ := am (Kd.S_lower (Kd.S_new' ho0 (Kd.S_lt (by (with_reducible repeat (first | apply Kd.S_alloc | apply Kd.S_drewN | apply Kd.S_drew)); exact HO397.out))) (below_size (by repeat (first | (with_reducible first | exact HB.out | apply below_alloc | apply pw_below_drewN | apply below_drew1 | refine below_set ?_ (IsS81.ge HI393.out) | refine below_set ?_ GE392.out | refine below_set ?_ GE400.out) | exact HB.out)))); have n4_ := am (hb); have n5_ := am (hi); clear BK392 HO397 BK400 HB HI393; revert n0_ n1_ n2_ n3_ n4_ n5_; intro BK392 HO397 BK400 HO409 HB HI393; (try clear hb); (try clear hb2); (try clear hk); (try clear hi); (try clear ho0); obtain ⟨Ao18, co18, eo18⟩ := Kd.S_slice HO409.out; subst eo18) | ((with_reducible refine gate_dst (N := 19) rfl ?_); refine Kd.R_lit (Kd.int .i64) _ 3 ?hg (N := 19) ?hd (xs := ([0, 1, 2] : List Int)) (inner := [.int .i64 0, .int .i64 1, .int .i64 2]) (ok := fun _ => True) (okp := fun _ => True) ?hr ?hp (fun _ hk => hk) trivial (Below.refl _ _) (Nat.le_refl _) (by simp) ?_; (case hd => rfl); (case hg => rfl); (case hr => first | (go_simp; done) | (go_simp; rfl)); (case hp => exact (Reps.one (show Kd.M (Kd.int .i64) _ _ _ 0 [.int .i64 0] from rfl) (Reps.one (show Kd.M (Kd.int .i64) _ _ _ 1 [.int .i64 1] from rfl) (Reps.one (show Kd.M (Kd.int .i64) _ _ _ 2 [.int .i64 2] from rfl) (Reps.none _ _))))); intro v413 w19 ho20 hb hg_ hnew_; clear hg_ hnew_; (first | rw [← Ny412.out] at ho20 | (simp only [Int.reduceToNat] at ho20; rw [← Ny412.out] at ho20)); have n0_ := am (Kd.S_elder' (by (with_reducible repeat (first | apply Kd.S_alloc | apply Kd.S_drewN | apply Kd.S_drew)); exact HO397.out) (Kd.R_base ho20) hb); have n1_ := am (Kd.S_elder' (by (with_reducible repeat (first | apply Kd.S_alloc | apply Kd.S_drewN | apply Kd.S_drew)); exact HO409.out) (Kd.R_base ho20) hb); have n2_ := am (Kd.R_lower ho20 (below_size (by repeat (first | (with_reducible first | exact HB.out | apply below_alloc | apply pw_below_drewN | apply below_drew1 | refine below_set ?_ (IsS81.ge HI393.out) | refine below_set ?_ GE392.out | refine below_set ?_ GE400.out) | exact HB.out)))); have n3_ := Kb BK392 hb; have n4_ := am (IsS81.below (by repeat (first | (with_reducible first | exact HI393.out | apply IsS81.alloc | apply IsS81.drewN | apply IsS81.drew | apply IsS81.set_1 | apply IsS81.set_2 | refine IsS81.far ?_ NB393_392.out _ | refine IsS81.far ?_ NB393_400.out _) | exact HI393.out)) hb); have n5_ := Kb BK400 hb; have n6_ := am (below_step (by repeat (first | (with_reducible first | exact HB.out | apply below_alloc | apply pw_below_drewN | apply below_drew1 | refine below_set ?_ (IsS81.ge HI393.out) | refine below_set ?_ GE392.out | refine below_set ?_ GE400.out) | exact HB.out)) hb); clear HO397 HO409 BK392 HI393 BK400 HB; revert n0_ n1_ n2_ n3_ n4_ n5_ n6_; intro HO397 HO409 HO414 BK392 HI393 BK400 HB; clear hb ho20; have hnb21 := NB392_393.out; have hnc21 := NB393_392.out; obtain ⟨hcz22_0, hcz22_1, hfz22_0, hfz22_1⟩ := cf2 (w := w19) BK392))
  refine bodyPost_ret (results_ct rfl _ _ gb392 37 #[.int .i64 3, .slice Ao18 t407.length co18] (0, 0) _ rfl (by (with_reducible repeat (first | refine blk_drewN ?_ _ | refine blk_drew ?_ | refine blk_alloc ?_ _)); refine blk_put (cs := #[.int .i64 3, .slice none 0 0]) ?_ 1 _ rfl; (with_reducible repeat (first | refine blk_drewN ?_ _ | refine blk_drew ?_ | refine blk_alloc ?_ _)); refine blk_put (cs := #[.int .i64 0, .slice none 0 0]) ?_ 0 _ rfl; exact Kz BK392.out) Try.underlying37 rfl (by kernel_rfl)) rfl ?_; exact ⟨_, _, eZ, by (with_reducible repeat (first | apply Kd.S_alloc | apply Kd.S_drewN | apply Kd.S_drew)); exact Kd.S_mono (Kd.S_far (p := ⟨gb392, 1, none⟩) (Kd.S_far (p := ⟨gb392, 0, none⟩) (Kd.S_types HO409.out BK392.out (by decide)) (fun _ hk => hk.2) (.int .i64 3)) (fun _ hk => hk.2) (.slice Ao18 t407.length co18)) (fun _ hk => hk.1.2), Rz (Kd.R_mono (Kd.R_far (p := ⟨gb392, 1, none⟩) (Kd.R_far (p := ⟨gb392, 0, none⟩) (Kd.R_types HO414.out BK392.out (by decide)) (fun _ hk => hk.2) (.int .i64 3)) (fun _ hk => hk.2) (.slice Ao18 t407.length co18)) (fun _ hk => trivial)), by repeat (first | (with_reducible first | exact HB.out | apply below_alloc | apply pw_below_drewN | apply below_drew1 | refine below_set ?_ (IsS81.ge HI393.out) | refine below_set ?_ GE392.out | refine below_set ?_ GE400.out) | exact HB.out)⟩
 ·replace c4 := Bool.eq_false_iff.mpr c4
  subst c4
  rw [if_neg (show ¬ (false = true) by decide)] at H; replace H := Option.bind_eq_some_iff.mp H; obtain ⟨⟨t415, t416, t417⟩, A230, H⟩ := H; (try dsimp -simprocs only at H); have A23 := am A230; clear A230; replace H := Option.bind_eq_some_iff.mp H; obtain ⟨⟨t418, t421, t422⟩, A240, H⟩ := H; (try dsimp -simprocs only at H); have A24 := am A240; clear A240
  simp only [Option.some.injEq, Prod.mk.injEq] at H
  obtain ⟨rfl, rfl, rfl⟩ := H
  go_enter Try.func31, Try.ntmps31
  try go_wp2_with (first | ((with_reducible refine gate_dst (N := 2) rfl ?_); refine bE 2 #[.int .i64 0, .slice none 0 0] 37 ?_; intro gb392 hg w25 hbox hb; have n0_ := Bb HB hb; have n1_ := am (hbox); have n2_ := Gl HB hg; have n3_ := Gl HB hg; clear HB; revert n0_ n1_ n2_ n3_; intro HB BK392 GW392 GE392; clear hb hbox hg) | ((with_reducible refine gate_dst (N := 8) rfl ?_); refine bE 8 #[.slice A0 l0.length c0, .int .i64 0, .int .u64 0] 81 ?_; intro gb393 hg w26 hbox hb; have n0_ := Kb BK392 hb; have n1_ := Bc HB hb; have n2_ := am (hbox); have n3_ := Gm HB hg; have n4_ := Gm HB hg; have n5_ := Nl BK392 hg; have n6_ := Ng BK392 hg; clear BK392 HB; revert n0_ n1_ n2_ n3_ n4_ n5_ n6_; intro BK392 HB BK393 GW393 GE393 NB392_393 NB393_392; clear hb hbox hg; have HI393 := am (show IsS81 w _ gb393 l0 0 0 from ⟨A0, c0, BK393.out, GE393.out, HR0.out⟩); clear BK393) | ((with_reducible refine gate_callee (f := 82) rfl ?_); refine gL (some 10) Try.func82 #[.pointer (some ⟨gb393, 0, none⟩)] ?_; (with_reducible refine (spec_l1Cur_hyper.calls k gb393 l0 0 0 t394 t395 t398 t399 w _ ?side1 ?side2 A2.out).mono ?_); (case side1 => repeat (first | (with_reducible first | exact HI393.out | apply IsS81.alloc | apply IsS81.drewN | apply IsS81.drew | apply IsS81.set_1 | apply IsS81.set_2 | refine IsS81.far ?_ NB393_392.out _) | exact HI393.out)); (case side2 => repeat (first | (with_reducible first | exact HB.out | apply below_alloc | apply pw_below_drewN | apply below_drew1 | refine below_set ?_ (IsS81.ge HI393.out) | refine below_set ?_ GE392.out) | exact HB.out)); rintro e w27 ⟨v396, rfl, ho0, hi, hb, hk⟩; refine ⟨_, rfl, ?_⟩; have n0_ := am (KeepBut.blk hk (g' := gb392) (o := .cells #[.int .i64 0, .slice none 0 0] 37 (0, 0)) (Kz BK392.out) NB392_393.out (by simp)); have n1_ := am (Kd.S_lower ho0 (below_size (by repeat (first | (with_reducible first | exact HB.out | apply below_alloc | apply pw_below_drewN | apply below_drew1 | refine below_set ?_ (IsS81.ge HI393.out) | refine below_set ?_ GE392.out) | exact HB.out)))); have n2_ := am (hb); have n3_ := am (hi); clear BK392 HB HI393; revert n0_ n1_ n2_ n3_; intro BK392 HO397 HB HI393; (try clear hb); (try clear hb2); (try clear hk); (try clear hi); (try clear ho0)) | ((with_reducible refine gate_dst (N := 5) rfl ?_); refine bE 5 #[.int .i64 0, .slice none 0 0] 37 ?_; intro gb400 hg w28 hbox hb; have n0_ := am (Kd.S_below (by (with_reducible repeat (first | apply Kd.S_alloc | apply Kd.S_drewN | apply Kd.S_drew)); exact HO397.out) hb); have n1_ := Kb BK392 hb; have n2_ := am (IsS81.below (by repeat (first | (with_reducible first | exact HI393.out | apply IsS81.alloc | apply IsS81.drewN | apply IsS81.drew | apply IsS81.set_1 | apply IsS81.set_2 | refine IsS81.far ?_ NB393_392.out _) | exact HI393.out)) hb); have n3_ := am (below_step (by repeat (first | (with_reducible first | exact HB.out | apply below_alloc | apply pw_below_drewN | apply below_drew1 | refine below_set ?_ (IsS81.ge HI393.out) | refine below_set ?_ GE392.out) | exact HB.out)) hb); have n4_ := am (hbox); have n5_ := am ((by rw [hg]; exact (below_size (by repeat (first | (with_reducible first | exact HB.out | apply below_alloc | apply pw_below_drewN | apply below_drew1 | refine below_set ?_ (IsS81.ge HI393.out) | refine below_set ?_ GE392.out) | exact HB.out))) : w.heap.size ≤ gb400)); have n6_ := am ((by rw [hg]; exact (below_size (by repeat (first | (with_reducible first | exact HB.out | apply below_alloc | apply pw_below_drewN | apply below_drew1 | refine below_set ?_ (IsS81.ge HI393.out) | refine below_set ?_ GE392.out) | exact HB.out))) : w.heap.size ≤ gb400)); have n7_ := Nl BK392 hg; have n8_ := Ng BK392 hg; have n9_ := am ((by rw [hg]; exact Nat.ne_of_lt (IsS81.lt (show IsS81 w _ gb393 l0 t398 t399 from by repeat (first | (with_reducible first | exact HI393.out | apply IsS81.alloc | apply IsS81.drewN | apply IsS81.drew | apply IsS81.set_1 | apply IsS81.set_2 | refine IsS81.far ?_ NB393_392.out _) | exact HI393.out))) : gb393 ≠ gb400)); have n10_ := am ((by rw [hg]; exact Nat.ne_of_gt (IsS81.lt (show IsS81 w _ gb393 l0 t398 t399 from by repeat (first | (with_reducible first | exact HI393.out | apply IsS81.alloc | apply IsS81.drewN | apply IsS81.drew | apply IsS81.set_1 | apply IsS81.set_2 | refine IsS81.far ?_ NB393_392.out _) | exact HI393.out))) : gb400 ≠ gb393)); clear HO397 BK392 HI393 HB; revert n0_ n1_ n2_ n3_ n4_ n5_ n6_ n7_ n8_ n9_ n10_; intro HO397 BK392 HI393 HB BK400 GW400 GE400 NB392_400 NB400_392 NB393_400 NB400_393; clear hb hbox hg; have hnb29 := NB400_392.out; have hnc29 := NB392_400.out; have hnb30 := NB400_393.out; have hnc30 := NB393_400.out; obtain ⟨hcz31_0, hcz31_1, hfz31_0, hfz31_1⟩ := cf2 (w := w28) BK400; obtain ⟨Ao32, co32, eo32⟩ := Kd.S_slice HO397.out; subst eo32) | ((with_reducible refine gate_callee (f := 99) rfl ?_); refine gL (some 12) Try.func99 #[.pointer (some ⟨gb393, 0, none⟩), .int .i64 12] ?_; (with_reducible refine (spec_l1Cur_one.calls gb393 l0 t398 t399 12 false t402 t403 w _ ?side1 ?side2 A3.out).mono ?_); (case side1 => repeat (first | (with_reducible first | exact HI393.out | apply IsS81.alloc | apply IsS81.drewN | apply IsS81.drew | apply IsS81.set_1 | apply IsS81.set_2 | refine IsS81.far ?_ NB393_392.out _ | refine IsS81.far ?_ NB393_400.out _) | exact HI393.out)); (case side2 => repeat (first | (with_reducible first | exact HB.out | apply below_alloc | apply pw_below_drewN | apply below_drew1 | refine below_set ?_ (IsS81.ge HI393.out) | refine below_set ?_ GE392.out | refine below_set ?_ GE400.out) | exact HB.out)); rintro e w33 ⟨rfl, hi, hb, hk⟩; refine ⟨_, rfl, ?_⟩; have n0_ := am (KeepBut.blk hk (g' := gb392) (o := .cells #[.int .i64 0, .slice none 0 0] 37 (0, 0)) (by (with_reducible repeat (first | refine blk_drewN ?_ _ | refine blk_drew ?_ | refine blk_alloc ?_ _)); refine blk_far ?_ NB392_400.out _; (with_reducible repeat (first | refine blk_drewN ?_ _ | refine blk_drew ?_ | refine blk_alloc ?_ _)); refine blk_far ?_ NB392_400.out _; exact Kz BK392.out) NB392_393.out (by simp)); have n1_ := am (Kd.S_mono (Kd.S_keep (IsS81.apartS (show IsS81 w _ gb393 l0 t398 t399 from by repeat (first | (with_reducible first | exact HI393.out | apply IsS81.alloc | apply IsS81.drewN | apply IsS81.drew | apply IsS81.set_1 | apply IsS81.set_2 | refine IsS81.far ?_ NB393_392.out _ | refine IsS81.far ?_ NB393_400.out _) | exact HI393.out)) (by (with_reducible repeat (first | apply Kd.S_alloc | apply Kd.S_drewN | apply Kd.S_drew)); exact (Kd.S_mono (Kd.S_far (p := ⟨gb400, 1, none⟩) (Kd.S_far (p := ⟨gb400, 0, none⟩) (Kd.S_types HO397.out BK400.out (by decide)) (fun _ hk => hk.2) (.int .i64 t394)) (fun _ hk => hk.2) (.slice Ao32 t395.length co32)) (fun _ h_ => h_.1))) (by decide)) hk (fun _ h => h.2)) (fun _ h => h.1)); have n2_ := am (KeepBut.blk hk (g' := gb400) (o := .cells #[.int .i64 t394, .slice Ao32 t395.length co32] 37 (0, 0)) (by (with_reducible repeat (first | refine blk_drewN ?_ _ | refine blk_drew ?_ | refine blk_alloc ?_ _)); refine blk_put (cs := #[.int .i64 t394, .slice none 0 0]) ?_ 1 _ rfl; (with_reducible repeat (first | refine blk_drewN ?_ _ | refine blk_drew ?_ | refine blk_alloc ?_ _)); refine blk_put (cs := #[.int .i64 0, .slice none 0 0]) ?_ 0 _ rfl; exact Kz BK400.out) NB400_393.out (by simp)); have n3_ := am (hb); have n4_ := am (hi); clear BK392 HO397 BK400 HB HI393; revert n0_ n1_ n2_ n3_ n4_; intro BK392 HO397 BK400 HB HI393; (try clear hb); (try clear hb2); (try clear hk); (try clear hi)))
  have n0_ := am (Kd.S_drew HO397.out); have n1_ := am (blk_drew BK392.out); have n2_ := am (blk_drew BK400.out); have n3_ := am (IsS81.drew HI393.out); have n4_ := am (below_drew1 HB.out); clear HO397 BK392 BK400 HI393 HB; revert n0_ n1_ n2_ n3_ n4_; intro HO397 BK392 BK400 HI393 HB; refine start_ (n := 11) (S := fun w' => w'.cell? ⟨gb400, 0, none⟩ = some (.int .i64 t394) ∧ w'.cell? ⟨gb400, 1, none⟩ = some (.slice Ao32 t395.length co32)) (ds := []) (bA 11 0) (by kernel_rfl) rfl rfl ⟨cz BK400 0, cz BK400 1⟩ (fun hHeld => ?_); refine with_tabW spec_DrawWithEdge.tab5 spec_DrawWithEdge.bits5 (fun HT_ HW_ => ?_); generalize w33.drew = w34 at HO397 BK392 BK400 HI393 HB hHeld ⊢; refine pZ 1 (some 21) (bA 11 2) HT_.out ?_; refine pZ 2 (some 22) (bA 11 6) HT_.out ?_; refine pZ 4 (some 24) (bA 11 22) HT_.out ?_; refine tZ2 0 (some 20) (bA 11 23) HT_.out HW_.out hHeld ?_; refine tZ2 3 (some 23) (bA 11 31) HT_.out HW_.out hHeld ?_; refine oZ 5 (some 25) (bA 11 63) HT_.out (fun K hK => ?_); refine gZ Try.func101 #[.pointer (some ⟨gb393, 0, none⟩), .int .i64 6] ?_
  with_reducible refine (spec_l1Cur_pick.calls gb393 l0 t402 t403 6 t415 t416 t417 w _ ?side1 ?side2 A23.out).mono ?_
  (case side1 => repeat (first | (with_reducible first | exact HI393.out | apply IsS81.alloc | apply IsS81.drewN | apply IsS81.drew | apply IsS81.set_1 | apply IsS81.set_2 | refine IsS81.far ?_ NB393_392.out _ | refine IsS81.far ?_ NB393_400.out _) | exact HI393.out))
  (case side2 => repeat (first | (with_reducible first | exact HB.out | apply below_alloc | apply pw_below_drewN | apply below_drew1 | refine below_set ?_ (IsS81.ge HI393.out) | refine below_set ?_ GE392.out | refine below_set ?_ GE400.out) | exact HB.out))
  rintro e w35 ⟨rfl, hi, hb, hk⟩; refine ⟨_, rfl, ?_⟩; have n0_ := am (KeepBut.blk hk (g' := gb392) (o := .cells #[.int .i64 0, .slice none 0 0] 37 (0, 0)) (Kz BK392.out) NB392_393.out (by simp)); have n1_ := am (Kd.S_mono (Kd.S_keep (IsS81.apartS (show IsS81 w _ gb393 l0 t402 t403 from by repeat (first | (with_reducible first | exact HI393.out | apply IsS81.alloc | apply IsS81.drewN | apply IsS81.drew | apply IsS81.set_1 | apply IsS81.set_2 | refine IsS81.far ?_ NB393_392.out _ | refine IsS81.far ?_ NB393_400.out _) | exact HI393.out)) (by (with_reducible repeat (first | apply Kd.S_alloc | apply Kd.S_drewN | apply Kd.S_drew)); exact HO397.out) (by decide)) hk (fun _ h => h.2)) (fun _ h => h.1)); have n2_ := am (KeepBut.blk hk (g' := gb400) (o := .cells #[.int .i64 t394, .slice Ao32 t395.length co32] 37 (0, 0)) (Kz BK400.out) NB400_393.out (by simp)); have n3_ := am (hb); have n4_ := am (hi); clear BK392 HO397 BK400 HB HI393; revert n0_ n1_ n2_ n3_ n4_; intro BK392 HO397 BK400 HB HI393
  (try clear hb)
  (try clear hb2)
  (try clear hk)
  (try clear hi)
  refine hK.out _ _ ⟨cz BK400 0, cz BK400 1⟩ (fun hHeld => ?_); clear hK K; refine norm_ (a' := ?_) ?_ ?_; rotate_left; show Act.put _ (some 25) _ = _; simp only [aP, i64_w, i32_w]; rfl; refine pZ 6 (some 26) (bA 11 127) HT_.out ?_; refine pZ 7 (some 27) (bA 11 255) HT_.out ?_; refine oZ 8 (some 28) (bA 11 511) HT_.out (fun K hK => ?_); refine gZ Try.func102 #[.pointer (some ⟨gb393, 0, none⟩), .int .i64 (wrap64 (t394 + (wrap64 (Int.tdiv t415 5))))] ?_
  with_reducible refine (spec_l1Cur_edge.calls k gb393 l0 t416 t417 (wrap64 (t394 + (wrap64 (Int.tdiv t415 5)))) t418 t421 t422 w _ ?side1 ?side2 A24.out).mono ?_
  (case side1 => repeat (first | (with_reducible first | exact HI393.out | apply IsS81.alloc | apply IsS81.drewN | apply IsS81.drew | apply IsS81.set_1 | apply IsS81.set_2 | refine IsS81.far ?_ NB393_392.out _ | refine IsS81.far ?_ NB393_400.out _) | exact HI393.out))
  (case side2 => repeat (first | (with_reducible first | exact HB.out | apply below_alloc | apply pw_below_drewN | apply below_drew1 | refine below_set ?_ (IsS81.ge HI393.out) | refine below_set ?_ GE392.out | refine below_set ?_ GE400.out) | exact HB.out))
  rintro e w36 ⟨v419, rfl, ho0, hi, hb, hk⟩; refine ⟨_, rfl, ?_⟩; have n0_ := am (KeepBut.blk hk (g' := gb392) (o := .cells #[.int .i64 0, .slice none 0 0] 37 (0, 0)) (Kz BK392.out) NB392_393.out (by simp)); have n1_ := am (Kd.S_mono (Kd.S_told (Kd.S_oldK (IsS81.apartS (show IsS81 w _ gb393 l0 t416 t417 from by repeat (first | (with_reducible first | exact HI393.out | apply IsS81.alloc | apply IsS81.drewN | apply IsS81.drew | apply IsS81.set_1 | apply IsS81.set_2 | refine IsS81.far ?_ NB393_392.out _ | refine IsS81.far ?_ NB393_400.out _) | exact HI393.out)) (by (with_reducible repeat (first | apply Kd.S_alloc | apply Kd.S_drewN | apply Kd.S_drew)); exact HO397.out) (by decide)) hk) (Kd.R_base ho0)) (fun _ h_ => h_.1)); have n2_ := am (KeepBut.blk hk (g' := gb400) (o := .cells #[.int .i64 t394, .slice Ao32 t395.length co32] 37 (0, 0)) (Kz BK400.out) NB400_393.out (by simp)); have n3_ := am (Kd.R_lower ho0 (below_size (by repeat (first | (with_reducible first | exact HB.out | apply below_alloc | apply pw_below_drewN | apply below_drew1 | refine below_set ?_ (IsS81.ge HI393.out) | refine below_set ?_ GE392.out | refine below_set ?_ GE400.out) | exact HB.out)))); have n4_ := am (hb); have n5_ := am (hi); clear BK392 HO397 BK400 HB HI393; revert n0_ n1_ n2_ n3_ n4_ n5_; intro BK392 HO397 BK400 HO420 HB HI393
  (try clear hb)
  (try clear hb2)
  (try clear hk)
  (try clear hi)
  (try clear ho0)
  refine hK.out _ _ ⟨cz BK400 0, cz BK400 1⟩ (fun hHeld => ?_); clear hK K; refine norm_ (a' := ?_) ?_ ?_; rotate_left; show Act.put _ (some 28) _ = _; simp only [aP, i64_w, i32_w]; rfl; refine oZ 9 none (bA 11 1023) HT_.out (fun K hK => ?_); have hs37 : w36.cell? ⟨gb392, 0, none⟩ = some (.int .i64 0) := cz BK392 0; have hfs37 := blk_frozen BK392.out 0; have hns37_1 := NB400_392.out; have hms37_1 := NB392_400.out; have hs38 : w36.cell? ⟨gb392, 1, none⟩ = some (.slice none 0 0) := cz BK392 1; have hfs38 := blk_frozen BK392.out 1; have hns38_1 := NB400_392.out; have hms38_1 := NB392_400.out; refine skip_ (w1 := ?_) (by rfl) rfl ?_ ?_
  rotate_left
  ·go_simp
   rfl
  refine hK.out _ _ ⟨((cell_far (p := ⟨gb392, _, none⟩) NB400_392.out _).trans (((cell_far (p := ⟨gb392, _, none⟩) NB400_392.out _).trans (hHeld.1)))), ((cell_far (p := ⟨gb392, _, none⟩) NB400_392.out _).trans (((cell_far (p := ⟨gb392, _, none⟩) NB400_392.out _).trans (hHeld.2))))⟩ (fun hHeld => ?_); clear hK K; refine pZ 10 (some 3) (bA 11 2047) HT_.out ?_; refine done_ (done_of HT_.out (by kernel_rfl)) ?_
  try go_wp2
  refine bodyPost_ret (results_ct rfl _ _ gb392 37 #[.int .i64 t394, .slice Ao32 t395.length co32] (0, 0) _ rfl (by (with_reducible repeat (first | refine blk_drewN ?_ _ | refine blk_drew ?_ | refine blk_alloc ?_ _)); refine blk_put (cs := #[.int .i64 t394, .slice none 0 0]) ?_ 1 _ rfl; (with_reducible repeat (first | refine blk_drewN ?_ _ | refine blk_drew ?_ | refine blk_alloc ?_ _)); refine blk_put (cs := #[.int .i64 0, .slice none 0 0]) ?_ 0 _ rfl; exact Kz BK392.out) Try.underlying37 rfl (by kernel_rfl)) rfl ?_; exact ⟨_, _, eZ, by (with_reducible repeat (first | apply Kd.S_alloc | apply Kd.S_drewN | apply Kd.S_drew)); exact Kd.S_mono (Kd.S_far (p := ⟨gb392, 1, none⟩) (Kd.S_far (p := ⟨gb392, 0, none⟩) (Kd.S_types HO397.out BK392.out (by decide)) (fun _ hk => hk.2) (.int .i64 t394)) (fun _ hk => hk.2) (.slice Ao32 t395.length co32)) (fun _ hk => hk.1.2), Rz (Kd.R_mono (Kd.R_far (p := ⟨gb392, 1, none⟩) (Kd.R_far (p := ⟨gb392, 0, none⟩) (Kd.R_types HO420.out BK392.out (by decide)) (fun _ hk => hk.2) (.int .i64 t394)) (fun _ hk => hk.2) (.slice Ao32 t395.length co32)) (fun _ hk => trivial)), by repeat (first | (with_reducible first | exact HB.out | apply below_alloc | apply pw_below_drewN | apply below_drew1 | refine below_set ?_ (IsS81.ge HI393.out) | refine below_set ?_ GE392.out | refine below_set ?_ GE400.out) | exact HB.out)⟩

def slices_Clone_int_int.f (l0 : List Int) : Option (List Int) := (some (([] : List Int) : List Int)).bind fun y423 => (if y423.length + l0.length < 17592186044416 then (some (y423 ++ l0)) else (none))
theorem slices_Clone_int_int.calls (A0 : Option Addr) (c0 : Nat) (l0 : List Int) (r : List Int) (w : World) (hr0 : Kd.C (Kd.int .i64) w A0 l0.length l0) (hc0 : l0.length ≤ c0) (h : slices_Clone_int_int.f l0 = some r) :
  Calls Try.prog 104 #[.slice A0 l0.length c0] w fun e w' => ∃ v0_ : Value, e = .returned (v0_) ∧ Kd.R (Kd.int .i64) 3 w' w.heap.size (fun _ => True) v0_ r ∧ Below w.heap.size w w' := by
 have HR0 := am hr0; have HC0 := am hc0; clear hr0 hc0; have HB := am (Below.refl w.heap.size w); have H : ((some (([] : List Int) : List Int)).bind fun y423 => (if y423.length + l0.length < 17592186044416 then (some (y423 ++ l0)) else (none))) = some r := h; clear h
 by_cases c2 : A0.isNone = true
 ·have hlc2 : l0 = [] := Go.Proofs.YthkcgimnagpmaaaGp.C_isNone HR0.out c2
  rw [hlc2] at H
  have H1 : (some ([] : List Int)) = some r := by simpa using H
  clear H; have H := H1; clear H1 hlc2
  have qc2 : ∀ (w_ : World) (n_ c_ : Nat), (binOp .eql 32 (.slice A0 n_ c_) (.slice none 0 0)).run Try.prog w_ = .ok (.bool true) w_ := fun w_ _ _ => (Go.Proofs.YthkcgimnagpmaaaGp.run_eql_nil_ w_ 32 _ _ _ _ Try.underlying32).trans (by rw [c2])
  obtain rfl := Option.some.inj H
  go_enter Try.func104, Try.ntmps104
  go_wp2
  go_ret
  exact ⟨_, eZ, nZ, Bz HB.out⟩
 ·replace c2 := Bool.eq_false_iff.mpr c2
  have qc2 : ∀ (w_ : World) (n_ c_ : Nat), (binOp .eql 32 (.slice A0 n_ c_) (.slice none 0 0)).run Try.prog w_ = .ok (.bool false) w_ := fun w_ _ _ => (Go.Proofs.YthkcgimnagpmaaaGp.run_eql_nil_ w_ 32 _ _ _ _ Try.underlying32).trans (by rw [c2])
  obtain ⟨y423, hy423⟩ : ∃ y_ : List Int, y_ = (([] : List Int)) := ⟨_, rfl⟩
  replace H : (if y423.length + l0.length < 17592186044416 then (some (y423 ++ l0)) else (none)) = some r := by first | (rw [hy423]; with_reducible exact H) | (have H2_ := (Option.bind_some _ _).symm.trans H; rw [hy423]; with_reducible exact H2_) | (have H2_ := (Option.bind_some _ _).symm.trans H; with_reducible exact H2_) | with_reducible exact H | (rw [hy423]; exact H) | exact H
  have Ny423 := am hy423; clear hy423
  by_cases c3 : y423.length + l0.length < 17592186044416
  ·rw [if_pos c3] at H
   have LMc3 := am c3; clear c3; obtain ⟨y426, hy426⟩ : ∃ y_ : List Int, y_ = (y423 ++ l0) := ⟨_, rfl⟩
   replace H : (some y426) = some r := by first | (rw [hy426]; with_reducible exact H) | (have H2_ := (Option.bind_some _ _).symm.trans H; rw [hy426]; with_reducible exact H2_) | (have H2_ := (Option.bind_some _ _).symm.trans H; with_reducible exact H2_) | with_reducible exact H | (rw [hy426]; exact H) | exact H
   have Ny426 := am hy426; clear hy426; obtain rfl := Option.some.inj H
   go_enter Try.func104, Try.ntmps104
   go_wp2_with (first | ((with_reducible refine gate_dst (N := 5) rfl ?_); refine Kd.R_lit (Kd.int .i64) _ 3 ?hg (N := 5) ?hd (xs := ([] : List Int)) (inner := []) (ok := fun _ => True) (okp := fun _ => True) ?hr ?hp (fun _ hk => hk) trivial (Below.refl _ _) (Nat.le_refl _) (by simp) ?_; (case hd => rfl); (case hg => rfl); (case hr => first | (go_simp; done) | (go_simp; rfl)); (case hp => exact (Reps.none _ _)); intro v424 w4 ho5 hb hg_ hnew_; clear hg_ hnew_; (first | rw [← Ny423.out] at ho5 | (simp only [Int.reduceToNat] at ho5; rw [← Ny423.out] at ho5)); have n0_ := Rl ho5 HB; have n1_ := Bb HB hb; clear HB; revert n0_ n1_; intro HO425 HB; clear hb ho5) | ((with_reducible refine gate_builtin (b := .append) (xs := #[.tmp 5, .tmp 6]) rfl ?_); at_builtin; refine Kd.R_append_rows (Kd.int .i64) (w0 := w) w.heap.size rfl (.tmp 5) (.tmp 6) 32 3 (.int .i64 0) 8 rfl Try.underlying32 info3 rfl (by decide) (by omega) v424 y423 l0 _ _ _ (fun _ => True) (fun _ => False) rfl rfl ?aO ?aR (fun _ _ h => h) (fun _ h => h.elim) ?aF ?aB ?aS ?aL ?_; (case aR => repeat (first | exact (Kd.C_below HR0.out HB.out) | (with_reducible refine Kd.C_alloc ?_ _) | (with_reducible refine Kd.C_drewN ?_ _) | (with_reducible refine Kd.C_drew ?_))); (case aB => exact (Bz HB.out)); (case aF => exact (fun _ _ => trivial)); (case aO => exact (Rz HO425.out)); (case aS => exact (below_size (Bz HB.out))); (case aL => have := LMc3.out; omega); intro v427 w6 ho hb hg hat; rw [← Ny426.out] at ho; have n0_ := am (hb); have n1_ := am (ho); clear HB HO425; revert n0_ n1_; intro HB HO428; clear ho hb hg hat))
   go_ret
   exact ⟨_, eZ, Rz HO428.out, Bz HB.out⟩
  ·rw [if_neg c3] at H
   exact absurd H (by simp)


end Go.Proofs.Ythkcgimnagpmaaa.PT
-- printed by a program of this session (wip/gp) out of the translation; Lean checks it
namespace Go.Proofs.Ythkcgimnagpmaaa.PT
open Go.RowKit Go.Proofs.YthkcgimnagpmaaaW.PrintWords Go.Proofs.YthkcgimnagpmaaaW.PrintLast Go.Proofs.YthkcgimnagpmaaaW.PrintMore Go.Proofs.YthkcgimnagpmaaaSq
attribute [local go_sem] max2_int min2_int max_two min_two max_three min_three max_four min_four   -- for this text's walks alone
attribute [local go_sem] Go.Proofs.YthkcgimnagpmaaaGp.str_geq Go.Proofs.YthkcgimnagpmaaaGp.str_gtr Go.Proofs.YthkcgimnagpmaaaGp.str_leq
set_option linter.unusedVariables false
set_option linter.unusedSimpArgs false

set_option maxHeartbeats 8000000
set_option maxRecDepth 100000
def impl_cloneHyper.l0 : Nat → List (List Int) → Int → Int → Int → List (List Int) → Option (Int × (List (List Int)))
 | 0, _, _, _, _, _ => none
 | k + 1, x10, x11, x12, x432000, x432001 => if x12 < x11 then (if 0 ≤ x12 then (if x12 < (x10.length : Int) then ((slices_Clone_int_int.f (rd_L2 x10 x12)).bind fun t433 => (if x432001.length < 5864062014805 then (impl_cloneHyper.l0 k x10 x11 (wrap64 (x12 + 1)) x432000 (x432001 ++ [t433])) else (none))) else (none)) else (none)) else (some (x432000, x432001))
def impl_cloneHyper.f (k : Nat) (a0_0 : Int) (l0_1 : List (List Int)) : Option (Int × (List (List Int))) := impl_cloneHyper.l0 k l0_1 (l0_1.length : Int) 0 a0_0 ([] : List (List Int))
def impl_cloneHyper.T5 : Bool × List (List Nat × List Nat) := (true, [([], []), ([0], [0]), ([], []), ([2], [2]), ([3], [3]), ([1, 4, 3], [1, 4]), ([0, 1, 2, 3, 4, 5], []), ([6, 5, 5, 0, 1, 2, 3, 4, 5], [5, 6])])
def impl_cloneHyper.B5 : List Nat := [0, 1, 0, 4, 12, 31, 63, 127]
theorem impl_cloneHyper.tab5 : rtab .any (opsOf Try.f103 5) = impl_cloneHyper.T5 := by kernel_rfl
theorem impl_cloneHyper.bits5 : waitsOk impl_cloneHyper.T5.2 impl_cloneHyper.B5 = true := by kernel_rfl
theorem impl_cloneHyper.calls (k : Nat) (a0_0 : Int) (A0_1 : Option Addr) (c0_1 : Nat) (l0_1 : List (List Int)) (r1 : Int) (r2 : List (List Int)) (w : World) (hr0_1 : Kd.C (Kd.slice 3 (Kd.int .i64)) w A0_1 l0_1.length l0_1) (hc0_1 : l0_1.length ≤ c0_1) (h : impl_cloneHyper.f k a0_0 l0_1 = some (r1, r2)) :
  Calls Try.prog 103 #[.agg #[.int .i64 a0_0, .slice A0_1 l0_1.length c0_1]] w fun e w' => ∃ v1_ : Value, e = .returned (.agg #[.int .i64 r1, v1_]) ∧ Kd.S (Kd.slice 3 (Kd.int .i64)) 32 w' w.heap.size (fun _ => True) v1_ r2 ∧ Below w.heap.size w w' := by
 have hu37 := Try.underlying37; have HR0_1 := am hr0_1; have HC0_1 := am hc0_1; clear hr0_1 hc0_1; have HB := am (Below.refl w.heap.size w); have H : (impl_cloneHyper.l0 k l0_1 (l0_1.length : Int) 0 a0_0 ([] : List (List Int))) = some (r1, r2) := h; clear h; have H' := am H; clear H
 go_enter Try.func103, Try.ntmps103
 go_wp2_with (first | ((with_reducible refine gate_dst (N := 1) rfl ?_); refine bE 1 #[.int .i64 a0_0, .slice A0_1 l0_1.length c0_1] 37 ?_; intro gb429 hg w2 hbox hb; have n0_ := Bb HB hb; have n1_ := am (hbox); have n2_ := Gl HB hg; have n3_ := Gl HB hg; clear HB; revert n0_ n1_ n2_ n3_; intro HB BK429 GW429 GE429; clear hb hbox hg) | ((with_reducible refine gate_dst (N := 2) rfl ?_); refine bE 2 #[.int .i64 0, .slice none 0 0] 37 ?_; intro gb430 hg w3 hbox hb; have n0_ := Kb BK429 hb; have n1_ := Bc HB hb; have n2_ := am (hbox); have n3_ := Gm HB hg; have n4_ := Gm HB hg; have n5_ := Nl BK429 hg; have n6_ := Ng BK429 hg; clear BK429 HB; revert n0_ n1_ n2_ n3_ n4_ n5_ n6_; intro BK429 HB BK430 GW430 GE430 NB429_430 NB430_429; clear hb hbox hg; have hnb4 := NB429_430.out; have hnc4 := NB430_429.out; obtain ⟨hcz5_0, hcz5_1, hfz5_0, hfz5_1⟩ := cf2 (w := w3) BK429) | ((with_reducible refine gate_dst (N := 3) rfl ?_); refine bE 3 #[.int .i64 0, .slice none 0 0] 37 ?_; intro gb431 hg w6 hbox hb; have n0_ := Kb BK429 hb; have n1_ := Kb BK430 hb; have n2_ := Bc HB hb; have n3_ := am (hbox); have n4_ := Gm HB hg; have n5_ := Gm HB hg; have n6_ := Nl BK429 hg; have n7_ := Ng BK429 hg; have n8_ := Nl BK430 hg; have n9_ := Ng BK430 hg; clear BK429 BK430 HB; revert n0_ n1_ n2_ n3_ n4_ n5_ n6_ n7_ n8_ n9_; intro BK429 BK430 HB BK431 GW431 GE431 NB429_431 NB431_429 NB430_431 NB431_430; clear hb hbox hg; have hnb7 := NB431_429.out; have hnc7 := NB429_431.out; have hnb8 := NB431_430.out; have hnc8 := NB430_431.out; obtain ⟨hcz9_0, hcz9_1, hfz9_0, hfz9_1⟩ := cf2 (w := w6) BK431; obtain ⟨hcz10_0, hcz10_1, hfz10_0, hfz10_1⟩ := cf2 (w := w6) BK429))
 (try simp only [aP])
 go_loopg [12] k (fun kq v12 w' => ∃ (x12_1 : Int) (x432001_1 : List (List Int)) (u432001 : Value), v12 = .int .i64 x12_1 ∧ Aside0 (impl_cloneHyper.l0 kq l0_1 (l0_1.length : Int) x12_1 a0_0 x432001_1 = some (r1, r2)) ∧ Aside0 (kq ≤ k) ∧ Aside0 (Kd.S (Kd.slice 3 (Kd.int .i64)) 32 w' w.heap.size (fun _ => True) u432001 x432001_1) ∧ Aside0 (w'.heap[gb429]? = some (.cells #[.int .i64 a0_0, (.slice A0_1 l0_1.length c0_1)] 37 (0, 0))) ∧ Aside0 (w'.heap[gb430]? = some (.cells #[.int .i64 0, (.slice none 0 0)] 37 (0, 0))) ∧ Aside0 (w'.heap[gb431]? = some (.cells #[.int .i64 a0_0, u432001] 37 (0, 0))) ∧ Aside0 (Below w.heap.size w w'))
 case atStart => exact ⟨(0), (([] : List (List Int))), (.slice none 0 0), wZ, H', ⟨Nat.le_refl _⟩, ⟨by first | exact Kd.S_nil _ _ _ _ _ | exact Kd.N_nil _ _ _ _ _ | exact Kd.V_nil _ _ _ _ _ | exact Kd.Q_nil _ _ _ _ _ | exact Kd.R_nil _ _ _ _ _⟩, ⟨by (with_reducible repeat (first | refine blk_drewN ?_ _ | refine blk_drew ?_ | refine blk_alloc ?_ _)); refine blk_far ?_ NB429_431.out _; (with_reducible repeat (first | refine blk_drewN ?_ _ | refine blk_drew ?_ | refine blk_alloc ?_ _)); refine blk_far ?_ NB429_431.out _; (with_reducible repeat (first | refine blk_drewN ?_ _ | refine blk_drew ?_ | refine blk_alloc ?_ _)); exact BK429.out⟩, ⟨by (with_reducible repeat (first | refine blk_drewN ?_ _ | refine blk_drew ?_ | refine blk_alloc ?_ _)); refine blk_far ?_ NB430_431.out _; (with_reducible repeat (first | refine blk_drewN ?_ _ | refine blk_drew ?_ | refine blk_alloc ?_ _)); refine blk_far ?_ NB430_431.out _; (with_reducible repeat (first | refine blk_drewN ?_ _ | refine blk_drew ?_ | refine blk_alloc ?_ _)); exact BK430.out⟩, ⟨by (with_reducible repeat (first | refine blk_drewN ?_ _ | refine blk_drew ?_ | refine blk_alloc ?_ _)); refine blk_put (cs := #[.int .i64 a0_0, .slice none 0 0]) ?_ 1 _ rfl; (with_reducible repeat (first | refine blk_drewN ?_ _ | refine blk_drew ?_ | refine blk_alloc ?_ _)); refine blk_put (cs := #[.int .i64 0, .slice none 0 0]) ?_ 0 _ rfl; (with_reducible repeat (first | refine blk_drewN ?_ _ | refine blk_drew ?_ | refine blk_alloc ?_ _)); exact BK431.out⟩, ⟨Bq⟩⟩
 case round =>
  clear H'
  try clear c1
  try clear p2
  try clear c4
  try clear c7
  try clear c8
  try clear c10
  try clear hcz10_0
  try clear hcz10_1
  try clear hcz5_0
  try clear hcz5_1
  try clear hcz9_0
  try clear hcz9_1
  try clear hfz10_0
  try clear hfz10_1
  try clear hfz5_0
  try clear hfz5_1
  try clear hfz9_0
  try clear hfz9_1
  obtain ⟨x12_1, x432001_1, u432001, rfl, HA, HK1, HO_432001, BK429, BK430, BK431, HB⟩ := hrel; cases gk with
  | zero => exact absurd HA.out (by simp [impl_cloneHyper.l0])
  | succ k1 =>
   have H := HA.out; clear HA
   simp only [impl_cloneHyper.l0] at H
   by_cases c11 : x12_1 < (l0_1.length : Int)
   ·rw [if_pos c11] at H
    have c11b0 : decide (x12_1 < (l0_1.length : Int)) = true := decide_eq_true c11; clear c11
    by_cases c12 : 0 ≤ x12_1
    ·rw [if_pos c12] at H
     have c12b0 : decide (0 ≤ x12_1) = true := decide_eq_true c12; clear c12
     by_cases c13 : x12_1 < (l0_1.length : Int)
     ·rw [if_pos c13] at H
      have c13b0 : decide (x12_1 < (l0_1.length : Int)) = true := decide_eq_true c13; clear c13; replace H := Option.bind_eq_some_iff.mp H; obtain ⟨t433, A140, H⟩ := H; (try dsimp -simprocs only at H); have A14 := am A140; clear A140
      by_cases c15 : x432001_1.length < 5864062014805
      ·rw [if_pos c15] at H
       have LMc15 := am c15; clear c15; obtain ⟨y436, hy436⟩ : ∃ y_ : List (List Int), y_ = (x432001_1 ++ [t433]) := ⟨_, rfl⟩
       replace H : (impl_cloneHyper.l0 k1 l0_1 (l0_1.length : Int) (wrap64 (x12_1 + 1)) a0_0 y436) = some (r1, r2) := by first | (rw [hy436]; with_reducible exact H) | (have H2_ := (Option.bind_some _ _).symm.trans H; rw [hy436]; with_reducible exact H2_) | (have H2_ := (Option.bind_some _ _).symm.trans H; with_reducible exact H2_) | with_reducible exact H | (rw [hy436]; exact H) | exact H
       have Ny436 := am hy436; clear hy436; have H' := am H; clear H; have p432 : 0 ≤ (x12_1 : Int) := dT; have q432 : x12_1 < (l0_1.length : Int) := dT; obtain ⟨ad432, A432_0, c432_0, e432, hx432_0, hl432_0, hi432_0⟩ := at_L2 HR0_1.out x12_1 p432 q432; cases e432; replace hx432_0 := (HB.out.cell (World.block_lt_of_cell? w _ hx432_0)).trans hx432_0; have HR432_0 := am hi432_0; have HC432_0 := am hl432_0; clear hi432_0 hl432_0; replace p432 := eq_true p432; replace q432 := eq_true q432
       try go_wp2
       have n0_ := am (Kd.S_drew HO_432001.out); have n1_ := am (blk_drew BK429.out); have n2_ := am (blk_drew BK430.out); have n3_ := am (blk_drew BK431.out); have n4_ := am (below_drew1 HB.out); clear HO_432001 BK429 BK430 BK431 HB; revert n0_ n1_ n2_ n3_ n4_; intro HO_432001 BK429 BK430 BK431 HB; refine start_ (n := 8) (S := fun w' => w'.cell? ⟨gb431, 0, none⟩ = some (.int .i64 a0_0) ∧ w'.cell? ⟨gb431, 1, none⟩ = some (u432001)) (ds := [7]) (bA 8 0) (by kernel_rfl) rfl rfl ⟨cz BK431 0, cz BK431 1⟩ (fun hHeld => ?_); refine with_tabW impl_cloneHyper.tab5 impl_cloneHyper.bits5 (fun HT_ HW_ => ?_); generalize wr.drew = w16 at HO_432001 BK429 BK430 BK431 HB hHeld ⊢; refine pZ 0 (some 16) (bA 8 1) HT_.out ?_; refine pZ 2 (some 18) (bA 8 5) HT_.out ?_; refine tZ2 1 (some 17) (bA 8 7) HT_.out HW_.out hHeld ?_; refine oZ 3 (some 19) (bA 8 15) HT_.out (fun K hK => ?_); refine gZ Try.func104 #[.slice A432_0 (rd_L2 l0_1 x12_1).length c432_0] ?_
       with_reducible refine (slices_Clone_int_int.calls _ _ (rd_L2 l0_1 x12_1) t433 _ ?side1 ?side2 A14.out).mono ?_
       (case side1 => exact Cz (Kd.C_below HR432_0.out HB.out))
       (case side2 => exact HC432_0.out)
       rintro e w17 ⟨v434, rfl, ho0, hb⟩; refine ⟨_, rfl, ?_⟩; have n0_ := am (Kd.S_elder' (by (with_reducible repeat (first | apply Kd.S_alloc | apply Kd.S_drewN | apply Kd.S_drew)); exact HO_432001.out) (Kd.R_base ho0) hb); have n1_ := Rm ho0 HB; have n2_ := Kb BK429 hb; have n3_ := Kb BK430 hb; have n4_ := Kb BK431 hb; have n5_ := Bc HB hb; clear HO_432001 BK429 BK430 BK431 HB; revert n0_ n1_ n2_ n3_ n4_ n5_; intro HO_432001 HO435 BK429 BK430 BK431 HB
       (try clear hb)
       (try clear hb2)
       (try clear hk)
       (try clear hi)
       (try clear ho0)
       obtain ⟨Ao19, co19, eo19⟩ := Kd.R_slice HO435.out
       (first | subst eo19 | (injection eo19 with f1_ f2_ f3_; have f4_ := f1_.symm; have f5_ := f3_.symm; clear f1_ f2_ f3_; subst f4_; subst f5_))
       refine hK.out _ _ ⟨cz BK431 0, cz BK431 1⟩ (fun hHeld => ?_); clear hK K; refine norm_ (a' := ?_) ?_ ?_; rotate_left; show Act.put _ (some 19) _ = _; simp only [aP, i64_w, i32_w]; rfl; refine oZ 4 (some 20) (bA 8 31) HT_.out (fun K hK => ?_); refine value_ (w1 := ?_) (v := ?_) (by rfl) rfl ?_ ?_
       rotate_left 2
       ·go_simp
        constructor
        ·rfl
        ·rfl
       refine hK.out _ _ ⟨(blk_cell (blk_alloc BK431.out _) 0).trans rfl, (blk_cell (blk_alloc BK431.out _) 1).trans rfl⟩ (fun hHeld => ?_); clear hK K; refine norm_ (a' := ?_) ?_ ?_; rotate_left; show Act.put _ (some 20) _ = _; simp only [aP, i64_w, i32_w]; rfl; refine oZ 5 (some 21) (bA 8 63) HT_.out (fun K hK => ?_); refine Kd.S_append_step (Kd.slice 3 (Kd.int .i64)) (w0 := w) w.heap.size (by rfl) (.tmp 17) (.tmp 20) 35 32 (.slice none 0 0) 24 rfl Try.underlying35 info32 rfl (by decide) (by omega) u432001 x432001_1 t433 [.slice Ao19 t433.length co19] (fun _ => True) (fun k_ => some k_ = (.slice Ao19 t433.length co19 : Value).ownBlock) rfl rfl ?aP (fun k_ hk_ => ((Kd.R_mono (ok' := fun k_ => ((fun _ => True)) k_ ∧ some k_ ≠ (u432001 : Value).ownBlock) (Kd.R_apart' (HO435.out) (Kd.S_typed HO_432001.out) (by decide)) (fun k_ hk => ⟨trivial, hk.2⟩))).1 k_ hk_.symm) ?aF ?aO ?aB ?aS ?aL ?_
       (case aP => exact Kd.M_row (Kd.R_mono (Kd.R_tight rfl (Kd.R_mono (ok' := fun k_ => ((fun _ => True)) k_ ∧ some k_ ≠ (u432001 : Value).ownBlock) (Kd.R_apart' (HO435.out) (Kd.S_typed HO_432001.out) (by decide)) (fun k_ hk => ⟨trivial, hk.2⟩))) (fun _ h_ => h_)))
       (case aB => exact (Bq))
       (case aF => exact (fun _ _ => trivial))
       (case aO => exact (by (with_reducible repeat (first | apply Kd.S_alloc | apply Kd.S_drewN | apply Kd.S_drew)); exact Kd.S_mono HO_432001.out (fun k_ hk => ⟨trivial, fun e_ => hk.2 e_⟩)))
       (case aS => exact (below_size (w := w) (Bq)))
       (case aL => have := LMc15.out; omega)
       intro v437 w18 ho hb hg hat; rw [← Ny436.out] at ho; have n0_ := am (blk_grown (g := gb429) (o := .cells #[.int .i64 a0_0, .slice (some ad432) l0_1.length c0_1] 37 (0, 0)) (Kz BK429.out) hg (Kd.S_ne HO_432001.out BK429.out (by decide))); have n1_ := am (blk_grown (g := gb430) (o := .cells #[.int .i64 0, .slice none 0 0] 37 (0, 0)) (Kz BK430.out) hg (Kd.S_ne HO_432001.out BK430.out (by decide))); have n2_ := am (blk_grown (g := gb431) (o := .cells #[.int .i64 a0_0, u432001] 37 (0, 0)) (Kz BK431.out) hg (Kd.S_ne HO_432001.out BK431.out (by decide))); have n3_ := am (hb); have n4_ := am (ho); clear BK429 BK430 BK431 HB HO_432001 HO435; revert n0_ n1_ n2_ n3_ n4_; intro BK429 BK430 BK431 HB HO438; clear ho hb hg hat; obtain ⟨Ao20, co20, eo20⟩ := Kd.S_slice HO438.out
       (first | subst eo20 | (injection eo20 with f1_ f2_ f3_; have f4_ := f1_.symm; have f5_ := f3_.symm; clear f1_ f2_ f3_; subst f4_; subst f5_))
       refine hK.out _ _ ⟨cz BK431 0, cz BK431 1⟩ (fun hHeld => ?_); clear hK K; refine norm_ (a' := ?_) ?_ ?_; rotate_left; show Act.put _ (some 21) _ = _; simp only [aP, i64_w, i32_w]; rfl; refine pZ 6 (some 22) (bA 8 127) HT_.out ?_; refine lZ 7 none (bA 8 255) HT_.out (fun K hK => ?_); have hs21 : w18.cell? ⟨gb431, 1, none⟩ = some (u432001) := cz BK431 1; have hfs21 := blk_frozen BK431.out 1; have hns21_0 := NB429_431.out; have hns21_1 := NB430_431.out; have hms21_0 := NB431_429.out; have hms21_1 := NB431_430.out; refine skip_ (w1 := ?_) (by rfl) rfl ?_ ?_
       rotate_left
       ·go_simp
        rfl
       refine hK.out _ _ ?_; clear hK K; refine done_ (done_of HT_.out (by kernel_rfl)) ?_
       try go_wp2
       go_roundg k1
       case measure => have := HK1.out; omega
       case rel => exact ⟨(wrap64 (x12_1 + 1)), (y436), (.slice Ao20 y436.length co20), wZ, H', ⟨by have := HK1.out; omega⟩, ⟨by (with_reducible repeat (first | apply Kd.S_alloc | apply Kd.S_drewN | apply Kd.S_drew)); exact Kd.S_mono (Kd.S_far (p := ⟨gb431, 1, none⟩) (Kd.S_types HO438.out BK431.out (by decide)) (fun _ hk => hk.2) (.slice Ao20 y436.length co20)) (fun _ hk => trivial)⟩, ⟨by (with_reducible repeat (first | refine blk_drewN ?_ _ | refine blk_drew ?_ | refine blk_alloc ?_ _)); refine blk_far ?_ NB429_431.out _; (with_reducible repeat (first | refine blk_drewN ?_ _ | refine blk_drew ?_ | refine blk_alloc ?_ _)); exact BK429.out⟩, ⟨by (with_reducible repeat (first | refine blk_drewN ?_ _ | refine blk_drew ?_ | refine blk_alloc ?_ _)); refine blk_far ?_ NB430_431.out _; (with_reducible repeat (first | refine blk_drewN ?_ _ | refine blk_drew ?_ | refine blk_alloc ?_ _)); exact BK430.out⟩, ⟨by (with_reducible repeat (first | refine blk_drewN ?_ _ | refine blk_drew ?_ | refine blk_alloc ?_ _)); refine blk_put (cs := #[.int .i64 a0_0, u432001]) ?_ 1 _ rfl; (with_reducible repeat (first | refine blk_drewN ?_ _ | refine blk_drew ?_ | refine blk_alloc ?_ _)); exact BK431.out⟩, ⟨Bq⟩⟩
      ·rw [if_neg c15] at H
       exact absurd H (by simp)
     ·rw [if_neg c13] at H
      exact absurd H (by simp)
    ·rw [if_neg c12] at H
     exact absurd H (by simp)
   ·rw [if_neg c11] at H
    have c11b0 : decide (x12_1 < (l0_1.length : Int)) = false := decide_eq_false c11; clear c11
    simp only [Option.some.injEq, Prod.mk.injEq] at H
    obtain ⟨rfl, rfl⟩ := H; have hnb22 := NB431_429.out; have hnc22 := NB429_431.out; have hnb23 := NB431_430.out; have hnc23 := NB430_431.out; obtain ⟨hcz24_0, hcz24_1, hfz24_0, hfz24_1⟩ := cf2 (w := wr) BK431; have hnb25 := NB430_429.out; have hnc25 := NB429_430.out; obtain ⟨hcz26_0, hcz26_1, hfz26_0, hfz26_1⟩ := cf2 (w := wr) BK430; obtain ⟨Ao27, co27, eo27⟩ := Kd.S_slice HO_432001.out; subst eo27
    go_wp2
    refine bodyPost_ret (results_cell_row rfl _ _ gb430 37 #[.int .i64 a0_0, .slice Ao27 x432001_1.length co27] (0, 0) _ rfl (by (with_reducible repeat (first | refine blk_drewN ?_ _ | refine blk_drew ?_ | refine blk_alloc ?_ _)); refine blk_put (cs := #[.int .i64 a0_0, .slice none 0 0]) ?_ 1 _ rfl; (with_reducible repeat (first | refine blk_drewN ?_ _ | refine blk_drew ?_ | refine blk_alloc ?_ _)); refine blk_put (cs := #[.int .i64 0, .slice none 0 0]) ?_ 0 _ rfl; exact Kz BK430.out) Try.underlying37 rfl (by kernel_rfl)) rfl ?_; exact ⟨_, eZ, by (with_reducible repeat (first | apply Kd.S_alloc | apply Kd.S_drewN | apply Kd.S_drew)); exact Kd.S_mono (Kd.S_far (p := ⟨gb430, 1, none⟩) (Kd.S_far (p := ⟨gb430, 0, none⟩) (Kd.S_types HO_432001.out BK430.out (by decide)) (fun _ hk => hk.2) (.int .i64 a0_0)) (fun _ hk => hk.2) (.slice Ao27 x432001_1.length co27)) (fun _ hk => trivial), Bq⟩

def impl_WithEdge.f (k : Nat) (a0_0 : Int) (l0_1 : List (List Int)) (l1 : List Int) : Option (Int × (List (List Int)) × Bool) := (impl_cloneHyper.f k a0_0 l0_1).bind fun bt441 => ((slices_Clone_int_int.f l1).bind fun t446 => (if bt441.2.length < 5864062014805 then ((some (bt441.2 ++ [t446] : List (List Int))).bind fun y449 => ((impl_IsHyper.f k a0_0 l0_1).bind fun t452 => (if t452 = true then ((impl_IsHyper.f k bt441.1 y449).bind fun t453 => (if t453 = true then (some (bt441.1, y449, true)) else (some (0, ([] : List (List Int)), false)))) else (some (0, ([] : List (List Int)), false))))) else (none)))
def impl_WithEdge.T2 : Bool × List (List Nat × List Nat) := (true, [([], []), ([0], [0]), ([], []), ([2], [2]), ([3], [3]), ([1, 4, 3], [1, 4]), ([0, 1, 2, 3, 4, 5], []), ([6, 5, 5, 0, 1, 2, 3, 4, 5], [5, 6])])
def impl_WithEdge.B2 : List Nat := [0, 1, 0, 4, 12, 31, 63, 127]
theorem impl_WithEdge.tab2 : rtab .any (opsOf Try.f32 2) = impl_WithEdge.T2 := by kernel_rfl
theorem impl_WithEdge.bits2 : waitsOk impl_WithEdge.T2.2 impl_WithEdge.B2 = true := by kernel_rfl
theorem impl_WithEdge.calls (k : Nat) (a0_0 : Int) (A0_1 : Option Addr) (c0_1 : Nat) (l0_1 : List (List Int)) (A1 : Option Addr) (c1 : Nat) (l1 : List Int) (r1 : Int) (r2 : List (List Int)) (r3 : Bool) (w : World) (hr0_1 : Kd.C (Kd.slice 3 (Kd.int .i64)) w A0_1 l0_1.length l0_1) (hc0_1 : l0_1.length ≤ c0_1) (hr1 : Kd.C (Kd.int .i64) w A1 l1.length l1) (hc1 : l1.length ≤ c1) (h : impl_WithEdge.f k a0_0 l0_1 l1 = some (r1, r2, r3)) :
  Calls Try.prog 32 #[.agg #[.int .i64 a0_0, .slice A0_1 l0_1.length c0_1], .slice A1 l1.length c1] w fun e w' => ∃ v1_ : Value, e = .returned (.tuple #[.agg #[.int .i64 r1, v1_], .bool r3]) ∧ Kd.S (Kd.slice 3 (Kd.int .i64)) 32 w' w.heap.size (fun _ => True) v1_ r2 ∧ Below w.heap.size w w' := by
 have hu37 := Try.underlying37; have HR0_1 := am hr0_1; have HC0_1 := am hc0_1; clear hr0_1 hc0_1; have HR1 := am hr1; have HC1 := am hc1; clear hr1 hc1; have HB := am (Below.refl w.heap.size w); have H : ((impl_cloneHyper.f k a0_0 l0_1).bind fun bt441 => ((slices_Clone_int_int.f l1).bind fun t446 => (if bt441.2.length < 5864062014805 then ((some (bt441.2 ++ [t446] : List (List Int))).bind fun y449 => ((impl_IsHyper.f k a0_0 l0_1).bind fun t452 => (if t452 = true then ((impl_IsHyper.f k bt441.1 y449).bind fun t453 => (if t453 = true then (some (bt441.1, y449, true)) else (some (0, ([] : List (List Int)), false)))) else (some (0, ([] : List (List Int)), false))))) else (none)))) = some (r1, r2, r3) := h; clear h; replace H := Option.bind_eq_some_iff.mp H; obtain ⟨⟨t441, t442⟩, A30, H⟩ := H; (try dsimp -simprocs only at H); have A3 := am A30; clear A30; replace H := Option.bind_eq_some_iff.mp H; obtain ⟨t446, A40, H⟩ := H; (try dsimp -simprocs only at H); have A4 := am A40; clear A40
 by_cases c5 : t442.length < 5864062014805
 ·rw [if_pos c5] at H
  have LMc5 := am c5; clear c5; obtain ⟨y449, hy449⟩ : ∃ y_ : List (List Int), y_ = (t442 ++ [t446]) := ⟨_, rfl⟩
  replace H : ((impl_IsHyper.f k a0_0 l0_1).bind fun t452 => (if t452 = true then ((impl_IsHyper.f k t441 y449).bind fun t453 => (if t453 = true then (some (t441, y449, true)) else (some (0, ([] : List (List Int)), false)))) else (some (0, ([] : List (List Int)), false)))) = some (r1, r2, r3) := by first | (rw [hy449]; with_reducible exact H) | (have H2_ := (Option.bind_some _ _).symm.trans H; rw [hy449]; with_reducible exact H2_) | (have H2_ := (Option.bind_some _ _).symm.trans H; with_reducible exact H2_) | with_reducible exact H | (rw [hy449]; exact H) | exact H
  have Ny449 := am hy449; clear hy449; replace H := Option.bind_eq_some_iff.mp H; obtain ⟨t452, A60, H⟩ := H; (try dsimp -simprocs only at H); have A6 := am A60; clear A60
  by_cases c7 : t452 = true
  ·subst c7
   rw [if_pos rfl] at H; replace H := Option.bind_eq_some_iff.mp H; obtain ⟨t453, A80, H⟩ := H; (try dsimp -simprocs only at H); have A8 := am A80; clear A80
   by_cases c9 : t453 = true
   ·subst c9
    rw [if_pos rfl] at H
    simp only [Option.some.injEq, Prod.mk.injEq] at H
    obtain ⟨rfl, rfl, rfl⟩ := H
    go_enter Try.func32, Try.ntmps32
    try go_wp2_with (first | ((with_reducible refine gate_dst (N := 2) rfl ?_); refine bE 2 #[.int .i64 a0_0, .slice A0_1 l0_1.length c0_1] 37 ?_; intro gb439 hg w10 hbox hb; have n0_ := Bb HB hb; have n1_ := am (hbox); have n2_ := Gl HB hg; have n3_ := Gl HB hg; clear HB; revert n0_ n1_ n2_ n3_; intro HB BK439 GW439 GE439; clear hb hbox hg) | ((with_reducible refine gate_dst (N := 4) rfl ?_); refine bE 4 #[.int .i64 0, .slice none 0 0] 37 ?_; intro gb440 hg w11 hbox hb; have n0_ := Kb BK439 hb; have n1_ := Bc HB hb; have n2_ := am (hbox); have n3_ := Gm HB hg; have n4_ := Gm HB hg; have n5_ := Nl BK439 hg; have n6_ := Ng BK439 hg; clear BK439 HB; revert n0_ n1_ n2_ n3_ n4_ n5_ n6_; intro BK439 HB BK440 GW440 GE440 NB439_440 NB440_439; clear hb hbox hg; have hnb12 := NB439_440.out; have hnc12 := NB440_439.out; obtain ⟨hcz13_0, hcz13_1, hfz13_0, hfz13_1⟩ := cf2 (w := w11) BK439) | ((with_reducible refine gate_callee (f := 103) rfl ?_); refine gL (some 8) Try.func103 #[.agg #[.int .i64 a0_0, .slice A0_1 l0_1.length c0_1]] ?_; (with_reducible refine (impl_cloneHyper.calls k a0_0 _ _ l0_1 t441 t442 _ ?side1 ?side2 A3.out).mono ?_); (case side1 => exact Cz (Kd.C_below HR0_1.out HB.out)); (case side2 => exact HC0_1.out); rintro e w14 ⟨v443, rfl, ho0, hb⟩; refine ⟨_, rfl, ?_⟩; have n0_ := am (Kd.S_lower ho0 (below_size (w := w) (Bq))); have n1_ := Kb BK439 hb; have n2_ := Kb BK440 hb; have n3_ := Bc HB hb; clear BK439 BK440 HB; revert n0_ n1_ n2_ n3_; intro HO444 BK439 BK440 HB; (try clear hb); (try clear hb2); (try clear hk); (try clear hi); (try clear ho0)) | ((with_reducible refine gate_dst (N := 6) rfl ?_); refine bE 6 #[.int .i64 0, .slice none 0 0] 37 ?_; intro gb445 hg w15 hbox hb; have n0_ := am (Kd.S_below (by (with_reducible repeat (first | apply Kd.S_alloc | apply Kd.S_drewN | apply Kd.S_drew)); exact HO444.out) hb); have n1_ := Kb BK439 hb; have n2_ := Kb BK440 hb; have n3_ := Bc HB hb; have n4_ := am (hbox); have n5_ := Gm HB hg; have n6_ := Gm HB hg; have n7_ := Nl BK439 hg; have n8_ := Ng BK439 hg; have n9_ := Nl BK440 hg; have n10_ := Ng BK440 hg; clear HO444 BK439 BK440 HB; revert n0_ n1_ n2_ n3_ n4_ n5_ n6_ n7_ n8_ n9_ n10_; intro HO444 BK439 BK440 HB BK445 GW445 GE445 NB439_445 NB445_439 NB440_445 NB445_440; clear hb hbox hg; have hnb16 := NB445_439.out; have hnc16 := NB439_445.out; have hnb17 := NB445_440.out; have hnc17 := NB440_445.out; obtain ⟨hcz18_0, hcz18_1, hfz18_0, hfz18_1⟩ := cf2 (w := w15) BK445; obtain ⟨Ao19, co19, eo19⟩ := Kd.S_slice HO444.out; subst eo19))
    have n0_ : Aside0 (Kd.S (Kd.slice 3 (Kd.int .i64)) 32 ((w15.setCell ⟨gb445, 0, none⟩ (.int .i64 t441)).setCell ⟨gb445, 1, none⟩ (.slice Ao19 t442.length co19)) w.heap.size (fun _ => True) (.slice Ao19 t442.length co19) t442) := ⟨by (with_reducible repeat (first | apply Kd.S_alloc | apply Kd.S_drewN | apply Kd.S_drew)); exact Kd.S_mono (Kd.S_far (p := ⟨gb445, 1, none⟩) (Kd.S_far (p := ⟨gb445, 0, none⟩) (Kd.S_types HO444.out BK445.out (by decide)) (fun _ hk => hk.2) (.int .i64 t441)) (fun _ hk => hk.2) (.slice Ao19 t442.length co19)) (fun _ hk => trivial)⟩; have n1_ : Aside0 (((w15.setCell ⟨gb445, 0, none⟩ (.int .i64 t441)).setCell ⟨gb445, 1, none⟩ (.slice Ao19 t442.length co19)).heap[gb439]? = some (.cells #[.int .i64 a0_0, .slice A0_1 l0_1.length c0_1] 37 (0, 0))) := ⟨by (with_reducible repeat (first | refine blk_drewN ?_ _ | refine blk_drew ?_ | refine blk_alloc ?_ _)); refine blk_far ?_ NB439_445.out _; (with_reducible repeat (first | refine blk_drewN ?_ _ | refine blk_drew ?_ | refine blk_alloc ?_ _)); refine blk_far ?_ NB439_445.out _; (with_reducible repeat (first | refine blk_drewN ?_ _ | refine blk_drew ?_ | refine blk_alloc ?_ _)); exact BK439.out⟩; have n2_ : Aside0 (((w15.setCell ⟨gb445, 0, none⟩ (.int .i64 t441)).setCell ⟨gb445, 1, none⟩ (.slice Ao19 t442.length co19)).heap[gb440]? = some (.cells #[.int .i64 0, .slice none 0 0] 37 (0, 0))) := ⟨by (with_reducible repeat (first | refine blk_drewN ?_ _ | refine blk_drew ?_ | refine blk_alloc ?_ _)); refine blk_far ?_ NB440_445.out _; (with_reducible repeat (first | refine blk_drewN ?_ _ | refine blk_drew ?_ | refine blk_alloc ?_ _)); refine blk_far ?_ NB440_445.out _; (with_reducible repeat (first | refine blk_drewN ?_ _ | refine blk_drew ?_ | refine blk_alloc ?_ _)); exact BK440.out⟩; have n3_ : Aside0 (((w15.setCell ⟨gb445, 0, none⟩ (.int .i64 t441)).setCell ⟨gb445, 1, none⟩ (.slice Ao19 t442.length co19)).heap[gb445]? = some (.cells #[.int .i64 t441, .slice Ao19 t442.length co19] 37 (0, 0))) := ⟨by (with_reducible repeat (first | refine blk_drewN ?_ _ | refine blk_drew ?_ | refine blk_alloc ?_ _)); refine blk_put (cs := #[.int .i64 t441, .slice none 0 0]) ?_ 1 _ rfl; (with_reducible repeat (first | refine blk_drewN ?_ _ | refine blk_drew ?_ | refine blk_alloc ?_ _)); refine blk_put (cs := #[.int .i64 0, .slice none 0 0]) ?_ 0 _ rfl; (with_reducible repeat (first | refine blk_drewN ?_ _ | refine blk_drew ?_ | refine blk_alloc ?_ _)); exact BK445.out⟩; have n4_ : Aside0 (Below w.heap.size w ((w15.setCell ⟨gb445, 0, none⟩ (.int .i64 t441)).setCell ⟨gb445, 1, none⟩ (.slice Ao19 t442.length co19))) := ⟨Bq⟩
    (try clear HO444)
    (try clear BK439)
    (try clear BK440)
    (try clear BK445)
    (try clear HB)
    generalize ((w15.setCell ⟨gb445, 0, none⟩ (.int .i64 t441)).setCell ⟨gb445, 1, none⟩ (.slice Ao19 t442.length co19)) = w20 at n0_ n1_ n2_ n3_ n4_ ⊢; revert n0_ n1_ n2_ n3_ n4_; intro HO444 BK439 BK440 BK445 HB; have n0_ := am (Kd.S_drew HO444.out); have n1_ := am (blk_drew BK439.out); have n2_ := am (blk_drew BK440.out); have n3_ := am (blk_drew BK445.out); have n4_ := am (below_drew1 HB.out); clear HO444 BK439 BK440 BK445 HB; revert n0_ n1_ n2_ n3_ n4_; intro HO444 BK439 BK440 BK445 HB; refine start_ (n := 8) (S := fun w' => w'.cell? ⟨gb445, 0, none⟩ = some (.int .i64 t441) ∧ w'.cell? ⟨gb445, 1, none⟩ = some (.slice Ao19 t442.length co19)) (ds := [7]) (bA 8 0) (by kernel_rfl) rfl rfl ⟨cz BK445 0, cz BK445 1⟩ (fun hHeld => ?_); refine with_tabW impl_WithEdge.tab2 impl_WithEdge.bits2 (fun HT_ HW_ => ?_); generalize w20.drew = w21 at HO444 BK439 BK440 BK445 HB hHeld ⊢; refine pZ 0 (some 9) (bA 8 1) HT_.out ?_; refine pZ 2 (some 11) (bA 8 5) HT_.out ?_; refine tZ2 1 (some 10) (bA 8 7) HT_.out HW_.out hHeld ?_; refine oZ 3 (some 12) (bA 8 15) HT_.out (fun K hK => ?_); refine gZ Try.func104 #[.slice A1 l1.length c1] ?_
    with_reducible refine (slices_Clone_int_int.calls _ _ l1 t446 _ ?side1 ?side2 A4.out).mono ?_
    (case side1 => exact Cz (Kd.C_below HR1.out HB.out))
    (case side2 => exact HC1.out)
    rintro e w22 ⟨v447, rfl, ho0, hb⟩; refine ⟨_, rfl, ?_⟩; have n0_ := am (Kd.S_elder' (by (with_reducible repeat (first | apply Kd.S_alloc | apply Kd.S_drewN | apply Kd.S_drew)); exact HO444.out) (Kd.R_base ho0) hb); have n1_ := Rm ho0 HB; have n2_ := Kb BK439 hb; have n3_ := Kb BK440 hb; have n4_ := Kb BK445 hb; have n5_ := Bc HB hb; clear HO444 BK439 BK440 BK445 HB; revert n0_ n1_ n2_ n3_ n4_ n5_; intro HO444 HO448 BK439 BK440 BK445 HB
    (try clear hb)
    (try clear hb2)
    (try clear hk)
    (try clear hi)
    (try clear ho0)
    obtain ⟨Ao24, co24, eo24⟩ := Kd.R_slice HO448.out
    (first | subst eo24 | (injection eo24 with f1_ f2_ f3_; have f4_ := f1_.symm; have f5_ := f3_.symm; clear f1_ f2_ f3_; subst f4_; subst f5_))
    refine hK.out _ _ ⟨cz BK445 0, cz BK445 1⟩ (fun hHeld => ?_); clear hK K; refine norm_ (a' := ?_) ?_ ?_; rotate_left; show Act.put _ (some 12) _ = _; simp only [aP, i64_w, i32_w]; rfl; refine oZ 4 (some 13) (bA 8 31) HT_.out (fun K hK => ?_); refine value_ (w1 := ?_) (v := ?_) (by rfl) rfl ?_ ?_
    rotate_left 2
    ·go_simp
     constructor
     ·rfl
     ·rfl
    refine hK.out _ _ ⟨(blk_cell (blk_alloc BK445.out _) 0).trans rfl, (blk_cell (blk_alloc BK445.out _) 1).trans rfl⟩ (fun hHeld => ?_); clear hK K; refine norm_ (a' := ?_) ?_ ?_; rotate_left; show Act.put _ (some 13) _ = _; simp only [aP, i64_w, i32_w]; rfl; refine oZ 5 (some 14) (bA 8 63) HT_.out (fun K hK => ?_); refine Kd.S_append_step (Kd.slice 3 (Kd.int .i64)) (w0 := w) w.heap.size (by rfl) (.tmp 10) (.tmp 13) 35 32 (.slice none 0 0) 24 rfl Try.underlying35 info32 rfl (by decide) (by omega) (.slice Ao19 t442.length co19) t442 t446 [.slice Ao24 t446.length co24] (fun _ => True) (fun k_ => some k_ = (.slice Ao24 t446.length co24 : Value).ownBlock) rfl rfl ?aP (fun k_ hk_ => ((Kd.R_mono (ok' := fun k_ => ((fun _ => True)) k_ ∧ some k_ ≠ (.slice Ao19 t442.length co19 : Value).ownBlock) (Kd.R_apart' (HO448.out) (Kd.S_typed HO444.out) (by decide)) (fun k_ hk => ⟨trivial, hk.2⟩))).1 k_ hk_.symm) ?aF ?aO ?aB ?aS ?aL ?_
    (case aP => exact Kd.M_row (Kd.R_mono (Kd.R_tight rfl (Kd.R_mono (ok' := fun k_ => ((fun _ => True)) k_ ∧ some k_ ≠ (.slice Ao19 t442.length co19 : Value).ownBlock) (Kd.R_apart' (HO448.out) (Kd.S_typed HO444.out) (by decide)) (fun k_ hk => ⟨trivial, hk.2⟩))) (fun _ h_ => h_)))
    (case aB => exact (Bq))
    (case aF => exact (fun _ _ => trivial))
    (case aO => exact (by (with_reducible repeat (first | apply Kd.S_alloc | apply Kd.S_drewN | apply Kd.S_drew)); exact Kd.S_mono HO444.out (fun k_ hk => ⟨trivial, fun e_ => hk.2 e_⟩)))
    (case aS => exact (below_size (w := w) (Bq)))
    (case aL => have := LMc5.out; omega)
    intro v450 w23 ho hb hg hat; rw [← Ny449.out] at ho; have n0_ := am (blk_grown (g := gb439) (o := .cells #[.int .i64 a0_0, .slice A0_1 l0_1.length c0_1] 37 (0, 0)) (Kz BK439.out) hg (Kd.S_ne HO444.out BK439.out (by decide))); have n1_ := am (blk_grown (g := gb440) (o := .cells #[.int .i64 0, .slice none 0 0] 37 (0, 0)) (Kz BK440.out) hg (Kd.S_ne HO444.out BK440.out (by decide))); have n2_ := am (blk_grown (g := gb445) (o := .cells #[.int .i64 t441, .slice Ao19 t442.length co19] 37 (0, 0)) (Kz BK445.out) hg (Kd.S_ne HO444.out BK445.out (by decide))); have n3_ := am (hb); have n4_ := am (ho); clear BK439 BK440 BK445 HB HO444 HO448; revert n0_ n1_ n2_ n3_ n4_; intro BK439 BK440 BK445 HB HO451; clear ho hb hg hat; obtain ⟨Ao25, co25, eo25⟩ := Kd.S_slice HO451.out
    (first | subst eo25 | (injection eo25 with f1_ f2_ f3_; have f4_ := f1_.symm; have f5_ := f3_.symm; clear f1_ f2_ f3_; subst f4_; subst f5_))
    refine hK.out _ _ ⟨cz BK445 0, cz BK445 1⟩ (fun hHeld => ?_); clear hK K; refine norm_ (a' := ?_) ?_ ?_; rotate_left; show Act.put _ (some 14) _ = _; simp only [aP, i64_w, i32_w]; rfl; refine pZ 6 (some 15) (bA 8 127) HT_.out ?_; refine lZ 7 none (bA 8 255) HT_.out (fun K hK => ?_); have hs26 : w23.cell? ⟨gb445, 1, none⟩ = some (.slice Ao19 t442.length co19) := cz BK445 1; have hfs26 := blk_frozen BK445.out 1; have hns26_0 := NB439_445.out; have hns26_1 := NB440_445.out; have hms26_0 := NB445_439.out; have hms26_1 := NB445_440.out; refine skip_ (w1 := ?_) (by rfl) rfl ?_ ?_
    rotate_left
    ·go_simp
     rfl
    refine hK.out _ _ ?_; clear hK K; refine done_ (done_of HT_.out (by kernel_rfl)) ?_; obtain ⟨hcz27_0, hcz27_1, hfz27_0, hfz27_1⟩ := cf2 (w := w23) BK439
    try go_wp2_with (first | ((with_reducible refine gate_callee (f := 42) rfl ?_); refine gL (some 17) Try.func42 #[.agg #[.int .i64 a0_0, .slice A0_1 l0_1.length c0_1]] ?_; (with_reducible refine (impl_IsHyper.calls k a0_0 _ _ l0_1 true _ ?side1 ?side2 A6.out).mono ?_); (case side1 => exact Kd.C_below HR0_1.out (Bq)); (case side2 => exact HC0_1.out); rintro e w28 ⟨rfl, hb⟩; refine ⟨_, rfl, ?_⟩; have n0_ := am (Kd.S_below (by (with_reducible repeat (first | apply Kd.S_alloc | apply Kd.S_drewN | apply Kd.S_drew)); exact (Kd.S_mono (Kd.S_far (p := ⟨gb445, 1, none⟩) (Kd.S_types HO451.out BK445.out (by decide)) (fun _ hk => hk.2) (.slice Ao25 y449.length co25)) (fun _ h_ => h_.1))) hb); have n1_ := am (blk_below (g := gb439) (o := .cells #[.int .i64 a0_0, .slice A0_1 l0_1.length c0_1] 37 (0, 0)) (by (with_reducible repeat (first | refine blk_drewN ?_ _ | refine blk_drew ?_ | refine blk_alloc ?_ _)); refine blk_far ?_ NB439_445.out _; exact Kz BK439.out) hb); have n2_ := am (blk_below (g := gb440) (o := .cells #[.int .i64 0, .slice none 0 0] 37 (0, 0)) (by (with_reducible repeat (first | refine blk_drewN ?_ _ | refine blk_drew ?_ | refine blk_alloc ?_ _)); refine blk_far ?_ NB440_445.out _; exact Kz BK440.out) hb); have n3_ := am (blk_below (g := gb445) (o := .cells #[.int .i64 t441, .slice Ao25 y449.length co25] 37 (0, 0)) (by (with_reducible repeat (first | refine blk_drewN ?_ _ | refine blk_drew ?_ | refine blk_alloc ?_ _)); refine blk_put (cs := #[.int .i64 t441, .slice Ao19 t442.length co19]) ?_ 1 _ rfl; exact Kz BK445.out) hb); have n4_ := Bc HB hb; clear HO451 BK439 BK440 BK445 HB; revert n0_ n1_ n2_ n3_ n4_; intro HO451 BK439 BK440 BK445 HB; (try clear hb); (try clear hb2); (try clear hk); (try clear hi); obtain ⟨hcz29_0, hcz29_1, hfz29_0, hfz29_1⟩ := cf2 (w := w28) BK445) | (go_at_call 42; (with_reducible refine (impl_IsHyper.calls k t441 _ _ y449 true _ ?side1 ?side2 A8.out).mono ?_); (case side1 => exact Cz ((Kd.S_reads' HO451.out).2.2)); (case side2 => exact (Kd.S_reads' HO451.out).2.1); rintro e w30 ⟨rfl, hb⟩; have n0_ := am (Kd.S_below (by (with_reducible repeat (first | apply Kd.S_alloc | apply Kd.S_drewN | apply Kd.S_drew)); exact HO451.out) hb); have n1_ := Kb BK439 hb; have n2_ := Kb BK440 hb; have n3_ := Kb BK445 hb; have n4_ := Bc HB hb; clear HO451 BK439 BK440 BK445 HB; revert n0_ n1_ n2_ n3_ n4_; intro HO451 BK439 BK440 BK445 HB; (try clear hb); (try clear hb2); (try clear hk); (try clear hi); obtain ⟨hcz31_0, hcz31_1, hfz31_0, hfz31_1⟩ := cf2 (w := w30) BK445; obtain ⟨hcz32_0, hcz32_1, hfz32_0, hfz32_1⟩ := cf2 (w := w30) BK440))
    refine bodyPost_ret (results_ct rfl _ _ gb440 37 #[.int .i64 t441, .slice Ao25 y449.length co25] (0, 0) _ rfl (by (with_reducible repeat (first | refine blk_drewN ?_ _ | refine blk_drew ?_ | refine blk_alloc ?_ _)); refine blk_put (cs := #[.int .i64 t441, .slice none 0 0]) ?_ 1 _ rfl; (with_reducible repeat (first | refine blk_drewN ?_ _ | refine blk_drew ?_ | refine blk_alloc ?_ _)); refine blk_put (cs := #[.int .i64 0, .slice none 0 0]) ?_ 0 _ rfl; exact Kz BK440.out) Try.underlying37 rfl (by kernel_rfl)) rfl ?_; exact ⟨_, eZ, by (with_reducible repeat (first | apply Kd.S_alloc | apply Kd.S_drewN | apply Kd.S_drew)); exact Kd.S_mono (Kd.S_far (p := ⟨gb440, 1, none⟩) (Kd.S_far (p := ⟨gb440, 0, none⟩) (Kd.S_types HO451.out BK440.out (by decide)) (fun _ hk => hk.2) (.int .i64 t441)) (fun _ hk => hk.2) (.slice Ao25 y449.length co25)) (fun _ hk => trivial), Bq⟩
   ·replace c9 := Bool.eq_false_iff.mpr c9
    subst c9
    rw [if_neg (show ¬ (false = true) by decide)] at H
    simp only [Option.some.injEq, Prod.mk.injEq] at H
    obtain ⟨rfl, rfl, rfl⟩ := H
    go_enter Try.func32, Try.ntmps32
    try go_wp2_with (first | ((with_reducible refine gate_dst (N := 2) rfl ?_); refine bE 2 #[.int .i64 a0_0, .slice A0_1 l0_1.length c0_1] 37 ?_; intro gb439 hg w33 hbox hb; have n0_ := Bb HB hb; have n1_ := am (hbox); have n2_ := Gl HB hg; have n3_ := Gl HB hg; clear HB; revert n0_ n1_ n2_ n3_; intro HB BK439 GW439 GE439; clear hb hbox hg) | ((with_reducible refine gate_dst (N := 4) rfl ?_); refine bE 4 #[.int .i64 0, .slice none 0 0] 37 ?_; intro gb440 hg w34 hbox hb; have n0_ := Kb BK439 hb; have n1_ := Bc HB hb; have n2_ := am (hbox); have n3_ := Gm HB hg; have n4_ := Gm HB hg; have n5_ := Nl BK439 hg; have n6_ := Ng BK439 hg; clear BK439 HB; revert n0_ n1_ n2_ n3_ n4_ n5_ n6_; intro BK439 HB BK440 GW440 GE440 NB439_440 NB440_439; clear hb hbox hg; have hnb35 := NB439_440.out; have hnc35 := NB440_439.out; obtain ⟨hcz36_0, hcz36_1, hfz36_0, hfz36_1⟩ := cf2 (w := w34) BK439) | ((with_reducible refine gate_callee (f := 103) rfl ?_); refine gL (some 8) Try.func103 #[.agg #[.int .i64 a0_0, .slice A0_1 l0_1.length c0_1]] ?_; (with_reducible refine (impl_cloneHyper.calls k a0_0 _ _ l0_1 t441 t442 _ ?side1 ?side2 A3.out).mono ?_); (case side1 => exact Cz (Kd.C_below HR0_1.out HB.out)); (case side2 => exact HC0_1.out); rintro e w37 ⟨v443, rfl, ho0, hb⟩; refine ⟨_, rfl, ?_⟩; have n0_ := am (Kd.S_lower ho0 (below_size (w := w) (Bq))); have n1_ := Kb BK439 hb; have n2_ := Kb BK440 hb; have n3_ := Bc HB hb; clear BK439 BK440 HB; revert n0_ n1_ n2_ n3_; intro HO444 BK439 BK440 HB; (try clear hb); (try clear hb2); (try clear hk); (try clear hi); (try clear ho0)) | ((with_reducible refine gate_dst (N := 6) rfl ?_); refine bE 6 #[.int .i64 0, .slice none 0 0] 37 ?_; intro gb445 hg w38 hbox hb; have n0_ := am (Kd.S_below (by (with_reducible repeat (first | apply Kd.S_alloc | apply Kd.S_drewN | apply Kd.S_drew)); exact HO444.out) hb); have n1_ := Kb BK439 hb; have n2_ := Kb BK440 hb; have n3_ := Bc HB hb; have n4_ := am (hbox); have n5_ := Gm HB hg; have n6_ := Gm HB hg; have n7_ := Nl BK439 hg; have n8_ := Ng BK439 hg; have n9_ := Nl BK440 hg; have n10_ := Ng BK440 hg; clear HO444 BK439 BK440 HB; revert n0_ n1_ n2_ n3_ n4_ n5_ n6_ n7_ n8_ n9_ n10_; intro HO444 BK439 BK440 HB BK445 GW445 GE445 NB439_445 NB445_439 NB440_445 NB445_440; clear hb hbox hg; have hnb39 := NB445_439.out; have hnc39 := NB439_445.out; have hnb40 := NB445_440.out; have hnc40 := NB440_445.out; obtain ⟨hcz41_0, hcz41_1, hfz41_0, hfz41_1⟩ := cf2 (w := w38) BK445; obtain ⟨Ao42, co42, eo42⟩ := Kd.S_slice HO444.out; subst eo42))
    have n0_ : Aside0 (Kd.S (Kd.slice 3 (Kd.int .i64)) 32 ((w38.setCell ⟨gb445, 0, none⟩ (.int .i64 t441)).setCell ⟨gb445, 1, none⟩ (.slice Ao42 t442.length co42)) w.heap.size (fun _ => True) (.slice Ao42 t442.length co42) t442) := ⟨by (with_reducible repeat (first | apply Kd.S_alloc | apply Kd.S_drewN | apply Kd.S_drew)); exact Kd.S_mono (Kd.S_far (p := ⟨gb445, 1, none⟩) (Kd.S_far (p := ⟨gb445, 0, none⟩) (Kd.S_types HO444.out BK445.out (by decide)) (fun _ hk => hk.2) (.int .i64 t441)) (fun _ hk => hk.2) (.slice Ao42 t442.length co42)) (fun _ hk => trivial)⟩; have n1_ : Aside0 (((w38.setCell ⟨gb445, 0, none⟩ (.int .i64 t441)).setCell ⟨gb445, 1, none⟩ (.slice Ao42 t442.length co42)).heap[gb439]? = some (.cells #[.int .i64 a0_0, .slice A0_1 l0_1.length c0_1] 37 (0, 0))) := ⟨by (with_reducible repeat (first | refine blk_drewN ?_ _ | refine blk_drew ?_ | refine blk_alloc ?_ _)); refine blk_far ?_ NB439_445.out _; (with_reducible repeat (first | refine blk_drewN ?_ _ | refine blk_drew ?_ | refine blk_alloc ?_ _)); refine blk_far ?_ NB439_445.out _; (with_reducible repeat (first | refine blk_drewN ?_ _ | refine blk_drew ?_ | refine blk_alloc ?_ _)); exact BK439.out⟩; have n2_ : Aside0 (((w38.setCell ⟨gb445, 0, none⟩ (.int .i64 t441)).setCell ⟨gb445, 1, none⟩ (.slice Ao42 t442.length co42)).heap[gb440]? = some (.cells #[.int .i64 0, .slice none 0 0] 37 (0, 0))) := ⟨by (with_reducible repeat (first | refine blk_drewN ?_ _ | refine blk_drew ?_ | refine blk_alloc ?_ _)); refine blk_far ?_ NB440_445.out _; (with_reducible repeat (first | refine blk_drewN ?_ _ | refine blk_drew ?_ | refine blk_alloc ?_ _)); refine blk_far ?_ NB440_445.out _; (with_reducible repeat (first | refine blk_drewN ?_ _ | refine blk_drew ?_ | refine blk_alloc ?_ _)); exact BK440.out⟩; have n3_ : Aside0 (((w38.setCell ⟨gb445, 0, none⟩ (.int .i64 t441)).setCell ⟨gb445, 1, none⟩ (.slice Ao42 t442.length co42)).heap[gb445]? = some (.cells #[.int .i64 t441, .slice Ao42 t442.length co42] 37 (0, 0))) := ⟨by (with_reducible repeat (first | refine blk_drewN ?_ _ | refine blk_drew ?_ | refine blk_alloc ?_ _)); refine blk_put (cs := #[.int .i64 t441, .slice none 0 0]) ?_ 1 _ rfl; (with_reducible repeat (first | refine blk_drewN ?_ _ | refine blk_drew ?_ | refine blk_alloc ?_ _)); refine blk_put (cs := #[.int .i64 0, .slice none 0 0]) ?_ 0 _ rfl; (with_reducible repeat (first | refine blk_drewN ?_ _ | refine blk_drew ?_ | refine blk_alloc ?_ _)); exact BK445.out⟩; have n4_ : Aside0 (Below w.heap.size w ((w38.setCell ⟨gb445, 0, none⟩ (.int .i64 t441)).setCell ⟨gb445, 1, none⟩ (.slice Ao42 t442.length co42))) := ⟨Bq⟩
    (try clear HO444)
    (try clear BK439)
    (try clear BK440)
    (try clear BK445)
    (try clear HB)
    generalize ((w38.setCell ⟨gb445, 0, none⟩ (.int .i64 t441)).setCell ⟨gb445, 1, none⟩ (.slice Ao42 t442.length co42)) = w43 at n0_ n1_ n2_ n3_ n4_ ⊢; revert n0_ n1_ n2_ n3_ n4_; intro HO444 BK439 BK440 BK445 HB; have n0_ := am (Kd.S_drew HO444.out); have n1_ := am (blk_drew BK439.out); have n2_ := am (blk_drew BK440.out); have n3_ := am (blk_drew BK445.out); have n4_ := am (below_drew1 HB.out); clear HO444 BK439 BK440 BK445 HB; revert n0_ n1_ n2_ n3_ n4_; intro HO444 BK439 BK440 BK445 HB; refine start_ (n := 8) (S := fun w' => w'.cell? ⟨gb445, 0, none⟩ = some (.int .i64 t441) ∧ w'.cell? ⟨gb445, 1, none⟩ = some (.slice Ao42 t442.length co42)) (ds := [7]) (bA 8 0) (by kernel_rfl) rfl rfl ⟨cz BK445 0, cz BK445 1⟩ (fun hHeld => ?_); refine with_tabW impl_WithEdge.tab2 impl_WithEdge.bits2 (fun HT_ HW_ => ?_); generalize w43.drew = w44 at HO444 BK439 BK440 BK445 HB hHeld ⊢; refine pZ 0 (some 9) (bA 8 1) HT_.out ?_; refine pZ 2 (some 11) (bA 8 5) HT_.out ?_; refine tZ2 1 (some 10) (bA 8 7) HT_.out HW_.out hHeld ?_; refine oZ 3 (some 12) (bA 8 15) HT_.out (fun K hK => ?_); refine gZ Try.func104 #[.slice A1 l1.length c1] ?_
    with_reducible refine (slices_Clone_int_int.calls _ _ l1 t446 _ ?side1 ?side2 A4.out).mono ?_
    (case side1 => exact Cz (Kd.C_below HR1.out HB.out))
    (case side2 => exact HC1.out)
    rintro e w45 ⟨v447, rfl, ho0, hb⟩; refine ⟨_, rfl, ?_⟩; have n0_ := am (Kd.S_elder' (by (with_reducible repeat (first | apply Kd.S_alloc | apply Kd.S_drewN | apply Kd.S_drew)); exact HO444.out) (Kd.R_base ho0) hb); have n1_ := Rm ho0 HB; have n2_ := Kb BK439 hb; have n3_ := Kb BK440 hb; have n4_ := Kb BK445 hb; have n5_ := Bc HB hb; clear HO444 BK439 BK440 BK445 HB; revert n0_ n1_ n2_ n3_ n4_ n5_; intro HO444 HO448 BK439 BK440 BK445 HB
    (try clear hb)
    (try clear hb2)
    (try clear hk)
    (try clear hi)
    (try clear ho0)
    obtain ⟨Ao47, co47, eo47⟩ := Kd.R_slice HO448.out
    (first | subst eo47 | (injection eo47 with f1_ f2_ f3_; have f4_ := f1_.symm; have f5_ := f3_.symm; clear f1_ f2_ f3_; subst f4_; subst f5_))
    refine hK.out _ _ ⟨cz BK445 0, cz BK445 1⟩ (fun hHeld => ?_); clear hK K; refine norm_ (a' := ?_) ?_ ?_; rotate_left; show Act.put _ (some 12) _ = _; simp only [aP, i64_w, i32_w]; rfl; refine oZ 4 (some 13) (bA 8 31) HT_.out (fun K hK => ?_); refine value_ (w1 := ?_) (v := ?_) (by rfl) rfl ?_ ?_
    rotate_left 2
    ·go_simp
     constructor
     ·rfl
     ·rfl
    refine hK.out _ _ ⟨(blk_cell (blk_alloc BK445.out _) 0).trans rfl, (blk_cell (blk_alloc BK445.out _) 1).trans rfl⟩ (fun hHeld => ?_); clear hK K; refine norm_ (a' := ?_) ?_ ?_; rotate_left; show Act.put _ (some 13) _ = _; simp only [aP, i64_w, i32_w]; rfl; refine oZ 5 (some 14) (bA 8 63) HT_.out (fun K hK => ?_); refine Kd.S_append_step (Kd.slice 3 (Kd.int .i64)) (w0 := w) w.heap.size (by rfl) (.tmp 10) (.tmp 13) 35 32 (.slice none 0 0) 24 rfl Try.underlying35 info32 rfl (by decide) (by omega) (.slice Ao42 t442.length co42) t442 t446 [.slice Ao47 t446.length co47] (fun _ => True) (fun k_ => some k_ = (.slice Ao47 t446.length co47 : Value).ownBlock) rfl rfl ?aP (fun k_ hk_ => ((Kd.R_mono (ok' := fun k_ => ((fun _ => True)) k_ ∧ some k_ ≠ (.slice Ao42 t442.length co42 : Value).ownBlock) (Kd.R_apart' (HO448.out) (Kd.S_typed HO444.out) (by decide)) (fun k_ hk => ⟨trivial, hk.2⟩))).1 k_ hk_.symm) ?aF ?aO ?aB ?aS ?aL ?_
    (case aP => exact Kd.M_row (Kd.R_mono (Kd.R_tight rfl (Kd.R_mono (ok' := fun k_ => ((fun _ => True)) k_ ∧ some k_ ≠ (.slice Ao42 t442.length co42 : Value).ownBlock) (Kd.R_apart' (HO448.out) (Kd.S_typed HO444.out) (by decide)) (fun k_ hk => ⟨trivial, hk.2⟩))) (fun _ h_ => h_)))
    (case aB => exact (Bq))
    (case aF => exact (fun _ _ => trivial))
    (case aO => exact (by (with_reducible repeat (first | apply Kd.S_alloc | apply Kd.S_drewN | apply Kd.S_drew)); exact Kd.S_mono HO444.out (fun k_ hk => ⟨trivial, fun e_ => hk.2 e_⟩)))
    (case aS => exact (below_size (w := w) (Bq)))
    (case aL => have := LMc5.out; omega)
    intro v450 w46 ho hb hg hat; rw [← Ny449.out] at ho; have n0_ := am (blk_grown (g := gb439) (o := .cells #[.int .i64 a0_0, .slice A0_1 l0_1.length c0_1] 37 (0, 0)) (Kz BK439.out) hg (Kd.S_ne HO444.out BK439.out (by decide))); have n1_ := am (blk_grown (g := gb440) (o := .cells #[.int .i64 0, .slice none 0 0] 37 (0, 0)) (Kz BK440.out) hg (Kd.S_ne HO444.out BK440.out (by decide))); have n2_ := am (blk_grown (g := gb445) (o := .cells #[.int .i64 t441, .slice Ao42 t442.length co42] 37 (0, 0)) (Kz BK445.out) hg (Kd.S_ne HO444.out BK445.out (by decide))); have n3_ := am (hb); have n4_ := am (ho); clear BK439 BK440 BK445 HB HO444 HO448; revert n0_ n1_ n2_ n3_ n4_; intro BK439 BK440 BK445 HB HO451; clear ho hb hg hat; obtain ⟨Ao48, co48, eo48⟩ := Kd.S_slice HO451.out
    (first | subst eo48 | (injection eo48 with f1_ f2_ f3_; have f4_ := f1_.symm; have f5_ := f3_.symm; clear f1_ f2_ f3_; subst f4_; subst f5_))
    refine hK.out _ _ ⟨cz BK445 0, cz BK445 1⟩ (fun hHeld => ?_); clear hK K; refine norm_ (a' := ?_) ?_ ?_; rotate_left; show Act.put _ (some 14) _ = _; simp only [aP, i64_w, i32_w]; rfl; refine pZ 6 (some 15) (bA 8 127) HT_.out ?_; refine lZ 7 none (bA 8 255) HT_.out (fun K hK => ?_); have hs49 : w46.cell? ⟨gb445, 1, none⟩ = some (.slice Ao42 t442.length co42) := cz BK445 1; have hfs49 := blk_frozen BK445.out 1; have hns49_0 := NB439_445.out; have hns49_1 := NB440_445.out; have hms49_0 := NB445_439.out; have hms49_1 := NB445_440.out; refine skip_ (w1 := ?_) (by rfl) rfl ?_ ?_
    rotate_left
    ·go_simp
     rfl
    refine hK.out _ _ ?_; clear hK K; refine done_ (done_of HT_.out (by kernel_rfl)) ?_; obtain ⟨hcz50_0, hcz50_1, hfz50_0, hfz50_1⟩ := cf2 (w := w46) BK439
    try go_wp2_with (first | ((with_reducible refine gate_callee (f := 42) rfl ?_); refine gL (some 17) Try.func42 #[.agg #[.int .i64 a0_0, .slice A0_1 l0_1.length c0_1]] ?_; (with_reducible refine (impl_IsHyper.calls k a0_0 _ _ l0_1 true _ ?side1 ?side2 A6.out).mono ?_); (case side1 => exact Kd.C_below HR0_1.out (Bq)); (case side2 => exact HC0_1.out); rintro e w51 ⟨rfl, hb⟩; refine ⟨_, rfl, ?_⟩; have n0_ := am (Kd.S_below (by (with_reducible repeat (first | apply Kd.S_alloc | apply Kd.S_drewN | apply Kd.S_drew)); exact (Kd.S_mono (Kd.S_far (p := ⟨gb445, 1, none⟩) (Kd.S_types HO451.out BK445.out (by decide)) (fun _ hk => hk.2) (.slice Ao48 y449.length co48)) (fun _ h_ => h_.1))) hb); have n1_ := am (blk_below (g := gb439) (o := .cells #[.int .i64 a0_0, .slice A0_1 l0_1.length c0_1] 37 (0, 0)) (by (with_reducible repeat (first | refine blk_drewN ?_ _ | refine blk_drew ?_ | refine blk_alloc ?_ _)); refine blk_far ?_ NB439_445.out _; exact Kz BK439.out) hb); have n2_ := am (blk_below (g := gb440) (o := .cells #[.int .i64 0, .slice none 0 0] 37 (0, 0)) (by (with_reducible repeat (first | refine blk_drewN ?_ _ | refine blk_drew ?_ | refine blk_alloc ?_ _)); refine blk_far ?_ NB440_445.out _; exact Kz BK440.out) hb); have n3_ := am (blk_below (g := gb445) (o := .cells #[.int .i64 t441, .slice Ao48 y449.length co48] 37 (0, 0)) (by (with_reducible repeat (first | refine blk_drewN ?_ _ | refine blk_drew ?_ | refine blk_alloc ?_ _)); refine blk_put (cs := #[.int .i64 t441, .slice Ao42 t442.length co42]) ?_ 1 _ rfl; exact Kz BK445.out) hb); have n4_ := Bc HB hb; clear HO451 BK439 BK440 BK445 HB; revert n0_ n1_ n2_ n3_ n4_; intro HO451 BK439 BK440 BK445 HB; (try clear hb); (try clear hb2); (try clear hk); (try clear hi); obtain ⟨hcz52_0, hcz52_1, hfz52_0, hfz52_1⟩ := cf2 (w := w51) BK445) | (go_at_call 42; (with_reducible refine (impl_IsHyper.calls k t441 _ _ y449 false _ ?side1 ?side2 A8.out).mono ?_); (case side1 => exact Cz ((Kd.S_reads' HO451.out).2.2)); (case side2 => exact (Kd.S_reads' HO451.out).2.1); rintro e w53 ⟨rfl, hb⟩; have n0_ := am (Kd.S_below (by (with_reducible repeat (first | apply Kd.S_alloc | apply Kd.S_drewN | apply Kd.S_drew)); exact HO451.out) hb); have n1_ := Kb BK439 hb; have n2_ := Kb BK440 hb; have n3_ := Kb BK445 hb; have n4_ := Bc HB hb; clear HO451 BK439 BK440 BK445 HB; revert n0_ n1_ n2_ n3_ n4_; intro HO451 BK439 BK440 BK445 HB; (try clear hb); (try clear hb2); (try clear hk); (try clear hi); obtain ⟨hcz54_0, hcz54_1, hfz54_0, hfz54_1⟩ := cf2 (w := w53) BK440))
    refine bodyPost_ret (results_ct rfl _ _ gb440 37 #[.int .i64 0, .slice none 0 0] (0, 0) _ rfl (by (with_reducible repeat (first | refine blk_drewN ?_ _ | refine blk_drew ?_ | refine blk_alloc ?_ _)); refine blk_put (cs := #[.int .i64 0, .slice none 0 0]) ?_ 1 _ rfl; (with_reducible repeat (first | refine blk_drewN ?_ _ | refine blk_drew ?_ | refine blk_alloc ?_ _)); refine blk_put (cs := #[.int .i64 0, .slice none 0 0]) ?_ 0 _ rfl; exact Kz BK440.out) Try.underlying37 rfl (by kernel_rfl)) rfl ?_; exact ⟨_, eZ, by first | exact Kd.S_nil _ _ _ _ _ | exact Kd.N_nil _ _ _ _ _ | exact Kd.V_nil _ _ _ _ _ | exact Kd.Q_nil _ _ _ _ _ | exact Kd.R_nil _ _ _ _ _, Bq⟩
  ·replace c7 := Bool.eq_false_iff.mpr c7
   subst c7
   rw [if_neg (show ¬ (false = true) by decide)] at H
   simp only [Option.some.injEq, Prod.mk.injEq] at H
   obtain ⟨rfl, rfl, rfl⟩ := H
   go_enter Try.func32, Try.ntmps32
   try go_wp2_with (first | ((with_reducible refine gate_dst (N := 2) rfl ?_); refine bE 2 #[.int .i64 a0_0, .slice A0_1 l0_1.length c0_1] 37 ?_; intro gb439 hg w55 hbox hb; have n0_ := Bb HB hb; have n1_ := am (hbox); have n2_ := Gl HB hg; have n3_ := Gl HB hg; clear HB; revert n0_ n1_ n2_ n3_; intro HB BK439 GW439 GE439; clear hb hbox hg) | ((with_reducible refine gate_dst (N := 4) rfl ?_); refine bE 4 #[.int .i64 0, .slice none 0 0] 37 ?_; intro gb440 hg w56 hbox hb; have n0_ := Kb BK439 hb; have n1_ := Bc HB hb; have n2_ := am (hbox); have n3_ := Gm HB hg; have n4_ := Gm HB hg; have n5_ := Nl BK439 hg; have n6_ := Ng BK439 hg; clear BK439 HB; revert n0_ n1_ n2_ n3_ n4_ n5_ n6_; intro BK439 HB BK440 GW440 GE440 NB439_440 NB440_439; clear hb hbox hg; have hnb57 := NB439_440.out; have hnc57 := NB440_439.out; obtain ⟨hcz58_0, hcz58_1, hfz58_0, hfz58_1⟩ := cf2 (w := w56) BK439) | ((with_reducible refine gate_callee (f := 103) rfl ?_); refine gL (some 8) Try.func103 #[.agg #[.int .i64 a0_0, .slice A0_1 l0_1.length c0_1]] ?_; (with_reducible refine (impl_cloneHyper.calls k a0_0 _ _ l0_1 t441 t442 _ ?side1 ?side2 A3.out).mono ?_); (case side1 => exact Cz (Kd.C_below HR0_1.out HB.out)); (case side2 => exact HC0_1.out); rintro e w59 ⟨v443, rfl, ho0, hb⟩; refine ⟨_, rfl, ?_⟩; have n0_ := am (Kd.S_lower ho0 (below_size (w := w) (Bq))); have n1_ := Kb BK439 hb; have n2_ := Kb BK440 hb; have n3_ := Bc HB hb; clear BK439 BK440 HB; revert n0_ n1_ n2_ n3_; intro HO444 BK439 BK440 HB; (try clear hb); (try clear hb2); (try clear hk); (try clear hi); (try clear ho0)) | ((with_reducible refine gate_dst (N := 6) rfl ?_); refine bE 6 #[.int .i64 0, .slice none 0 0] 37 ?_; intro gb445 hg w60 hbox hb; have n0_ := am (Kd.S_below (by (with_reducible repeat (first | apply Kd.S_alloc | apply Kd.S_drewN | apply Kd.S_drew)); exact HO444.out) hb); have n1_ := Kb BK439 hb; have n2_ := Kb BK440 hb; have n3_ := Bc HB hb; have n4_ := am (hbox); have n5_ := Gm HB hg; have n6_ := Gm HB hg; have n7_ := Nl BK439 hg; have n8_ := Ng BK439 hg; have n9_ := Nl BK440 hg; have n10_ := Ng BK440 hg; clear HO444 BK439 BK440 HB; revert n0_ n1_ n2_ n3_ n4_ n5_ n6_ n7_ n8_ n9_ n10_; intro HO444 BK439 BK440 HB BK445 GW445 GE445 NB439_445 NB445_439 NB440_445 NB445_440; clear hb hbox hg; have hnb61 := NB445_439.out; have hnc61 := NB439_445.out; have hnb62 := NB445_440.out; have hnc62 := NB440_445.out; obtain ⟨hcz63_0, hcz63_1, hfz63_0, hfz63_1⟩ := cf2 (w := w60) BK445; obtain ⟨Ao64, co64, eo64⟩ := Kd.S_slice HO444.out; subst eo64))
   have n0_ : Aside0 (Kd.S (Kd.slice 3 (Kd.int .i64)) 32 ((w60.setCell ⟨gb445, 0, none⟩ (.int .i64 t441)).setCell ⟨gb445, 1, none⟩ (.slice Ao64 t442.length co64)) w.heap.size (fun _ => True) (.slice Ao64 t442.length co64) t442) := ⟨by (with_reducible repeat (first | apply Kd.S_alloc | apply Kd.S_drewN | apply Kd.S_drew)); exact Kd.S_mono (Kd.S_far (p := ⟨gb445, 1, none⟩) (Kd.S_far (p := ⟨gb445, 0, none⟩) (Kd.S_types HO444.out BK445.out (by decide)) (fun _ hk => hk.2) (.int .i64 t441)) (fun _ hk => hk.2) (.slice Ao64 t442.length co64)) (fun _ hk => trivial)⟩; have n1_ : Aside0 (((w60.setCell ⟨gb445, 0, none⟩ (.int .i64 t441)).setCell ⟨gb445, 1, none⟩ (.slice Ao64 t442.length co64)).heap[gb439]? = some (.cells #[.int .i64 a0_0, .slice A0_1 l0_1.length c0_1] 37 (0, 0))) := ⟨by (with_reducible repeat (first | refine blk_drewN ?_ _ | refine blk_drew ?_ | refine blk_alloc ?_ _)); refine blk_far ?_ NB439_445.out _; (with_reducible repeat (first | refine blk_drewN ?_ _ | refine blk_drew ?_ | refine blk_alloc ?_ _)); refine blk_far ?_ NB439_445.out _; (with_reducible repeat (first | refine blk_drewN ?_ _ | refine blk_drew ?_ | refine blk_alloc ?_ _)); exact BK439.out⟩; have n2_ : Aside0 (((w60.setCell ⟨gb445, 0, none⟩ (.int .i64 t441)).setCell ⟨gb445, 1, none⟩ (.slice Ao64 t442.length co64)).heap[gb440]? = some (.cells #[.int .i64 0, .slice none 0 0] 37 (0, 0))) := ⟨by (with_reducible repeat (first | refine blk_drewN ?_ _ | refine blk_drew ?_ | refine blk_alloc ?_ _)); refine blk_far ?_ NB440_445.out _; (with_reducible repeat (first | refine blk_drewN ?_ _ | refine blk_drew ?_ | refine blk_alloc ?_ _)); refine blk_far ?_ NB440_445.out _; (with_reducible repeat (first | refine blk_drewN ?_ _ | refine blk_drew ?_ | refine blk_alloc ?_ _)); exact BK440.out⟩; have n3_ : Aside0 (((w60.setCell ⟨gb445, 0, none⟩ (.int .i64 t441)).setCell ⟨gb445, 1, none⟩ (.slice Ao64 t442.length co64)).heap[gb445]? = some (.cells #[.int .i64 t441, .slice Ao64 t442.length co64] 37 (0, 0))) := ⟨by (with_reducible repeat (first | refine blk_drewN ?_ _ | refine blk_drew ?_ | refine blk_alloc ?_ _)); refine blk_put (cs := #[.int .i64 t441, .slice none 0 0]) ?_ 1 _ rfl; (with_reducible repeat (first | refine blk_drewN ?_ _ | refine blk_drew ?_ | refine blk_alloc ?_ _)); refine blk_put (cs := #[.int .i64 0, .slice none 0 0]) ?_ 0 _ rfl; (with_reducible repeat (first | refine blk_drewN ?_ _ | refine blk_drew ?_ | refine blk_alloc ?_ _)); exact BK445.out⟩; have n4_ : Aside0 (Below w.heap.size w ((w60.setCell ⟨gb445, 0, none⟩ (.int .i64 t441)).setCell ⟨gb445, 1, none⟩ (.slice Ao64 t442.length co64))) := ⟨Bq⟩
   (try clear HO444)
   (try clear BK439)
   (try clear BK440)
   (try clear BK445)
   (try clear HB)
   generalize ((w60.setCell ⟨gb445, 0, none⟩ (.int .i64 t441)).setCell ⟨gb445, 1, none⟩ (.slice Ao64 t442.length co64)) = w65 at n0_ n1_ n2_ n3_ n4_ ⊢; revert n0_ n1_ n2_ n3_ n4_; intro HO444 BK439 BK440 BK445 HB; have n0_ := am (Kd.S_drew HO444.out); have n1_ := am (blk_drew BK439.out); have n2_ := am (blk_drew BK440.out); have n3_ := am (blk_drew BK445.out); have n4_ := am (below_drew1 HB.out); clear HO444 BK439 BK440 BK445 HB; revert n0_ n1_ n2_ n3_ n4_; intro HO444 BK439 BK440 BK445 HB; refine start_ (n := 8) (S := fun w' => w'.cell? ⟨gb445, 0, none⟩ = some (.int .i64 t441) ∧ w'.cell? ⟨gb445, 1, none⟩ = some (.slice Ao64 t442.length co64)) (ds := [7]) (bA 8 0) (by kernel_rfl) rfl rfl ⟨cz BK445 0, cz BK445 1⟩ (fun hHeld => ?_); refine with_tabW impl_WithEdge.tab2 impl_WithEdge.bits2 (fun HT_ HW_ => ?_); generalize w65.drew = w66 at HO444 BK439 BK440 BK445 HB hHeld ⊢; refine pZ 0 (some 9) (bA 8 1) HT_.out ?_; refine pZ 2 (some 11) (bA 8 5) HT_.out ?_; refine tZ2 1 (some 10) (bA 8 7) HT_.out HW_.out hHeld ?_; refine oZ 3 (some 12) (bA 8 15) HT_.out (fun K hK => ?_); refine gZ Try.func104 #[.slice A1 l1.length c1] ?_
   with_reducible refine (slices_Clone_int_int.calls _ _ l1 t446 _ ?side1 ?side2 A4.out).mono ?_
   (case side1 => exact Cz (Kd.C_below HR1.out HB.out))
   (case side2 => exact HC1.out)
   rintro e w67 ⟨v447, rfl, ho0, hb⟩; refine ⟨_, rfl, ?_⟩; have n0_ := am (Kd.S_elder' (by (with_reducible repeat (first | apply Kd.S_alloc | apply Kd.S_drewN | apply Kd.S_drew)); exact HO444.out) (Kd.R_base ho0) hb); have n1_ := Rm ho0 HB; have n2_ := Kb BK439 hb; have n3_ := Kb BK440 hb; have n4_ := Kb BK445 hb; have n5_ := Bc HB hb; clear HO444 BK439 BK440 BK445 HB; revert n0_ n1_ n2_ n3_ n4_ n5_; intro HO444 HO448 BK439 BK440 BK445 HB
   (try clear hb)
   (try clear hb2)
   (try clear hk)
   (try clear hi)
   (try clear ho0)
   obtain ⟨Ao69, co69, eo69⟩ := Kd.R_slice HO448.out
   (first | subst eo69 | (injection eo69 with f1_ f2_ f3_; have f4_ := f1_.symm; have f5_ := f3_.symm; clear f1_ f2_ f3_; subst f4_; subst f5_))
   refine hK.out _ _ ⟨cz BK445 0, cz BK445 1⟩ (fun hHeld => ?_); clear hK K; refine norm_ (a' := ?_) ?_ ?_; rotate_left; show Act.put _ (some 12) _ = _; simp only [aP, i64_w, i32_w]; rfl; refine oZ 4 (some 13) (bA 8 31) HT_.out (fun K hK => ?_); refine value_ (w1 := ?_) (v := ?_) (by rfl) rfl ?_ ?_
   rotate_left 2
   ·go_simp
    constructor
    ·rfl
    ·rfl
   refine hK.out _ _ ⟨(blk_cell (blk_alloc BK445.out _) 0).trans rfl, (blk_cell (blk_alloc BK445.out _) 1).trans rfl⟩ (fun hHeld => ?_); clear hK K; refine norm_ (a' := ?_) ?_ ?_; rotate_left; show Act.put _ (some 13) _ = _; simp only [aP, i64_w, i32_w]; rfl; refine oZ 5 (some 14) (bA 8 63) HT_.out (fun K hK => ?_); refine Kd.S_append_step (Kd.slice 3 (Kd.int .i64)) (w0 := w) w.heap.size (by rfl) (.tmp 10) (.tmp 13) 35 32 (.slice none 0 0) 24 rfl Try.underlying35 info32 rfl (by decide) (by omega) (.slice Ao64 t442.length co64) t442 t446 [.slice Ao69 t446.length co69] (fun _ => True) (fun k_ => some k_ = (.slice Ao69 t446.length co69 : Value).ownBlock) rfl rfl ?aP (fun k_ hk_ => ((Kd.R_mono (ok' := fun k_ => ((fun _ => True)) k_ ∧ some k_ ≠ (.slice Ao64 t442.length co64 : Value).ownBlock) (Kd.R_apart' (HO448.out) (Kd.S_typed HO444.out) (by decide)) (fun k_ hk => ⟨trivial, hk.2⟩))).1 k_ hk_.symm) ?aF ?aO ?aB ?aS ?aL ?_
   (case aP => exact Kd.M_row (Kd.R_mono (Kd.R_tight rfl (Kd.R_mono (ok' := fun k_ => ((fun _ => True)) k_ ∧ some k_ ≠ (.slice Ao64 t442.length co64 : Value).ownBlock) (Kd.R_apart' (HO448.out) (Kd.S_typed HO444.out) (by decide)) (fun k_ hk => ⟨trivial, hk.2⟩))) (fun _ h_ => h_)))
   (case aB => exact (Bq))
   (case aF => exact (fun _ _ => trivial))
   (case aO => exact (by (with_reducible repeat (first | apply Kd.S_alloc | apply Kd.S_drewN | apply Kd.S_drew)); exact Kd.S_mono HO444.out (fun k_ hk => ⟨trivial, fun e_ => hk.2 e_⟩)))
   (case aS => exact (below_size (w := w) (Bq)))
   (case aL => have := LMc5.out; omega)
   intro v450 w68 ho hb hg hat; rw [← Ny449.out] at ho; have n0_ := am (blk_grown (g := gb439) (o := .cells #[.int .i64 a0_0, .slice A0_1 l0_1.length c0_1] 37 (0, 0)) (Kz BK439.out) hg (Kd.S_ne HO444.out BK439.out (by decide))); have n1_ := am (blk_grown (g := gb440) (o := .cells #[.int .i64 0, .slice none 0 0] 37 (0, 0)) (Kz BK440.out) hg (Kd.S_ne HO444.out BK440.out (by decide))); have n2_ := am (blk_grown (g := gb445) (o := .cells #[.int .i64 t441, .slice Ao64 t442.length co64] 37 (0, 0)) (Kz BK445.out) hg (Kd.S_ne HO444.out BK445.out (by decide))); have n3_ := am (hb); have n4_ := am (ho); clear BK439 BK440 BK445 HB HO444 HO448; revert n0_ n1_ n2_ n3_ n4_; intro BK439 BK440 BK445 HB HO451; clear ho hb hg hat; obtain ⟨Ao70, co70, eo70⟩ := Kd.S_slice HO451.out
   (first | subst eo70 | (injection eo70 with f1_ f2_ f3_; have f4_ := f1_.symm; have f5_ := f3_.symm; clear f1_ f2_ f3_; subst f4_; subst f5_))
   refine hK.out _ _ ⟨cz BK445 0, cz BK445 1⟩ (fun hHeld => ?_); clear hK K; refine norm_ (a' := ?_) ?_ ?_; rotate_left; show Act.put _ (some 14) _ = _; simp only [aP, i64_w, i32_w]; rfl; refine pZ 6 (some 15) (bA 8 127) HT_.out ?_; refine lZ 7 none (bA 8 255) HT_.out (fun K hK => ?_); have hs71 : w68.cell? ⟨gb445, 1, none⟩ = some (.slice Ao64 t442.length co64) := cz BK445 1; have hfs71 := blk_frozen BK445.out 1; have hns71_0 := NB439_445.out; have hns71_1 := NB440_445.out; have hms71_0 := NB445_439.out; have hms71_1 := NB445_440.out; refine skip_ (w1 := ?_) (by rfl) rfl ?_ ?_
   rotate_left
   ·go_simp
    rfl
   refine hK.out _ _ ?_; clear hK K; refine done_ (done_of HT_.out (by kernel_rfl)) ?_; obtain ⟨hcz72_0, hcz72_1, hfz72_0, hfz72_1⟩ := cf2 (w := w68) BK439
   try go_wp2_with (first | ((with_reducible refine gate_callee (f := 42) rfl ?_); refine gL (some 17) Try.func42 #[.agg #[.int .i64 a0_0, .slice A0_1 l0_1.length c0_1]] ?_; (with_reducible refine (impl_IsHyper.calls k a0_0 _ _ l0_1 false _ ?side1 ?side2 A6.out).mono ?_); (case side1 => exact Kd.C_below HR0_1.out (Bq)); (case side2 => exact HC0_1.out); rintro e w73 ⟨rfl, hb⟩; refine ⟨_, rfl, ?_⟩; have n0_ := am (Kd.S_below (by (with_reducible repeat (first | apply Kd.S_alloc | apply Kd.S_drewN | apply Kd.S_drew)); exact (Kd.S_mono (Kd.S_far (p := ⟨gb445, 1, none⟩) (Kd.S_types HO451.out BK445.out (by decide)) (fun _ hk => hk.2) (.slice Ao70 y449.length co70)) (fun _ h_ => h_.1))) hb); have n1_ := am (blk_below (g := gb439) (o := .cells #[.int .i64 a0_0, .slice A0_1 l0_1.length c0_1] 37 (0, 0)) (by (with_reducible repeat (first | refine blk_drewN ?_ _ | refine blk_drew ?_ | refine blk_alloc ?_ _)); refine blk_far ?_ NB439_445.out _; exact Kz BK439.out) hb); have n2_ := am (blk_below (g := gb440) (o := .cells #[.int .i64 0, .slice none 0 0] 37 (0, 0)) (by (with_reducible repeat (first | refine blk_drewN ?_ _ | refine blk_drew ?_ | refine blk_alloc ?_ _)); refine blk_far ?_ NB440_445.out _; exact Kz BK440.out) hb); have n3_ := am (blk_below (g := gb445) (o := .cells #[.int .i64 t441, .slice Ao70 y449.length co70] 37 (0, 0)) (by (with_reducible repeat (first | refine blk_drewN ?_ _ | refine blk_drew ?_ | refine blk_alloc ?_ _)); refine blk_put (cs := #[.int .i64 t441, .slice Ao64 t442.length co64]) ?_ 1 _ rfl; exact Kz BK445.out) hb); have n4_ := Bc HB hb; clear HO451 BK439 BK440 BK445 HB; revert n0_ n1_ n2_ n3_ n4_; intro HO451 BK439 BK440 BK445 HB; (try clear hb); (try clear hb2); (try clear hk); (try clear hi); obtain ⟨hcz74_0, hcz74_1, hfz74_0, hfz74_1⟩ := cf2 (w := w73) BK440))
   refine bodyPost_ret (results_ct rfl _ _ gb440 37 #[.int .i64 0, .slice none 0 0] (0, 0) _ rfl (by (with_reducible repeat (first | refine blk_drewN ?_ _ | refine blk_drew ?_ | refine blk_alloc ?_ _)); refine blk_put (cs := #[.int .i64 0, .slice none 0 0]) ?_ 1 _ rfl; (with_reducible repeat (first | refine blk_drewN ?_ _ | refine blk_drew ?_ | refine blk_alloc ?_ _)); refine blk_put (cs := #[.int .i64 0, .slice none 0 0]) ?_ 0 _ rfl; exact Kz BK440.out) Try.underlying37 rfl (by kernel_rfl)) rfl ?_; exact ⟨_, eZ, by first | exact Kd.S_nil _ _ _ _ _ | exact Kd.N_nil _ _ _ _ _ | exact Kd.V_nil _ _ _ _ _ | exact Kd.Q_nil _ _ _ _ _ | exact Kd.R_nil _ _ _ _ _, Bq⟩
 ·rw [if_neg c5] at H
  exact absurd H (by simp)

def spec_l1In.f (a0 : Int) (a1 : Int) (a2 : Int) : Option (Bool) := if a0 ≥ a1 then (some (decide (a0 ≤ a2))) else (some false)
theorem spec_l1In.calls (a0 : Int) (a1 : Int) (a2 : Int) (r : Bool) (w : World) (h : spec_l1In.f a0 a1 a2 = some r) :
  Calls Try.prog 76 #[.int .i64 a0, .int .i64 a1, .int .i64 a2] w fun e w' => e = .returned (.bool r) ∧ Drawn0 w w' := by
 have H : (if a0 ≥ a1 then (some (decide (a0 ≤ a2))) else (some false)) = some r := h; clear h
 by_cases c4 : a0 ≥ a1
 ·rw [if_pos c4] at H
  have c4b0 : decide (a1 ≤ a0) = true := decide_eq_true c4; clear c4; obtain rfl := Option.some.inj H
  go_enter Try.func76, Try.ntmps76
  go_wp2
  go_ret
  exact ⟨by first | rfl | (simp; done) | (simp [*]; done), by repeat (first | exact Drawn0.refl _ | apply Drawn0.step)⟩
 ·rw [if_neg c4] at H
  have c4b0 : decide (a1 ≤ a0) = false := decide_eq_false c4; clear c4; obtain rfl := Option.some.inj H
  go_enter Try.func76, Try.ntmps76
  go_wp2
  go_ret
  exact ⟨by first | rfl | (simp; done) | (simp [*]; done), by repeat (first | exact Drawn0.refl _ | apply Drawn0.step)⟩

def spec_l1Rising.l0 : Nat → List Int → Int → Int → List Int → Int → Int → Option (Bool)
 | 0, _, _, _, _, _, _ => none
 | k + 1, x0, x1, x2, x9, x10, x11 => if x11 < x10 then (if 0 ≤ x11 then (if x11 < (x9.length : Int) then ((spec_l1In.f (rd x9 x11) x1 x2).bind fun t455 => (if t455 = true then (if x11 > 0 then (if 0 ≤ (wrap64 (x11 - 1)) then (if (wrap64 (x11 - 1)) < (x0.length : Int) then (if (rd x0 (wrap64 (x11 - 1))) ≥ (rd x9 x11) then (some false) else (spec_l1Rising.l0 k x0 x1 x2 x9 x10 (wrap64 (x11 + 1)))) else (none)) else (none)) else (spec_l1Rising.l0 k x0 x1 x2 x9 x10 (wrap64 (x11 + 1)))) else (some false))) else (none)) else (none)) else (some true)
def spec_l1Rising.f (k : Nat) (l0 : List Int) (a1 : Int) (a2 : Int) : Option (Bool) := spec_l1Rising.l0 k l0 a1 a2 l0 (l0.length : Int) 0
theorem spec_l1Rising.calls (k : Nat) (A0 : Option Addr) (c0 : Nat) (l0 : List Int) (a1 : Int) (a2 : Int) (r : Bool) (w : World) (hr0 : Kd.C (Kd.int .i64) w A0 l0.length l0) (hc0 : l0.length ≤ c0) (h : spec_l1Rising.f k l0 a1 a2 = some r) :
  Calls Try.prog 126 #[.slice A0 l0.length c0, .int .i64 a1, .int .i64 a2] w fun e w' => e = .returned (.bool r) ∧ Drawn0 w w' := by
 have HR0 := am hr0; have HC0 := am hc0; clear hr0 hc0; have H : (spec_l1Rising.l0 k l0 a1 a2 l0 (l0.length : Int) 0) = some r := h; clear h; have H' := am H; clear H
 go_enter Try.func126, Try.ntmps126
 go_wp2
 go_loopg [11] k (fun kq v11 w' => ∃ (x11_1 : Int), v11 = .int .i64 x11_1 ∧ Aside0 (spec_l1Rising.l0 kq l0 a1 a2 l0 (l0.length : Int) x11_1 = some r) ∧ Aside0 (kq ≤ k) ∧ Drawn0 w w')
 case atStart => exact ⟨(0), wZ, H', ⟨Nat.le_refl _⟩, by repeat (first | exact Drawn0.refl _ | apply Drawn0.step)⟩
 case round =>
  clear H'
  try clear c1
  try clear p2
  obtain ⟨x11_1, rfl, HA, HK1, ⟨m1, rfl⟩⟩ := hrel; cases gk with
  | zero => exact absurd HA.out (by simp [spec_l1Rising.l0])
  | succ k1 =>
   have H := HA.out; clear HA
   simp only [spec_l1Rising.l0] at H
   by_cases c4 : x11_1 < (l0.length : Int)
   ·rw [if_pos c4] at H
    have c4b0 : decide (x11_1 < (l0.length : Int)) = true := decide_eq_true c4; clear c4
    by_cases c5 : 0 ≤ x11_1
    ·rw [if_pos c5] at H
     have c5b0 : decide (0 ≤ x11_1) = true := decide_eq_true c5; clear c5
     by_cases c6 : x11_1 < (l0.length : Int)
     ·rw [if_pos c6] at H
      have c6b0 : decide (x11_1 < (l0.length : Int)) = true := decide_eq_true c6; clear c6; replace H := Option.bind_eq_some_iff.mp H; obtain ⟨t455, A70, H⟩ := H; (try dsimp -simprocs only at H); have A7 := am A70; clear A70
      by_cases c8 : t455 = true
      ·subst c8
       rw [if_pos rfl] at H
       by_cases c9 : x11_1 > 0
       ·rw [if_pos c9] at H
        have c9b0 : decide (0 < x11_1) = true := decide_eq_true c9; clear c9; obtain ⟨ji10, hji10⟩ : ∃ j_ : Int, (wrap64 (x11_1 - 1)) = j_ := ⟨_, rfl⟩
        replace H : (if 0 ≤ (ji10) then (if (ji10) < (l0.length : Int) then (if (rd l0 (ji10)) ≥ (rd l0 x11_1) then (some false) else (spec_l1Rising.l0 k1 l0 a1 a2 l0 (l0.length : Int) (wrap64 (x11_1 + 1)))) else (none)) else (none)) = some r := by first | (rw [hji10] at H; exact H) | (simp only [hji10] at H ⊢; exact H)
        (try rw [hji10] at A7)
        have hji10w : (IntKind.i64.wrap (x11_1 - 1)) = ji10 := (i64_w _).trans hji10
        by_cases c11 : 0 ≤ (ji10)
        ·rw [if_pos c11] at H
         have c11b0 : decide (0 ≤ (ji10)) = true := decide_eq_true c11; clear c11
         by_cases c12 : (ji10) < (l0.length : Int)
         ·rw [if_pos c12] at H
          have c12b0 : decide ((ji10) < (l0.length : Int)) = true := decide_eq_true c12; clear c12
          by_cases c13 : (rd l0 (ji10)) ≥ (rd l0 x11_1)
          ·rw [if_pos c13] at H
           have c13b0 : decide ((rd l0 x11_1) ≤ (rd l0 (ji10))) = true := decide_eq_true c13; clear c13; obtain rfl := Option.some.inj H; obtain ⟨ad454, e454, hx454_0⟩ := Kd.at_int HR0.out x11_1 dT dT; cases e454; have p454 := eT (0 ≤ (x11_1 : Int)); have q454 := eT (x11_1 < (l0.length : Int))
           go_wp2_with (first | ((with_reducible refine gate_callee (f := 76) rfl ?_); refine gL (some 19) Try.func76 #[.int .i64 (rd l0 x11_1), .int .i64 a1, .int .i64 a2] ?_; (with_reducible refine (spec_l1In.calls (rd l0 x11_1) a1 a2 true _ A7.out).mono ?_); rintro e w' ⟨rfl, ⟨nd, rfl⟩⟩; refine ⟨_, rfl, ?_⟩; have p456 : 0 ≤ ((ji10) : Int) := dT; have q456 : (ji10) < (l0.length : Int) := dT; obtain ⟨ad456, e456, hx456_0⟩ := Kd.at_int HR0.out (ji10) p456 q456; obtain rfl : ad454 = ad456 := (by injection e456); replace p456 := eq_true p456; replace q456 := eq_true q456))
           go_ret
           exact ⟨by first | rfl | (simp; done) | (simp only [← hji10] <;> (first | rfl | simp)) | (simp [*]; done), by repeat (first | exact Drawn0.refl _ | apply Drawn0.step)⟩
          ·rw [if_neg c13] at H
           have c13b0 : decide ((rd l0 x11_1) ≤ (rd l0 (ji10))) = false := decide_eq_false c13; clear c13; have H' := am H; clear H; obtain ⟨ad454, e454, hx454_0⟩ := Kd.at_int HR0.out x11_1 dT dT; cases e454; have p454 := eT (0 ≤ (x11_1 : Int)); have q454 := eT (x11_1 < (l0.length : Int))
           go_wp2_with (first | ((with_reducible refine gate_callee (f := 76) rfl ?_); refine gL (some 19) Try.func76 #[.int .i64 (rd l0 x11_1), .int .i64 a1, .int .i64 a2] ?_; (with_reducible refine (spec_l1In.calls (rd l0 x11_1) a1 a2 true _ A7.out).mono ?_); rintro e w' ⟨rfl, ⟨nd, rfl⟩⟩; refine ⟨_, rfl, ?_⟩; have p456 : 0 ≤ ((ji10) : Int) := dT; have q456 : (ji10) < (l0.length : Int) := dT; obtain ⟨ad456, e456, hx456_0⟩ := Kd.at_int HR0.out (ji10) p456 q456; obtain rfl : ad454 = ad456 := (by injection e456); replace p456 := eq_true p456; replace q456 := eq_true q456))
           go_roundg k1
           case measure => have := HK1.out; omega
           case rel => exact ⟨(wrap64 (x11_1 + 1)), wZ, H', ⟨by have := HK1.out; omega⟩, by repeat (first | exact Drawn0.refl _ | apply Drawn0.step)⟩
         ·rw [if_neg c12] at H
          exact absurd H (by simp)
        ·rw [if_neg c11] at H
         exact absurd H (by simp)
       ·rw [if_neg c9] at H
        have c9b0 : decide (0 < x11_1) = false := decide_eq_false c9; clear c9; have H' := am H; clear H; obtain ⟨ad454, e454, hx454_0⟩ := Kd.at_int HR0.out x11_1 dT dT; cases e454; have p454 := eT (0 ≤ (x11_1 : Int)); have q454 := eT (x11_1 < (l0.length : Int))
        go_wp2_with (first | ((with_reducible refine gate_callee (f := 76) rfl ?_); refine gL (some 19) Try.func76 #[.int .i64 (rd l0 x11_1), .int .i64 a1, .int .i64 a2] ?_; (with_reducible refine (spec_l1In.calls (rd l0 x11_1) a1 a2 true _ A7.out).mono ?_); rintro e w' ⟨rfl, ⟨nd, rfl⟩⟩; refine ⟨_, rfl, ?_⟩))
        go_roundg k1
        case measure => have := HK1.out; omega
        case rel => exact ⟨(wrap64 (x11_1 + 1)), wZ, H', ⟨by have := HK1.out; omega⟩, by repeat (first | exact Drawn0.refl _ | apply Drawn0.step)⟩
      ·replace c8 := Bool.eq_false_iff.mpr c8
       subst c8
       rw [if_neg (show ¬ (false = true) by decide)] at H; obtain rfl := Option.some.inj H; obtain ⟨ad454, e454, hx454_0⟩ := Kd.at_int HR0.out x11_1 dT dT; cases e454; have p454 := eT (0 ≤ (x11_1 : Int)); have q454 := eT (x11_1 < (l0.length : Int))
       go_wp2_with (first | ((with_reducible refine gate_callee (f := 76) rfl ?_); refine gL (some 19) Try.func76 #[.int .i64 (rd l0 x11_1), .int .i64 a1, .int .i64 a2] ?_; (with_reducible refine (spec_l1In.calls (rd l0 x11_1) a1 a2 false _ A7.out).mono ?_); rintro e w' ⟨rfl, ⟨nd, rfl⟩⟩; refine ⟨_, rfl, ?_⟩))
       go_ret
       exact ⟨by first | rfl | (simp; done) | (simp [*]; done), by repeat (first | exact Drawn0.refl _ | apply Drawn0.step)⟩
     ·rw [if_neg c6] at H
      exact absurd H (by simp)
    ·rw [if_neg c5] at H
     exact absurd H (by simp)
   ·rw [if_neg c4] at H
    have c4b0 : decide (x11_1 < (l0.length : Int)) = false := decide_eq_false c4; clear c4; obtain rfl := Option.some.inj H
    go_wp2
    go_ret
    exact ⟨by first | rfl | (simp; done) | (simp [*]; done), by repeat (first | exact Drawn0.refl _ | apply Drawn0.step)⟩

def spec_peEdge.f (k : Nat) (l0 : List Int) (a1 : Int) : Option (Bool) := if (l0.length : Int) = 3 then ((spec_l1Rising.f k l0 0 (wrap64 (a1 - 1))).bind fun t457 => (some t457)) else (some false)
theorem spec_peEdge.calls (k : Nat) (A0 : Option Addr) (c0 : Nat) (l0 : List Int) (a1 : Int) (r : Bool) (w : World) (hr0 : Kd.C (Kd.int .i64) w A0 l0.length l0) (hc0 : l0.length ≤ c0) (h : spec_peEdge.f k l0 a1 = some r) :
  Calls Try.prog 105 #[.slice A0 l0.length c0, .int .i64 a1] w fun e w' => e = .returned (.bool r) ∧ Drawn0 w w' := by
 have HR0 := am hr0; have HC0 := am hc0; clear hr0 hc0; have H : (if (l0.length : Int) = 3 then ((spec_l1Rising.f k l0 0 (wrap64 (a1 - 1))).bind fun t457 => (some t457)) else (some false)) = some r := h; clear h
 by_cases c3 : (l0.length : Int) = 3
 ·rw [if_pos c3] at H
  have c3b0 : ((l0.length : Int) == 3) = true := beq_iff_eq.mpr c3; have c3b1 : ((l0.length : Int) != 3) = false := bne_eq_false_iff_eq.mpr c3; clear c3; replace H := Option.bind_eq_some_iff.mp H; obtain ⟨t457, A40, H⟩ := H; (try dsimp -simprocs only at H); have A4 := am A40; clear A40; obtain rfl := Option.some.inj H
  go_enter Try.func105, Try.ntmps105
  go_wp2_with (first | (go_at_call 126; (with_reducible refine (spec_l1Rising.calls k _ _ l0 0 (wrap64 (a1 - 1)) t457 _ ?side1 ?side2 A4.out).mono ?_); (case side1 => exact Cz HR0.out); (case side2 => exact HC0.out); rintro e w' ⟨rfl, ⟨nd, rfl⟩⟩))
  go_ret
  exact ⟨by first | rfl | (simp; done) | (simp [*]; done), by repeat (first | exact Drawn0.refl _ | apply Drawn0.step)⟩
 ·rw [if_neg c3] at H
  have c3b0 : ((l0.length : Int) == 3) = false := beq_eq_false_iff_ne.mpr c3; have c3b1 : ((l0.length : Int) != 3) = true := bne_iff_ne.mpr c3; obtain rfl := Option.some.inj H
  go_enter Try.func105, Try.ntmps105
  go_wp2
  go_ret
  exact ⟨by first | rfl | (simp; done) | (simp [*]; done), by repeat (first | exact Drawn0.refl _ | apply Drawn0.step)⟩

mutual
def spec_peGood.j0 : Nat → Bool → Int → List (List Int) → Option (Bool)
 | 0, _, _, _ => none
 | k + 1, x14, x459000, x459001 => if x14 = true then (some false) else (spec_peGood.l0 k x459001 (x459001.length : Int) 0 x459000 x459001)
def spec_peGood.l0 : Nat → List (List Int) → Int → Int → Int → List (List Int) → Option (Bool)
 | 0, _, _, _, _, _ => none
 | k + 1, x16, x17, x18, x459000, x459001 => if x18 < x17 then (if 0 ≤ x18 then (if x18 < (x16.length : Int) then ((spec_peEdge.f k (rd_L2 x16 x18) x459000).bind fun t461 => (if t461 = true then (spec_peGood.l0 k x16 x17 (wrap64 (x18 + 1)) x459000 x459001) else (some false))) else (none)) else (none)) else (some true)
end
def spec_peGood.f (k : Nat) (a0_0 : Int) (l0_1 : List (List Int)) : Option (Bool) := (spec_l1In.f a0_0 1 72).bind fun t459 => (if t459 = true then (spec_peGood.j0 k (decide ((l0_1.length : Int) > 40)) a0_0 l0_1) else (spec_peGood.j0 k true a0_0 l0_1))
theorem spec_peGood.calls (k : Nat) (a0_0 : Int) (A0_1 : Option Addr) (c0_1 : Nat) (l0_1 : List (List Int)) (r : Bool) (w : World) (hr0_1 : Kd.C (Kd.slice 3 (Kd.int .i64)) w A0_1 l0_1.length l0_1) (hc0_1 : l0_1.length ≤ c0_1) (h : spec_peGood.f k a0_0 l0_1 = some r) :
  Calls Try.prog 87 #[.agg #[.int .i64 a0_0, .slice A0_1 l0_1.length c0_1]] w fun e w' => e = .returned (.bool r) ∧ Below w.heap.size w w' := by
 have hu37 := Try.underlying37; have HR0_1 := am hr0_1; have HC0_1 := am hc0_1; clear hr0_1 hc0_1; have HB := am (Below.refl w.heap.size w); have H : ((spec_l1In.f a0_0 1 72).bind fun t459 => (if t459 = true then (spec_peGood.j0 k (decide ((l0_1.length : Int) > 40)) a0_0 l0_1) else (spec_peGood.j0 k true a0_0 l0_1))) = some r := h; clear h; have HC2 := am H; clear H
 go_enter Try.func87, Try.ntmps87
 go_upto_region 1 with (first | ((with_reducible refine gate_dst (N := 1) rfl ?_); (try (refine gate_guard (by rfl) ?_; dsimp only)); refine bE 1 #[.int .i64 a0_0, .slice A0_1 l0_1.length c0_1] 37 ?_; intro gb458 hg w3 hbox hb; have n0_ := Bb HB hb; have n1_ := am (hbox); have n2_ := Gl HB hg; have n3_ := Gl HB hg; clear HB; revert n0_ n1_ n2_ n3_; intro HB BK458 GW458 GE458; clear hb hbox hg))
 (try simp only [aP])
 go_cut [14] (fun v14 wc => ∃ (kq : Nat) (x14_1 : Bool), v14 = .bool x14_1 ∧ Aside0 (spec_peGood.j0 kq x14_1 a0_0 l0_1 = some r) ∧ Aside0 (kq ≤ k) ∧ Aside0 (wc.heap[gb458]? = some (.cells #[.int .i64 a0_0, (.slice A0_1 l0_1.length c0_1)] 37 (0, 0))) ∧ Aside0 (Below w.heap.size w wc))
 case first =>
  have H := HC2.out; clear HC2; replace H := Option.bind_eq_some_iff.mp H; obtain ⟨t459, A40, H⟩ := H; (try dsimp -simprocs only at H); have A4 := am A40; clear A40
  by_cases c5 : t459 = true
  ·subst c5
   rw [if_pos rfl] at H; have H' := am H; clear H; obtain ⟨hcz6_0, hcz6_1, hfz6_0, hfz6_1⟩ := cf2 (w := w3) BK458
   go_wp2_with (first | ((with_reducible refine gate_callee (f := 76) rfl ?_); refine gL (some 7) Try.func76 #[.int .i64 a0_0, .int .i64 1, .int .i64 72] ?_; (with_reducible refine (spec_l1In.calls a0_0 1 72 true _ A4.out).mono ?_); rintro e w' ⟨rfl, ⟨nd, rfl⟩⟩; refine ⟨_, rfl, ?_⟩))
   go_meet
   case rel => exact ⟨_, (decide ((l0_1.length : Int) > 40)), wZ, H', ⟨by first | omega | exact Nat.le_refl _⟩, ⟨Kz BK458.out⟩, ⟨Bq⟩⟩
  ·replace c5 := Bool.eq_false_iff.mpr c5
   subst c5
   rw [if_neg (show ¬ (false = true) by decide)] at H; have H' := am H; clear H; obtain ⟨hcz7_0, hcz7_1, hfz7_0, hfz7_1⟩ := cf2 (w := w3) BK458
   go_wp2_with (first | ((with_reducible refine gate_callee (f := 76) rfl ?_); refine gL (some 7) Try.func76 #[.int .i64 a0_0, .int .i64 1, .int .i64 72] ?_; (with_reducible refine (spec_l1In.calls a0_0 1 72 false _ A4.out).mono ?_); rintro e w' ⟨rfl, ⟨nd, rfl⟩⟩; refine ⟨_, rfl, ?_⟩))
   go_meet
   case rel => exact ⟨_, (true), wZ, H', ⟨by first | omega | exact Nat.le_refl _⟩, ⟨Kz BK458.out⟩, ⟨Bq⟩⟩
 case rest =>
  clear HC2
  try clear p2
  try clear c5
  try clear c7
  try clear hcz6_0
  try clear hcz6_1
  try clear hcz7_0
  try clear hcz7_1
  try clear hfz6_0
  try clear hfz6_1
  try clear hfz7_0
  try clear hfz7_1
  obtain ⟨kq, x14_1, rfl, HA, HJ1, BK458, HB⟩ := hcut; cases kq with
  | zero => exact absurd HA.out (by simp [spec_peGood.j0])
  | succ kj1 =>
   have H := HA.out; clear HA
   simp only [spec_peGood.j0] at H
   by_cases c8 : x14_1 = true
   ·subst c8
    rw [if_pos rfl] at H; obtain rfl := Option.some.inj H
    go_wp2
    go_ret
    exact ⟨eZ, Bq⟩
   ·replace c8 := Bool.eq_false_iff.mpr c8
    subst c8
    rw [if_neg (show ¬ (false = true) by decide)] at H; have H' := am H; clear H; obtain ⟨hcz9_0, hcz9_1, hfz9_0, hfz9_1⟩ := cf2 (w := wc) BK458
    go_wp2
    go_loopg [18] kj1 (fun kq v18 w' => ∃ (x18_2 : Int), v18 = .int .i64 x18_2 ∧ Aside0 (spec_peGood.l0 kq l0_1 (l0_1.length : Int) x18_2 a0_0 l0_1 = some r) ∧ Aside0 (kq ≤ kj1) ∧ Aside0 (w'.heap[gb458]? = some (.cells #[.int .i64 a0_0, (.slice A0_1 l0_1.length c0_1)] 37 (0, 0))) ∧ Aside0 (Below w.heap.size w w'))
    case atStart => exact ⟨(0), wZ, H', ⟨Nat.le_refl _⟩, ⟨Kz BK458.out⟩, ⟨Bq⟩⟩
    case round =>
     clear H'
     try clear p2
     try clear c5
     try clear c7
     try clear c8
     try clear hcz6_0
     try clear hcz6_1
     try clear hcz7_0
     try clear hcz7_1
     try clear hcz9_0
     try clear hcz9_1
     try clear hfz6_0
     try clear hfz6_1
     try clear hfz7_0
     try clear hfz7_1
     try clear hfz9_0
     try clear hfz9_1
     try clear p2
     obtain ⟨x18_2, rfl, HA, HK2, BK458, HB⟩ := hrel; cases gk with
     | zero => exact absurd HA.out (by simp [spec_peGood.l0])
     | succ k2 =>
      have H := HA.out; clear HA
      simp only [spec_peGood.l0] at H
      by_cases c10 : x18_2 < (l0_1.length : Int)
      ·rw [if_pos c10] at H
       have c10b0 : decide (x18_2 < (l0_1.length : Int)) = true := decide_eq_true c10; clear c10
       by_cases c11 : 0 ≤ x18_2
       ·rw [if_pos c11] at H
        have c11b0 : decide (0 ≤ x18_2) = true := decide_eq_true c11; clear c11
        by_cases c12 : x18_2 < (l0_1.length : Int)
        ·rw [if_pos c12] at H
         have c12b0 : decide (x18_2 < (l0_1.length : Int)) = true := decide_eq_true c12; clear c12; replace H := Option.bind_eq_some_iff.mp H; obtain ⟨t461, A130, H⟩ := H; (try dsimp -simprocs only at H); have A13 := am A130; clear A130
         by_cases c14 : t461 = true
         ·subst c14
          rw [if_pos rfl] at H; have H' := am H; clear H; have p460 : 0 ≤ (x18_2 : Int) := dT; have q460 : x18_2 < (l0_1.length : Int) := dT; obtain ⟨ad460, A460_0, c460_0, e460, hx460_0, hl460_0, hi460_0⟩ := at_L2 HR0_1.out x18_2 p460 q460; cases e460; replace hx460_0 := (HB.out.cell (World.block_lt_of_cell? w _ hx460_0)).trans hx460_0; have HR460_0 := am hi460_0; have HC460_0 := am hl460_0; clear hi460_0 hl460_0; replace p460 := eq_true p460; replace q460 := eq_true q460; obtain ⟨hcz15_0, hcz15_1, hfz15_0, hfz15_1⟩ := cf2 (w := wr) BK458
          go_wp2_with (first | ((with_reducible refine gate_callee (f := 105) rfl ?_); refine gL (some 25) Try.func105 #[.slice A460_0 (rd_L2 l0_1 x18_2).length c460_0, .int .i64 a0_0] ?_; (with_reducible refine (spec_peEdge.calls k2 _ _ (rd_L2 l0_1 x18_2) a0_0 true _ ?side1 ?side2 A13.out).mono ?_); (case side1 => exact Cz (Kd.C_below HR460_0.out HB.out)); (case side2 => exact HC460_0.out); rintro e w' ⟨rfl, ⟨nd, rfl⟩⟩; refine ⟨_, rfl, ?_⟩))
          go_roundg k2
          case measure => have := HJ1.out; have := HK2.out; omega
          case rel => exact ⟨(wrap64 (x18_2 + 1)), wZ, H', ⟨by have := HJ1.out; have := HK2.out; omega⟩, ⟨Kz BK458.out⟩, ⟨Bq⟩⟩
         ·replace c14 := Bool.eq_false_iff.mpr c14
          subst c14
          rw [if_neg (show ¬ (false = true) by decide)] at H; obtain rfl := Option.some.inj H; have p460 : 0 ≤ (x18_2 : Int) := dT; have q460 : x18_2 < (l0_1.length : Int) := dT; obtain ⟨ad460, A460_0, c460_0, e460, hx460_0, hl460_0, hi460_0⟩ := at_L2 HR0_1.out x18_2 p460 q460; cases e460; replace hx460_0 := (HB.out.cell (World.block_lt_of_cell? w _ hx460_0)).trans hx460_0; have HR460_0 := am hi460_0; have HC460_0 := am hl460_0; clear hi460_0 hl460_0; replace p460 := eq_true p460; replace q460 := eq_true q460; obtain ⟨hcz16_0, hcz16_1, hfz16_0, hfz16_1⟩ := cf2 (w := wr) BK458
          go_wp2_with (first | ((with_reducible refine gate_callee (f := 105) rfl ?_); refine gL (some 25) Try.func105 #[.slice A460_0 (rd_L2 l0_1 x18_2).length c460_0, .int .i64 a0_0] ?_; (with_reducible refine (spec_peEdge.calls k2 _ _ (rd_L2 l0_1 x18_2) a0_0 false _ ?side1 ?side2 A13.out).mono ?_); (case side1 => exact Cz (Kd.C_below HR460_0.out HB.out)); (case side2 => exact HC460_0.out); rintro e w' ⟨rfl, ⟨nd, rfl⟩⟩; refine ⟨_, rfl, ?_⟩))
          go_ret
          exact ⟨eZ, Bq⟩
        ·rw [if_neg c12] at H
         exact absurd H (by simp)
       ·rw [if_neg c11] at H
        exact absurd H (by simp)
      ·rw [if_neg c10] at H
       have c10b0 : decide (x18_2 < (l0_1.length : Int)) = false := decide_eq_false c10; clear c10; obtain rfl := Option.some.inj H
       go_wp2
       go_ret
       exact ⟨eZ, Bq⟩

def spec_l1Own.f (l0 : List Int) : Option (List Int) := (some (([] : List Int) : List Int)).bind fun y462 => (if y462.length + l0.length < 17592186044416 then (some (y462 ++ l0)) else (none))
theorem spec_l1Own.calls (A0 : Option Addr) (c0 : Nat) (l0 : List Int) (r : List Int) (w : World) (hr0 : Kd.C (Kd.int .i64) w A0 l0.length l0) (hc0 : l0.length ≤ c0) (h : spec_l1Own.f l0 = some r) :
  Calls Try.prog 107 #[.slice A0 l0.length c0] w fun e w' => ∃ v0_ : Value, e = .returned (v0_) ∧ Kd.R (Kd.int .i64) 3 w' w.heap.size (fun _ => True) v0_ r ∧ Below w.heap.size w w' := by
 have HR0 := am hr0; have HC0 := am hc0; clear hr0 hc0; have HB := am (Below.refl w.heap.size w); have H : ((some (([] : List Int) : List Int)).bind fun y462 => (if y462.length + l0.length < 17592186044416 then (some (y462 ++ l0)) else (none))) = some r := h; clear h; obtain ⟨y462, hy462⟩ : ∃ y_ : List Int, y_ = (([] : List Int)) := ⟨_, rfl⟩
 replace H : (if y462.length + l0.length < 17592186044416 then (some (y462 ++ l0)) else (none)) = some r := by first | (rw [hy462]; with_reducible exact H) | (have H2_ := (Option.bind_some _ _).symm.trans H; rw [hy462]; with_reducible exact H2_) | (have H2_ := (Option.bind_some _ _).symm.trans H; with_reducible exact H2_) | with_reducible exact H | (rw [hy462]; exact H) | exact H
 have Ny462 := am hy462; clear hy462
 by_cases c2 : y462.length + l0.length < 17592186044416
 ·rw [if_pos c2] at H
  have LMc2 := am c2; clear c2; obtain ⟨y465, hy465⟩ : ∃ y_ : List Int, y_ = (y462 ++ l0) := ⟨_, rfl⟩
  replace H : (some y465) = some r := by first | (rw [hy465]; with_reducible exact H) | (have H2_ := (Option.bind_some _ _).symm.trans H; rw [hy465]; with_reducible exact H2_) | (have H2_ := (Option.bind_some _ _).symm.trans H; with_reducible exact H2_) | with_reducible exact H | (rw [hy465]; exact H) | exact H
  have Ny465 := am hy465; clear hy465; obtain rfl := Option.some.inj H
  go_enter Try.func107, Try.ntmps107
  go_wp2_with (first | ((with_reducible refine gate_dst (N := 3) rfl ?_); refine Kd.R_lit (Kd.int .i64) _ 3 ?hg (N := 3) ?hd (xs := ([] : List Int)) (inner := []) (ok := fun _ => True) (okp := fun _ => True) ?hr ?hp (fun _ hk => hk) trivial (Below.refl _ _) (Nat.le_refl _) (by simp) ?_; (case hd => rfl); (case hg => rfl); (case hr => first | (go_simp; done) | (go_simp; rfl)); (case hp => exact (Reps.none _ _)); intro v463 w3 ho4 hb hg_ hnew_; clear hg_ hnew_; (first | rw [← Ny462.out] at ho4 | (simp only [Int.reduceToNat] at ho4; rw [← Ny462.out] at ho4)); have n0_ := Rl ho4 HB; have n1_ := Bb HB hb; clear HB; revert n0_ n1_; intro HO464 HB; clear hb ho4) | ((with_reducible refine gate_builtin (b := .append) (xs := #[.tmp 3, .tmp 4]) rfl ?_); at_builtin; refine Kd.R_append_rows (Kd.int .i64) (w0 := w) w.heap.size rfl (.tmp 3) (.tmp 4) 32 3 (.int .i64 0) 8 rfl Try.underlying32 info3 rfl (by decide) (by omega) v463 y462 l0 _ _ _ (fun _ => True) (fun _ => False) rfl rfl ?aO ?aR (fun _ _ h => h) (fun _ h => h.elim) ?aF ?aB ?aS ?aL ?_; (case aR => repeat (first | exact (Kd.C_below HR0.out HB.out) | (with_reducible refine Kd.C_alloc ?_ _) | (with_reducible refine Kd.C_drewN ?_ _) | (with_reducible refine Kd.C_drew ?_))); (case aB => exact (Bz HB.out)); (case aF => exact (fun _ _ => trivial)); (case aO => exact (Rz HO464.out)); (case aS => exact (below_size (Bz HB.out))); (case aL => have := LMc2.out; omega); intro v466 w5 ho hb hg hat; rw [← Ny465.out] at ho; have n0_ := am (hb); have n1_ := am (ho); clear HB HO464; revert n0_ n1_; intro HB HO467; clear ho hb hg hat))
  go_ret
  exact ⟨_, eZ, Rz HO467.out, Bz HB.out⟩
 ·rw [if_neg c2] at H
  exact absurd H (by simp)

def spec_peOwn.l0 : Nat → List (List Int) → Int → Int → Int → List (List Int) → Option (Int × (List (List Int)))
 | 0, _, _, _, _, _ => none
 | k + 1, x10, x11, x12, x471000, x471001 => if x12 < x11 then (if 0 ≤ x12 then (if x12 < (x10.length : Int) then ((spec_l1Own.f (rd_L2 x10 x12)).bind fun t472 => (if x471001.length < 5864062014805 then (spec_peOwn.l0 k x10 x11 (wrap64 (x12 + 1)) x471000 (x471001 ++ [t472])) else (none))) else (none)) else (none)) else (some (x471000, x471001))
def spec_peOwn.f (k : Nat) (a0_0 : Int) (l0_1 : List (List Int)) : Option (Int × (List (List Int))) := spec_peOwn.l0 k l0_1 (l0_1.length : Int) 0 a0_0 ([] : List (List Int))
def spec_peOwn.T5 : Bool × List (List Nat × List Nat) := (true, [([], []), ([0], [0]), ([], []), ([2], [2]), ([3], [3]), ([1, 4, 3], [1, 4]), ([0, 1, 2, 3, 4, 5], []), ([6, 5, 5, 0, 1, 2, 3, 4, 5], [5, 6])])
def spec_peOwn.B5 : List Nat := [0, 1, 0, 4, 12, 31, 63, 127]
theorem spec_peOwn.tab5 : rtab .any (opsOf Try.f106 5) = spec_peOwn.T5 := by kernel_rfl
theorem spec_peOwn.bits5 : waitsOk spec_peOwn.T5.2 spec_peOwn.B5 = true := by kernel_rfl
theorem spec_peOwn.calls (k : Nat) (a0_0 : Int) (A0_1 : Option Addr) (c0_1 : Nat) (l0_1 : List (List Int)) (r1 : Int) (r2 : List (List Int)) (w : World) (hr0_1 : Kd.C (Kd.slice 3 (Kd.int .i64)) w A0_1 l0_1.length l0_1) (hc0_1 : l0_1.length ≤ c0_1) (h : spec_peOwn.f k a0_0 l0_1 = some (r1, r2)) :
  Calls Try.prog 106 #[.agg #[.int .i64 a0_0, .slice A0_1 l0_1.length c0_1]] w fun e w' => ∃ v1_ : Value, e = .returned (.agg #[.int .i64 r1, v1_]) ∧ Kd.S (Kd.slice 3 (Kd.int .i64)) 32 w' w.heap.size (fun _ => True) v1_ r2 ∧ Below w.heap.size w w' := by
 have hu37 := Try.underlying37; have HR0_1 := am hr0_1; have HC0_1 := am hc0_1; clear hr0_1 hc0_1; have HB := am (Below.refl w.heap.size w); have H : (spec_peOwn.l0 k l0_1 (l0_1.length : Int) 0 a0_0 ([] : List (List Int))) = some (r1, r2) := h; clear h; have H' := am H; clear H
 go_enter Try.func106, Try.ntmps106
 go_wp2_with (first | ((with_reducible refine gate_dst (N := 1) rfl ?_); refine bE 1 #[.int .i64 a0_0, .slice A0_1 l0_1.length c0_1] 37 ?_; intro gb468 hg w2 hbox hb; have n0_ := Bb HB hb; have n1_ := am (hbox); have n2_ := Gl HB hg; have n3_ := Gl HB hg; clear HB; revert n0_ n1_ n2_ n3_; intro HB BK468 GW468 GE468; clear hb hbox hg) | ((with_reducible refine gate_dst (N := 2) rfl ?_); refine bE 2 #[.int .i64 0, .slice none 0 0] 37 ?_; intro gb469 hg w3 hbox hb; have n0_ := Kb BK468 hb; have n1_ := Bc HB hb; have n2_ := am (hbox); have n3_ := Gm HB hg; have n4_ := Gm HB hg; have n5_ := Nl BK468 hg; have n6_ := Ng BK468 hg; clear BK468 HB; revert n0_ n1_ n2_ n3_ n4_ n5_ n6_; intro BK468 HB BK469 GW469 GE469 NB468_469 NB469_468; clear hb hbox hg; have hnb4 := NB468_469.out; have hnc4 := NB469_468.out; obtain ⟨hcz5_0, hcz5_1, hfz5_0, hfz5_1⟩ := cf2 (w := w3) BK468) | ((with_reducible refine gate_dst (N := 3) rfl ?_); refine bE 3 #[.int .i64 0, .slice none 0 0] 37 ?_; intro gb470 hg w6 hbox hb; have n0_ := Kb BK468 hb; have n1_ := Kb BK469 hb; have n2_ := Bc HB hb; have n3_ := am (hbox); have n4_ := Gm HB hg; have n5_ := Gm HB hg; have n6_ := Nl BK468 hg; have n7_ := Ng BK468 hg; have n8_ := Nl BK469 hg; have n9_ := Ng BK469 hg; clear BK468 BK469 HB; revert n0_ n1_ n2_ n3_ n4_ n5_ n6_ n7_ n8_ n9_; intro BK468 BK469 HB BK470 GW470 GE470 NB468_470 NB470_468 NB469_470 NB470_469; clear hb hbox hg; have hnb7 := NB470_468.out; have hnc7 := NB468_470.out; have hnb8 := NB470_469.out; have hnc8 := NB469_470.out; obtain ⟨hcz9_0, hcz9_1, hfz9_0, hfz9_1⟩ := cf2 (w := w6) BK470; obtain ⟨hcz10_0, hcz10_1, hfz10_0, hfz10_1⟩ := cf2 (w := w6) BK468))
 (try simp only [aP])
 go_loopg [12] k (fun kq v12 w' => ∃ (x12_1 : Int) (x471001_1 : List (List Int)) (u471001 : Value), v12 = .int .i64 x12_1 ∧ Aside0 (spec_peOwn.l0 kq l0_1 (l0_1.length : Int) x12_1 a0_0 x471001_1 = some (r1, r2)) ∧ Aside0 (kq ≤ k) ∧ Aside0 (Kd.S (Kd.slice 3 (Kd.int .i64)) 32 w' w.heap.size (fun _ => True) u471001 x471001_1) ∧ Aside0 (w'.heap[gb468]? = some (.cells #[.int .i64 a0_0, (.slice A0_1 l0_1.length c0_1)] 37 (0, 0))) ∧ Aside0 (w'.heap[gb469]? = some (.cells #[.int .i64 0, (.slice none 0 0)] 37 (0, 0))) ∧ Aside0 (w'.heap[gb470]? = some (.cells #[.int .i64 a0_0, u471001] 37 (0, 0))) ∧ Aside0 (Below w.heap.size w w'))
 case atStart => exact ⟨(0), (([] : List (List Int))), (.slice none 0 0), wZ, H', ⟨Nat.le_refl _⟩, ⟨by first | exact Kd.S_nil _ _ _ _ _ | exact Kd.N_nil _ _ _ _ _ | exact Kd.V_nil _ _ _ _ _ | exact Kd.Q_nil _ _ _ _ _ | exact Kd.R_nil _ _ _ _ _⟩, ⟨by (with_reducible repeat (first | refine blk_drewN ?_ _ | refine blk_drew ?_ | refine blk_alloc ?_ _)); refine blk_far ?_ NB468_470.out _; (with_reducible repeat (first | refine blk_drewN ?_ _ | refine blk_drew ?_ | refine blk_alloc ?_ _)); refine blk_far ?_ NB468_470.out _; (with_reducible repeat (first | refine blk_drewN ?_ _ | refine blk_drew ?_ | refine blk_alloc ?_ _)); exact BK468.out⟩, ⟨by (with_reducible repeat (first | refine blk_drewN ?_ _ | refine blk_drew ?_ | refine blk_alloc ?_ _)); refine blk_far ?_ NB469_470.out _; (with_reducible repeat (first | refine blk_drewN ?_ _ | refine blk_drew ?_ | refine blk_alloc ?_ _)); refine blk_far ?_ NB469_470.out _; (with_reducible repeat (first | refine blk_drewN ?_ _ | refine blk_drew ?_ | refine blk_alloc ?_ _)); exact BK469.out⟩, ⟨by (with_reducible repeat (first | refine blk_drewN ?_ _ | refine blk_drew ?_ | refine blk_alloc ?_ _)); refine blk_put (cs := #[.int .i64 a0_0, .slice none 0 0]) ?_ 1 _ rfl; (with_reducible repeat (first | refine blk_drewN ?_ _ | refine blk_drew ?_ | refine blk_alloc ?_ _)); refine blk_put (cs := #[.int .i64 0, .slice none 0 0]) ?_ 0 _ rfl; (with_reducible repeat (first | refine blk_drewN ?_ _ | refine blk_drew ?_ | refine blk_alloc ?_ _)); exact BK470.out⟩, ⟨Bq⟩⟩
 case round =>
  clear H'
  try clear c1
  try clear p2
  try clear c4
  try clear c7
  try clear c8
  try clear c10
  try clear hcz10_0
  try clear hcz10_1
  try clear hcz5_0
  try clear hcz5_1
  try clear hcz9_0
  try clear hcz9_1
  try clear hfz10_0
  try clear hfz10_1
  try clear hfz5_0
  try clear hfz5_1
  try clear hfz9_0
  try clear hfz9_1
  obtain ⟨x12_1, x471001_1, u471001, rfl, HA, HK1, HO_471001, BK468, BK469, BK470, HB⟩ := hrel; cases gk with
  | zero => exact absurd HA.out (by simp [spec_peOwn.l0])
  | succ k1 =>
   have H := HA.out; clear HA
   simp only [spec_peOwn.l0] at H
   by_cases c11 : x12_1 < (l0_1.length : Int)
   ·rw [if_pos c11] at H
    have c11b0 : decide (x12_1 < (l0_1.length : Int)) = true := decide_eq_true c11; clear c11
    by_cases c12 : 0 ≤ x12_1
    ·rw [if_pos c12] at H
     have c12b0 : decide (0 ≤ x12_1) = true := decide_eq_true c12; clear c12
     by_cases c13 : x12_1 < (l0_1.length : Int)
     ·rw [if_pos c13] at H
      have c13b0 : decide (x12_1 < (l0_1.length : Int)) = true := decide_eq_true c13; clear c13; replace H := Option.bind_eq_some_iff.mp H; obtain ⟨t472, A140, H⟩ := H; (try dsimp -simprocs only at H); have A14 := am A140; clear A140
      by_cases c15 : x471001_1.length < 5864062014805
      ·rw [if_pos c15] at H
       have LMc15 := am c15; clear c15; obtain ⟨y475, hy475⟩ : ∃ y_ : List (List Int), y_ = (x471001_1 ++ [t472]) := ⟨_, rfl⟩
       replace H : (spec_peOwn.l0 k1 l0_1 (l0_1.length : Int) (wrap64 (x12_1 + 1)) a0_0 y475) = some (r1, r2) := by first | (rw [hy475]; with_reducible exact H) | (have H2_ := (Option.bind_some _ _).symm.trans H; rw [hy475]; with_reducible exact H2_) | (have H2_ := (Option.bind_some _ _).symm.trans H; with_reducible exact H2_) | with_reducible exact H | (rw [hy475]; exact H) | exact H
       have Ny475 := am hy475; clear hy475; have H' := am H; clear H; have p471 : 0 ≤ (x12_1 : Int) := dT; have q471 : x12_1 < (l0_1.length : Int) := dT; obtain ⟨ad471, A471_0, c471_0, e471, hx471_0, hl471_0, hi471_0⟩ := at_L2 HR0_1.out x12_1 p471 q471; cases e471; replace hx471_0 := (HB.out.cell (World.block_lt_of_cell? w _ hx471_0)).trans hx471_0; have HR471_0 := am hi471_0; have HC471_0 := am hl471_0; clear hi471_0 hl471_0; replace p471 := eq_true p471; replace q471 := eq_true q471
       try go_wp2
       have n0_ := am (Kd.S_drew HO_471001.out); have n1_ := am (blk_drew BK468.out); have n2_ := am (blk_drew BK469.out); have n3_ := am (blk_drew BK470.out); have n4_ := am (below_drew1 HB.out); clear HO_471001 BK468 BK469 BK470 HB; revert n0_ n1_ n2_ n3_ n4_; intro HO_471001 BK468 BK469 BK470 HB; refine start_ (n := 8) (S := fun w' => w'.cell? ⟨gb470, 0, none⟩ = some (.int .i64 a0_0) ∧ w'.cell? ⟨gb470, 1, none⟩ = some (u471001)) (ds := [7]) (bA 8 0) (by kernel_rfl) rfl rfl ⟨cz BK470 0, cz BK470 1⟩ (fun hHeld => ?_); refine with_tabW spec_peOwn.tab5 spec_peOwn.bits5 (fun HT_ HW_ => ?_); generalize wr.drew = w16 at HO_471001 BK468 BK469 BK470 HB hHeld ⊢; refine pZ 0 (some 16) (bA 8 1) HT_.out ?_; refine pZ 2 (some 18) (bA 8 5) HT_.out ?_; refine tZ2 1 (some 17) (bA 8 7) HT_.out HW_.out hHeld ?_; refine oZ 3 (some 19) (bA 8 15) HT_.out (fun K hK => ?_); refine gZ Try.func107 #[.slice A471_0 (rd_L2 l0_1 x12_1).length c471_0] ?_
       with_reducible refine (spec_l1Own.calls _ _ (rd_L2 l0_1 x12_1) t472 _ ?side1 ?side2 A14.out).mono ?_
       (case side1 => exact Cz (Kd.C_below HR471_0.out HB.out))
       (case side2 => exact HC471_0.out)
       rintro e w17 ⟨v473, rfl, ho0, hb⟩; refine ⟨_, rfl, ?_⟩; have n0_ := am (Kd.S_elder' (by (with_reducible repeat (first | apply Kd.S_alloc | apply Kd.S_drewN | apply Kd.S_drew)); exact HO_471001.out) (Kd.R_base ho0) hb); have n1_ := Rm ho0 HB; have n2_ := Kb BK468 hb; have n3_ := Kb BK469 hb; have n4_ := Kb BK470 hb; have n5_ := Bc HB hb; clear HO_471001 BK468 BK469 BK470 HB; revert n0_ n1_ n2_ n3_ n4_ n5_; intro HO_471001 HO474 BK468 BK469 BK470 HB
       (try clear hb)
       (try clear hb2)
       (try clear hk)
       (try clear hi)
       (try clear ho0)
       obtain ⟨Ao19, co19, eo19⟩ := Kd.R_slice HO474.out
       (first | subst eo19 | (injection eo19 with f1_ f2_ f3_; have f4_ := f1_.symm; have f5_ := f3_.symm; clear f1_ f2_ f3_; subst f4_; subst f5_))
       refine hK.out _ _ ⟨cz BK470 0, cz BK470 1⟩ (fun hHeld => ?_); clear hK K; refine norm_ (a' := ?_) ?_ ?_; rotate_left; show Act.put _ (some 19) _ = _; simp only [aP, i64_w, i32_w]; rfl; refine oZ 4 (some 20) (bA 8 31) HT_.out (fun K hK => ?_); refine value_ (w1 := ?_) (v := ?_) (by rfl) rfl ?_ ?_
       rotate_left 2
       ·go_simp
        constructor
        ·rfl
        ·rfl
       refine hK.out _ _ ⟨(blk_cell (blk_alloc BK470.out _) 0).trans rfl, (blk_cell (blk_alloc BK470.out _) 1).trans rfl⟩ (fun hHeld => ?_); clear hK K; refine norm_ (a' := ?_) ?_ ?_; rotate_left; show Act.put _ (some 20) _ = _; simp only [aP, i64_w, i32_w]; rfl; refine oZ 5 (some 21) (bA 8 63) HT_.out (fun K hK => ?_); refine Kd.S_append_step (Kd.slice 3 (Kd.int .i64)) (w0 := w) w.heap.size (by rfl) (.tmp 17) (.tmp 20) 35 32 (.slice none 0 0) 24 rfl Try.underlying35 info32 rfl (by decide) (by omega) u471001 x471001_1 t472 [.slice Ao19 t472.length co19] (fun _ => True) (fun k_ => some k_ = (.slice Ao19 t472.length co19 : Value).ownBlock) rfl rfl ?aP (fun k_ hk_ => ((Kd.R_mono (ok' := fun k_ => ((fun _ => True)) k_ ∧ some k_ ≠ (u471001 : Value).ownBlock) (Kd.R_apart' (HO474.out) (Kd.S_typed HO_471001.out) (by decide)) (fun k_ hk => ⟨trivial, hk.2⟩))).1 k_ hk_.symm) ?aF ?aO ?aB ?aS ?aL ?_
       (case aP => exact Kd.M_row (Kd.R_mono (Kd.R_tight rfl (Kd.R_mono (ok' := fun k_ => ((fun _ => True)) k_ ∧ some k_ ≠ (u471001 : Value).ownBlock) (Kd.R_apart' (HO474.out) (Kd.S_typed HO_471001.out) (by decide)) (fun k_ hk => ⟨trivial, hk.2⟩))) (fun _ h_ => h_)))
       (case aB => exact (Bq))
       (case aF => exact (fun _ _ => trivial))
       (case aO => exact (by (with_reducible repeat (first | apply Kd.S_alloc | apply Kd.S_drewN | apply Kd.S_drew)); exact Kd.S_mono HO_471001.out (fun k_ hk => ⟨trivial, fun e_ => hk.2 e_⟩)))
       (case aS => exact (below_size (w := w) (Bq)))
       (case aL => have := LMc15.out; omega)
       intro v476 w18 ho hb hg hat; rw [← Ny475.out] at ho; have n0_ := am (blk_grown (g := gb468) (o := .cells #[.int .i64 a0_0, .slice (some ad471) l0_1.length c0_1] 37 (0, 0)) (Kz BK468.out) hg (Kd.S_ne HO_471001.out BK468.out (by decide))); have n1_ := am (blk_grown (g := gb469) (o := .cells #[.int .i64 0, .slice none 0 0] 37 (0, 0)) (Kz BK469.out) hg (Kd.S_ne HO_471001.out BK469.out (by decide))); have n2_ := am (blk_grown (g := gb470) (o := .cells #[.int .i64 a0_0, u471001] 37 (0, 0)) (Kz BK470.out) hg (Kd.S_ne HO_471001.out BK470.out (by decide))); have n3_ := am (hb); have n4_ := am (ho); clear BK468 BK469 BK470 HB HO_471001 HO474; revert n0_ n1_ n2_ n3_ n4_; intro BK468 BK469 BK470 HB HO477; clear ho hb hg hat; obtain ⟨Ao20, co20, eo20⟩ := Kd.S_slice HO477.out
       (first | subst eo20 | (injection eo20 with f1_ f2_ f3_; have f4_ := f1_.symm; have f5_ := f3_.symm; clear f1_ f2_ f3_; subst f4_; subst f5_))
       refine hK.out _ _ ⟨cz BK470 0, cz BK470 1⟩ (fun hHeld => ?_); clear hK K; refine norm_ (a' := ?_) ?_ ?_; rotate_left; show Act.put _ (some 21) _ = _; simp only [aP, i64_w, i32_w]; rfl; refine pZ 6 (some 22) (bA 8 127) HT_.out ?_; refine lZ 7 none (bA 8 255) HT_.out (fun K hK => ?_); have hs21 : w18.cell? ⟨gb470, 1, none⟩ = some (u471001) := cz BK470 1; have hfs21 := blk_frozen BK470.out 1; have hns21_0 := NB468_470.out; have hns21_1 := NB469_470.out; have hms21_0 := NB470_468.out; have hms21_1 := NB470_469.out; refine skip_ (w1 := ?_) (by rfl) rfl ?_ ?_
       rotate_left
       ·go_simp
        rfl
       refine hK.out _ _ ?_; clear hK K; refine done_ (done_of HT_.out (by kernel_rfl)) ?_
       try go_wp2
       go_roundg k1
       case measure => have := HK1.out; omega
       case rel => exact ⟨(wrap64 (x12_1 + 1)), (y475), (.slice Ao20 y475.length co20), wZ, H', ⟨by have := HK1.out; omega⟩, ⟨by (with_reducible repeat (first | apply Kd.S_alloc | apply Kd.S_drewN | apply Kd.S_drew)); exact Kd.S_mono (Kd.S_far (p := ⟨gb470, 1, none⟩) (Kd.S_types HO477.out BK470.out (by decide)) (fun _ hk => hk.2) (.slice Ao20 y475.length co20)) (fun _ hk => trivial)⟩, ⟨by (with_reducible repeat (first | refine blk_drewN ?_ _ | refine blk_drew ?_ | refine blk_alloc ?_ _)); refine blk_far ?_ NB468_470.out _; (with_reducible repeat (first | refine blk_drewN ?_ _ | refine blk_drew ?_ | refine blk_alloc ?_ _)); exact BK468.out⟩, ⟨by (with_reducible repeat (first | refine blk_drewN ?_ _ | refine blk_drew ?_ | refine blk_alloc ?_ _)); refine blk_far ?_ NB469_470.out _; (with_reducible repeat (first | refine blk_drewN ?_ _ | refine blk_drew ?_ | refine blk_alloc ?_ _)); exact BK469.out⟩, ⟨by (with_reducible repeat (first | refine blk_drewN ?_ _ | refine blk_drew ?_ | refine blk_alloc ?_ _)); refine blk_put (cs := #[.int .i64 a0_0, u471001]) ?_ 1 _ rfl; (with_reducible repeat (first | refine blk_drewN ?_ _ | refine blk_drew ?_ | refine blk_alloc ?_ _)); exact BK470.out⟩, ⟨Bq⟩⟩
      ·rw [if_neg c15] at H
       exact absurd H (by simp)
     ·rw [if_neg c13] at H
      exact absurd H (by simp)
    ·rw [if_neg c12] at H
     exact absurd H (by simp)
   ·rw [if_neg c11] at H
    have c11b0 : decide (x12_1 < (l0_1.length : Int)) = false := decide_eq_false c11; clear c11
    simp only [Option.some.injEq, Prod.mk.injEq] at H
    obtain ⟨rfl, rfl⟩ := H; have hnb22 := NB470_468.out; have hnc22 := NB468_470.out; have hnb23 := NB470_469.out; have hnc23 := NB469_470.out; obtain ⟨hcz24_0, hcz24_1, hfz24_0, hfz24_1⟩ := cf2 (w := wr) BK470; have hnb25 := NB469_468.out; have hnc25 := NB468_469.out; obtain ⟨hcz26_0, hcz26_1, hfz26_0, hfz26_1⟩ := cf2 (w := wr) BK469; obtain ⟨Ao27, co27, eo27⟩ := Kd.S_slice HO_471001.out; subst eo27
    go_wp2
    refine bodyPost_ret (results_cell_row rfl _ _ gb469 37 #[.int .i64 a0_0, .slice Ao27 x471001_1.length co27] (0, 0) _ rfl (by (with_reducible repeat (first | refine blk_drewN ?_ _ | refine blk_drew ?_ | refine blk_alloc ?_ _)); refine blk_put (cs := #[.int .i64 a0_0, .slice none 0 0]) ?_ 1 _ rfl; (with_reducible repeat (first | refine blk_drewN ?_ _ | refine blk_drew ?_ | refine blk_alloc ?_ _)); refine blk_put (cs := #[.int .i64 0, .slice none 0 0]) ?_ 0 _ rfl; exact Kz BK469.out) Try.underlying37 rfl (by kernel_rfl)) rfl ?_; exact ⟨_, eZ, by (with_reducible repeat (first | apply Kd.S_alloc | apply Kd.S_drewN | apply Kd.S_drew)); exact Kd.S_mono (Kd.S_far (p := ⟨gb469, 1, none⟩) (Kd.S_far (p := ⟨gb469, 0, none⟩) (Kd.S_types HO_471001.out BK469.out (by decide)) (fun _ hk => hk.2) (.int .i64 a0_0)) (fun _ hk => hk.2) (.slice Ao27 x471001_1.length co27)) (fun _ hk => trivial), Bq⟩

def spec_WithEdge.j0 : Nat → List Int → Bool → Int → List (List Int) → Option (Int × (List (List Int)) × Bool)
 | 0, _, _, _, _ => none
 | k + 1, x1, x22, x479000, x479001 => if x22 = true then (some (0, ([] : List (List Int)), false)) else ((spec_peOwn.f k x479000 x479001).bind fun bt482 => ((spec_l1Own.f x1).bind fun t487 => (if bt482.2.length < 5864062014805 then (some (bt482.1, (bt482.2 ++ [t487]), true)) else (none))))
def spec_WithEdge.f (k : Nat) (a0_0 : Int) (l0_1 : List (List Int)) (l1 : List Int) : Option (Int × (List (List Int)) × Bool) := (spec_peGood.f k a0_0 l0_1).bind fun t480 => (if t480 = true then ((spec_peEdge.f k l1 a0_0).bind fun t481 => (if t481 = true then (spec_WithEdge.j0 k l1 ((l0_1.length : Int) == 40) a0_0 l0_1) else (spec_WithEdge.j0 k l1 true a0_0 l0_1))) else (spec_WithEdge.j0 k l1 true a0_0 l0_1))
def spec_WithEdge.T4 : Bool × List (List Nat × List Nat) := (true, [([], []), ([0], [0]), ([], []), ([2], [2]), ([3], [3]), ([1, 4, 3], [1, 4]), ([0, 1, 2, 3, 4, 5], []), ([6, 5, 5, 0, 1, 2, 3, 4, 5], [5, 6])])
def spec_WithEdge.B4 : List Nat := [0, 1, 0, 4, 12, 31, 63, 127]
theorem spec_WithEdge.tab4 : rtab .any (opsOf Try.f33 4) = spec_WithEdge.T4 := by kernel_rfl
theorem spec_WithEdge.bits4 : waitsOk spec_WithEdge.T4.2 spec_WithEdge.B4 = true := by kernel_rfl
theorem spec_WithEdge.calls (k : Nat) (a0_0 : Int) (A0_1 : Option Addr) (c0_1 : Nat) (l0_1 : List (List Int)) (A1 : Option Addr) (c1 : Nat) (l1 : List Int) (r1 : Int) (r2 : List (List Int)) (r3 : Bool) (w : World) (hr0_1 : Kd.C (Kd.slice 3 (Kd.int .i64)) w A0_1 l0_1.length l0_1) (hc0_1 : l0_1.length ≤ c0_1) (hr1 : Kd.C (Kd.int .i64) w A1 l1.length l1) (hc1 : l1.length ≤ c1) (h : spec_WithEdge.f k a0_0 l0_1 l1 = some (r1, r2, r3)) :
  Calls Try.prog 33 #[.agg #[.int .i64 a0_0, .slice A0_1 l0_1.length c0_1], .slice A1 l1.length c1] w fun e w' => ∃ v1_ : Value, e = .returned (.tuple #[.agg #[.int .i64 r1, v1_], .bool r3]) ∧ Kd.S (Kd.slice 3 (Kd.int .i64)) 32 w' w.heap.size (fun _ => True) v1_ r2 ∧ Below w.heap.size w w' := by
 have hu37 := Try.underlying37; have HR0_1 := am hr0_1; have HC0_1 := am hc0_1; clear hr0_1 hc0_1; have HR1 := am hr1; have HC1 := am hc1; clear hr1 hc1; have HB := am (Below.refl w.heap.size w); have H : ((spec_peGood.f k a0_0 l0_1).bind fun t480 => (if t480 = true then ((spec_peEdge.f k l1 a0_0).bind fun t481 => (if t481 = true then (spec_WithEdge.j0 k l1 ((l0_1.length : Int) == 40) a0_0 l0_1) else (spec_WithEdge.j0 k l1 true a0_0 l0_1))) else (spec_WithEdge.j0 k l1 true a0_0 l0_1))) = some (r1, r2, r3) := h; clear h; have HC3 := am H; clear H
 go_enter Try.func33, Try.ntmps33
 go_upto_region 1 with (first | ((with_reducible refine gate_dst (N := 2) rfl ?_); (try (refine gate_guard (by rfl) ?_; dsimp only)); refine bE 2 #[.int .i64 a0_0, .slice A0_1 l0_1.length c0_1] 37 ?_; intro gb478 hg w4 hbox hb; have n0_ := Bb HB hb; have n1_ := am (hbox); have n2_ := Gl HB hg; have n3_ := Gl HB hg; clear HB; revert n0_ n1_ n2_ n3_; intro HB BK478 GW478 GE478; clear hb hbox hg) | ((with_reducible refine gate_dst (N := 4) rfl ?_); (try (refine gate_guard (by rfl) ?_; dsimp only)); refine bE 4 #[.int .i64 0, .slice none 0 0] 37 ?_; intro gb479 hg w5 hbox hb; have n0_ := Kb BK478 hb; have n1_ := Bc HB hb; have n2_ := am (hbox); have n3_ := Gm HB hg; have n4_ := Gm HB hg; have n5_ := Nl BK478 hg; have n6_ := Ng BK478 hg; clear BK478 HB; revert n0_ n1_ n2_ n3_ n4_ n5_ n6_; intro BK478 HB BK479 GW479 GE479 NB478_479 NB479_478; clear hb hbox hg))
 (try simp only [aP])
 go_cut [22] (fun v22 wc => ∃ (kq : Nat) (x22_2 : Bool), v22 = .bool x22_2 ∧ Aside0 (spec_WithEdge.j0 kq l1 x22_2 a0_0 l0_1 = some (r1, r2, r3)) ∧ Aside0 (kq ≤ k) ∧ Aside0 (wc.heap[gb478]? = some (.cells #[.int .i64 a0_0, (.slice A0_1 l0_1.length c0_1)] 37 (0, 0))) ∧ Aside0 (wc.heap[gb479]? = some (.cells #[.int .i64 0, (.slice none 0 0)] 37 (0, 0))) ∧ Aside0 (Below w.heap.size w wc))
 case first =>
  have H := HC3.out; clear HC3; replace H := Option.bind_eq_some_iff.mp H; obtain ⟨t480, A60, H⟩ := H; (try dsimp -simprocs only at H); have A6 := am A60; clear A60
  by_cases c7 : t480 = true
  ·subst c7
   rw [if_pos rfl] at H; replace H := Option.bind_eq_some_iff.mp H; obtain ⟨t481, A80, H⟩ := H; (try dsimp -simprocs only at H); have A8 := am A80; clear A80
   by_cases c9 : t481 = true
   ·subst c9
    rw [if_pos rfl] at H; have H' := am H; clear H; have hnb10 := NB478_479.out; have hnc10 := NB479_478.out; obtain ⟨hcz11_0, hcz11_1, hfz11_0, hfz11_1⟩ := cf2 (w := w5) BK478
    go_wp2_with (first | ((with_reducible refine gate_callee (f := 87) rfl ?_); refine gL (some 8) Try.func87 #[.agg #[.int .i64 a0_0, .slice A0_1 l0_1.length c0_1]] ?_; (with_reducible refine (spec_peGood.calls k a0_0 _ _ l0_1 true _ ?side1 ?side2 A6.out).mono ?_); (case side1 => exact Cz (Kd.C_below HR0_1.out HB.out)); (case side2 => exact HC0_1.out); rintro e w12 ⟨rfl, hb⟩; refine ⟨_, rfl, ?_⟩; have n0_ := Kb BK478 hb; have n1_ := Kb BK479 hb; have n2_ := Bc HB hb; clear BK478 BK479 HB; revert n0_ n1_ n2_; intro BK478 BK479 HB; (try clear hb); (try clear hb2); (try clear hk); (try clear hi); obtain ⟨hcz13_0, hcz13_1, hfz13_0, hfz13_1⟩ := cf2 (w := w12) BK478) | (go_at_call 105; (with_reducible refine (spec_peEdge.calls k _ _ l1 a0_0 true _ ?side1 ?side2 A8.out).mono ?_); (case side1 => exact Cz (Kd.C_below HR1.out HB.out)); (case side2 => exact HC1.out); rintro e w' ⟨rfl, ⟨nd, rfl⟩⟩))
    go_meet
    case rel => exact ⟨_, (((l0_1.length : Int) == 40)), wZ, H', ⟨by first | omega | exact Nat.le_refl _⟩, ⟨Kz BK478.out⟩, ⟨Kz BK479.out⟩, ⟨Bq⟩⟩
   ·replace c9 := Bool.eq_false_iff.mpr c9
    subst c9
    rw [if_neg (show ¬ (false = true) by decide)] at H; have H' := am H; clear H; have hnb14 := NB478_479.out; have hnc14 := NB479_478.out; obtain ⟨hcz15_0, hcz15_1, hfz15_0, hfz15_1⟩ := cf2 (w := w5) BK478
    go_wp2_with (first | ((with_reducible refine gate_callee (f := 87) rfl ?_); refine gL (some 8) Try.func87 #[.agg #[.int .i64 a0_0, .slice A0_1 l0_1.length c0_1]] ?_; (with_reducible refine (spec_peGood.calls k a0_0 _ _ l0_1 true _ ?side1 ?side2 A6.out).mono ?_); (case side1 => exact Cz (Kd.C_below HR0_1.out HB.out)); (case side2 => exact HC0_1.out); rintro e w16 ⟨rfl, hb⟩; refine ⟨_, rfl, ?_⟩; have n0_ := Kb BK478 hb; have n1_ := Kb BK479 hb; have n2_ := Bc HB hb; clear BK478 BK479 HB; revert n0_ n1_ n2_; intro BK478 BK479 HB; (try clear hb); (try clear hb2); (try clear hk); (try clear hi); obtain ⟨hcz17_0, hcz17_1, hfz17_0, hfz17_1⟩ := cf2 (w := w16) BK478) | (go_at_call 105; (with_reducible refine (spec_peEdge.calls k _ _ l1 a0_0 false _ ?side1 ?side2 A8.out).mono ?_); (case side1 => exact Cz (Kd.C_below HR1.out HB.out)); (case side2 => exact HC1.out); rintro e w' ⟨rfl, ⟨nd, rfl⟩⟩))
    go_meet
    case rel => exact ⟨_, (true), wZ, H', ⟨by first | omega | exact Nat.le_refl _⟩, ⟨Kz BK478.out⟩, ⟨Kz BK479.out⟩, ⟨Bq⟩⟩
  ·replace c7 := Bool.eq_false_iff.mpr c7
   subst c7
   rw [if_neg (show ¬ (false = true) by decide)] at H; have H' := am H; clear H; have hnb18 := NB478_479.out; have hnc18 := NB479_478.out; obtain ⟨hcz19_0, hcz19_1, hfz19_0, hfz19_1⟩ := cf2 (w := w5) BK478
   go_wp2_with (first | ((with_reducible refine gate_callee (f := 87) rfl ?_); refine gL (some 8) Try.func87 #[.agg #[.int .i64 a0_0, .slice A0_1 l0_1.length c0_1]] ?_; (with_reducible refine (spec_peGood.calls k a0_0 _ _ l0_1 false _ ?side1 ?side2 A6.out).mono ?_); (case side1 => exact Cz (Kd.C_below HR0_1.out HB.out)); (case side2 => exact HC0_1.out); rintro e w20 ⟨rfl, hb⟩; refine ⟨_, rfl, ?_⟩; have n0_ := Kb BK478 hb; have n1_ := Kb BK479 hb; have n2_ := Bc HB hb; clear BK478 BK479 HB; revert n0_ n1_ n2_; intro BK478 BK479 HB; (try clear hb); (try clear hb2); (try clear hk); (try clear hi)))
   go_meet
   case rel => exact ⟨_, (true), wZ, H', ⟨by first | omega | exact Nat.le_refl _⟩, ⟨Kz BK478.out⟩, ⟨Kz BK479.out⟩, ⟨Bq⟩⟩
 case rest =>
  clear HC3
  try clear c1
  try clear p2
  try clear c3
  try clear c7
  try clear c8
  try clear c9
  try clear c10
  try clear c14
  try clear c18
  try clear hcz11_0
  try clear hcz11_1
  try clear hcz13_0
  try clear hcz13_1
  try clear hcz15_0
  try clear hcz15_1
  try clear hcz17_0
  try clear hcz17_1
  try clear hcz19_0
  try clear hcz19_1
  try clear hfz11_0
  try clear hfz11_1
  try clear hfz13_0
  try clear hfz13_1
  try clear hfz15_0
  try clear hfz15_1
  try clear hfz17_0
  try clear hfz17_1
  try clear hfz19_0
  try clear hfz19_1
  obtain ⟨kq, x22_2, rfl, HA, HJ2, BK478, BK479, HB⟩ := hcut; cases kq with
  | zero => exact absurd HA.out (by simp [spec_WithEdge.j0])
  | succ kj2 =>
   have H := HA.out; clear HA
   simp only [spec_WithEdge.j0] at H
   by_cases c21 : x22_2 = true
   ·subst c21
    rw [if_pos rfl] at H
    simp only [Option.some.injEq, Prod.mk.injEq] at H
    obtain ⟨rfl, rfl, rfl⟩ := H; have hnb22 := NB479_478.out; have hnc22 := NB478_479.out; obtain ⟨hcz23_0, hcz23_1, hfz23_0, hfz23_1⟩ := cf2 (w := wc) BK479
    go_wp2
    refine bodyPost_ret (results_ct rfl _ _ gb479 37 #[.int .i64 0, .slice none 0 0] (0, 0) _ rfl (by (with_reducible repeat (first | refine blk_drewN ?_ _ | refine blk_drew ?_ | refine blk_alloc ?_ _)); refine blk_put (cs := #[.int .i64 0, .slice none 0 0]) ?_ 1 _ rfl; (with_reducible repeat (first | refine blk_drewN ?_ _ | refine blk_drew ?_ | refine blk_alloc ?_ _)); refine blk_put (cs := #[.int .i64 0, .slice none 0 0]) ?_ 0 _ rfl; exact Kz BK479.out) Try.underlying37 rfl (by kernel_rfl)) rfl ?_; exact ⟨_, eZ, by first | exact Kd.S_nil _ _ _ _ _ | exact Kd.N_nil _ _ _ _ _ | exact Kd.V_nil _ _ _ _ _ | exact Kd.Q_nil _ _ _ _ _ | exact Kd.R_nil _ _ _ _ _, Bq⟩
   ·replace c21 := Bool.eq_false_iff.mpr c21
    subst c21
    rw [if_neg (show ¬ (false = true) by decide)] at H; replace H := Option.bind_eq_some_iff.mp H; obtain ⟨⟨t482, t483⟩, A240, H⟩ := H; (try dsimp -simprocs only at H); have A24 := am A240; clear A240; replace H := Option.bind_eq_some_iff.mp H; obtain ⟨t487, A250, H⟩ := H; (try dsimp -simprocs only at H); have A25 := am A250; clear A250
    by_cases c26 : t483.length < 5864062014805
    ·rw [if_pos c26] at H
     have LMc26 := am c26; clear c26; obtain ⟨y490, hy490⟩ : ∃ y_ : List (List Int), y_ = (t483 ++ [t487]) := ⟨_, rfl⟩
     replace H : (some (t482, y490, true)) = some (r1, r2, r3) := by first | (rw [hy490]; with_reducible exact H) | (have H2_ := (Option.bind_some _ _).symm.trans H; rw [hy490]; with_reducible exact H2_) | (have H2_ := (Option.bind_some _ _).symm.trans H; with_reducible exact H2_) | with_reducible exact H | (rw [hy490]; exact H) | exact H
     have Ny490 := am hy490; clear hy490
     simp only [Option.some.injEq, Prod.mk.injEq] at H
     obtain ⟨rfl, rfl, rfl⟩ := H; have hnb27 := NB478_479.out; have hnc27 := NB479_478.out; obtain ⟨hcz28_0, hcz28_1, hfz28_0, hfz28_1⟩ := cf2 (w := wc) BK478
     try go_wp2_with (first | ((with_reducible refine gate_callee (f := 106) rfl ?_); refine gL (some 25) Try.func106 #[.agg #[.int .i64 a0_0, .slice A0_1 l0_1.length c0_1]] ?_; (with_reducible refine (spec_peOwn.calls kj2 a0_0 _ _ l0_1 t482 t483 _ ?side1 ?side2 A24.out).mono ?_); (case side1 => exact Cz (Kd.C_below HR0_1.out HB.out)); (case side2 => exact HC0_1.out); rintro e w29 ⟨v484, rfl, ho0, hb⟩; refine ⟨_, rfl, ?_⟩; have n0_ := am (Kd.S_lower ho0 (below_size (w := w) (Bq))); have n1_ := Kb BK478 hb; have n2_ := Kb BK479 hb; have n3_ := Bc HB hb; clear BK478 BK479 HB; revert n0_ n1_ n2_ n3_; intro HO485 BK478 BK479 HB; (try clear hb); (try clear hb2); (try clear hk); (try clear hi); (try clear ho0)) | ((with_reducible refine gate_dst (N := 6) rfl ?_); (try (refine gate_guard (by rfl) ?_; dsimp only)); refine bE 6 #[.int .i64 0, .slice none 0 0] 37 ?_; intro gb486 hg w30 hbox hb; have n0_ := am (Kd.S_below (by (with_reducible repeat (first | apply Kd.S_alloc | apply Kd.S_drewN | apply Kd.S_drew)); exact HO485.out) hb); have n1_ := Kb BK478 hb; have n2_ := Kb BK479 hb; have n3_ := Bc HB hb; have n4_ := am (hbox); have n5_ := Gm HB hg; have n6_ := Gm HB hg; have n7_ := Nl BK478 hg; have n8_ := Ng BK478 hg; have n9_ := Nl BK479 hg; have n10_ := Ng BK479 hg; clear HO485 BK478 BK479 HB; revert n0_ n1_ n2_ n3_ n4_ n5_ n6_ n7_ n8_ n9_ n10_; intro HO485 BK478 BK479 HB BK486 GW486 GE486 NB478_486 NB486_478 NB479_486 NB486_479; clear hb hbox hg; have hnb31 := NB486_478.out; have hnc31 := NB478_486.out; have hnb32 := NB486_479.out; have hnc32 := NB479_486.out; obtain ⟨hcz33_0, hcz33_1, hfz33_0, hfz33_1⟩ := cf2 (w := w30) BK486; obtain ⟨Ao34, co34, eo34⟩ := Kd.S_slice HO485.out; subst eo34))
     have n0_ : Aside0 (Kd.S (Kd.slice 3 (Kd.int .i64)) 32 ((w30.setCell ⟨gb486, 0, none⟩ (.int .i64 t482)).setCell ⟨gb486, 1, none⟩ (.slice Ao34 t483.length co34)) w.heap.size (fun _ => True) (.slice Ao34 t483.length co34) t483) := ⟨by (with_reducible repeat (first | apply Kd.S_alloc | apply Kd.S_drewN | apply Kd.S_drew)); exact Kd.S_mono (Kd.S_far (p := ⟨gb486, 1, none⟩) (Kd.S_far (p := ⟨gb486, 0, none⟩) (Kd.S_types HO485.out BK486.out (by decide)) (fun _ hk => hk.2) (.int .i64 t482)) (fun _ hk => hk.2) (.slice Ao34 t483.length co34)) (fun _ hk => trivial)⟩; have n1_ : Aside0 (((w30.setCell ⟨gb486, 0, none⟩ (.int .i64 t482)).setCell ⟨gb486, 1, none⟩ (.slice Ao34 t483.length co34)).heap[gb478]? = some (.cells #[.int .i64 a0_0, .slice A0_1 l0_1.length c0_1] 37 (0, 0))) := ⟨by (with_reducible repeat (first | refine blk_drewN ?_ _ | refine blk_drew ?_ | refine blk_alloc ?_ _)); refine blk_far ?_ NB478_486.out _; (with_reducible repeat (first | refine blk_drewN ?_ _ | refine blk_drew ?_ | refine blk_alloc ?_ _)); refine blk_far ?_ NB478_486.out _; (with_reducible repeat (first | refine blk_drewN ?_ _ | refine blk_drew ?_ | refine blk_alloc ?_ _)); exact BK478.out⟩; have n2_ : Aside0 (((w30.setCell ⟨gb486, 0, none⟩ (.int .i64 t482)).setCell ⟨gb486, 1, none⟩ (.slice Ao34 t483.length co34)).heap[gb479]? = some (.cells #[.int .i64 0, .slice none 0 0] 37 (0, 0))) := ⟨by (with_reducible repeat (first | refine blk_drewN ?_ _ | refine blk_drew ?_ | refine blk_alloc ?_ _)); refine blk_far ?_ NB479_486.out _; (with_reducible repeat (first | refine blk_drewN ?_ _ | refine blk_drew ?_ | refine blk_alloc ?_ _)); refine blk_far ?_ NB479_486.out _; (with_reducible repeat (first | refine blk_drewN ?_ _ | refine blk_drew ?_ | refine blk_alloc ?_ _)); exact BK479.out⟩; have n3_ : Aside0 (((w30.setCell ⟨gb486, 0, none⟩ (.int .i64 t482)).setCell ⟨gb486, 1, none⟩ (.slice Ao34 t483.length co34)).heap[gb486]? = some (.cells #[.int .i64 t482, .slice Ao34 t483.length co34] 37 (0, 0))) := ⟨by (with_reducible repeat (first | refine blk_drewN ?_ _ | refine blk_drew ?_ | refine blk_alloc ?_ _)); refine blk_put (cs := #[.int .i64 t482, .slice none 0 0]) ?_ 1 _ rfl; (with_reducible repeat (first | refine blk_drewN ?_ _ | refine blk_drew ?_ | refine blk_alloc ?_ _)); refine blk_put (cs := #[.int .i64 0, .slice none 0 0]) ?_ 0 _ rfl; (with_reducible repeat (first | refine blk_drewN ?_ _ | refine blk_drew ?_ | refine blk_alloc ?_ _)); exact BK486.out⟩; have n4_ : Aside0 (Below w.heap.size w ((w30.setCell ⟨gb486, 0, none⟩ (.int .i64 t482)).setCell ⟨gb486, 1, none⟩ (.slice Ao34 t483.length co34))) := ⟨Bq⟩
     (try clear HO485)
     (try clear BK478)
     (try clear BK479)
     (try clear BK486)
     (try clear HB)
     generalize ((w30.setCell ⟨gb486, 0, none⟩ (.int .i64 t482)).setCell ⟨gb486, 1, none⟩ (.slice Ao34 t483.length co34)) = w35 at n0_ n1_ n2_ n3_ n4_ ⊢; revert n0_ n1_ n2_ n3_ n4_; intro HO485 BK478 BK479 BK486 HB; have n0_ := am (Kd.S_drew HO485.out); have n1_ := am (blk_drew BK478.out); have n2_ := am (blk_drew BK479.out); have n3_ := am (blk_drew BK486.out); have n4_ := am (below_drew1 HB.out); clear HO485 BK478 BK479 BK486 HB; revert n0_ n1_ n2_ n3_ n4_; intro HO485 BK478 BK479 BK486 HB; refine start_ (n := 8) (S := fun w' => w'.cell? ⟨gb486, 0, none⟩ = some (.int .i64 t482) ∧ w'.cell? ⟨gb486, 1, none⟩ = some (.slice Ao34 t483.length co34)) (ds := [7]) (bA 8 0) (by kernel_rfl) rfl rfl ⟨cz BK486 0, cz BK486 1⟩ (fun hHeld => ?_); refine with_tabW spec_WithEdge.tab4 spec_WithEdge.bits4 (fun HT_ HW_ => ?_); generalize w35.drew = w36 at HO485 BK478 BK479 BK486 HB hHeld ⊢; refine pZ 0 (some 26) (bA 8 1) HT_.out ?_; refine pZ 2 (some 28) (bA 8 5) HT_.out ?_; refine tZ2 1 (some 27) (bA 8 7) HT_.out HW_.out hHeld ?_; refine oZ 3 (some 29) (bA 8 15) HT_.out (fun K hK => ?_); refine gZ Try.func107 #[.slice A1 l1.length c1] ?_
     with_reducible refine (spec_l1Own.calls _ _ l1 t487 _ ?side1 ?side2 A25.out).mono ?_
     (case side1 => exact Cz (Kd.C_below HR1.out HB.out))
     (case side2 => exact HC1.out)
     rintro e w37 ⟨v488, rfl, ho0, hb⟩; refine ⟨_, rfl, ?_⟩; have n0_ := am (Kd.S_elder' (by (with_reducible repeat (first | apply Kd.S_alloc | apply Kd.S_drewN | apply Kd.S_drew)); exact HO485.out) (Kd.R_base ho0) hb); have n1_ := Rm ho0 HB; have n2_ := Kb BK478 hb; have n3_ := Kb BK479 hb; have n4_ := Kb BK486 hb; have n5_ := Bc HB hb; clear HO485 BK478 BK479 BK486 HB; revert n0_ n1_ n2_ n3_ n4_ n5_; intro HO485 HO489 BK478 BK479 BK486 HB
     (try clear hb)
     (try clear hb2)
     (try clear hk)
     (try clear hi)
     (try clear ho0)
     obtain ⟨Ao39, co39, eo39⟩ := Kd.R_slice HO489.out
     (first | subst eo39 | (injection eo39 with f1_ f2_ f3_; have f4_ := f1_.symm; have f5_ := f3_.symm; clear f1_ f2_ f3_; subst f4_; subst f5_))
     refine hK.out _ _ ⟨cz BK486 0, cz BK486 1⟩ (fun hHeld => ?_); clear hK K; refine norm_ (a' := ?_) ?_ ?_; rotate_left; show Act.put _ (some 29) _ = _; simp only [aP, i64_w, i32_w]; rfl; refine oZ 4 (some 30) (bA 8 31) HT_.out (fun K hK => ?_); refine value_ (w1 := ?_) (v := ?_) (by rfl) rfl ?_ ?_
     rotate_left 2
     ·go_simp
      constructor
      ·rfl
      ·rfl
     refine hK.out _ _ ⟨(blk_cell (blk_alloc BK486.out _) 0).trans rfl, (blk_cell (blk_alloc BK486.out _) 1).trans rfl⟩ (fun hHeld => ?_); clear hK K; refine norm_ (a' := ?_) ?_ ?_; rotate_left; show Act.put _ (some 30) _ = _; simp only [aP, i64_w, i32_w]; rfl; refine oZ 5 (some 31) (bA 8 63) HT_.out (fun K hK => ?_); refine Kd.S_append_step (Kd.slice 3 (Kd.int .i64)) (w0 := w) w.heap.size (by rfl) (.tmp 27) (.tmp 30) 35 32 (.slice none 0 0) 24 rfl Try.underlying35 info32 rfl (by decide) (by omega) (.slice Ao34 t483.length co34) t483 t487 [.slice Ao39 t487.length co39] (fun _ => True) (fun k_ => some k_ = (.slice Ao39 t487.length co39 : Value).ownBlock) rfl rfl ?aP (fun k_ hk_ => ((Kd.R_mono (ok' := fun k_ => ((fun _ => True)) k_ ∧ some k_ ≠ (.slice Ao34 t483.length co34 : Value).ownBlock) (Kd.R_apart' (HO489.out) (Kd.S_typed HO485.out) (by decide)) (fun k_ hk => ⟨trivial, hk.2⟩))).1 k_ hk_.symm) ?aF ?aO ?aB ?aS ?aL ?_
     (case aP => exact Kd.M_row (Kd.R_mono (Kd.R_tight rfl (Kd.R_mono (ok' := fun k_ => ((fun _ => True)) k_ ∧ some k_ ≠ (.slice Ao34 t483.length co34 : Value).ownBlock) (Kd.R_apart' (HO489.out) (Kd.S_typed HO485.out) (by decide)) (fun k_ hk => ⟨trivial, hk.2⟩))) (fun _ h_ => h_)))
     (case aB => exact (Bq))
     (case aF => exact (fun _ _ => trivial))
     (case aO => exact (by (with_reducible repeat (first | apply Kd.S_alloc | apply Kd.S_drewN | apply Kd.S_drew)); exact Kd.S_mono HO485.out (fun k_ hk => ⟨trivial, fun e_ => hk.2 e_⟩)))
     (case aS => exact (below_size (w := w) (Bq)))
     (case aL => have := LMc26.out; omega)
     intro v491 w38 ho hb hg hat; rw [← Ny490.out] at ho; have n0_ := am (blk_grown (g := gb478) (o := .cells #[.int .i64 a0_0, .slice A0_1 l0_1.length c0_1] 37 (0, 0)) (Kz BK478.out) hg (Kd.S_ne HO485.out BK478.out (by decide))); have n1_ := am (blk_grown (g := gb479) (o := .cells #[.int .i64 0, .slice none 0 0] 37 (0, 0)) (Kz BK479.out) hg (Kd.S_ne HO485.out BK479.out (by decide))); have n2_ := am (blk_grown (g := gb486) (o := .cells #[.int .i64 t482, .slice Ao34 t483.length co34] 37 (0, 0)) (Kz BK486.out) hg (Kd.S_ne HO485.out BK486.out (by decide))); have n3_ := am (hb); have n4_ := am (ho); clear BK478 BK479 BK486 HB HO485 HO489; revert n0_ n1_ n2_ n3_ n4_; intro BK478 BK479 BK486 HB HO492; clear ho hb hg hat; obtain ⟨Ao40, co40, eo40⟩ := Kd.S_slice HO492.out
     (first | subst eo40 | (injection eo40 with f1_ f2_ f3_; have f4_ := f1_.symm; have f5_ := f3_.symm; clear f1_ f2_ f3_; subst f4_; subst f5_))
     refine hK.out _ _ ⟨cz BK486 0, cz BK486 1⟩ (fun hHeld => ?_); clear hK K; refine norm_ (a' := ?_) ?_ ?_; rotate_left; show Act.put _ (some 31) _ = _; simp only [aP, i64_w, i32_w]; rfl; refine pZ 6 (some 32) (bA 8 127) HT_.out ?_; refine lZ 7 none (bA 8 255) HT_.out (fun K hK => ?_); have hs41 : w38.cell? ⟨gb486, 1, none⟩ = some (.slice Ao34 t483.length co34) := cz BK486 1; have hfs41 := blk_frozen BK486.out 1; have hns41_0 := NB478_486.out; have hns41_1 := NB479_486.out; have hms41_0 := NB486_478.out; have hms41_1 := NB486_479.out; refine skip_ (w1 := ?_) (by rfl) rfl ?_ ?_
     rotate_left
     ·go_simp
      rfl
     refine hK.out _ _ ?_; clear hK K; refine done_ (done_of HT_.out (by kernel_rfl)) ?_; obtain ⟨hcz42_0, hcz42_1, hfz42_0, hfz42_1⟩ := cf2 (w := w38) BK486; obtain ⟨hcz43_0, hcz43_1, hfz43_0, hfz43_1⟩ := cf2 (w := w38) BK479
     try go_wp2
     refine bodyPost_ret (results_ct rfl _ _ gb479 37 #[.int .i64 t482, .slice Ao40 y490.length co40] (0, 0) _ rfl (by (with_reducible repeat (first | refine blk_drewN ?_ _ | refine blk_drew ?_ | refine blk_alloc ?_ _)); refine blk_put (cs := #[.int .i64 t482, .slice none 0 0]) ?_ 1 _ rfl; (with_reducible repeat (first | refine blk_drewN ?_ _ | refine blk_drew ?_ | refine blk_alloc ?_ _)); refine blk_put (cs := #[.int .i64 0, .slice none 0 0]) ?_ 0 _ rfl; (with_reducible repeat (first | refine blk_drewN ?_ _ | refine blk_drew ?_ | refine blk_alloc ?_ _)); refine blk_far ?_ NB479_486.out _; exact Kz BK479.out) Try.underlying37 rfl (by kernel_rfl)) rfl ?_; exact ⟨_, eZ, by (with_reducible repeat (first | apply Kd.S_alloc | apply Kd.S_drewN | apply Kd.S_drew)); exact Kd.S_mono (Kd.S_far (p := ⟨gb479, 1, none⟩) (Kd.S_far (p := ⟨gb479, 0, none⟩) (Kd.S_far (p := ⟨gb486, 1, none⟩) (Kd.S_types (Kd.S_types HO492.out BK486.out (by decide)) BK479.out (by decide)) (fun _ hk => hk.1.2) (.slice Ao40 y490.length co40)) (fun _ hk => hk.2) (.int .i64 t482)) (fun _ hk => hk.2) (.slice Ao40 y490.length co40)) (fun _ hk => trivial), Bq⟩
    ·rw [if_neg c26] at H
     exact absurd H (by simp)

-- NOT PRINTED: function 145 (slices_IndexFunc_int_int_145)

-- NOT PRINTED: function 85 (slices_ContainsFunc_int_int_85)

-- NOT PRINTED: function 150 (impl_groups_1)

def impl_groups_1.f (k : Nat) (a0 : Int) (l1_0 : List (List Int)) (l2_0 : List Int) : Option (Bool) := if 0 < (l2_0.length : Int) then (if 0 ≤ (rd l2_0 0) then (if (rd l2_0 0) < (l1_0.length : Int) then ((slices_Contains_int_int.f k (rd_L2 l1_0 (rd l2_0 0)) a0).bind fun t515 => (some t515)) else (none)) else (none)) else (none)
theorem impl_groups_1.calls (k : Nat) (a0 : Int) (g1 : Nat) (A1_0 : Option Addr) (c1_0 : Nat) (l1_0 : List (List Int)) (g2 : Nat) (A2_0 : Option Addr) (c2_0 : Nat) (l2_0 : List Int) (r : Bool) (w : World) (hb1 : w.heap[g1]? = some (.cells #[.slice A1_0 l1_0.length c1_0] 35 (0, 0))) (hr1_0 : Kd.C (Kd.slice 3 (Kd.int .i64)) w A1_0 l1_0.length l1_0) (hc1_0 : l1_0.length ≤ c1_0) (hb2 : w.heap[g2]? = some (.cells #[.slice A2_0 l2_0.length c2_0] 32 (0, 0))) (hr2_0 : Kd.C (Kd.int .i64) w A2_0 l2_0.length l2_0) (hc2_0 : l2_0.length ≤ c2_0) (h : impl_groups_1.f k a0 l1_0 l2_0 = some r) :
  Calls Try.prog 150 #[.int .i64 a0, .pointer (some ⟨g1, 0, none⟩), .pointer (some ⟨g2, 0, none⟩)] w fun e w' => e = .returned (.bool r) ∧ Drawn0 w w' := by
 have HR1_0 := am hr1_0; have HC1_0 := am hc1_0; clear hr1_0 hc1_0; have HR2_0 := am hr2_0; have HC2_0 := am hc2_0; clear hr2_0 hc2_0; have BK1 := am hb1; clear hb1; have BK2 := am hb2; clear hb2; have H : (if 0 < (l2_0.length : Int) then (if 0 ≤ (rd l2_0 0) then (if (rd l2_0 0) < (l1_0.length : Int) then ((slices_Contains_int_int.f k (rd_L2 l1_0 (rd l2_0 0)) a0).bind fun t515 => (some t515)) else (none)) else (none)) else (none)) = some r := h; clear h
 by_cases c4 : 0 < (l2_0.length : Int)
 ·rw [if_pos c4] at H
  have c4b0 : decide (0 < (l2_0.length : Int)) = true := decide_eq_true c4; have c4b1 : decide (0 < l2_0.length) = true := decide_eq_true (by omega); clear c4
  by_cases c5 : 0 ≤ (rd l2_0 0)
  ·rw [if_pos c5] at H
   have c5b0 : decide (0 ≤ (rd l2_0 0)) = true := decide_eq_true c5; clear c5
   by_cases c6 : (rd l2_0 0) < (l1_0.length : Int)
   ·rw [if_pos c6] at H
    have c6b0 : decide ((rd l2_0 0) < (l1_0.length : Int)) = true := decide_eq_true c6; clear c6; replace H := Option.bind_eq_some_iff.mp H; obtain ⟨t515, A70, H⟩ := H; (try dsimp -simprocs only at H); have A7 := am A70; clear A70; obtain rfl := Option.some.inj H; obtain ⟨hcz8_0, hfz8_0⟩ := cf1 (w := w) BK1; obtain ⟨hcz9_0, hfz9_0⟩ := cf1 (w := w) BK2; have p513 : 0 ≤ (0 : Int) := (by omega); have q513 : 0 < (l2_0.length : Int) := dT; obtain ⟨ad513, e513, hx513_0⟩ := Kd.at_int HR2_0.out 0 p513 q513; cases e513; have qi513 : (0 < l2_0.length) = True := eq_true (by omega)
    (try rw [show ((0 : Int)).toNat = 0 from rfl] at hx513_0)
    (try rw [Addr.add_zero'] at hx513_0)
    replace p513 := eq_true p513; replace q513 := eq_true q513; have p514 : 0 ≤ ((rd l2_0 0) : Int) := dT; have q514 : (rd l2_0 0) < (l1_0.length : Int) := dT; obtain ⟨ad514, A514_0, c514_0, e514, hx514_0, hl514_0, hi514_0⟩ := at_L2 HR1_0.out (rd l2_0 0) p514 q514; cases e514; have HR514_0 := am hi514_0; have HC514_0 := am hl514_0; clear hi514_0 hl514_0; replace p514 := eq_true p514; replace q514 := eq_true q514
    go_enter Try.func150, Try.ntmps150
    go_wp2_with (first | (go_at_call 109; (with_reducible refine (slices_Contains_int_int.calls k _ _ (rd_L2 l1_0 (rd l2_0 0)) a0 t515 _ ?side1 ?side2 A7.out).mono ?_); (case side1 => exact Cz HR514_0.out); (case side2 => exact HC514_0.out); rintro e w' ⟨rfl, ⟨nd, rfl⟩⟩; (try exact yZ)))
    repeat (go_quiet (first | (go_at_call 109; (with_reducible refine (slices_Contains_int_int.calls k _ _ (rd_L2 l1_0 (rd l2_0 0)) a0 t515 _ ?side1 ?side2 A7.out).mono ?_); (case side1 => exact Cz HR514_0.out); (case side2 => exact HC514_0.out); rintro e w' ⟨rfl, ⟨nd, rfl⟩⟩; (try exact yZ))); try go_wp2_with (first | (go_at_call 109; (with_reducible refine (slices_Contains_int_int.calls k _ _ (rd_L2 l1_0 (rd l2_0 0)) a0 t515 _ ?side1 ?side2 A7.out).mono ?_); (case side1 => exact Cz HR514_0.out); (case side2 => exact HC514_0.out); rintro e w' ⟨rfl, ⟨nd, rfl⟩⟩; (try exact yZ))))
    go_ret
    exact ⟨by first | rfl | (simp; done) | (simp [*]; done), by repeat (first | exact Drawn0.refl _ | apply Drawn0.step)⟩
   ·rw [if_neg c6] at H
    exact absurd H (by simp)
  ·rw [if_neg c5] at H
   exact absurd H (by simp)
 ·rw [if_neg c4] at H
  exact absurd H (by simp)

def slices_IndexFunc_int_int_at_impl_groups_1.l0 : Nat → List Int → Int → Int → List (List Int) → List Int → Option (Int)
 | 0, _, _, _, _, _ => none
 | k + 1, x0, x7, x8, x3000, x4000 => if x8 < x7 then (if 0 ≤ x8 then (if x8 < (x0.length : Int) then ((impl_groups_1.f k (rd x0 x8) x3000 x4000).bind fun t517 => (if t517 = true then (some x8) else (slices_IndexFunc_int_int_at_impl_groups_1.l0 k x0 x7 (wrap64 (x8 + 1)) x3000 x4000))) else (none)) else (none)) else (some (-1))
def slices_IndexFunc_int_int_at_impl_groups_1.f (k : Nat) (l0 : List Int)  (l2_0 : List (List Int)) (l3_0 : List Int) : Option (Int) := slices_IndexFunc_int_int_at_impl_groups_1.l0 k l0 (l0.length : Int) 0 l2_0 l3_0
theorem slices_IndexFunc_int_int_at_impl_groups_1.calls (k : Nat) (A0 : Option Addr) (c0 : Nat) (l0 : List Int)  (g2 : Nat) (A2_0 : Option Addr) (c2_0 : Nat) (l2_0 : List (List Int)) (g3 : Nat) (A3_0 : Option Addr) (c3_0 : Nat) (l3_0 : List Int) (r : Int) (w : World) (hr0 : Kd.C (Kd.int .i64) w A0 l0.length l0) (hc0 : l0.length ≤ c0) (hb2 : w.heap[g2]? = some (.cells #[.slice A2_0 l2_0.length c2_0] 35 (0, 0))) (hr2_0 : Kd.C (Kd.slice 3 (Kd.int .i64)) w A2_0 l2_0.length l2_0) (hc2_0 : l2_0.length ≤ c2_0) (hb3 : w.heap[g3]? = some (.cells #[.slice A3_0 l3_0.length c3_0] 32 (0, 0))) (hr3_0 : Kd.C (Kd.int .i64) w A3_0 l3_0.length l3_0) (hc3_0 : l3_0.length ≤ c3_0) (h : slices_IndexFunc_int_int_at_impl_groups_1.f k l0 l2_0 l3_0 = some r) :
  Calls Try.prog 145 #[.slice A0 l0.length c0, .func (.func 150) #[] #[.pointer (some ⟨g2, 0, none⟩), .pointer (some ⟨g3, 0, none⟩)]] w fun e w' => e = .returned (.int .i64 r) ∧ Drawn0 w w' := by
 have HR0 := am hr0; have HC0 := am hc0; clear hr0 hc0; have HR2_0 := am hr2_0; have HC2_0 := am hc2_0; clear hr2_0 hc2_0; have HR3_0 := am hr3_0; have HC3_0 := am hc3_0; clear hr3_0 hc3_0; have BK2 := am hb2; clear hb2; have BK3 := am hb3; clear hb3; have H : (slices_IndexFunc_int_int_at_impl_groups_1.l0 k l0 (l0.length : Int) 0 l2_0 l3_0) = some r := h; clear h; have H' := am H; clear H
 go_enter Try.func145, Try.ntmps145
 go_wp2
 go_loopg [8] k (fun kq v8 w' => ∃ (x8_1 : Int), v8 = .int .i64 x8_1 ∧ Aside0 (slices_IndexFunc_int_int_at_impl_groups_1.l0 kq l0 (l0.length : Int) x8_1 l2_0 l3_0 = some r) ∧ Aside0 (kq ≤ k) ∧ Aside0 (w'.heap[g2]? = some (.cells #[(.slice A2_0 l2_0.length c2_0)] 35 (0, 0))) ∧ Aside0 (w'.heap[g3]? = some (.cells #[(.slice A3_0 l3_0.length c3_0)] 32 (0, 0))) ∧ Drawn0 w w')
 case atStart => exact ⟨(0), wZ, H', ⟨Nat.le_refl _⟩, ⟨Kz BK2.out⟩, ⟨Kz BK3.out⟩, by repeat (first | exact Drawn0.refl _ | apply Drawn0.step)⟩
 case round =>
  clear H'
  try clear c1
  try clear c2
  try clear p2
  try clear c3
  obtain ⟨x8_1, rfl, HA, HK1, BK2, BK3, ⟨m1, rfl⟩⟩ := hrel; cases gk with
  | zero => exact absurd HA.out (by simp [slices_IndexFunc_int_int_at_impl_groups_1.l0])
  | succ k1 =>
   have H := HA.out; clear HA
   simp only [slices_IndexFunc_int_int_at_impl_groups_1.l0] at H
   by_cases c5 : x8_1 < (l0.length : Int)
   ·rw [if_pos c5] at H
    have c5b0 : decide (x8_1 < (l0.length : Int)) = true := decide_eq_true c5; clear c5
    by_cases c6 : 0 ≤ x8_1
    ·rw [if_pos c6] at H
     have c6b0 : decide (0 ≤ x8_1) = true := decide_eq_true c6; clear c6
     by_cases c7 : x8_1 < (l0.length : Int)
     ·rw [if_pos c7] at H
      have c7b0 : decide (x8_1 < (l0.length : Int)) = true := decide_eq_true c7; clear c7; replace H := Option.bind_eq_some_iff.mp H; obtain ⟨t517, A80, H⟩ := H; (try dsimp -simprocs only at H); have A8 := am A80; clear A80
      by_cases c9 : t517 = true
      ·subst c9
       rw [if_pos rfl] at H; obtain rfl := Option.some.inj H; obtain ⟨ad516, e516, hx516_0⟩ := Kd.at_int HR0.out x8_1 dT dT; cases e516; have p516 := eT (0 ≤ (x8_1 : Int)); have q516 := eT (x8_1 < (l0.length : Int))
       go_wp2_with (first | (go_at_call 150; (with_reducible refine (impl_groups_1.calls k1 (rd l0 x8_1) g2 A2_0 c2_0 l2_0 g3 A3_0 c3_0 l3_0 true _ ?side1 ?side2 ?side3 ?side4 ?side5 ?side6 A8.out).mono ?_); (case side1 => exact Kz BK2.out); (case side2 => exact Cz HR2_0.out); (case side3 => exact HC2_0.out); (case side4 => exact Kz BK3.out); (case side5 => exact Cz HR3_0.out); (case side6 => exact HC3_0.out); rintro e w' ⟨rfl, ⟨nd, rfl⟩⟩))
       go_ret
       exact ⟨by first | rfl | (simp; done) | (simp [*]; done), by repeat (first | exact Drawn0.refl _ | apply Drawn0.step)⟩
      ·replace c9 := Bool.eq_false_iff.mpr c9
       subst c9
       rw [if_neg (show ¬ (false = true) by decide)] at H; have H' := am H; clear H; obtain ⟨ad516, e516, hx516_0⟩ := Kd.at_int HR0.out x8_1 dT dT; cases e516; have p516 := eT (0 ≤ (x8_1 : Int)); have q516 := eT (x8_1 < (l0.length : Int))
       go_wp2_with (first | (go_at_call 150; (with_reducible refine (impl_groups_1.calls k1 (rd l0 x8_1) g2 A2_0 c2_0 l2_0 g3 A3_0 c3_0 l3_0 false _ ?side1 ?side2 ?side3 ?side4 ?side5 ?side6 A8.out).mono ?_); (case side1 => exact Kz BK2.out); (case side2 => exact Cz HR2_0.out); (case side3 => exact HC2_0.out); (case side4 => exact Kz BK3.out); (case side5 => exact Cz HR3_0.out); (case side6 => exact HC3_0.out); rintro e w' ⟨rfl, ⟨nd, rfl⟩⟩))
       go_roundg k1
       case measure => have := HK1.out; omega
       case rel => exact ⟨(wrap64 (x8_1 + 1)), wZ, H', ⟨by have := HK1.out; omega⟩, ⟨Kz BK2.out⟩, ⟨Kz BK3.out⟩, by repeat (first | exact Drawn0.refl _ | apply Drawn0.step)⟩
     ·rw [if_neg c7] at H
      exact absurd H (by simp)
    ·rw [if_neg c6] at H
     exact absurd H (by simp)
   ·rw [if_neg c5] at H
    have c5b0 : decide (x8_1 < (l0.length : Int)) = false := decide_eq_false c5; clear c5; obtain rfl := Option.some.inj H
    go_wp2
    go_ret
    exact ⟨by first | rfl | (simp; done) | (simp [*]; done), by repeat (first | exact Drawn0.refl _ | apply Drawn0.step)⟩

def slices_ContainsFunc_int_int_at_impl_groups_1.f (k : Nat) (l0 : List Int)  (l2_0 : List (List Int)) (l3_0 : List Int) : Option (Bool) := (slices_IndexFunc_int_int_at_impl_groups_1.f k l0 l2_0 l3_0).bind fun t518 => (some (decide (t518 ≥ 0)))
theorem slices_ContainsFunc_int_int_at_impl_groups_1.calls (k : Nat) (A0 : Option Addr) (c0 : Nat) (l0 : List Int)  (g2 : Nat) (A2_0 : Option Addr) (c2_0 : Nat) (l2_0 : List (List Int)) (g3 : Nat) (A3_0 : Option Addr) (c3_0 : Nat) (l3_0 : List Int) (r : Bool) (w : World) (hr0 : Kd.C (Kd.int .i64) w A0 l0.length l0) (hc0 : l0.length ≤ c0) (hb2 : w.heap[g2]? = some (.cells #[.slice A2_0 l2_0.length c2_0] 35 (0, 0))) (hr2_0 : Kd.C (Kd.slice 3 (Kd.int .i64)) w A2_0 l2_0.length l2_0) (hc2_0 : l2_0.length ≤ c2_0) (hb3 : w.heap[g3]? = some (.cells #[.slice A3_0 l3_0.length c3_0] 32 (0, 0))) (hr3_0 : Kd.C (Kd.int .i64) w A3_0 l3_0.length l3_0) (hc3_0 : l3_0.length ≤ c3_0) (h : slices_ContainsFunc_int_int_at_impl_groups_1.f k l0 l2_0 l3_0 = some r) :
  Calls Try.prog 85 #[.slice A0 l0.length c0, .func (.func 150) #[] #[.pointer (some ⟨g2, 0, none⟩), .pointer (some ⟨g3, 0, none⟩)]] w fun e w' => e = .returned (.bool r) ∧ Drawn0 w w' := by
 have HR0 := am hr0; have HC0 := am hc0; clear hr0 hc0; have HR2_0 := am hr2_0; have HC2_0 := am hc2_0; clear hr2_0 hc2_0; have HR3_0 := am hr3_0; have HC3_0 := am hc3_0; clear hr3_0 hc3_0; have BK2 := am hb2; clear hb2; have BK3 := am hb3; clear hb3; have H : ((slices_IndexFunc_int_int_at_impl_groups_1.f k l0 l2_0 l3_0).bind fun t518 => (some (decide (t518 ≥ 0)))) = some r := h; clear h; replace H := Option.bind_eq_some_iff.mp H; obtain ⟨t518, A50, H⟩ := H; (try dsimp -simprocs only at H); have A5 := am A50; clear A50; obtain rfl := Option.some.inj H
 go_enter Try.func85, Try.ntmps85
 go_wp2_with (first | ((with_reducible refine gate_callee (f := 145) rfl ?_); refine gL (some 7) Try.func145 #[.slice A0 l0.length c0, .func (.func 150) #[] #[.pointer (some ⟨g2, 0, none⟩), .pointer (some ⟨g3, 0, none⟩)]] ?_; (with_reducible refine (slices_IndexFunc_int_int_at_impl_groups_1.calls k _ _ l0  g2 A2_0 c2_0 l2_0 g3 A3_0 c3_0 l3_0 t518 _ ?side1 ?side2 ?side3 ?side4 ?side5 ?side6 ?side7 ?side8 A5.out).mono ?_); (case side1 => exact Cz HR0.out); (case side2 => exact HC0.out); (case side3 => exact Kz BK2.out); (case side4 => exact Cz HR2_0.out); (case side5 => exact HC2_0.out); (case side6 => exact Kz BK3.out); (case side7 => exact Cz HR3_0.out); (case side8 => exact HC3_0.out); rintro e w' ⟨rfl, ⟨nd, rfl⟩⟩; refine ⟨_, rfl, ?_⟩))
 go_ret
 exact ⟨by first | rfl | (simp; done) | (simp [*]; done), by repeat (first | exact Drawn0.refl _ | apply Drawn0.step)⟩

end Go.Proofs.Ythkcgimnagpmaaa.PT
