import Derived.Test.YtephjmmkggcmeaaCS1
import Derived.Test.YtephjmmkggcmeaaCS2
import Derived.Test.YtephjmmkggcmeaaCS3
import Derived.Test.YtephjmmkggcmeaaCS4
-- printed by a program of this session (wip/gp) out of the translation; Lean checks it
namespace Go.Proofs.Ytephjmmkggcmeaa.PG
open Go.RowKit Go.Proofs.YtephjmmkggcmeaaW.PrintWords Go.Proofs.YtephjmmkggcmeaaW.PrintLast Go.Proofs.YtephjmmkggcmeaaW.PrintMore Go.Proofs.YtephjmmkggcmeaaSq
attribute [local go_sem] max2_int min2_int max_two min_two max_three min_three max_four min_four   -- for this text's walks alone
attribute [local go_sem] Go.Proofs.YtephjmmkggcmeaaGp.str_geq Go.Proofs.YtephjmmkggcmeaaGp.str_gtr Go.Proofs.YtephjmmkggcmeaaGp.str_leq
set_option linter.unusedVariables false
set_option linter.unusedSimpArgs false

set_option maxHeartbeats 8000000
set_option maxRecDepth 100000
def spec_DrawCuckooFind.j0 : Nat → List ByteArray → Bool → List Int → Int → Int → Int → List ByteArray → List ByteArray → Option (Int × List ByteArray × List ByteArray × ByteArray)
  | 0, _, _, _, _, _, _, _, _ => none
  | k + 1, x6, x20, x344000, x344001, x344002, x354000, x354001, x354002 => if x20 = true then ((spec_l1Cur_of.f x344000 x344001 x344002 x6).bind fun bt360 => (some (x354000, x354001, x354002, bt360.1))) else ((spec_l1Cur_text.f k x344000 x344001 x344002).bind fun bt363 => (some (x354000, x354001, x354002, bt363.1)))
def spec_DrawCuckooFind.f (k : Nat) (l0 : List Int) : Option (Int × List ByteArray × List ByteArray × ByteArray) := (spec_l1Cur_cuckoo.f k l0 0 0).bind fun bt344 => ((spec_cuAll.f k bt344.1 bt344.2.1 bt344.2.2.1).bind fun t354 => (if (t354.length : Int) > 0 then ((spec_l1Cur_one.f l0 bt344.2.2.2.1 bt344.2.2.2.2 2).bind fun bt357 => (spec_DrawCuckooFind.j0 k t354 bt357.1 l0 bt357.2.1 bt357.2.2 bt344.1 bt344.2.1 bt344.2.2.1)) else (spec_DrawCuckooFind.j0 k t354 false l0 bt344.2.2.2.1 bt344.2.2.2.2 bt344.1 bt344.2.1 bt344.2.2.1)))
theorem spec_DrawCuckooFind.calls (k : Nat) (A0 : Option Addr) (c0 : Nat) (l0 : List Int) (r1 : Int) (r2 : List ByteArray) (r3 : List ByteArray) (r4 : ByteArray) (w : World) (hr0 : Kd.C (Kd.int .u8) w A0 l0.length l0) (hc0 : l0.length ≤ c0) (h : spec_DrawCuckooFind.f k l0 = some (r1, r2, r3, r4)) :
    Calls Try.prog 40 #[.slice A0 l0.length c0] w fun e w' => ∃ v1_ v2_ : Value, e = .returned (.tuple #[.agg #[.int .i64 r1, v1_, v2_], .string r4]) ∧ Kd.R Kd.string 9 w' w.heap.size (fun k_ => some k_ ≠ (v2_ : Value).ownBlock) v1_ r2 ∧ Kd.R Kd.string 9 w' w.heap.size (fun k_ => some k_ ≠ (v1_ : Value).ownBlock) v2_ r3 ∧ Below w.heap.size w w' := by
  have hu51 := Try.underlying51; have hu75 := Try.underlying75; have HR0 := am hr0; have HC0 := am hc0; clear hr0 hc0; have HB := am (Below.refl w.heap.size w); have H : ((spec_l1Cur_cuckoo.f k l0 0 0).bind fun bt344 => ((spec_cuAll.f k bt344.1 bt344.2.1 bt344.2.2.1).bind fun t354 => (if (t354.length : Int) > 0 then ((spec_l1Cur_one.f l0 bt344.2.2.2.1 bt344.2.2.2.2 2).bind fun bt357 => (spec_DrawCuckooFind.j0 k t354 bt357.1 l0 bt357.2.1 bt357.2.2 bt344.1 bt344.2.1 bt344.2.2.1)) else (spec_DrawCuckooFind.j0 k t354 false l0 bt344.2.2.2.1 bt344.2.2.2.2 bt344.1 bt344.2.1 bt344.2.2.1)))) = some (r1, r2, r3, r4) := h; clear h; replace H := Option.bind_eq_some_iff.mp H; obtain ⟨⟨t344, t345, t348, t351, t352⟩, A20, H⟩ := H; (try dsimp -simprocs only at H); have A2 := am A20; clear A20; replace H := Option.bind_eq_some_iff.mp H; obtain ⟨t354, A30, H⟩ := H; (try dsimp -simprocs only at H); have A3 := am A30; clear A30; have HC4 := am H; clear H
  go_enter Try.func40, Try.ntmps40
  go_upto_region 4 with (first | ((with_reducible refine gate_dst (N := 2) rfl ?_); refine bE 2 #[.int .i64 0, .slice none 0 0, .slice none 0 0] 51 ?_; intro gb342 hg w5 hbox hb; have n0_ := Bb HB hb; have n1_ := am (hbox); have n2_ := Gl HB hg; have n3_ := Gl HB hg; clear HB; revert n0_ n1_ n2_ n3_; intro HB BK342 GW342 GE342; clear hb hbox hg) | ((with_reducible refine gate_dst (N := 9) rfl ?_); refine bE 9 #[.slice A0 l0.length c0, .int .i64 0, .int .u64 0] 75 ?_; intro gb343 hg w6 hbox hb; have n0_ := Kb BK342 hb; have n1_ := Bc HB hb; have n2_ := am (hbox); have n3_ := Gm HB hg; have n4_ := Gm HB hg; have n5_ := Nl BK342 hg; have n6_ := Ng BK342 hg; clear BK342 HB; revert n0_ n1_ n2_ n3_ n4_ n5_ n6_; intro BK342 HB BK343 GW343 GE343 NB342_343 NB343_342; clear hb hbox hg; have HI343 := am (show IsS75 w _ gb343 l0 0 0 from ⟨A0, c0, BK343.out, GE343.out, HR0.out⟩); clear BK343) | ((with_reducible refine gate_callee (f := 95) rfl ?_); refine gL (some 11) Try.func95 #[.pointer (some ⟨gb343, 0, none⟩)] ?_; (with_reducible refine (spec_l1Cur_cuckoo.calls k gb343 l0 0 0 t344 t345 t348 t351 t352 w _ ?side1 ?side2 A2.out).mono ?_); (case side1 => repeat (first | (with_reducible first | exact HI343.out | apply IsS75.alloc | apply IsS75.drewN | apply IsS75.drew | apply IsS75.set_1 | apply IsS75.set_2 | refine IsS75.far ?_ NB343_342.out _) | exact HI343.out)); (case side2 => repeat (first | (with_reducible first | exact HB.out | apply below_alloc | apply pw_below_drewN | apply below_drew1 | refine below_set ?_ (IsS75.ge HI343.out) | refine below_set ?_ GE342.out) | exact HB.out)); rintro e w7 ⟨v346, v349, rfl, ho0, ho1, hi, hb, hk⟩; refine ⟨_, rfl, ?_⟩; have n0_ := am (KeepBut.blk hk (g' := gb342) (o := .cells #[.int .i64 0, .slice none 0 0, .slice none 0 0] 51 (0, 0)) (Kz BK342.out) NB342_343.out (by simp)); have n1_ := am (Kd.R_lower ho0 (below_size (by repeat (first | (with_reducible first | exact HB.out | apply below_alloc | apply pw_below_drewN | apply below_drew1 | refine below_set ?_ (IsS75.ge HI343.out) | refine below_set ?_ GE342.out) | exact HB.out)))); have n2_ := am (Kd.R_lower ho1 (below_size (by repeat (first | (with_reducible first | exact HB.out | apply below_alloc | apply pw_below_drewN | apply below_drew1 | refine below_set ?_ (IsS75.ge HI343.out) | refine below_set ?_ GE342.out) | exact HB.out)))); have n3_ := am (hb); have n4_ := am (hi); clear BK342 HB HI343; revert n0_ n1_ n2_ n3_ n4_; intro BK342 HO347 HO350 HB HI343; (try clear hb); (try clear hb2); (try clear hk); (try clear hi); (try clear ho0); (try clear ho1)) | ((with_reducible refine gate_dst (N := 5) rfl ?_); refine bE 5 #[.int .i64 0, .slice none 0 0, .slice none 0 0] 51 ?_; intro gb353 hg w8 hbox hb; have n0_ := Rb HO347 hb; have n1_ := Rb HO350 hb; have n2_ := Kb BK342 hb; have n3_ := am (IsS75.below (by repeat (first | (with_reducible first | exact HI343.out | apply IsS75.alloc | apply IsS75.drewN | apply IsS75.drew | apply IsS75.set_1 | apply IsS75.set_2 | refine IsS75.far ?_ NB343_342.out _) | exact HI343.out)) hb); have n4_ := am (below_step (by repeat (first | (with_reducible first | exact HB.out | apply below_alloc | apply pw_below_drewN | apply below_drew1 | refine below_set ?_ (IsS75.ge HI343.out) | refine below_set ?_ GE342.out) | exact HB.out)) hb); have n5_ := am (hbox); have n6_ := am ((by rw [hg]; exact (below_size (by repeat (first | (with_reducible first | exact HB.out | apply below_alloc | apply pw_below_drewN | apply below_drew1 | refine below_set ?_ (IsS75.ge HI343.out) | refine below_set ?_ GE342.out) | exact HB.out))) : w.heap.size ≤ gb353)); have n7_ := am ((by rw [hg]; exact (below_size (by repeat (first | (with_reducible first | exact HB.out | apply below_alloc | apply pw_below_drewN | apply below_drew1 | refine below_set ?_ (IsS75.ge HI343.out) | refine below_set ?_ GE342.out) | exact HB.out))) : w.heap.size ≤ gb353)); have n8_ := Nl BK342 hg; have n9_ := Ng BK342 hg; have n10_ := am ((by rw [hg]; exact Nat.ne_of_lt (IsS75.lt (show IsS75 w _ gb343 l0 t351 t352 from by repeat (first | (with_reducible first | exact HI343.out | apply IsS75.alloc | apply IsS75.drewN | apply IsS75.drew | apply IsS75.set_1 | apply IsS75.set_2 | refine IsS75.far ?_ NB343_342.out _) | exact HI343.out))) : gb343 ≠ gb353)); have n11_ := am ((by rw [hg]; exact Nat.ne_of_gt (IsS75.lt (show IsS75 w _ gb343 l0 t351 t352 from by repeat (first | (with_reducible first | exact HI343.out | apply IsS75.alloc | apply IsS75.drewN | apply IsS75.drew | apply IsS75.set_1 | apply IsS75.set_2 | refine IsS75.far ?_ NB343_342.out _) | exact HI343.out))) : gb353 ≠ gb343)); clear HO347 HO350 BK342 HI343 HB; revert n0_ n1_ n2_ n3_ n4_ n5_ n6_ n7_ n8_ n9_ n10_ n11_; intro HO347 HO350 BK342 HI343 HB BK353 GW353 GE353 NB342_353 NB353_342 NB343_353 NB353_343; clear hb hbox hg; have hnb9 := NB353_342.out; have hnc9 := NB342_353.out; have hnb10 := NB353_343.out; have hnc10 := NB343_353.out; obtain ⟨hcz11_0, hcz11_1, hcz11_2, hfz11_0, hfz11_1, hfz11_2⟩ := cf3 (w := w8) BK353; obtain ⟨Ao12, co12, eo12⟩ := Kd.R_slice HO347.out; subst eo12; obtain ⟨Ao13, co13, eo13⟩ := Kd.R_slice HO350.out; subst eo13) | ((with_reducible refine gate_callee (f := 96) rfl ?_); refine gL (some 13) Try.func96 #[.agg #[.int .i64 t344, .slice Ao12 t345.length co12, .slice Ao13 t348.length co13]] ?_; (with_reducible refine (spec_cuAll.calls k t344 _ _ t345 _ _ t348 t354 _ ?side1 ?side2 ?side3 ?side4 A3.out).mono ?_); (case side1 => refine (Kd.R_reads' (e := 9) (base := w.heap.size) (ok := fun k_ => some k_ ≠ (.slice Ao13 t348.length co13 : Value).ownBlock) (n := t345.length) (c := co12) ?_).2.2; exact (Rz (Kd.R_mono (Kd.R_far (p := ⟨gb353, 2, none⟩) (Kd.R_far (p := ⟨gb353, 1, none⟩) (Kd.R_far (p := ⟨gb353, 0, none⟩) (Kd.R_types HO347.out BK353.out (by decide)) (fun _ hk => hk.2) (.int .i64 t344)) (fun _ hk => hk.2) (.slice Ao12 t345.length co12)) (fun _ hk => hk.2) (.slice Ao13 t348.length co13)) (fun _ h_ => h_.1)))); (case side2 => exact (Kd.R_reads' HO347.out).2.1); (case side3 => refine (Kd.R_reads' (e := 9) (base := w.heap.size) (ok := fun k_ => some k_ ≠ (.slice Ao12 t345.length co12 : Value).ownBlock) (n := t348.length) (c := co13) ?_).2.2; exact (Rz (Kd.R_mono (Kd.R_far (p := ⟨gb353, 2, none⟩) (Kd.R_far (p := ⟨gb353, 1, none⟩) (Kd.R_far (p := ⟨gb353, 0, none⟩) (Kd.R_types HO350.out BK353.out (by decide)) (fun _ hk => hk.2) (.int .i64 t344)) (fun _ hk => hk.2) (.slice Ao12 t345.length co12)) (fun _ hk => hk.2) (.slice Ao13 t348.length co13)) (fun _ h_ => h_.1)))); (case side4 => exact (Kd.R_reads' HO350.out).2.1); rintro e w14 ⟨v355, rfl, ho0, hb⟩; refine ⟨_, rfl, ?_⟩; have n0_ := am (Kd.R_elder' (Rz (Kd.R_mono (Kd.R_far (p := ⟨gb353, 2, none⟩) (Kd.R_far (p := ⟨gb353, 1, none⟩) (Kd.R_far (p := ⟨gb353, 0, none⟩) (Kd.R_types HO347.out BK353.out (by decide)) (fun _ hk => hk.2) (.int .i64 t344)) (fun _ hk => hk.2) (.slice Ao12 t345.length co12)) (fun _ hk => hk.2) (.slice Ao13 t348.length co13)) (fun _ h_ => h_.1))) (Kd.R_base ho0) hb); have n1_ := am (Kd.R_elder' (Rz (Kd.R_mono (Kd.R_far (p := ⟨gb353, 2, none⟩) (Kd.R_far (p := ⟨gb353, 1, none⟩) (Kd.R_far (p := ⟨gb353, 0, none⟩) (Kd.R_types HO350.out BK353.out (by decide)) (fun _ hk => hk.2) (.int .i64 t344)) (fun _ hk => hk.2) (.slice Ao12 t345.length co12)) (fun _ hk => hk.2) (.slice Ao13 t348.length co13)) (fun _ h_ => h_.1))) (Kd.R_base ho0) hb); have n2_ := am (Kd.R_lower (Kd.R_new' (Kd.R_new' ho0 (Kd.R_lt (Rz (Kd.R_mono (Kd.R_far (p := ⟨gb353, 2, none⟩) (Kd.R_far (p := ⟨gb353, 1, none⟩) (Kd.R_far (p := ⟨gb353, 0, none⟩) (Kd.R_types HO347.out BK353.out (by decide)) (fun _ hk => hk.2) (.int .i64 t344)) (fun _ hk => hk.2) (.slice Ao12 t345.length co12)) (fun _ hk => hk.2) (.slice Ao13 t348.length co13)) (fun _ h_ => h_.1))))) (Kd.R_lt (Rz (Kd.R_mono (Kd.R_far (p := ⟨gb353, 2, none⟩) (Kd.R_far (p := ⟨gb353, 1, none⟩) (Kd.R_far (p := ⟨gb353, 0, none⟩) (Kd.R_types HO350.out BK353.out (by decide)) (fun _ hk => hk.2) (.int .i64 t344)) (fun _ hk => hk.2) (.slice Ao12 t345.length co12)) (fun _ hk => hk.2) (.slice Ao13 t348.length co13)) (fun _ h_ => h_.1))))) (below_size (by repeat (first | (with_reducible first | exact HB.out | apply below_alloc | apply pw_below_drewN | apply below_drew1 | refine below_set ?_ (IsS75.ge HI343.out) | refine below_set ?_ GE342.out | refine below_set ?_ GE353.out) | exact HB.out)))); have n3_ := am (blk_below (g := gb342) (o := .cells #[.int .i64 0, .slice none 0 0, .slice none 0 0] 51 (0, 0)) (by (with_reducible repeat (first | refine blk_drewN ?_ _ | refine blk_drew ?_ | refine blk_alloc ?_ _)); refine blk_far ?_ NB342_353.out _; (with_reducible repeat (first | refine blk_drewN ?_ _ | refine blk_drew ?_ | refine blk_alloc ?_ _)); refine blk_far ?_ NB342_353.out _; (with_reducible repeat (first | refine blk_drewN ?_ _ | refine blk_drew ?_ | refine blk_alloc ?_ _)); refine blk_far ?_ NB342_353.out _; exact Kz BK342.out) hb); have n4_ := am (IsS75.below (show IsS75 w (((w8.setCell ⟨gb353, 0, none⟩ (.int .i64 t344)).setCell ⟨gb353, 1, none⟩ (.slice Ao12 t345.length co12)).setCell ⟨gb353, 2, none⟩ (.slice Ao13 t348.length co13)) gb343 l0 t351 t352 from by repeat (first | (with_reducible first | exact HI343.out | apply IsS75.alloc | apply IsS75.drewN | apply IsS75.drew | apply IsS75.set_1 | apply IsS75.set_2 | refine IsS75.far ?_ NB343_342.out _ | refine IsS75.far ?_ NB343_353.out _) | exact HI343.out)) hb); have n5_ := am (blk_below (g := gb353) (o := .cells #[.int .i64 t344, .slice Ao12 t345.length co12, .slice Ao13 t348.length co13] 51 (0, 0)) (by (with_reducible repeat (first | refine blk_drewN ?_ _ | refine blk_drew ?_ | refine blk_alloc ?_ _)); refine blk_put (cs := #[.int .i64 t344, .slice Ao12 t345.length co12, .slice none 0 0]) ?_ 2 _ rfl; (with_reducible repeat (first | refine blk_drewN ?_ _ | refine blk_drew ?_ | refine blk_alloc ?_ _)); refine blk_put (cs := #[.int .i64 t344, .slice none 0 0, .slice none 0 0]) ?_ 1 _ rfl; (with_reducible repeat (first | refine blk_drewN ?_ _ | refine blk_drew ?_ | refine blk_alloc ?_ _)); refine blk_put (cs := #[.int .i64 0, .slice none 0 0, .slice none 0 0]) ?_ 0 _ rfl; exact Kz BK353.out) hb); have n6_ := am (below_step (by repeat (first | (with_reducible first | exact HB.out | apply below_alloc | apply pw_below_drewN | apply below_drew1 | refine below_set ?_ (IsS75.ge HI343.out) | refine below_set ?_ GE342.out | refine below_set ?_ GE353.out) | exact HB.out)) hb); clear HO347 HO350 BK342 HI343 BK353 HB; revert n0_ n1_ n2_ n3_ n4_ n5_ n6_; intro HO347 HO350 HO356 BK342 HI343 BK353 HB; (try clear hb); (try clear hb2); (try clear hk); (try clear hi); (try clear ho0)))
  (try simp only [aP])
  go_cut [20] (fun v20 wc => ∃ (kq : Nat) (x20_3 : Bool) (x344001_3 : Int) (x344002_3 : Int), v20 = .bool x20_3 ∧ Aside0 (spec_DrawCuckooFind.j0 kq t354 x20_3 l0 x344001_3 x344002_3 t344 t345 t348 = some (r1, r2, r3, r4)) ∧ Aside0 (kq ≤ k) ∧ Aside0 (Kd.R Kd.string 9 wc w.heap.size (fun k_ => some k_ ≠ ((.slice Ao12 t345.length co12) : Value).ownBlock ∧ some k_ ≠ ((.slice Ao13 t348.length co13) : Value).ownBlock) v355 t354) ∧ Aside0 (Kd.R Kd.string 9 wc w.heap.size (fun k_ => some k_ ≠ (v355 : Value).ownBlock ∧ some k_ ≠ ((.slice Ao13 t348.length co13) : Value).ownBlock) (.slice Ao12 t345.length co12) t345) ∧ Aside0 (Kd.R Kd.string 9 wc w.heap.size (fun k_ => some k_ ≠ (v355 : Value).ownBlock ∧ some k_ ≠ ((.slice Ao12 t345.length co12) : Value).ownBlock) (.slice Ao13 t348.length co13) t348) ∧ Aside0 (wc.heap[gb342]? = some (.cells #[.int .i64 0, (.slice none 0 0), (.slice none 0 0)] 51 (0, 0))) ∧ Aside0 (wc.heap[gb353]? = some (.cells #[.int .i64 t344, (.slice Ao12 t345.length co12), (.slice Ao13 t348.length co13)] 51 (0, 0))) ∧ Aside0 (IsS75 w wc gb343 l0 x344001_3 x344002_3) ∧ Aside0 (Below w.heap.size w wc))
  case first =>
    have H := HC4.out; clear HC4
    by_cases c15 : (t354.length : Int) > 0
    · rw [if_pos c15] at H
      have c15b0 : decide (0 < (t354.length : Int)) = true := decide_eq_true c15; have c15b1 : decide (0 < t354.length) = true := decide_eq_true (by omega); clear c15
      (first | rw [c15b0] | (simp only [i64_w, i32_w]; rw [c15b0]) | skip)
      replace H := Option.bind_eq_some_iff.mp H; obtain ⟨⟨t357, t358, t359⟩, A160, H⟩ := H; (try dsimp -simprocs only at H); have A16 := am A160; clear A160; have H' := am H; clear H; obtain ⟨Ao17, co17, eo17⟩ := Kd.R_slice HO356.out; subst eo17
      go_wp2_with (first | (go_at_call 83; (with_reducible refine (spec_l1Cur_one.calls gb343 l0 t351 t352 2 t357 t358 t359 w _ ?side1 ?side2 A16.out).mono ?_); (case side1 => repeat (first | (with_reducible first | exact HI343.out | apply IsS75.alloc | apply IsS75.drewN | apply IsS75.drew | apply IsS75.set_1 | apply IsS75.set_2 | refine IsS75.far ?_ NB343_342.out _ | refine IsS75.far ?_ NB343_353.out _) | exact HI343.out)); (case side2 => repeat (first | (with_reducible first | exact HB.out | apply below_alloc | apply pw_below_drewN | apply below_drew1 | refine below_set ?_ (IsS75.ge HI343.out) | refine below_set ?_ GE342.out | refine below_set ?_ GE353.out) | exact HB.out)); rintro e w18 ⟨rfl, hi, hb, hk⟩; have n0_ := am (KeepBut.blk hk (g' := gb342) (o := .cells #[.int .i64 0, .slice none 0 0, .slice none 0 0] 51 (0, 0)) (Kz BK342.out) NB342_343.out (by simp)); have n1_ := am (Kd.R_mono (Kd.R_keep (IsS75.apart (show IsS75 w _ gb343 l0 t351 t352 from by repeat (first | (with_reducible first | exact HI343.out | apply IsS75.alloc | apply IsS75.drewN | apply IsS75.drew | apply IsS75.set_1 | apply IsS75.set_2 | refine IsS75.far ?_ NB343_342.out _ | refine IsS75.far ?_ NB343_353.out _) | exact HI343.out)) (Rz HO347.out) (by decide)) hk (fun _ h => h.2)) (fun _ h => h.1)); have n2_ := am (Kd.R_mono (Kd.R_keep (IsS75.apart (show IsS75 w _ gb343 l0 t351 t352 from by repeat (first | (with_reducible first | exact HI343.out | apply IsS75.alloc | apply IsS75.drewN | apply IsS75.drew | apply IsS75.set_1 | apply IsS75.set_2 | refine IsS75.far ?_ NB343_342.out _ | refine IsS75.far ?_ NB343_353.out _) | exact HI343.out)) (Rz HO350.out) (by decide)) hk (fun _ h => h.2)) (fun _ h => h.1)); have n3_ := am (KeepBut.blk hk (g' := gb353) (o := .cells #[.int .i64 t344, .slice Ao12 t345.length co12, .slice Ao13 t348.length co13] 51 (0, 0)) (Kz BK353.out) NB353_343.out (by simp)); have n4_ := am (Kd.R_mono (Kd.R_keep (IsS75.apart (show IsS75 w _ gb343 l0 t351 t352 from by repeat (first | (with_reducible first | exact HI343.out | apply IsS75.alloc | apply IsS75.drewN | apply IsS75.drew | apply IsS75.set_1 | apply IsS75.set_2 | refine IsS75.far ?_ NB343_342.out _ | refine IsS75.far ?_ NB343_353.out _) | exact HI343.out)) (Rz HO356.out) (by decide)) hk (fun _ h => h.2)) (fun _ h => h.1)); have n5_ := am (hb); have n6_ := am (hi); clear BK342 HO347 HO350 BK353 HO356 HB HI343; revert n0_ n1_ n2_ n3_ n4_ n5_ n6_; intro BK342 HO347 HO350 BK353 HO356 HB HI343; (try clear hb); (try clear hb2); (try clear hk); (try clear hi)))
      go_meet
      case rel => exact ⟨_, (t357), (t358), (t359), wZ, H', ⟨by first | omega | exact Nat.le_refl _⟩, ⟨Rz (Kd.R_mono HO356.out (fun _ hk => ⟨hk.1.2, hk.2⟩))⟩, ⟨Rz (Kd.R_mono HO347.out (fun _ hk => ⟨hk.2, hk.1⟩))⟩, ⟨Rz (Kd.R_mono HO350.out (fun _ hk => ⟨hk.2, hk.1⟩))⟩, ⟨Kz BK342.out⟩, ⟨Kz BK353.out⟩, ⟨by repeat (first | (with_reducible first | exact HI343.out | apply IsS75.alloc | apply IsS75.drewN | apply IsS75.drew | apply IsS75.set_1 | apply IsS75.set_2 | refine IsS75.far ?_ NB343_342.out _ | refine IsS75.far ?_ NB343_353.out _) | exact HI343.out)⟩, ⟨by repeat (first | (with_reducible first | exact HB.out | apply below_alloc | apply pw_below_drewN | apply below_drew1 | refine below_set ?_ (IsS75.ge HI343.out) | refine below_set ?_ GE342.out | refine below_set ?_ GE353.out) | exact HB.out)⟩⟩
    · rw [if_neg c15] at H
      have c15b0 : decide (0 < (t354.length : Int)) = false := decide_eq_false c15; have c15b1 : decide (0 < t354.length) = false := decide_eq_false (by omega); clear c15
      (first | rw [c15b0] | (simp only [i64_w, i32_w]; rw [c15b0]) | skip)
      have H' := am H; clear H; obtain ⟨Ao19, co19, eo19⟩ := Kd.R_slice HO356.out; subst eo19
      go_wp2
      go_meet
      case rel => exact ⟨_, (false), (t351), (t352), wZ, H', ⟨by first | omega | exact Nat.le_refl _⟩, ⟨Rz (Kd.R_mono HO356.out (fun _ hk => ⟨hk.1.2, hk.2⟩))⟩, ⟨Rz (Kd.R_mono HO347.out (fun _ hk => ⟨hk.2, hk.1⟩))⟩, ⟨Rz (Kd.R_mono HO350.out (fun _ hk => ⟨hk.2, hk.1⟩))⟩, ⟨Kz BK342.out⟩, ⟨Kz BK353.out⟩, ⟨by repeat (first | (with_reducible first | exact HI343.out | apply IsS75.alloc | apply IsS75.drewN | apply IsS75.drew | apply IsS75.set_1 | apply IsS75.set_2 | refine IsS75.far ?_ NB343_342.out _ | refine IsS75.far ?_ NB343_353.out _) | exact HI343.out)⟩, ⟨by repeat (first | (with_reducible first | exact HB.out | apply below_alloc | apply pw_below_drewN | apply below_drew1 | refine below_set ?_ (IsS75.ge HI343.out) | refine below_set ?_ GE342.out | refine below_set ?_ GE353.out) | exact HB.out)⟩⟩
  case rest =>
    clear HC4
    try clear c1
    try clear p2
    try clear c4
    try clear c9
    try clear c10
    try clear c15
    try clear c15b0
    try clear c15b1
    try clear hcz11_0
    try clear hcz11_1
    try clear hcz11_2
    try clear hfz11_0
    try clear hfz11_1
    try clear hfz11_2
    obtain ⟨kq, x20_3, x344001_3, x344002_3, rfl, HA, HJ3, HO_6, HO_354001, HO_354002, BK342, BK353, HI343, HB⟩ := hcut; cases kq with
    | zero => exact absurd HA.out (by simp [spec_DrawCuckooFind.j0])
    | succ kj3 =>
      have H := HA.out; clear HA
      simp only [spec_DrawCuckooFind.j0] at H
      by_cases c20 : x20_3 = true
      · subst c20
        rw [if_pos rfl] at H; replace H := Option.bind_eq_some_iff.mp H; obtain ⟨⟨t360, t361, t362⟩, A210, H⟩ := H; (try dsimp -simprocs only at H); have A21 := am A210; clear A210
        simp only [Option.some.injEq, Prod.mk.injEq] at H
        obtain ⟨rfl, rfl, rfl, rfl⟩ := H
        try go_wp2
        have n0_ := am (Kd.R_drew HO_6.out); have n1_ := am (Kd.R_drew HO_354001.out); have n2_ := am (Kd.R_drew HO_354002.out); have n3_ := am (blk_drew BK342.out); have n4_ := am (blk_drew BK353.out); have n5_ := am (IsS75.drew HI343.out); have n6_ := am (below_drew1 HB.out); clear HO_6 HO_354001 HO_354002 BK342 BK353 HI343 HB; revert n0_ n1_ n2_ n3_ n4_ n5_ n6_; intro HO_6 HO_354001 HO_354002 BK342 BK353 HI343 HB; obtain ⟨Ao23, co23, eo23⟩ := Kd.R_slice HO_6.out
        (first | subst eo23 | (injection eo23 with f1_ f2_ f3_; have f4_ := f1_.symm; have f5_ := f3_.symm; clear f1_ f2_ f3_; subst f4_; subst f5_))
        refine start_ (n := 6) (S := fun w' => w'.cell? ⟨gb353, 0, none⟩ = some (.int .i64 t344) ∧ w'.cell? ⟨gb353, 1, none⟩ = some (.slice Ao12 t345.length co12) ∧ w'.cell? ⟨gb353, 2, none⟩ = some (.slice Ao13 t348.length co13)) (ds := []) (bA 6 0) (by kernel_rfl) rfl rfl ⟨cz BK353 0, cz BK353 1, cz BK353 2⟩ (fun hHeld => ?_); generalize wc.drew = w22 at HO_6 HO_354001 HO_354002 BK342 BK353 HI343 HB hHeld ⊢; refine pure_ (i := 1) (N := some 22) (v := ?_) (a' := ?_) (bA 6 2) rfl rfl (by kernel_rfl) (fun _ _ _ h => h) (Or.inl ⟨by rfl, ?_⟩) ?_ ?_
        rotate_left
        · intro w'
          go_simp
          with_reducible rfl
        rotate_left
        · simp only [aP, i64_w, i32_w]
          rfl
        refine pure_ (i := 2) (N := some 23) (v := ?_) (a' := ?_) (bA 6 6) rfl rfl (by kernel_rfl) (fun _ _ _ h => h) (Or.inl ⟨by rfl, ?_⟩) ?_ ?_
        rotate_left
        · intro w'
          go_simp
          with_reducible rfl
        rotate_left
        · simp only [aP, i64_w, i32_w]
          rfl
        refine take_ (i := 0) (N := some 21) (v := ?_) (a' := ?_) (bA 6 7) rfl rfl (by kernel_rfl) (fun _ _ _ h => h) (Or.inl ⟨by rfl, ?_⟩) hHeld ?_ ?_
        rotate_left
        · rintro w' ⟨s0, s1, s2⟩
          go_simp
          with_reducible rfl
        rotate_left
        · simp only [aP, i64_w, i32_w]
          rfl
        refine one_ (i := 3) (N := some 24) (bA 6 15) rfl rfl (by kernel_rfl) (by decide) (fun K hK => ?_); refine gZ Try.func97 #[.pointer (some ⟨gb343, 0, none⟩), .slice Ao23 t354.length co23] ?_
        with_reducible refine (spec_l1Cur_of.calls gb343 l0 x344001_3 x344002_3 _ _ t354 t360 t361 t362 w _ ?side1 ?side2 ?side3 ?side4 ?side5 A21.out).mono ?_
        (case side1 => repeat (first | (with_reducible first | exact HI343.out | apply IsS75.alloc | apply IsS75.drewN | apply IsS75.drew | apply IsS75.set_1 | apply IsS75.set_2 | refine IsS75.far ?_ NB343_342.out _ | refine IsS75.far ?_ NB343_353.out _) | exact HI343.out))
        (case side2 => repeat (first | (with_reducible first | exact HB.out | apply below_alloc | apply pw_below_drewN | apply below_drew1 | refine below_set ?_ (IsS75.ge HI343.out) | refine below_set ?_ GE342.out | refine below_set ?_ GE353.out) | exact HB.out))
        (case side3 => exact Cz ((Kd.R_reads' HO_6.out).2.2))
        (case side4 => exact (Kd.R_reads' HO_6.out).2.1)
        (case side5 => exact far_slice (IsS75.own_ne HI343.out HO_6.out (by decide)))
        rintro e w24 ⟨rfl, hi, hb, hk⟩; refine ⟨_, rfl, ?_⟩; have n0_ := am (Kd.R_mono (Kd.R_keep (IsS75.apart (show IsS75 w _ gb343 l0 x344001_3 x344002_3 from by repeat (first | (with_reducible first | exact HI343.out | apply IsS75.alloc | apply IsS75.drewN | apply IsS75.drew | apply IsS75.set_1 | apply IsS75.set_2 | refine IsS75.far ?_ NB343_342.out _ | refine IsS75.far ?_ NB343_353.out _) | exact HI343.out)) (Rz HO_6.out) (by decide)) hk (fun _ h => h.2)) (fun _ h => h.1)); have n1_ := am (Kd.R_mono (Kd.R_keep (IsS75.apart (show IsS75 w _ gb343 l0 x344001_3 x344002_3 from by repeat (first | (with_reducible first | exact HI343.out | apply IsS75.alloc | apply IsS75.drewN | apply IsS75.drew | apply IsS75.set_1 | apply IsS75.set_2 | refine IsS75.far ?_ NB343_342.out _ | refine IsS75.far ?_ NB343_353.out _) | exact HI343.out)) (Rz HO_354001.out) (by decide)) hk (fun _ h => h.2)) (fun _ h => h.1)); have n2_ := am (Kd.R_mono (Kd.R_keep (IsS75.apart (show IsS75 w _ gb343 l0 x344001_3 x344002_3 from by repeat (first | (with_reducible first | exact HI343.out | apply IsS75.alloc | apply IsS75.drewN | apply IsS75.drew | apply IsS75.set_1 | apply IsS75.set_2 | refine IsS75.far ?_ NB343_342.out _ | refine IsS75.far ?_ NB343_353.out _) | exact HI343.out)) (Rz HO_354002.out) (by decide)) hk (fun _ h => h.2)) (fun _ h => h.1)); have n3_ := am (KeepBut.blk hk (g' := gb342) (o := .cells #[.int .i64 0, .slice none 0 0, .slice none 0 0] 51 (0, 0)) (Kz BK342.out) NB342_343.out (by simp)); have n4_ := am (KeepBut.blk hk (g' := gb353) (o := .cells #[.int .i64 t344, .slice Ao12 t345.length co12, .slice Ao13 t348.length co13] 51 (0, 0)) (Kz BK353.out) NB353_343.out (by simp)); have n5_ := am (hb); have n6_ := am (hi); clear HO_6 HO_354001 HO_354002 BK342 BK353 HB HI343; revert n0_ n1_ n2_ n3_ n4_ n5_ n6_; intro HO_6 HO_354001 HO_354002 BK342 BK353 HB HI343
        (try clear hb)
        (try clear hb2)
        (try clear hk)
        (try clear hi)
        refine hK.out _ _ ⟨cz BK353 0, cz BK353 1, cz BK353 2⟩ (fun hHeld => ?_); clear hK K; refine norm_ (a' := ?_) ?_ ?_
        rotate_left
        · show Act.put _ (some 24) _ = _
          simp only [aP, i64_w, i32_w]
          rfl
        refine one_ (i := 4) (N := none) (bA 6 31) rfl rfl (by kernel_rfl) (by decide) (fun K hK => ?_); have hs25 : w24.cell? ⟨gb342, 0, none⟩ = some (.int .i64 0) := cz BK342 0; have hfs25 := blk_frozen BK342.out 0; have hns25_1 := NB353_342.out; have hms25_1 := NB342_353.out; have hs26 : w24.cell? ⟨gb342, 1, none⟩ = some (.slice none 0 0) := cz BK342 1; have hfs26 := blk_frozen BK342.out 1; have hns26_1 := NB353_342.out; have hms26_1 := NB342_353.out; have hs27 : w24.cell? ⟨gb342, 2, none⟩ = some (.slice none 0 0) := cz BK342 2; have hfs27 := blk_frozen BK342.out 2; have hns27_1 := NB353_342.out; have hms27_1 := NB342_353.out; refine skip_ (w1 := ?_) (by rfl) rfl ?_ ?_
        rotate_left
        · go_simp
          rfl
        refine hK.out _ _ ⟨((cell_far (p := ⟨gb342, _, none⟩) NB353_342.out _).trans (((cell_far (p := ⟨gb342, _, none⟩) NB353_342.out _).trans (((cell_far (p := ⟨gb342, _, none⟩) NB353_342.out _).trans (hHeld.1)))))), ((cell_far (p := ⟨gb342, _, none⟩) NB353_342.out _).trans (((cell_far (p := ⟨gb342, _, none⟩) NB353_342.out _).trans (((cell_far (p := ⟨gb342, _, none⟩) NB353_342.out _).trans (hHeld.2.1)))))), ((cell_far (p := ⟨gb342, _, none⟩) NB353_342.out _).trans (((cell_far (p := ⟨gb342, _, none⟩) NB353_342.out _).trans (((cell_far (p := ⟨gb342, _, none⟩) NB353_342.out _).trans (hHeld.2.2))))))⟩ (fun hHeld => ?_); clear hK K; refine pure_ (i := 5) (N := some 3) (v := ?_) (a' := ?_) (bA 6 63) rfl rfl (by kernel_rfl) (fun _ _ _ h => h) (Or.inl ⟨by rfl, ?_⟩) ?_ ?_
        rotate_left
        · intro w'
          go_simp
          with_reducible rfl
        rotate_left
        · simp only [aP, i64_w, i32_w]
          rfl
        refine done_ (by kernel_rfl) ?_
        try go_wp2
        refine bodyPost_ret (results_ct rfl _ _ gb342 51 #[.int .i64 t344, .slice Ao12 t345.length co12, .slice Ao13 t348.length co13] (0, 0) _ rfl (by (with_reducible repeat (first | refine blk_drewN ?_ _ | refine blk_drew ?_ | refine blk_alloc ?_ _)); refine blk_put (cs := #[.int .i64 t344, .slice Ao12 t345.length co12, .slice none 0 0]) ?_ 2 _ rfl; (with_reducible repeat (first | refine blk_drewN ?_ _ | refine blk_drew ?_ | refine blk_alloc ?_ _)); refine blk_put (cs := #[.int .i64 t344, .slice none 0 0, .slice none 0 0]) ?_ 1 _ rfl; (with_reducible repeat (first | refine blk_drewN ?_ _ | refine blk_drew ?_ | refine blk_alloc ?_ _)); refine blk_put (cs := #[.int .i64 0, .slice none 0 0, .slice none 0 0]) ?_ 0 _ rfl; exact Kz BK342.out) Try.underlying51 rfl (by kernel_rfl)) rfl ?_; exact ⟨_, _, eZ, Rz (Kd.R_mono (Kd.R_far (p := ⟨gb342, 2, none⟩) (Kd.R_far (p := ⟨gb342, 1, none⟩) (Kd.R_far (p := ⟨gb342, 0, none⟩) (Kd.R_types HO_354001.out BK342.out (by decide)) (fun _ hk => hk.2) (.int .i64 t344)) (fun _ hk => hk.2) (.slice Ao12 t345.length co12)) (fun _ hk => hk.2) (.slice Ao13 t348.length co13)) (fun _ hk => hk.1.2)), Rz (Kd.R_mono (Kd.R_far (p := ⟨gb342, 2, none⟩) (Kd.R_far (p := ⟨gb342, 1, none⟩) (Kd.R_far (p := ⟨gb342, 0, none⟩) (Kd.R_types HO_354002.out BK342.out (by decide)) (fun _ hk => hk.2) (.int .i64 t344)) (fun _ hk => hk.2) (.slice Ao12 t345.length co12)) (fun _ hk => hk.2) (.slice Ao13 t348.length co13)) (fun _ hk => hk.1.2)), by repeat (first | (with_reducible first | exact HB.out | apply below_alloc | apply pw_below_drewN | apply below_drew1 | refine below_set ?_ (IsS75.ge HI343.out) | refine below_set ?_ GE342.out | refine below_set ?_ GE353.out) | exact HB.out)⟩
      · replace c20 := Bool.eq_false_iff.mpr c20
        subst c20
        rw [if_neg (show ¬ (false = true) by decide)] at H; replace H := Option.bind_eq_some_iff.mp H; obtain ⟨⟨t363, t364, t365⟩, A280, H⟩ := H; (try dsimp -simprocs only at H); have A28 := am A280; clear A280
        simp only [Option.some.injEq, Prod.mk.injEq] at H
        obtain ⟨rfl, rfl, rfl, rfl⟩ := H
        try go_wp2
        have n0_ := am (Kd.R_drew HO_6.out); have n1_ := am (Kd.R_drew HO_354001.out); have n2_ := am (Kd.R_drew HO_354002.out); have n3_ := am (blk_drew BK342.out); have n4_ := am (blk_drew BK353.out); have n5_ := am (IsS75.drew HI343.out); have n6_ := am (below_drew1 HB.out); clear HO_6 HO_354001 HO_354002 BK342 BK353 HI343 HB; revert n0_ n1_ n2_ n3_ n4_ n5_ n6_; intro HO_6 HO_354001 HO_354002 BK342 BK353 HI343 HB; refine start_ (n := 5) (S := fun w' => w'.cell? ⟨gb353, 0, none⟩ = some (.int .i64 t344) ∧ w'.cell? ⟨gb353, 1, none⟩ = some (.slice Ao12 t345.length co12) ∧ w'.cell? ⟨gb353, 2, none⟩ = some (.slice Ao13 t348.length co13)) (ds := []) (bA 5 0) (by kernel_rfl) rfl rfl ⟨cz BK353 0, cz BK353 1, cz BK353 2⟩ (fun hHeld => ?_); generalize wc.drew = w29 at HO_6 HO_354001 HO_354002 BK342 BK353 HI343 HB hHeld ⊢; refine pure_ (i := 1) (N := some 26) (v := ?_) (a' := ?_) (bA 5 2) rfl rfl (by kernel_rfl) (fun _ _ _ h => h) (Or.inl ⟨by rfl, ?_⟩) ?_ ?_
        rotate_left
        · intro w'
          go_simp
          with_reducible rfl
        rotate_left
        · simp only [aP, i64_w, i32_w]
          rfl
        refine take_ (i := 0) (N := some 25) (v := ?_) (a' := ?_) (bA 5 3) rfl rfl (by kernel_rfl) (fun _ _ _ h => h) (Or.inl ⟨by rfl, ?_⟩) hHeld ?_ ?_
        rotate_left
        · rintro w' ⟨s0, s1, s2⟩
          go_simp
          with_reducible rfl
        rotate_left
        · simp only [aP, i64_w, i32_w]
          rfl
        refine one_ (i := 2) (N := some 27) (bA 5 7) rfl rfl (by kernel_rfl) (by decide) (fun K hK => ?_); refine gZ Try.func98 #[.pointer (some ⟨gb343, 0, none⟩)] ?_
        with_reducible refine (spec_l1Cur_text.calls kj3 gb343 l0 x344001_3 x344002_3 t363 t364 t365 w _ ?side1 ?side2 A28.out).mono ?_
        (case side1 => repeat (first | (with_reducible first | exact HI343.out | apply IsS75.alloc | apply IsS75.drewN | apply IsS75.drew | apply IsS75.set_1 | apply IsS75.set_2 | refine IsS75.far ?_ NB343_342.out _ | refine IsS75.far ?_ NB343_353.out _) | exact HI343.out))
        (case side2 => repeat (first | (with_reducible first | exact HB.out | apply below_alloc | apply pw_below_drewN | apply below_drew1 | refine below_set ?_ (IsS75.ge HI343.out) | refine below_set ?_ GE342.out | refine below_set ?_ GE353.out) | exact HB.out))
        rintro e w30 ⟨rfl, hi, hb, hk⟩; refine ⟨_, rfl, ?_⟩; have n0_ := am (Kd.R_mono (Kd.R_keep (IsS75.apart (show IsS75 w _ gb343 l0 x344001_3 x344002_3 from by repeat (first | (with_reducible first | exact HI343.out | apply IsS75.alloc | apply IsS75.drewN | apply IsS75.drew | apply IsS75.set_1 | apply IsS75.set_2 | refine IsS75.far ?_ NB343_342.out _ | refine IsS75.far ?_ NB343_353.out _) | exact HI343.out)) (Rz HO_6.out) (by decide)) hk (fun _ h => h.2)) (fun _ h => h.1)); have n1_ := am (Kd.R_mono (Kd.R_keep (IsS75.apart (show IsS75 w _ gb343 l0 x344001_3 x344002_3 from by repeat (first | (with_reducible first | exact HI343.out | apply IsS75.alloc | apply IsS75.drewN | apply IsS75.drew | apply IsS75.set_1 | apply IsS75.set_2 | refine IsS75.far ?_ NB343_342.out _ | refine IsS75.far ?_ NB343_353.out _) | exact HI343.out)) (Rz HO_354001.out) (by decide)) hk (fun _ h => h.2)) (fun _ h => h.1)); have n2_ := am (Kd.R_mono (Kd.R_keep (IsS75.apart (show IsS75 w _ gb343 l0 x344001_3 x344002_3 from by repeat (first | (with_reducible first | exact HI343.out | apply IsS75.alloc | apply IsS75.drewN | apply IsS75.drew | apply IsS75.set_1 | apply IsS75.set_2 | refine IsS75.far ?_ NB343_342.out _ | refine IsS75.far ?_ NB343_353.out _) | exact HI343.out)) (Rz HO_354002.out) (by decide)) hk (fun _ h => h.2)) (fun _ h => h.1)); have n3_ := am (KeepBut.blk hk (g' := gb342) (o := .cells #[.int .i64 0, .slice none 0 0, .slice none 0 0] 51 (0, 0)) (Kz BK342.out) NB342_343.out (by simp)); have n4_ := am (KeepBut.blk hk (g' := gb353) (o := .cells #[.int .i64 t344, .slice Ao12 t345.length co12, .slice Ao13 t348.length co13] 51 (0, 0)) (Kz BK353.out) NB353_343.out (by simp)); have n5_ := am (hb); have n6_ := am (hi); clear HO_6 HO_354001 HO_354002 BK342 BK353 HB HI343; revert n0_ n1_ n2_ n3_ n4_ n5_ n6_; intro HO_6 HO_354001 HO_354002 BK342 BK353 HB HI343
        (try clear hb)
        (try clear hb2)
        (try clear hk)
        (try clear hi)
        refine hK.out _ _ ⟨cz BK353 0, cz BK353 1, cz BK353 2⟩ (fun hHeld => ?_); clear hK K; refine norm_ (a' := ?_) ?_ ?_
        rotate_left
        · show Act.put _ (some 27) _ = _
          simp only [aP, i64_w, i32_w]
          rfl
        refine one_ (i := 3) (N := none) (bA 5 15) rfl rfl (by kernel_rfl) (by decide) (fun K hK => ?_); have hs31 : w30.cell? ⟨gb342, 0, none⟩ = some (.int .i64 0) := cz BK342 0; have hfs31 := blk_frozen BK342.out 0; have hns31_1 := NB353_342.out; have hms31_1 := NB342_353.out; have hs32 : w30.cell? ⟨gb342, 1, none⟩ = some (.slice none 0 0) := cz BK342 1; have hfs32 := blk_frozen BK342.out 1; have hns32_1 := NB353_342.out; have hms32_1 := NB342_353.out; have hs33 : w30.cell? ⟨gb342, 2, none⟩ = some (.slice none 0 0) := cz BK342 2; have hfs33 := blk_frozen BK342.out 2; have hns33_1 := NB353_342.out; have hms33_1 := NB342_353.out; refine skip_ (w1 := ?_) (by rfl) rfl ?_ ?_
        rotate_left
        · go_simp
          rfl
        refine hK.out _ _ ⟨((cell_far (p := ⟨gb342, _, none⟩) NB353_342.out _).trans (((cell_far (p := ⟨gb342, _, none⟩) NB353_342.out _).trans (((cell_far (p := ⟨gb342, _, none⟩) NB353_342.out _).trans (hHeld.1)))))), ((cell_far (p := ⟨gb342, _, none⟩) NB353_342.out _).trans (((cell_far (p := ⟨gb342, _, none⟩) NB353_342.out _).trans (((cell_far (p := ⟨gb342, _, none⟩) NB353_342.out _).trans (hHeld.2.1)))))), ((cell_far (p := ⟨gb342, _, none⟩) NB353_342.out _).trans (((cell_far (p := ⟨gb342, _, none⟩) NB353_342.out _).trans (((cell_far (p := ⟨gb342, _, none⟩) NB353_342.out _).trans (hHeld.2.2))))))⟩ (fun hHeld => ?_); clear hK K; refine pure_ (i := 4) (N := some 3) (v := ?_) (a' := ?_) (bA 5 31) rfl rfl (by kernel_rfl) (fun _ _ _ h => h) (Or.inl ⟨by rfl, ?_⟩) ?_ ?_
        rotate_left
        · intro w'
          go_simp
          with_reducible rfl
        rotate_left
        · simp only [aP, i64_w, i32_w]
          rfl
        refine done_ (by kernel_rfl) ?_
        try go_wp2
        refine bodyPost_ret (results_ct rfl _ _ gb342 51 #[.int .i64 t344, .slice Ao12 t345.length co12, .slice Ao13 t348.length co13] (0, 0) _ rfl (by (with_reducible repeat (first | refine blk_drewN ?_ _ | refine blk_drew ?_ | refine blk_alloc ?_ _)); refine blk_put (cs := #[.int .i64 t344, .slice Ao12 t345.length co12, .slice none 0 0]) ?_ 2 _ rfl; (with_reducible repeat (first | refine blk_drewN ?_ _ | refine blk_drew ?_ | refine blk_alloc ?_ _)); refine blk_put (cs := #[.int .i64 t344, .slice none 0 0, .slice none 0 0]) ?_ 1 _ rfl; (with_reducible repeat (first | refine blk_drewN ?_ _ | refine blk_drew ?_ | refine blk_alloc ?_ _)); refine blk_put (cs := #[.int .i64 0, .slice none 0 0, .slice none 0 0]) ?_ 0 _ rfl; exact Kz BK342.out) Try.underlying51 rfl (by kernel_rfl)) rfl ?_; exact ⟨_, _, eZ, Rz (Kd.R_mono (Kd.R_far (p := ⟨gb342, 2, none⟩) (Kd.R_far (p := ⟨gb342, 1, none⟩) (Kd.R_far (p := ⟨gb342, 0, none⟩) (Kd.R_types HO_354001.out BK342.out (by decide)) (fun _ hk => hk.2) (.int .i64 t344)) (fun _ hk => hk.2) (.slice Ao12 t345.length co12)) (fun _ hk => hk.2) (.slice Ao13 t348.length co13)) (fun _ hk => hk.1.2)), Rz (Kd.R_mono (Kd.R_far (p := ⟨gb342, 2, none⟩) (Kd.R_far (p := ⟨gb342, 1, none⟩) (Kd.R_far (p := ⟨gb342, 0, none⟩) (Kd.R_types HO_354002.out BK342.out (by decide)) (fun _ hk => hk.2) (.int .i64 t344)) (fun _ hk => hk.2) (.slice Ao12 t345.length co12)) (fun _ hk => hk.2) (.slice Ao13 t348.length co13)) (fun _ hk => hk.1.2)), by repeat (first | (with_reducible first | exact HB.out | apply below_alloc | apply pw_below_drewN | apply below_drew1 | refine below_set ?_ (IsS75.ge HI343.out) | refine below_set ?_ GE342.out | refine below_set ?_ GE353.out) | exact HB.out)⟩

def spec_CuckooFind.f (k : Nat) (a0_0 : Int) (l0_1 : List ByteArray) (l0_2 : List ByteArray) (a1 : ByteArray) : Option (Int × Bool) := (spec_cuGood.f k a0_0 l0_1 l0_2).bind fun t442 => (if t442 = true then ((spec_IsKey.f k a1).bind fun t443 => (if t443 = true then ((spec_cuFind.f k a0_0 l0_1 l0_2 a1).bind fun t444 => (if t444 < 0 then (some (0, false)) else ((spec_cuFind.f k a0_0 l0_1 l0_2 a1).bind fun t445 => (some (t445, true))))) else (some (0, false)))) else (some (0, false)))
theorem spec_CuckooFind.calls (k : Nat) (a0_0 : Int) (A0_1 : Option Addr) (c0_1 : Nat) (l0_1 : List ByteArray) (A0_2 : Option Addr) (c0_2 : Nat) (l0_2 : List ByteArray) (a1 : ByteArray) (r1 : Int) (r2 : Bool) (w : World) (hr0_1 : Kd.C Kd.string w A0_1 l0_1.length l0_1) (hc0_1 : l0_1.length ≤ c0_1) (hr0_2 : Kd.C Kd.string w A0_2 l0_2.length l0_2) (hc0_2 : l0_2.length ≤ c0_2) (h : spec_CuckooFind.f k a0_0 l0_1 l0_2 a1 = some (r1, r2)) :
    Calls Try.prog 42 #[.agg #[.int .i64 a0_0, .slice A0_1 l0_1.length c0_1, .slice A0_2 l0_2.length c0_2], .string a1] w fun e w' => e = .returned (.tuple #[.int .i64 r1, .bool r2]) ∧ Below w.heap.size w w' := by
  have hu51 := Try.underlying51; have HR0_1 := am hr0_1; have HC0_1 := am hc0_1; clear hr0_1 hc0_1; have HR0_2 := am hr0_2; have HC0_2 := am hc0_2; clear hr0_2 hc0_2; have HB := am (Below.refl w.heap.size w); have H : ((spec_cuGood.f k a0_0 l0_1 l0_2).bind fun t442 => (if t442 = true then ((spec_IsKey.f k a1).bind fun t443 => (if t443 = true then ((spec_cuFind.f k a0_0 l0_1 l0_2 a1).bind fun t444 => (if t444 < 0 then (some (0, false)) else ((spec_cuFind.f k a0_0 l0_1 l0_2 a1).bind fun t445 => (some (t445, true))))) else (some (0, false)))) else (some (0, false)))) = some (r1, r2) := h; clear h; replace H := Option.bind_eq_some_iff.mp H; obtain ⟨t442, A30, H⟩ := H; (try dsimp -simprocs only at H); have A3 := am A30; clear A30
  by_cases c4 : t442 = true
  · subst c4
    rw [if_pos rfl] at H; replace H := Option.bind_eq_some_iff.mp H; obtain ⟨t443, A50, H⟩ := H; (try dsimp -simprocs only at H); have A5 := am A50; clear A50
    by_cases c6 : t443 = true
    · subst c6
      rw [if_pos rfl] at H; replace H := Option.bind_eq_some_iff.mp H; obtain ⟨t444, A70, H⟩ := H; (try dsimp -simprocs only at H); have A7 := am A70; clear A70
      by_cases c8 : t444 < 0
      · rw [if_pos c8] at H
        have c8b0 : decide (t444 < 0) = true := decide_eq_true c8; clear c8
        simp only [Option.some.injEq, Prod.mk.injEq] at H
        obtain ⟨rfl, rfl⟩ := H
        go_enter Try.func42, Try.ntmps42
        go_wp2_with (first | ((with_reducible refine gate_dst (N := 2) rfl ?_); refine bE 2 #[.int .i64 a0_0, .slice A0_1 l0_1.length c0_1, .slice A0_2 l0_2.length c0_2] 51 ?_; intro gb441 hg w9 hbox hb; have n0_ := Bb HB hb; have n1_ := am (hbox); have n2_ := Gl HB hg; have n3_ := Gl HB hg; clear HB; revert n0_ n1_ n2_ n3_; intro HB BK441 GW441 GE441; clear hb hbox hg; obtain ⟨hcz10_0, hcz10_1, hcz10_2, hfz10_0, hfz10_1, hfz10_2⟩ := cf3 (w := w9) BK441) | ((with_reducible refine gate_callee (f := 100) rfl ?_); refine gL (some 7) Try.func100 #[.agg #[.int .i64 a0_0, .slice A0_1 l0_1.length c0_1, .slice A0_2 l0_2.length c0_2]] ?_; (with_reducible refine (spec_cuGood.calls k a0_0 _ _ l0_1 _ _ l0_2 true _ ?side1 ?side2 ?side3 ?side4 A3.out).mono ?_); (case side1 => exact Cz (Kd.C_below HR0_1.out HB.out)); (case side2 => exact HC0_1.out); (case side3 => exact Cz (Kd.C_below HR0_2.out HB.out)); (case side4 => exact HC0_2.out); rintro e w11 ⟨rfl, hb⟩; refine ⟨_, rfl, ?_⟩; have n0_ := Kb BK441 hb; have n1_ := Bc HB hb; clear BK441 HB; revert n0_ n1_; intro BK441 HB; (try clear hb); (try clear hb2); (try clear hk); (try clear hi)) | (go_at_call 101; (with_reducible refine (spec_IsKey.calls k a1 true _ A5.out).mono ?_); rintro e w' ⟨rfl, ⟨nd, rfl⟩⟩; obtain ⟨hcz12_0, hcz12_1, hcz12_2, hfz12_0, hfz12_1, hfz12_2⟩ := cf3 (w := w11) BK441) | (go_at_call 102; (with_reducible refine (spec_cuFind.calls k a0_0 _ _ l0_1 _ _ l0_2 a1 t444 _ ?side1 ?side2 ?side3 ?side4 A7.out).mono ?_); (case side1 => exact Cz (Kd.C_below HR0_1.out (Bq))); (case side2 => exact HC0_1.out); (case side3 => exact Cz (Kd.C_below HR0_2.out (Bq))); (case side4 => exact HC0_2.out); rintro e w13 ⟨rfl, hb⟩; have n0_ := Kb BK441 hb; have n1_ := Bc HB hb; clear BK441 HB; revert n0_ n1_; intro BK441 HB; (try clear hb); (try clear hb2); (try clear hk); (try clear hi)))
        go_ret2
        exact ⟨eZ, Bq⟩
      · rw [if_neg c8] at H
        have c8b0 : decide (t444 < 0) = false := decide_eq_false c8; clear c8; replace H := Option.bind_eq_some_iff.mp H; obtain ⟨t445, A140, H⟩ := H; (try dsimp -simprocs only at H); have A14 := am A140; clear A140
        simp only [Option.some.injEq, Prod.mk.injEq] at H
        obtain ⟨rfl, rfl⟩ := H
        go_enter Try.func42, Try.ntmps42
        go_wp2_with (first | ((with_reducible refine gate_dst (N := 2) rfl ?_); refine bE 2 #[.int .i64 a0_0, .slice A0_1 l0_1.length c0_1, .slice A0_2 l0_2.length c0_2] 51 ?_; intro gb441 hg w15 hbox hb; have n0_ := Bb HB hb; have n1_ := am (hbox); have n2_ := Gl HB hg; have n3_ := Gl HB hg; clear HB; revert n0_ n1_ n2_ n3_; intro HB BK441 GW441 GE441; clear hb hbox hg; obtain ⟨hcz16_0, hcz16_1, hcz16_2, hfz16_0, hfz16_1, hfz16_2⟩ := cf3 (w := w15) BK441) | ((with_reducible refine gate_callee (f := 100) rfl ?_); refine gL (some 7) Try.func100 #[.agg #[.int .i64 a0_0, .slice A0_1 l0_1.length c0_1, .slice A0_2 l0_2.length c0_2]] ?_; (with_reducible refine (spec_cuGood.calls k a0_0 _ _ l0_1 _ _ l0_2 true _ ?side1 ?side2 ?side3 ?side4 A3.out).mono ?_); (case side1 => exact Cz (Kd.C_below HR0_1.out HB.out)); (case side2 => exact HC0_1.out); (case side3 => exact Cz (Kd.C_below HR0_2.out HB.out)); (case side4 => exact HC0_2.out); rintro e w17 ⟨rfl, hb⟩; refine ⟨_, rfl, ?_⟩; have n0_ := Kb BK441 hb; have n1_ := Bc HB hb; clear BK441 HB; revert n0_ n1_; intro BK441 HB; (try clear hb); (try clear hb2); (try clear hk); (try clear hi)) | (go_at_call 101; (with_reducible refine (spec_IsKey.calls k a1 true _ A5.out).mono ?_); rintro e w' ⟨rfl, ⟨nd, rfl⟩⟩; obtain ⟨hcz18_0, hcz18_1, hcz18_2, hfz18_0, hfz18_1, hfz18_2⟩ := cf3 (w := w17) BK441) | (go_at_call 102; (with_reducible refine (spec_cuFind.calls k a0_0 _ _ l0_1 _ _ l0_2 a1 t444 _ ?side1 ?side2 ?side3 ?side4 A7.out).mono ?_); (case side1 => exact Cz (Kd.C_below HR0_1.out (Bq))); (case side2 => exact HC0_1.out); (case side3 => exact Cz (Kd.C_below HR0_2.out (Bq))); (case side4 => exact HC0_2.out); rintro e w19 ⟨rfl, hb⟩; have n0_ := Kb BK441 hb; have n1_ := Bc HB hb; clear BK441 HB; revert n0_ n1_; intro BK441 HB; (try clear hb); (try clear hb2); (try clear hk); (try clear hi); obtain ⟨hcz20_0, hcz20_1, hcz20_2, hfz20_0, hfz20_1, hfz20_2⟩ := cf3 (w := w19) BK441) | ((with_reducible refine gate_callee (f := 102) rfl ?_); refine gL (some 22) Try.func102 #[.agg #[.int .i64 a0_0, .slice A0_1 l0_1.length c0_1, .slice A0_2 l0_2.length c0_2], .string a1] ?_; (with_reducible refine (spec_cuFind.calls k a0_0 _ _ l0_1 _ _ l0_2 a1 t445 _ ?side1 ?side2 ?side3 ?side4 A14.out).mono ?_); (case side1 => exact Cz (Kd.C_below HR0_1.out HB.out)); (case side2 => exact HC0_1.out); (case side3 => exact Cz (Kd.C_below HR0_2.out HB.out)); (case side4 => exact HC0_2.out); rintro e w21 ⟨rfl, hb⟩; refine ⟨_, rfl, ?_⟩; have n0_ := Kb BK441 hb; have n1_ := Bc HB hb; clear BK441 HB; revert n0_ n1_; intro BK441 HB; (try clear hb); (try clear hb2); (try clear hk); (try clear hi)))
        go_ret2
        exact ⟨eZ, Bq⟩
    · replace c6 := Bool.eq_false_iff.mpr c6
      subst c6
      rw [if_neg (show ¬ (false = true) by decide)] at H
      simp only [Option.some.injEq, Prod.mk.injEq] at H
      obtain ⟨rfl, rfl⟩ := H
      go_enter Try.func42, Try.ntmps42
      go_wp2_with (first | ((with_reducible refine gate_dst (N := 2) rfl ?_); refine bE 2 #[.int .i64 a0_0, .slice A0_1 l0_1.length c0_1, .slice A0_2 l0_2.length c0_2] 51 ?_; intro gb441 hg w22 hbox hb; have n0_ := Bb HB hb; have n1_ := am (hbox); have n2_ := Gl HB hg; have n3_ := Gl HB hg; clear HB; revert n0_ n1_ n2_ n3_; intro HB BK441 GW441 GE441; clear hb hbox hg; obtain ⟨hcz23_0, hcz23_1, hcz23_2, hfz23_0, hfz23_1, hfz23_2⟩ := cf3 (w := w22) BK441) | ((with_reducible refine gate_callee (f := 100) rfl ?_); refine gL (some 7) Try.func100 #[.agg #[.int .i64 a0_0, .slice A0_1 l0_1.length c0_1, .slice A0_2 l0_2.length c0_2]] ?_; (with_reducible refine (spec_cuGood.calls k a0_0 _ _ l0_1 _ _ l0_2 true _ ?side1 ?side2 ?side3 ?side4 A3.out).mono ?_); (case side1 => exact Cz (Kd.C_below HR0_1.out HB.out)); (case side2 => exact HC0_1.out); (case side3 => exact Cz (Kd.C_below HR0_2.out HB.out)); (case side4 => exact HC0_2.out); rintro e w24 ⟨rfl, hb⟩; refine ⟨_, rfl, ?_⟩; have n0_ := Kb BK441 hb; have n1_ := Bc HB hb; clear BK441 HB; revert n0_ n1_; intro BK441 HB; (try clear hb); (try clear hb2); (try clear hk); (try clear hi)) | (go_at_call 101; (with_reducible refine (spec_IsKey.calls k a1 false _ A5.out).mono ?_); rintro e w' ⟨rfl, ⟨nd, rfl⟩⟩))
      go_ret2
      exact ⟨eZ, Bq⟩
  · replace c4 := Bool.eq_false_iff.mpr c4
    subst c4
    rw [if_neg (show ¬ (false = true) by decide)] at H
    simp only [Option.some.injEq, Prod.mk.injEq] at H
    obtain ⟨rfl, rfl⟩ := H
    go_enter Try.func42, Try.ntmps42
    go_wp2_with (first | ((with_reducible refine gate_dst (N := 2) rfl ?_); refine bE 2 #[.int .i64 a0_0, .slice A0_1 l0_1.length c0_1, .slice A0_2 l0_2.length c0_2] 51 ?_; intro gb441 hg w25 hbox hb; have n0_ := Bb HB hb; have n1_ := am (hbox); have n2_ := Gl HB hg; have n3_ := Gl HB hg; clear HB; revert n0_ n1_ n2_ n3_; intro HB BK441 GW441 GE441; clear hb hbox hg; obtain ⟨hcz26_0, hcz26_1, hcz26_2, hfz26_0, hfz26_1, hfz26_2⟩ := cf3 (w := w25) BK441) | ((with_reducible refine gate_callee (f := 100) rfl ?_); refine gL (some 7) Try.func100 #[.agg #[.int .i64 a0_0, .slice A0_1 l0_1.length c0_1, .slice A0_2 l0_2.length c0_2]] ?_; (with_reducible refine (spec_cuGood.calls k a0_0 _ _ l0_1 _ _ l0_2 false _ ?side1 ?side2 ?side3 ?side4 A3.out).mono ?_); (case side1 => exact Cz (Kd.C_below HR0_1.out HB.out)); (case side2 => exact HC0_1.out); (case side3 => exact Cz (Kd.C_below HR0_2.out HB.out)); (case side4 => exact HC0_2.out); rintro e w27 ⟨rfl, hb⟩; refine ⟨_, rfl, ?_⟩; have n0_ := Kb BK441 hb; have n1_ := Bc HB hb; clear BK441 HB; revert n0_ n1_; intro BK441 HB; (try clear hb); (try clear hb2); (try clear hk); (try clear hi)))
    go_ret2
    exact ⟨eZ, Bq⟩

mutual
def spec_CuckooRemove.j0 : Nat → ByteArray → Bool → Int → List ByteArray → List ByteArray → Option (Int × List ByteArray × List ByteArray × Bool)
  | 0, _, _, _, _, _ => none
  | k + 1, x1, x24, x471000, x471001, x471002 => if x24 = true then (some (0, ([] : List ByteArray), ([] : List ByteArray), false)) else ((spec_l1OwnS.f x471001).bind fun t475 => (spec_CuckooRemove.l0 k x1 x471001 (x471001.length : Int) 0 x471000 x471001 x471002 x471000 t475))
def spec_CuckooRemove.l0 : Nat → ByteArray → List ByteArray → Int → Int → Int → List ByteArray → List ByteArray → Int → List ByteArray → Option (Int × List ByteArray × List ByteArray × Bool)
  | 0, _, _, _, _, _, _, _, _, _ => none
  | k + 1, x1, x33, x34, x35, x471000, x471001, x471002, x479000, x479001 => if x35 < x34 then (if 0 ≤ x35 then (if x35 < (x33.length : Int) then (if (rdOf ByteArray.empty x33 x35).toList = x1.toList then (if x35 < (x479001.length : Int) then (spec_CuckooRemove.l0 k x1 x33 x34 (wrap64 (x35 + 1)) x471000 x471001 x471002 x479000 (x479001.set (x35 : Int).toNat (⟨#[]⟩ : ByteArray))) else (none)) else (spec_CuckooRemove.l0 k x1 x33 x34 (wrap64 (x35 + 1)) x471000 x471001 x471002 x479000 x479001)) else (none)) else (none)) else (spec_CuckooRemove.l1 k x1 x471002 (x471002.length : Int) 0 x479000 x479001 ([] : List ByteArray))
def spec_CuckooRemove.l1 : Nat → ByteArray → List ByteArray → Int → Int → Int → List ByteArray → List ByteArray → Option (Int × List ByteArray × List ByteArray × Bool)
  | 0, _, _, _, _, _, _, _ => none
  | k + 1, x1, x49, x50, x51, x479000, x479001, x479002 => if x51 < x50 then (if 0 ≤ x51 then (if x51 < (x49.length : Int) then (if (rdOf ByteArray.empty x49 x51).toList = x1.toList then (spec_CuckooRemove.l1 k x1 x49 x50 (wrap64 (x51 + 1)) x479000 x479001 x479002) else (if x479002.length < 8796093022208 then (spec_CuckooRemove.l1 k x1 x49 x50 (wrap64 (x51 + 1)) x479000 x479001 (x479002 ++ [rdOf ByteArray.empty x49 x51])) else (none))) else (none)) else (none)) else (some (x479000, x479001, x479002, true))
end
def spec_CuckooRemove.f (k : Nat) (a0_0 : Int) (l0_1 : List ByteArray) (l0_2 : List ByteArray) (a1 : ByteArray) : Option (Int × List ByteArray × List ByteArray × Bool) := (spec_cuGood.f k a0_0 l0_1 l0_2).bind fun t472 => (if t472 = true then ((spec_IsKey.f k a1).bind fun t473 => (if t473 = true then ((spec_cuFind.f k a0_0 l0_1 l0_2 a1).bind fun t474 => (spec_CuckooRemove.j0 k a1 (decide (t474 < 0)) a0_0 l0_1 l0_2)) else (spec_CuckooRemove.j0 k a1 true a0_0 l0_1 l0_2))) else (spec_CuckooRemove.j0 k a1 true a0_0 l0_1 l0_2))
def spec_CuckooRemove.T3 : Bool × List (List Nat × List Nat) := (true, [([], []), ([0], [0]), ([], []), ([2], [2]), ([3], [3]), ([1, 4], [1, 4]), ([], []), ([6, 5, 4, 0, 1, 2, 3, 4, 5, 6], [5, 6])])
def spec_CuckooRemove.B3 : List Nat := [0, 1, 0, 4, 12, 31, 0, 127]
theorem spec_CuckooRemove.tab3 : rtab .any (opsOf Try.f44 3) = spec_CuckooRemove.T3 := by kernel_rfl
theorem spec_CuckooRemove.bits3 : waitsOk spec_CuckooRemove.T3.2 spec_CuckooRemove.B3 = true := by kernel_rfl
theorem spec_CuckooRemove.calls (k : Nat) (a0_0 : Int) (A0_1 : Option Addr) (c0_1 : Nat) (l0_1 : List ByteArray) (A0_2 : Option Addr) (c0_2 : Nat) (l0_2 : List ByteArray) (a1 : ByteArray) (r1 : Int) (r2 : List ByteArray) (r3 : List ByteArray) (r4 : Bool) (w : World) (hr0_1 : Kd.C Kd.string w A0_1 l0_1.length l0_1) (hc0_1 : l0_1.length ≤ c0_1) (hr0_2 : Kd.C Kd.string w A0_2 l0_2.length l0_2) (hc0_2 : l0_2.length ≤ c0_2) (h : spec_CuckooRemove.f k a0_0 l0_1 l0_2 a1 = some (r1, r2, r3, r4)) :
    Calls Try.prog 44 #[.agg #[.int .i64 a0_0, .slice A0_1 l0_1.length c0_1, .slice A0_2 l0_2.length c0_2], .string a1] w fun e w' => ∃ v1_ v2_ : Value, e = .returned (.tuple #[.agg #[.int .i64 r1, v1_, v2_], .bool r4]) ∧ Kd.R Kd.string 9 w' w.heap.size (fun k_ => some k_ ≠ (v2_ : Value).ownBlock) v1_ r2 ∧ Kd.R Kd.string 9 w' w.heap.size (fun k_ => some k_ ≠ (v1_ : Value).ownBlock) v2_ r3 ∧ Below w.heap.size w w' := by
  have hu51 := Try.underlying51; have HR0_1 := am hr0_1; have HC0_1 := am hc0_1; clear hr0_1 hc0_1; have HR0_2 := am hr0_2; have HC0_2 := am hc0_2; clear hr0_2 hc0_2; have HB := am (Below.refl w.heap.size w); have H : ((spec_cuGood.f k a0_0 l0_1 l0_2).bind fun t472 => (if t472 = true then ((spec_IsKey.f k a1).bind fun t473 => (if t473 = true then ((spec_cuFind.f k a0_0 l0_1 l0_2 a1).bind fun t474 => (spec_CuckooRemove.j0 k a1 (decide (t474 < 0)) a0_0 l0_1 l0_2)) else (spec_CuckooRemove.j0 k a1 true a0_0 l0_1 l0_2))) else (spec_CuckooRemove.j0 k a1 true a0_0 l0_1 l0_2))) = some (r1, r2, r3, r4) := h; clear h; have HC3 := am H; clear H
  go_enter Try.func44, Try.ntmps44
  go_upto_region 1 with (first | ((with_reducible refine gate_dst (N := 2) rfl ?_); refine bE 2 #[.int .i64 a0_0, .slice A0_1 l0_1.length c0_1, .slice A0_2 l0_2.length c0_2] 51 ?_; intro gb470 hg w4 hbox hb; have n0_ := Bb HB hb; have n1_ := am (hbox); have n2_ := Gl HB hg; have n3_ := Gl HB hg; clear HB; revert n0_ n1_ n2_ n3_; intro HB BK470 GW470 GE470; clear hb hbox hg) | ((with_reducible refine gate_dst (N := 4) rfl ?_); refine bE 4 #[.int .i64 0, .slice none 0 0, .slice none 0 0] 51 ?_; intro gb471 hg w5 hbox hb; have n0_ := Kb BK470 hb; have n1_ := Bc HB hb; have n2_ := am (hbox); have n3_ := Gm HB hg; have n4_ := Gm HB hg; have n5_ := Nl BK470 hg; have n6_ := Ng BK470 hg; clear BK470 HB; revert n0_ n1_ n2_ n3_ n4_ n5_ n6_; intro BK470 HB BK471 GW471 GE471 NB470_471 NB471_470; clear hb hbox hg))
  (try simp only [aP])
  go_cut [24] (fun v24 wc => ∃ (kq : Nat) (x24_2 : Bool), v24 = .bool x24_2 ∧ Aside0 (spec_CuckooRemove.j0 kq a1 x24_2 a0_0 l0_1 l0_2 = some (r1, r2, r3, r4)) ∧ Aside0 (kq ≤ k) ∧ Aside0 (wc.heap[gb470]? = some (.cells #[.int .i64 a0_0, (.slice A0_1 l0_1.length c0_1), (.slice A0_2 l0_2.length c0_2)] 51 (0, 0))) ∧ Aside0 (wc.heap[gb471]? = some (.cells #[.int .i64 0, (.slice none 0 0), (.slice none 0 0)] 51 (0, 0))) ∧ Aside0 (Below w.heap.size w wc))
  case first =>
    have H := HC3.out; clear HC3; replace H := Option.bind_eq_some_iff.mp H; obtain ⟨t472, A60, H⟩ := H; (try dsimp -simprocs only at H); have A6 := am A60; clear A60
    by_cases c7 : t472 = true
    · subst c7
      rw [if_pos rfl] at H; replace H := Option.bind_eq_some_iff.mp H; obtain ⟨t473, A80, H⟩ := H; (try dsimp -simprocs only at H); have A8 := am A80; clear A80
      by_cases c9 : t473 = true
      · subst c9
        rw [if_pos rfl] at H; replace H := Option.bind_eq_some_iff.mp H; obtain ⟨t474, A100, H⟩ := H; (try dsimp -simprocs only at H); have A10 := am A100; clear A100; have H' := am H; clear H; have hnb11 := NB470_471.out; have hnc11 := NB471_470.out; obtain ⟨hcz12_0, hcz12_1, hcz12_2, hfz12_0, hfz12_1, hfz12_2⟩ := cf3 (w := w5) BK470
        go_wp2_with (first | ((with_reducible refine gate_callee (f := 100) rfl ?_); refine gL (some 12) Try.func100 #[.agg #[.int .i64 a0_0, .slice A0_1 l0_1.length c0_1, .slice A0_2 l0_2.length c0_2]] ?_; (with_reducible refine (spec_cuGood.calls k a0_0 _ _ l0_1 _ _ l0_2 true _ ?side1 ?side2 ?side3 ?side4 A6.out).mono ?_); (case side1 => exact Cz (Kd.C_below HR0_1.out HB.out)); (case side2 => exact HC0_1.out); (case side3 => exact Cz (Kd.C_below HR0_2.out HB.out)); (case side4 => exact HC0_2.out); rintro e w13 ⟨rfl, hb⟩; refine ⟨_, rfl, ?_⟩; have n0_ := Kb BK470 hb; have n1_ := Kb BK471 hb; have n2_ := Bc HB hb; clear BK470 BK471 HB; revert n0_ n1_ n2_; intro BK470 BK471 HB; (try clear hb); (try clear hb2); (try clear hk); (try clear hi)) | (go_at_call 101; (with_reducible refine (spec_IsKey.calls k a1 true _ A8.out).mono ?_); rintro e w' ⟨rfl, ⟨nd, rfl⟩⟩; obtain ⟨hcz14_0, hcz14_1, hcz14_2, hfz14_0, hfz14_1, hfz14_2⟩ := cf3 (w := w13) BK470) | (go_at_call 102; (with_reducible refine (spec_cuFind.calls k a0_0 _ _ l0_1 _ _ l0_2 a1 t474 _ ?side1 ?side2 ?side3 ?side4 A10.out).mono ?_); (case side1 => exact Cz (Kd.C_below HR0_1.out (Bq))); (case side2 => exact HC0_1.out); (case side3 => exact Cz (Kd.C_below HR0_2.out (Bq))); (case side4 => exact HC0_2.out); rintro e w15 ⟨rfl, hb⟩; have n0_ := Kb BK470 hb; have n1_ := Kb BK471 hb; have n2_ := Bc HB hb; clear BK470 BK471 HB; revert n0_ n1_ n2_; intro BK470 BK471 HB; (try clear hb); (try clear hb2); (try clear hk); (try clear hi)))
        go_meet
        case rel => exact ⟨_, (decide (t474 < 0)), wZ, H', ⟨by first | omega | exact Nat.le_refl _⟩, ⟨Kz BK470.out⟩, ⟨Kz BK471.out⟩, ⟨Bq⟩⟩
      · replace c9 := Bool.eq_false_iff.mpr c9
        subst c9
        rw [if_neg (show ¬ (false = true) by decide)] at H; have H' := am H; clear H; have hnb16 := NB470_471.out; have hnc16 := NB471_470.out; obtain ⟨hcz17_0, hcz17_1, hcz17_2, hfz17_0, hfz17_1, hfz17_2⟩ := cf3 (w := w5) BK470
        go_wp2_with (first | ((with_reducible refine gate_callee (f := 100) rfl ?_); refine gL (some 12) Try.func100 #[.agg #[.int .i64 a0_0, .slice A0_1 l0_1.length c0_1, .slice A0_2 l0_2.length c0_2]] ?_; (with_reducible refine (spec_cuGood.calls k a0_0 _ _ l0_1 _ _ l0_2 true _ ?side1 ?side2 ?side3 ?side4 A6.out).mono ?_); (case side1 => exact Cz (Kd.C_below HR0_1.out HB.out)); (case side2 => exact HC0_1.out); (case side3 => exact Cz (Kd.C_below HR0_2.out HB.out)); (case side4 => exact HC0_2.out); rintro e w18 ⟨rfl, hb⟩; refine ⟨_, rfl, ?_⟩; have n0_ := Kb BK470 hb; have n1_ := Kb BK471 hb; have n2_ := Bc HB hb; clear BK470 BK471 HB; revert n0_ n1_ n2_; intro BK470 BK471 HB; (try clear hb); (try clear hb2); (try clear hk); (try clear hi)) | (go_at_call 101; (with_reducible refine (spec_IsKey.calls k a1 false _ A8.out).mono ?_); rintro e w' ⟨rfl, ⟨nd, rfl⟩⟩))
        go_meet
        case rel => exact ⟨_, (true), wZ, H', ⟨by first | omega | exact Nat.le_refl _⟩, ⟨Kz BK470.out⟩, ⟨Kz BK471.out⟩, ⟨Bq⟩⟩
    · replace c7 := Bool.eq_false_iff.mpr c7
      subst c7
      rw [if_neg (show ¬ (false = true) by decide)] at H; have H' := am H; clear H; have hnb19 := NB470_471.out; have hnc19 := NB471_470.out; obtain ⟨hcz20_0, hcz20_1, hcz20_2, hfz20_0, hfz20_1, hfz20_2⟩ := cf3 (w := w5) BK470
      go_wp2_with (first | ((with_reducible refine gate_callee (f := 100) rfl ?_); refine gL (some 12) Try.func100 #[.agg #[.int .i64 a0_0, .slice A0_1 l0_1.length c0_1, .slice A0_2 l0_2.length c0_2]] ?_; (with_reducible refine (spec_cuGood.calls k a0_0 _ _ l0_1 _ _ l0_2 false _ ?side1 ?side2 ?side3 ?side4 A6.out).mono ?_); (case side1 => exact Cz (Kd.C_below HR0_1.out HB.out)); (case side2 => exact HC0_1.out); (case side3 => exact Cz (Kd.C_below HR0_2.out HB.out)); (case side4 => exact HC0_2.out); rintro e w21 ⟨rfl, hb⟩; refine ⟨_, rfl, ?_⟩; have n0_ := Kb BK470 hb; have n1_ := Kb BK471 hb; have n2_ := Bc HB hb; clear BK470 BK471 HB; revert n0_ n1_ n2_; intro BK470 BK471 HB; (try clear hb); (try clear hb2); (try clear hk); (try clear hi)))
      go_meet
      case rel => exact ⟨_, (true), wZ, H', ⟨by first | omega | exact Nat.le_refl _⟩, ⟨Kz BK470.out⟩, ⟨Kz BK471.out⟩, ⟨Bq⟩⟩
  case rest =>
    clear HC3
    try clear c1
    try clear p2
    try clear c4
    try clear c7
    try clear c9
    try clear c10
    try clear c11
    try clear c16
    try clear c19
    try clear hcz12_0
    try clear hcz12_1
    try clear hcz12_2
    try clear hcz14_0
    try clear hcz14_1
    try clear hcz14_2
    try clear hcz17_0
    try clear hcz17_1
    try clear hcz17_2
    try clear hcz20_0
    try clear hcz20_1
    try clear hcz20_2
    try clear hfz12_0
    try clear hfz12_1
    try clear hfz12_2
    try clear hfz14_0
    try clear hfz14_1
    try clear hfz14_2
    try clear hfz17_0
    try clear hfz17_1
    try clear hfz17_2
    try clear hfz20_0
    try clear hfz20_1
    try clear hfz20_2
    obtain ⟨kq, x24_2, rfl, HA, HJ2, BK470, BK471, HB⟩ := hcut; cases kq with
    | zero => exact absurd HA.out (by simp [spec_CuckooRemove.j0])
    | succ kj2 =>
      have H := HA.out; clear HA
      simp only [spec_CuckooRemove.j0] at H
      by_cases c22 : x24_2 = true
      · subst c22
        rw [if_pos rfl] at H
        simp only [Option.some.injEq, Prod.mk.injEq] at H
        obtain ⟨rfl, rfl, rfl, rfl⟩ := H; have hnb23 := NB471_470.out; have hnc23 := NB470_471.out; obtain ⟨hcz24_0, hcz24_1, hcz24_2, hfz24_0, hfz24_1, hfz24_2⟩ := cf3 (w := wc) BK471
        go_wp2
        refine bodyPost_ret (results_ct rfl _ _ gb471 51 #[.int .i64 0, .slice none 0 0, .slice none 0 0] (0, 0) _ rfl (by (with_reducible repeat (first | refine blk_drewN ?_ _ | refine blk_drew ?_ | refine blk_alloc ?_ _)); refine blk_put (cs := #[.int .i64 0, .slice none 0 0, .slice none 0 0]) ?_ 2 _ rfl; (with_reducible repeat (first | refine blk_drewN ?_ _ | refine blk_drew ?_ | refine blk_alloc ?_ _)); refine blk_put (cs := #[.int .i64 0, .slice none 0 0, .slice none 0 0]) ?_ 1 _ rfl; (with_reducible repeat (first | refine blk_drewN ?_ _ | refine blk_drew ?_ | refine blk_alloc ?_ _)); refine blk_put (cs := #[.int .i64 0, .slice none 0 0, .slice none 0 0]) ?_ 0 _ rfl; exact Kz BK471.out) Try.underlying51 rfl (by kernel_rfl)) rfl ?_; exact ⟨_, _, eZ, nZ, nZ, Bq⟩
      · replace c22 := Bool.eq_false_iff.mpr c22
        subst c22
        rw [if_neg (show ¬ (false = true) by decide)] at H; replace H := Option.bind_eq_some_iff.mp H; obtain ⟨t475, A250, H⟩ := H; (try dsimp -simprocs only at H); have A25 := am A250; clear A250; have H' := am H; clear H
        try go_wp2
        have n0_ := am (blk_drew BK470.out); have n1_ := am (blk_drew BK471.out); have n2_ := am (below_drew1 HB.out); clear BK470 BK471 HB; revert n0_ n1_ n2_; intro BK470 BK471 HB; refine start_ (n := 8) (S := fun w' => w'.cell? ⟨gb470, 0, none⟩ = some (.int .i64 a0_0) ∧ w'.cell? ⟨gb470, 1, none⟩ = some (.slice A0_1 l0_1.length c0_1) ∧ w'.cell? ⟨gb470, 2, none⟩ = some (.slice A0_2 l0_2.length c0_2)) (ds := []) (bA 8 0) (by kernel_rfl) rfl rfl ⟨cz BK470 0, cz BK470 1, cz BK470 2⟩ (fun hHeld => ?_); refine with_tabW spec_CuckooRemove.tab3 spec_CuckooRemove.bits3 (fun HT_ HW_ => ?_); generalize wc.drew = w26 at BK470 BK471 HB hHeld ⊢; refine pure_ (i := 0) (N := some 26) (v := ?_) (a' := ?_) (bA 8 1) rfl rfl (any_of HT_.out (by kernel_rfl)) (fun _ _ _ h => h) (Or.inl ⟨by rfl, ?_⟩) ?_ ?_
        rotate_left
        · intro w'
          go_simp
          with_reducible rfl
        rotate_left
        · simp only [aP, i64_w, i32_w]
          rfl
        refine pure_ (i := 2) (N := some 28) (v := ?_) (a' := ?_) (bA 8 5) rfl rfl (any_of HT_.out (by kernel_rfl)) (fun _ _ _ h => h) (Or.inl ⟨by rfl, ?_⟩) ?_ ?_
        rotate_left
        · intro w'
          go_simp
          with_reducible rfl
        rotate_left
        · simp only [aP, i64_w, i32_w]
          rfl
        refine take_ (i := 1) (N := some 27) (v := ?_) (a' := ?_) (bA 8 7) rfl rfl (take_ofW HT_.out HW_.out (by kernel_rfl)) (fun _ _ _ h => h) (Or.inl ⟨by rfl, ?_⟩) hHeld ?_ ?_
        rotate_left
        · rintro w' ⟨s0, s1, s2⟩
          go_simp
          with_reducible rfl
        rotate_left
        · simp only [aP, i64_w, i32_w]
          rfl
        refine take_ (i := 3) (N := some 29) (v := ?_) (a' := ?_) (bA 8 15) rfl rfl (take_ofW HT_.out HW_.out (by kernel_rfl)) (fun _ _ _ h => h) (Or.inl ⟨by rfl, ?_⟩) hHeld ?_ ?_
        rotate_left
        · rintro w' ⟨s0, s1, s2⟩
          go_simp
          with_reducible rfl
        rotate_left
        · simp only [aP, i64_w, i32_w]
          rfl
        refine join_ (σ := Value × Nat) 1 (bA 8 127) (fun s_ => [(30, s_.1), (6, .pointer (some ⟨s_.2, 0, none⟩)), (31, .agg #[.int .i64 a0_0, s_.1, .slice none 0 0])]) (fun s_ w' => (w'.cell? ⟨gb470, 0, none⟩ = some (.int .i64 a0_0) ∧ w'.cell? ⟨gb470, 1, none⟩ = some (.slice A0_1 l0_1.length c0_1) ∧ w'.cell? ⟨gb470, 2, none⟩ = some (.slice A0_2 l0_2.length c0_2)) ∧ (Kd.R Kd.string 9 w' w.heap.size (fun _ => True) s_.1 t475) ∧ (w'.heap[gb470]? = some (.cells #[.int .i64 a0_0, .slice A0_1 l0_1.length c0_1, .slice A0_2 l0_2.length c0_2] 51 (0, 0))) ∧ (w'.heap[gb471]? = some (.cells #[.int .i64 0, .slice none 0 0, .slice none 0 0] 51 (0, 0))) ∧ (w'.heap[s_.2]? = some (.cells #[.int .i64 0, .slice none 0 0, .slice none 0 0] 51 (0, 0))) ∧ (w.heap.size ≤ s_.2) ∧ (w.heap.size ≤ s_.2) ∧ (gb470 ≠ s_.2) ∧ (s_.2 ≠ gb470) ∧ (gb471 ≠ s_.2) ∧ (s_.2 ≠ gb471) ∧ (Below w.heap.size w w')) ?_ ?_
        rotate_left
        · intro hCont
          refine two_ (i := 4) (j := 6) (Ni := some 30) (Nj := some 6) (bA 8 31) (bA 8 79) rfl rfl rfl rfl (two_of HT_.out (by kernel_rfl)) (by decide) (by decide) (fun K hK => ?_) (fun K hK => ?_)
          · skip
            refine gZ Try.func105 #[.slice A0_1 l0_1.length c0_1] ?_
            with_reducible refine (spec_l1OwnS.calls _ _ l0_1 t475 _ ?side1 ?side2 A25.out).mono ?_
            (case side1 => exact Cz (Kd.C_below HR0_1.out HB.out))
            (case side2 => exact HC0_1.out)
            rintro e w27 ⟨v476, rfl, ho0, hb⟩; refine ⟨_, rfl, ?_⟩; have n0_ := Rm ho0 HB; have n1_ := Kb BK470 hb; have n2_ := Kb BK471 hb; have n3_ := Bc HB hb; clear BK470 BK471 HB; revert n0_ n1_ n2_ n3_; intro HO477 BK470 BK471 HB
            (try clear hb)
            (try clear hb2)
            (try clear hk)
            (try clear hi)
            (try clear ho0)
            obtain ⟨Ao28, co28, eo28⟩ := Kd.R_slice HO477.out
            (first | subst eo28 | (injection eo28 with f1_ f2_ f3_; have f4_ := f1_.symm; have f5_ := f3_.symm; clear f1_ f2_ f3_; subst f4_; subst f5_))
            refine hK.out _ _ ⟨cz BK470 0, cz BK470 1, cz BK470 2⟩ (fun hHeld => ?_); clear hK K; refine norm_ (a' := ?_) ?_ ?_
            rotate_left
            · show Act.put _ (some 30) _ = _
              simp only [aP, i64_w, i32_w]
              rfl
            refine pure_ (i := 5) (N := some 31) (v := ?_) (a' := ?_) (bA 8 63) rfl rfl (any_of HT_.out (by kernel_rfl)) (fun _ _ _ h => h) (Or.inl ⟨by rfl, ?_⟩) ?_ ?_
            rotate_left
            · intro w'
              go_simp
              with_reducible rfl
            rotate_left
            · simp only [aP, i64_w, i32_w]
              rfl
            refine oZ 6 (some 6) (bA 8 127) HT_.out (fun K hK => ?_); refine box_step ?hg (N := 6) ?hd (cs := #[.int .i64 0, .slice none 0 0, .slice none 0 0]) (t := 51) ?hr ?_; (case hd => rfl); (case hg => rfl); (case hr => first | (go_simp; done) | (go_simp; rfl)); intro gb478 hg w29 hbox hb; have n0_ := Rb HO477 hb; have n1_ := Kb BK470 hb; have n2_ := Kb BK471 hb; have n3_ := Bc HB hb; have n4_ := am (hbox); have n5_ := Gm HB hg; have n6_ := Gm HB hg; have n7_ := Nl BK470 hg; have n8_ := Ng BK470 hg; have n9_ := Nl BK471 hg; have n10_ := Ng BK471 hg; clear HO477 BK470 BK471 HB; revert n0_ n1_ n2_ n3_ n4_ n5_ n6_ n7_ n8_ n9_ n10_; intro HO477 BK470 BK471 HB BK478 GW478 GE478 NB470_478 NB478_470 NB471_478 NB478_471; clear hb hbox hg; refine hK.out _ _ ⟨cz BK470 0, cz BK470 1, cz BK470 2⟩ (fun hHeld => ?_); clear hK K; refine norm_ (a' := ?_) ?_ ?_
            rotate_left
            · show Act.put _ (some 6) _ = _
              simp only [aP, i64_w, i32_w]
              rfl
            exact norm_ (by simp only [putAll, aP]) (hCont (.slice Ao28 t475.length co28, gb478) _ ⟨hHeld, (Rz HO477.out), (Kz BK470.out), (Kz BK471.out), (Kz BK478.out), GW478.out, GE478.out, NB470_478.out, NB478_470.out, NB471_478.out, NB478_471.out, (Bq)⟩)
          · skip
            refine box_step ?hg (N := 6) ?hd (cs := #[.int .i64 0, .slice none 0 0, .slice none 0 0]) (t := 51) ?hr ?_; (case hd => rfl); (case hg => rfl); (case hr => first | (go_simp; done) | (go_simp; rfl)); intro gb478 hg w27 hbox hb; have n0_ := Kb BK470 hb; have n1_ := Kb BK471 hb; have n2_ := Bc HB hb; have n3_ := am (hbox); have n4_ := Gm HB hg; have n5_ := Gm HB hg; have n6_ := Nl BK470 hg; have n7_ := Ng BK470 hg; have n8_ := Nl BK471 hg; have n9_ := Ng BK471 hg; clear BK470 BK471 HB; revert n0_ n1_ n2_ n3_ n4_ n5_ n6_ n7_ n8_ n9_; intro BK470 BK471 HB BK478 GW478 GE478 NB470_478 NB478_470 NB471_478 NB478_471; clear hb hbox hg; refine hK.out _ _ ⟨cz BK470 0, cz BK470 1, cz BK470 2⟩ (fun hHeld => ?_); clear hK K; refine norm_ (a' := ?_) ?_ ?_
            rotate_left
            · show Act.put _ (some 6) _ = _
              simp only [aP, i64_w, i32_w]
              rfl
            refine oZ 4 (some 30) (bA 8 95) HT_.out (fun K hK => ?_); refine gZ Try.func105 #[.slice A0_1 l0_1.length c0_1] ?_
            with_reducible refine (spec_l1OwnS.calls _ _ l0_1 t475 _ ?side1 ?side2 A25.out).mono ?_
            (case side1 => exact Cz (Kd.C_below HR0_1.out HB.out))
            (case side2 => exact HC0_1.out)
            rintro e w28 ⟨v476, rfl, ho0, hb⟩; refine ⟨_, rfl, ?_⟩; have n0_ := Rm ho0 HB; have n1_ := Kb BK470 hb; have n2_ := Kb BK471 hb; have n3_ := Kb BK478 hb; have n4_ := Bc HB hb; clear BK470 BK471 BK478 HB; revert n0_ n1_ n2_ n3_ n4_; intro HO477 BK470 BK471 BK478 HB
            (try clear hb)
            (try clear hb2)
            (try clear hk)
            (try clear hi)
            (try clear ho0)
            obtain ⟨Ao29, co29, eo29⟩ := Kd.R_slice HO477.out
            (first | subst eo29 | (injection eo29 with f1_ f2_ f3_; have f4_ := f1_.symm; have f5_ := f3_.symm; clear f1_ f2_ f3_; subst f4_; subst f5_))
            refine hK.out _ _ ⟨cz BK470 0, cz BK470 1, cz BK470 2⟩ (fun hHeld => ?_); clear hK K; refine norm_ (a' := ?_) ?_ ?_
            rotate_left
            · show Act.put _ (some 30) _ = _
              simp only [aP, i64_w, i32_w]
              rfl
            refine pure_ (i := 5) (N := some 31) (v := ?_) (a' := ?_) (bA 8 127) rfl rfl (any_of HT_.out (by kernel_rfl)) (fun _ _ _ h => h) (Or.inl ⟨by rfl, ?_⟩) ?_ ?_
            rotate_left
            · intro w'
              go_simp
              with_reducible rfl
            rotate_left
            · simp only [aP, i64_w, i32_w]
              rfl
            exact norm_ (by simp only [putAll, aP]) (hCont (.slice Ao29 t475.length co29, gb478) _ ⟨hHeld, (Rz HO477.out), (Kz BK470.out), (Kz BK471.out), (Kz BK478.out), GW478.out, GE478.out, NB470_478.out, NB478_470.out, NB471_478.out, NB478_471.out, (Bq)⟩)
        rintro ⟨v476, gb478⟩ w30 ⟨hS_, h0_, h1_, h2_, h3_, h4_, h5_, h6_, h7_, h8_, h9_, h10_⟩; (try dsimp -simprocs only at h0_ h1_ h2_ h3_ h4_ h5_ h6_ h7_ h8_ h9_ h10_); have n0_ := am h0_; have n1_ := am h1_; have n2_ := am h2_; have n3_ := am h3_; have n4_ := am h4_; have n5_ := am h5_; have n6_ := am h6_; have n7_ := am h7_; have n8_ := am h8_; have n9_ := am h9_; have n10_ : Aside0 (Below w.heap.size w w30) := ⟨h10_⟩; clear BK470 BK471 HB; clear h0_ h1_ h2_ h3_ h4_ h5_ h6_ h7_ h8_ h9_ h10_; revert n0_ n1_ n2_ n3_ n4_ n5_ n6_ n7_ n8_ n9_ n10_; intro HO477 BK470 BK471 BK478 GW478 GE478 NB470_478 NB478_470 NB471_478 NB478_471 HB; have hHeld : w30.cell? ⟨gb470, 0, none⟩ = some (.int .i64 a0_0) ∧ w30.cell? ⟨gb470, 1, none⟩ = some (.slice A0_1 l0_1.length c0_1) ∧ w30.cell? ⟨gb470, 2, none⟩ = some (.slice A0_2 l0_2.length c0_2) := hS_; obtain ⟨Ao31, co31, eo31⟩ := Kd.R_slice HO477.out
        (first | subst eo31 | (injection eo31 with f1_ f2_ f3_; have f4_ := f1_.symm; have f5_ := f3_.symm; clear f1_ f2_ f3_; subst f4_; subst f5_))
        refine norm_ (a' := ?_) ?_ ?_
        rotate_left
        · simp only [putAll, aP]
          rfl
        refine oZ 7 none (bA 8 255) HT_.out (fun K hK => ?_); have hs32 : w30.cell? ⟨gb478, 0, none⟩ = some (.int .i64 0) := cz BK478 0; have hfs32 := blk_frozen BK478.out 0; have hns32_0 := NB470_478.out; have hns32_1 := NB471_478.out; have hms32_0 := NB478_470.out; have hms32_1 := NB478_471.out; have hs33 : w30.cell? ⟨gb478, 1, none⟩ = some (.slice none 0 0) := cz BK478 1; have hfs33 := blk_frozen BK478.out 1; have hns33_0 := NB470_478.out; have hns33_1 := NB471_478.out; have hms33_0 := NB478_470.out; have hms33_1 := NB478_471.out; have hs34 : w30.cell? ⟨gb478, 2, none⟩ = some (.slice none 0 0) := cz BK478 2; have hfs34 := blk_frozen BK478.out 2; have hns34_0 := NB470_478.out; have hns34_1 := NB471_478.out; have hms34_0 := NB478_470.out; have hms34_1 := NB478_471.out; refine skip_ (w1 := ?_) (by rfl) rfl ?_ ?_
        rotate_left
        · go_simp
          rfl
        refine hK.out _ _ ⟨((cell_far (p := ⟨gb478, _, none⟩) NB470_478.out _).trans (((cell_far (p := ⟨gb478, _, none⟩) NB470_478.out _).trans (((cell_far (p := ⟨gb478, _, none⟩) NB470_478.out _).trans (hHeld.1)))))), ((cell_far (p := ⟨gb478, _, none⟩) NB470_478.out _).trans (((cell_far (p := ⟨gb478, _, none⟩) NB470_478.out _).trans (((cell_far (p := ⟨gb478, _, none⟩) NB470_478.out _).trans (hHeld.2.1)))))), ((cell_far (p := ⟨gb478, _, none⟩) NB470_478.out _).trans (((cell_far (p := ⟨gb478, _, none⟩) NB470_478.out _).trans (((cell_far (p := ⟨gb478, _, none⟩) NB470_478.out _).trans (hHeld.2.2))))))⟩ (fun hHeld => ?_); clear hK K; refine done_ (done_of HT_.out (by kernel_rfl)) ?_; have hnb35 := NB470_471.out; have hnc35 := NB471_470.out; have hnb36 := NB470_478.out; have hnc36 := NB478_470.out; obtain ⟨hcz37_0, hcz37_1, hcz37_2, hfz37_0, hfz37_1, hfz37_2⟩ := cf3 (w := w30) BK470
        try go_wp2
        go_loopg [35] kj2 (fun kq v35 w' => ∃ (x35_2 : Int) (x479001_2 : List ByteArray) (u479001 : Value), v35 = .int .i64 x35_2 ∧ Aside0 (spec_CuckooRemove.l0 kq a1 l0_1 (l0_1.length : Int) x35_2 a0_0 l0_1 l0_2 a0_0 x479001_2 = some (r1, r2, r3, r4)) ∧ Aside0 (kq ≤ kj2) ∧ Aside0 (Kd.R Kd.string 9 w' w.heap.size (fun _ => True) u479001 x479001_2) ∧ Aside0 (w'.heap[gb470]? = some (.cells #[.int .i64 a0_0, (.slice A0_1 l0_1.length c0_1), (.slice A0_2 l0_2.length c0_2)] 51 (0, 0))) ∧ Aside0 (w'.heap[gb471]? = some (.cells #[.int .i64 0, (.slice none 0 0), (.slice none 0 0)] 51 (0, 0))) ∧ Aside0 (w'.heap[gb478]? = some (.cells #[.int .i64 a0_0, u479001, (.slice none 0 0)] 51 (0, 0))) ∧ Aside0 (Below w.heap.size w w'))
        case atStart => exact ⟨(0), (t475), (.slice Ao31 t475.length co31), wZ, H', ⟨Nat.le_refl _⟩, ⟨Rz (Kd.R_mono (Kd.R_far (p := ⟨gb478, 2, none⟩) (Kd.R_far (p := ⟨gb478, 1, none⟩) (Kd.R_far (p := ⟨gb478, 0, none⟩) (Kd.R_types HO477.out BK478.out (by decide)) (fun _ hk => hk.2) (.int .i64 a0_0)) (fun _ hk => hk.2) (.slice Ao31 t475.length co31)) (fun _ hk => hk.2) (.slice none 0 0)) (fun _ hk => trivial))⟩, ⟨by (with_reducible repeat (first | refine blk_drewN ?_ _ | refine blk_drew ?_ | refine blk_alloc ?_ _)); refine blk_far ?_ NB470_478.out _; (with_reducible repeat (first | refine blk_drewN ?_ _ | refine blk_drew ?_ | refine blk_alloc ?_ _)); refine blk_far ?_ NB470_478.out _; (with_reducible repeat (first | refine blk_drewN ?_ _ | refine blk_drew ?_ | refine blk_alloc ?_ _)); refine blk_far ?_ NB470_478.out _; (with_reducible repeat (first | refine blk_drewN ?_ _ | refine blk_drew ?_ | refine blk_alloc ?_ _)); exact BK470.out⟩, ⟨by (with_reducible repeat (first | refine blk_drewN ?_ _ | refine blk_drew ?_ | refine blk_alloc ?_ _)); refine blk_far ?_ NB471_478.out _; (with_reducible repeat (first | refine blk_drewN ?_ _ | refine blk_drew ?_ | refine blk_alloc ?_ _)); refine blk_far ?_ NB471_478.out _; (with_reducible repeat (first | refine blk_drewN ?_ _ | refine blk_drew ?_ | refine blk_alloc ?_ _)); refine blk_far ?_ NB471_478.out _; (with_reducible repeat (first | refine blk_drewN ?_ _ | refine blk_drew ?_ | refine blk_alloc ?_ _)); exact BK471.out⟩, ⟨by (with_reducible repeat (first | refine blk_drewN ?_ _ | refine blk_drew ?_ | refine blk_alloc ?_ _)); refine blk_put (cs := #[.int .i64 a0_0, .slice Ao31 t475.length co31, .slice none 0 0]) ?_ 2 _ rfl; (with_reducible repeat (first | refine blk_drewN ?_ _ | refine blk_drew ?_ | refine blk_alloc ?_ _)); refine blk_put (cs := #[.int .i64 a0_0, .slice none 0 0, .slice none 0 0]) ?_ 1 _ rfl; (with_reducible repeat (first | refine blk_drewN ?_ _ | refine blk_drew ?_ | refine blk_alloc ?_ _)); refine blk_put (cs := #[.int .i64 0, .slice none 0 0, .slice none 0 0]) ?_ 0 _ rfl; (with_reducible repeat (first | refine blk_drewN ?_ _ | refine blk_drew ?_ | refine blk_alloc ?_ _)); exact BK478.out⟩, ⟨Bq⟩⟩
        case round =>
          clear H'
          try clear c1
          try clear c2
          try clear p2
          try clear c3
          try clear c4
          try clear c7
          try clear c9
          try clear c10
          try clear c11
          try clear c16
          try clear c19
          try clear c22
          try clear c23
          try clear c35
          try clear c36
          try clear hcz12_0
          try clear hcz12_1
          try clear hcz12_2
          try clear hcz14_0
          try clear hcz14_1
          try clear hcz14_2
          try clear hcz17_0
          try clear hcz17_1
          try clear hcz17_2
          try clear hcz20_0
          try clear hcz20_1
          try clear hcz20_2
          try clear hcz24_0
          try clear hcz24_1
          try clear hcz24_2
          try clear hcz37_0
          try clear hcz37_1
          try clear hcz37_2
          try clear hfz12_0
          try clear hfz12_1
          try clear hfz12_2
          try clear hfz14_0
          try clear hfz14_1
          try clear hfz14_2
          try clear hfz17_0
          try clear hfz17_1
          try clear hfz17_2
          try clear hfz20_0
          try clear hfz20_1
          try clear hfz20_2
          try clear hfz24_0
          try clear hfz24_1
          try clear hfz24_2
          try clear hfz37_0
          try clear hfz37_1
          try clear hfz37_2
          try clear p2
          obtain ⟨x35_2, x479001_2, u479001, rfl, HA, HK2, HO_479001, BK470, BK471, BK478, HB⟩ := hrel; cases gk with
          | zero => exact absurd HA.out (by simp [spec_CuckooRemove.l0])
          | succ k2 =>
            have H := HA.out; clear HA
            simp only [spec_CuckooRemove.l0] at H
            by_cases c38 : x35_2 < (l0_1.length : Int)
            · rw [if_pos c38] at H
              have c38b0 : decide (x35_2 < (l0_1.length : Int)) = true := decide_eq_true c38; clear c38
              by_cases c39 : 0 ≤ x35_2
              · rw [if_pos c39] at H
                have c39b0 : decide (0 ≤ x35_2) = true := decide_eq_true c39; clear c39
                by_cases c40 : x35_2 < (l0_1.length : Int)
                · rw [if_pos c40] at H
                  have c40b0 : decide (x35_2 < (l0_1.length : Int)) = true := decide_eq_true c40; clear c40
                  by_cases c41 : (rdOf ByteArray.empty l0_1 x35_2).toList = a1.toList
                  · rw [if_pos c41] at H
                    have c41b0 : ((rdOf ByteArray.empty l0_1 x35_2).toList == a1.toList) = true := beq_iff_eq.mpr c41; have c41b1 : ((rdOf ByteArray.empty l0_1 x35_2).toList != a1.toList) = false := bne_eq_false_iff_eq.mpr c41; clear c41
                    by_cases c42 : x35_2 < (x479001_2.length : Int)
                    · rw [if_pos c42] at H
                      have c42b0 : decide (x35_2 < (x479001_2.length : Int)) = true := decide_eq_true c42; clear c42; obtain ⟨y480, hy480⟩ : ∃ y_ : List ByteArray, y_ = (x479001_2.set (x35_2 : Int).toNat (⟨#[]⟩ : ByteArray)) := ⟨_, rfl⟩
                      replace H : (spec_CuckooRemove.l0 k2 a1 l0_1 (l0_1.length : Int) (wrap64 (x35_2 + 1)) a0_0 l0_1 l0_2 a0_0 y480) = some (r1, r2, r3, r4) := by first | (rw [hy480]; with_reducible exact H) | (have H2_ := (Option.bind_some _ _).symm.trans H; rw [hy480]; with_reducible exact H2_) | (have H2_ := (Option.bind_some _ _).symm.trans H; with_reducible exact H2_) | with_reducible exact H | (rw [hy480]; exact H) | exact H
                      have Ny480 := am hy480; clear hy480; have H' := am H; clear H; have p479 : 0 ≤ (x35_2 : Int) := dT; have q479 : x35_2 < (l0_1.length : Int) := dT; obtain ⟨ad479, e479, hx479_0⟩ := Kd.at_string HR0_1.out x35_2 p479 q479; cases e479; replace hx479_0 := (HB.out.cell (World.block_lt_of_cell? w _ hx479_0)).trans hx479_0; replace p479 := eq_true p479; replace q479 := eq_true q479; have hnb44 := NB478_470.out; have hnc44 := NB470_478.out; have hnb45 := NB478_471.out; have hnc45 := NB471_478.out; obtain ⟨hcz46_0, hcz46_1, hcz46_2, hfz46_0, hfz46_1, hfz46_2⟩ := cf3 (w := wr) BK478; have p43 : 0 ≤ (x35_2 : Int) := dT; have q43 : (x35_2 : Int) < ((x479001_2.length : Int) : Int) := dT; obtain ⟨go43, co43, eo43, gb43, gl43, cl43, HG43⟩ := Kd.R_form HO_479001.out (by omega)
                      (first | cases eo43 | (injection eo43 with ea_ en_ ec_; (first | subst ea_ | (injection ea_ with ea_; subst ea_)); subst ec_; clear en_))
                      have GB43 := am gb43; have GG43 := am HG43; clear gb43 gl43 HG43; obtain ⟨hx43_0, hf43_0⟩ := Kd.R_celln (⟨#[]⟩ : ByteArray) HO_479001.out (x35_2 : Int) p43 q43; replace p43 := eq_true p43; replace q43 := eq_true q43; have HP47 := Kd.R_putg HO_479001.out (x35_2 : Int) (⟨#[]⟩ : ByteArray)
                      go_wp2_with (first | ((with_reducible refine gate_store (t := 9) (p := 46) rfl ?_); refine store_event (t := 9) (p := 46) (v := ?vo_w48) (w1 := (wr.setCell ⟨go43, (x35_2 : Int).toNat, none⟩ (.string (⟨#[]⟩ : ByteArray)))) ?hg ?ho ?hn ?hr ?_; (case ho => rfl); (case hg => rfl); (case hn => rfl); (case hr => first | (go_simp; done) | (go_simp; rfl)); intro w48 hw; have hg : wr.grownBy w48 (some go43) := (by rw [hw]; exact HP47.2); have hp_ : Kd.R Kd.string 9 w48 w.heap.size (fun _ => True) (.slice (some ⟨go43, 0, none⟩) x479001_2.length co43) y480 := (by rw [hw, Ny480.out]; exact HP47.1); clear HP47; have n0_ := am (hp_); have n1_ := am (blk_grown (g := gb470) (o := .cells #[.int .i64 a0_0, .slice (some ad479) l0_1.length c0_1, .slice A0_2 l0_2.length c0_2] 51 (0, 0)) (Kz BK470.out) hg (Kd.R_ne HO_479001.out BK470.out (by decide))); have n2_ := am (blk_grown (g := gb471) (o := .cells #[.int .i64 0, .slice none 0 0, .slice none 0 0] 51 (0, 0)) (Kz BK471.out) hg (Kd.R_ne HO_479001.out BK471.out (by decide))); have n3_ := am (blk_grown (g := gb478) (o := .cells #[.int .i64 a0_0, .slice (some ⟨go43, 0, none⟩) x479001_2.length co43, .slice none 0 0] 51 (0, 0)) (Kz BK478.out) hg (Kd.R_ne HO_479001.out BK478.out (by decide))); have n4_ := am ((by rw [hw]; exact below_set (HB.out) GB43.out : Below w.heap.size w w48)); clear HO_479001 BK470 BK471 BK478 HB; revert n0_ n1_ n2_ n3_ n4_; intro HO_479001 BK470 BK471 BK478 HB; clear hg hw hp_))
                      go_roundg k2
                      case measure => have := HJ2.out; have := HK2.out; omega
                      case rel => exact ⟨(wrap64 (x35_2 + 1)), (y480), (.slice (some ⟨go43, 0, none⟩) x479001_2.length co43), wZ, H', ⟨by have := HJ2.out; have := HK2.out; omega⟩, ⟨Rz HO_479001.out⟩, ⟨Kz BK470.out⟩, ⟨Kz BK471.out⟩, ⟨Kz BK478.out⟩, ⟨Bq⟩⟩
                    · rw [if_neg c42] at H
                      exact absurd H (by simp)
                  · rw [if_neg c41] at H
                    have c41b0 : ((rdOf ByteArray.empty l0_1 x35_2).toList == a1.toList) = false := beq_eq_false_iff_ne.mpr c41; have c41b1 : ((rdOf ByteArray.empty l0_1 x35_2).toList != a1.toList) = true := bne_iff_ne.mpr c41; have H' := am H; clear H; have p479 : 0 ≤ (x35_2 : Int) := dT; have q479 : x35_2 < (l0_1.length : Int) := dT; obtain ⟨ad479, e479, hx479_0⟩ := Kd.at_string HR0_1.out x35_2 p479 q479; cases e479; replace hx479_0 := (HB.out.cell (World.block_lt_of_cell? w _ hx479_0)).trans hx479_0; replace p479 := eq_true p479; replace q479 := eq_true q479
                    go_wp2
                    go_roundg k2
                    case measure => have := HJ2.out; have := HK2.out; omega
                    case rel => exact ⟨(wrap64 (x35_2 + 1)), (x479001_2), (u479001), wZ, H', ⟨by have := HJ2.out; have := HK2.out; omega⟩, ⟨Rz HO_479001.out⟩, ⟨Kz BK470.out⟩, ⟨Kz BK471.out⟩, ⟨Kz BK478.out⟩, ⟨Bq⟩⟩
                · rw [if_neg c40] at H
                  exact absurd H (by simp)
              · rw [if_neg c39] at H
                exact absurd H (by simp)
            · rw [if_neg c38] at H
              have c38b0 : decide (x35_2 < (l0_1.length : Int)) = false := decide_eq_false c38; clear c38; have H' := am H; clear H; have hnb49 := NB470_471.out; have hnc49 := NB471_470.out; have hnb50 := NB470_478.out; have hnc50 := NB478_470.out; obtain ⟨hcz51_0, hcz51_1, hcz51_2, hfz51_0, hfz51_1, hfz51_2⟩ := cf3 (w := wr) BK470
              go_wp2
              go_loopg [51] k2 (fun kq v51 w' => ∃ (x51_3 : Int) (x479002_3 : List ByteArray) (u479002 : Value), v51 = .int .i64 x51_3 ∧ Aside0 (spec_CuckooRemove.l1 kq a1 l0_2 (l0_2.length : Int) x51_3 a0_0 x479001_2 x479002_3 = some (r1, r2, r3, r4)) ∧ Aside0 (kq ≤ k2) ∧ Aside0 (Kd.R Kd.string 9 w' w.heap.size (fun k_ => some k_ ≠ (u479002 : Value).ownBlock) u479001 x479001_2) ∧ Aside0 (Kd.R Kd.string 9 w' w.heap.size (fun k_ => some k_ ≠ (u479001 : Value).ownBlock) u479002 x479002_3) ∧ Aside0 (w'.heap[gb470]? = some (.cells #[.int .i64 a0_0, (.slice A0_1 l0_1.length c0_1), (.slice A0_2 l0_2.length c0_2)] 51 (0, 0))) ∧ Aside0 (w'.heap[gb471]? = some (.cells #[.int .i64 0, (.slice none 0 0), (.slice none 0 0)] 51 (0, 0))) ∧ Aside0 (w'.heap[gb478]? = some (.cells #[.int .i64 a0_0, u479001, u479002] 51 (0, 0))) ∧ Aside0 (Below w.heap.size w w'))
              case atStart => exact ⟨(0), (([] : List ByteArray)), (.slice none 0 0), wZ, H', ⟨Nat.le_refl _⟩, ⟨Rz (Kd.R_mono HO_479001.out (fun _ hk => (by simp [Value.ownBlock])))⟩, ⟨nZ⟩, ⟨Kz BK470.out⟩, ⟨Kz BK471.out⟩, ⟨Kz BK478.out⟩, ⟨Bq⟩⟩
              case round =>
                clear H'
                try clear c1
                try clear c2
                try clear p2
                try clear c3
                try clear c4
                try clear p4
                try clear q4
                try clear hx4
                try clear hf4
                try clear c5
                try clear p6
                try clear c7
                try clear c9
                try clear c10
                try clear c11
                try clear c16
                try clear c19
                try clear c22
                try clear c23
                try clear c35
                try clear c36
                try clear c38
                try clear c38b0
                try clear c39
                try clear c39b0
                try clear c40
                try clear c40b0
                try clear c41
                try clear c41b0
                try clear c41b1
                try clear c42
                try clear c42b0
                try clear p43
                try clear q43
                try clear hx43
                try clear hf43
                try clear c44
                try clear c45
                try clear p47
                try clear q47
                try clear hx47
                try clear c49
                try clear c50
                try clear hcz12_0
                try clear hcz12_1
                try clear hcz12_2
                try clear hcz14_0
                try clear hcz14_1
                try clear hcz14_2
                try clear hcz17_0
                try clear hcz17_1
                try clear hcz17_2
                try clear hcz20_0
                try clear hcz20_1
                try clear hcz20_2
                try clear hcz24_0
                try clear hcz24_1
                try clear hcz24_2
                try clear hcz37_0
                try clear hcz37_1
                try clear hcz37_2
                try clear hcz46_0
                try clear hcz46_1
                try clear hcz46_2
                try clear hcz51_0
                try clear hcz51_1
                try clear hcz51_2
                try clear hfz12_0
                try clear hfz12_1
                try clear hfz12_2
                try clear hfz14_0
                try clear hfz14_1
                try clear hfz14_2
                try clear hfz17_0
                try clear hfz17_1
                try clear hfz17_2
                try clear hfz20_0
                try clear hfz20_1
                try clear hfz20_2
                try clear hfz24_0
                try clear hfz24_1
                try clear hfz24_2
                try clear hfz37_0
                try clear hfz37_1
                try clear hfz37_2
                try clear hfz46_0
                try clear hfz46_1
                try clear hfz46_2
                try clear hfz51_0
                try clear hfz51_1
                try clear hfz51_2
                try clear hx43_0
                try clear hx479_0
                try clear p2
                try clear p43
                try clear p479
                try clear q43
                try clear q479
                obtain ⟨x51_3, x479002_3, u479002, rfl, HA, HK3, HO_479001, HO_479002, BK470, BK471, BK478, HB⟩ := hrel; cases gk with
                | zero => exact absurd HA.out (by simp [spec_CuckooRemove.l1])
                | succ k3 =>
                  have H := HA.out; clear HA
                  simp only [spec_CuckooRemove.l1] at H
                  by_cases c52 : x51_3 < (l0_2.length : Int)
                  · rw [if_pos c52] at H
                    have c52b0 : decide (x51_3 < (l0_2.length : Int)) = true := decide_eq_true c52; clear c52
                    by_cases c53 : 0 ≤ x51_3
                    · rw [if_pos c53] at H
                      have c53b0 : decide (0 ≤ x51_3) = true := decide_eq_true c53; clear c53
                      by_cases c54 : x51_3 < (l0_2.length : Int)
                      · rw [if_pos c54] at H
                        have c54b0 : decide (x51_3 < (l0_2.length : Int)) = true := decide_eq_true c54; clear c54
                        by_cases c55 : (rdOf ByteArray.empty l0_2 x51_3).toList = a1.toList
                        · rw [if_pos c55] at H
                          have c55b0 : ((rdOf ByteArray.empty l0_2 x51_3).toList == a1.toList) = true := beq_iff_eq.mpr c55; have c55b1 : ((rdOf ByteArray.empty l0_2 x51_3).toList != a1.toList) = false := bne_eq_false_iff_eq.mpr c55; clear c55; have H' := am H; clear H; have p481 : 0 ≤ (x51_3 : Int) := dT; have q481 : x51_3 < (l0_2.length : Int) := dT; obtain ⟨ad481, e481, hx481_0⟩ := Kd.at_string HR0_2.out x51_3 p481 q481; cases e481; replace hx481_0 := (HB.out.cell (World.block_lt_of_cell? w _ hx481_0)).trans hx481_0; replace p481 := eq_true p481; replace q481 := eq_true q481
                          go_wp2
                          go_roundg k3
                          case measure => have := HJ2.out; have := HK2.out; have := HK3.out; omega
                          case rel => exact ⟨(wrap64 (x51_3 + 1)), (x479002_3), (u479002), wZ, H', ⟨by have := HJ2.out; have := HK2.out; have := HK3.out; omega⟩, ⟨Rz HO_479001.out⟩, ⟨Rz HO_479002.out⟩, ⟨Kz BK470.out⟩, ⟨Kz BK471.out⟩, ⟨Kz BK478.out⟩, ⟨Bq⟩⟩
                        · rw [if_neg c55] at H
                          have c55b0 : ((rdOf ByteArray.empty l0_2 x51_3).toList == a1.toList) = false := beq_eq_false_iff_ne.mpr c55; have c55b1 : ((rdOf ByteArray.empty l0_2 x51_3).toList != a1.toList) = true := bne_iff_ne.mpr c55
                          by_cases c56 : x479002_3.length < 8796093022208
                          · rw [if_pos c56] at H
                            have LMc56 := am c56; clear c56; obtain ⟨y482, hy482⟩ : ∃ y_ : List ByteArray, y_ = (x479002_3 ++ [rdOf ByteArray.empty l0_2 x51_3]) := ⟨_, rfl⟩
                            replace H : (spec_CuckooRemove.l1 k3 a1 l0_2 (l0_2.length : Int) (wrap64 (x51_3 + 1)) a0_0 x479001_2 y482) = some (r1, r2, r3, r4) := by first | (rw [hy482]; with_reducible exact H) | (have H2_ := (Option.bind_some _ _).symm.trans H; rw [hy482]; with_reducible exact H2_) | (have H2_ := (Option.bind_some _ _).symm.trans H; with_reducible exact H2_) | with_reducible exact H | (rw [hy482]; exact H) | exact H
                            have Ny482 := am hy482; clear hy482; have H' := am H; clear H; have p481 : 0 ≤ (x51_3 : Int) := dT; have q481 : x51_3 < (l0_2.length : Int) := dT; obtain ⟨ad481, e481, hx481_0⟩ := Kd.at_string HR0_2.out x51_3 p481 q481; cases e481; replace hx481_0 := (HB.out.cell (World.block_lt_of_cell? w _ hx481_0)).trans hx481_0; replace p481 := eq_true p481; replace q481 := eq_true q481; have hnb57 := NB478_470.out; have hnc57 := NB470_478.out; have hnb58 := NB478_471.out; have hnc58 := NB471_478.out; obtain ⟨hcz59_0, hcz59_1, hcz59_2, hfz59_0, hfz59_1, hfz59_2⟩ := cf3 (w := wr) BK478
                            go_wp2_with (first | ((with_reducible refine gate_builtin (b := .append) (xs := #[.tmp 59, .tmp 61]) rfl ?_); at_builtin; refine Kd.R_append Kd.string (w0 := w) w.heap.size rfl (.tmp 59) (.tmp 61) 24 9 (.string ⟨#[]⟩) 16 rfl Try.underlying24 info9 rfl (by decide) (by omega) u479002 x479002_3 (rdOf ByteArray.empty l0_2 x51_3) [.string (rdOf ByteArray.empty l0_2 x51_3)] (fun k_ => some k_ ≠ (u479001 : Value).ownBlock) (fun _ => False) rfl rfl ?aP (fun _ hk => hk.elim) ?aF ?aO ?aB ?aS ?aL ?_; (case aP => exact rfl); (case aB => exact (Bq)); (case aF => exact (fun k_ hk => Kd.fresh' (Kd.R_lt (Rz HO_479001.out)) k_ hk)); (case aO => exact (Rz HO_479002.out)); (case aS => exact (below_size (w := w) (Bq))); (case aL => have := LMc56.out; omega); intro v483 w60 ho hb hg hat; rw [← Ny482.out] at ho; have n0_ := am (Kd.R_after (ok := (fun _ => True)) (Rz (Kd.R_mono HO_479001.out (fun _ hk => ⟨trivial, hk⟩))) hg hat); have n1_ := am (blk_grown (g := gb470) (o := .cells #[.int .i64 a0_0, .slice A0_1 l0_1.length c0_1, .slice (some ad481) l0_2.length c0_2] 51 (0, 0)) (Kz BK470.out) hg (Kd.R_ne HO_479002.out BK470.out (by decide))); have n2_ := am (blk_grown (g := gb471) (o := .cells #[.int .i64 0, .slice none 0 0, .slice none 0 0] 51 (0, 0)) (Kz BK471.out) hg (Kd.R_ne HO_479002.out BK471.out (by decide))); have n3_ := am (blk_grown (g := gb478) (o := .cells #[.int .i64 a0_0, u479001, u479002] 51 (0, 0)) (Kz BK478.out) hg (Kd.R_ne HO_479002.out BK478.out (by decide))); have n4_ := am (hb); have n5_ := am (ho); clear HO_479001 BK470 BK471 BK478 HB HO_479002; revert n0_ n1_ n2_ n3_ n4_ n5_; intro HO_479001 BK470 BK471 BK478 HB HO484; clear ho hb hg hat; obtain ⟨Ao61, co61, eo61⟩ := Kd.R_slice HO484.out; subst eo61; obtain ⟨hcz62_0, hcz62_1, hcz62_2, hfz62_0, hfz62_1, hfz62_2⟩ := cf3 (w := w60) BK478))
                            go_roundg k3
                            case measure => have := HJ2.out; have := HK2.out; have := HK3.out; omega
                            case rel => exact ⟨(wrap64 (x51_3 + 1)), (y482), (.slice Ao61 y482.length co61), wZ, H', ⟨by have := HJ2.out; have := HK2.out; have := HK3.out; omega⟩, ⟨Rz (Kd.R_mono (Kd.R_far (p := ⟨gb478, 2, none⟩) (Kd.R_types HO_479001.out BK478.out (by decide)) (fun _ hk => hk.2) (.slice Ao61 y482.length co61)) (fun _ hk => hk.1.2))⟩, ⟨Rz (Kd.R_mono (Kd.R_far (p := ⟨gb478, 2, none⟩) (Kd.R_types HO484.out BK478.out (by decide)) (fun _ hk => hk.2) (.slice Ao61 y482.length co61)) (fun _ hk => hk.1))⟩, ⟨by (with_reducible repeat (first | refine blk_drewN ?_ _ | refine blk_drew ?_ | refine blk_alloc ?_ _)); refine blk_far ?_ NB470_478.out _; (with_reducible repeat (first | refine blk_drewN ?_ _ | refine blk_drew ?_ | refine blk_alloc ?_ _)); exact BK470.out⟩, ⟨by (with_reducible repeat (first | refine blk_drewN ?_ _ | refine blk_drew ?_ | refine blk_alloc ?_ _)); refine blk_far ?_ NB471_478.out _; (with_reducible repeat (first | refine blk_drewN ?_ _ | refine blk_drew ?_ | refine blk_alloc ?_ _)); exact BK471.out⟩, ⟨by (with_reducible repeat (first | refine blk_drewN ?_ _ | refine blk_drew ?_ | refine blk_alloc ?_ _)); refine blk_put (cs := #[.int .i64 a0_0, u479001, u479002]) ?_ 2 _ rfl; (with_reducible repeat (first | refine blk_drewN ?_ _ | refine blk_drew ?_ | refine blk_alloc ?_ _)); exact BK478.out⟩, ⟨Bq⟩⟩
                          · rw [if_neg c56] at H
                            exact absurd H (by simp)
                      · rw [if_neg c54] at H
                        exact absurd H (by simp)
                    · rw [if_neg c53] at H
                      exact absurd H (by simp)
                  · rw [if_neg c52] at H
                    have c52b0 : decide (x51_3 < (l0_2.length : Int)) = false := decide_eq_false c52; clear c52
                    simp only [Option.some.injEq, Prod.mk.injEq] at H
                    obtain ⟨rfl, rfl, rfl, rfl⟩ := H; have hnb63 := NB478_470.out; have hnc63 := NB470_478.out; have hnb64 := NB478_471.out; have hnc64 := NB471_478.out; obtain ⟨hcz65_0, hcz65_1, hcz65_2, hfz65_0, hfz65_1, hfz65_2⟩ := cf3 (w := wr) BK478; have hnb66 := NB471_470.out; have hnc66 := NB470_471.out; obtain ⟨hcz67_0, hcz67_1, hcz67_2, hfz67_0, hfz67_1, hfz67_2⟩ := cf3 (w := wr) BK471; obtain ⟨Ao68, co68, eo68⟩ := Kd.R_slice HO_479001.out; subst eo68; obtain ⟨Ao69, co69, eo69⟩ := Kd.R_slice HO_479002.out; subst eo69
                    go_wp2
                    refine bodyPost_ret (results_ct rfl _ _ gb471 51 #[.int .i64 a0_0, .slice Ao68 x479001_2.length co68, .slice Ao69 x479002_3.length co69] (0, 0) _ rfl (by (with_reducible repeat (first | refine blk_drewN ?_ _ | refine blk_drew ?_ | refine blk_alloc ?_ _)); refine blk_put (cs := #[.int .i64 a0_0, .slice Ao68 x479001_2.length co68, .slice none 0 0]) ?_ 2 _ rfl; (with_reducible repeat (first | refine blk_drewN ?_ _ | refine blk_drew ?_ | refine blk_alloc ?_ _)); refine blk_put (cs := #[.int .i64 a0_0, .slice none 0 0, .slice none 0 0]) ?_ 1 _ rfl; (with_reducible repeat (first | refine blk_drewN ?_ _ | refine blk_drew ?_ | refine blk_alloc ?_ _)); refine blk_put (cs := #[.int .i64 0, .slice none 0 0, .slice none 0 0]) ?_ 0 _ rfl; exact Kz BK471.out) Try.underlying51 rfl (by kernel_rfl)) rfl ?_; exact ⟨_, _, eZ, Rz (Kd.R_mono (Kd.R_far (p := ⟨gb471, 2, none⟩) (Kd.R_far (p := ⟨gb471, 1, none⟩) (Kd.R_far (p := ⟨gb471, 0, none⟩) (Kd.R_types HO_479001.out BK471.out (by decide)) (fun _ hk => hk.2) (.int .i64 a0_0)) (fun _ hk => hk.2) (.slice Ao68 x479001_2.length co68)) (fun _ hk => hk.2) (.slice Ao69 x479002_3.length co69)) (fun _ hk => hk.1)), Rz (Kd.R_mono (Kd.R_far (p := ⟨gb471, 2, none⟩) (Kd.R_far (p := ⟨gb471, 1, none⟩) (Kd.R_far (p := ⟨gb471, 0, none⟩) (Kd.R_types HO_479002.out BK471.out (by decide)) (fun _ hk => hk.2) (.int .i64 a0_0)) (fun _ hk => hk.2) (.slice Ao68 x479001_2.length co68)) (fun _ hk => hk.2) (.slice Ao69 x479002_3.length co69)) (fun _ hk => hk.1)), Bq⟩

def spec_DrawCuckooUnstash.l0 : Nat → Int → List Int → Int → Int → Int → List ByteArray → List ByteArray → Option (Int × List ByteArray × List ByteArray)
  | 0, _, _, _, _, _, _, _ => none
  | k + 1, x5, x500000, x500001, x500002, x510000, x510001, x510002 => if x5 > 0 then ((spec_l1Cur_pick.f x500000 x500001 x500002 (x510001.length : Int)).bind fun bt513 => (if 0 ≤ bt513.1 then (if bt513.1 < (x510001.length : Int) then (spec_DrawCuckooUnstash.l0 k (wrap64 (x5 - 1)) x500000 bt513.2.1 bt513.2.2 x510000 (x510001.set (bt513.1 : Int).toNat (⟨#[]⟩ : ByteArray)) x510002) else (none)) else (none))) else (some (x510000, x510001, x510002))
def spec_DrawCuckooUnstash.f (k : Nat) (l0 : List Int) : Option (Int × List ByteArray × List ByteArray) := (spec_l1Cur_cuckoo.f k l0 0 0).bind fun bt500 => ((spec_l1Cur_pick.f l0 bt500.2.2.2.1 bt500.2.2.2.2 6).bind fun bt510 => (spec_DrawCuckooUnstash.l0 k bt510.1 l0 bt510.2.1 bt510.2.2 bt500.1 bt500.2.1 bt500.2.2.1))
def spec_DrawCuckooUnstash.T6 : Bool × List (List Nat × List Nat) := (true, [([], []), ([0], [0]), ([], []), ([], []), ([3], [3]), ([4], [4]), ([2, 5], [2, 5]), ([1, 6, 0, 1, 2, 3, 4, 5, 6], [1, 6]), ([7, 6, 0, 1, 2, 3, 4, 5, 6], [7])])
def spec_DrawCuckooUnstash.B6 : List Nat := [0, 1, 0, 0, 8, 24, 60, 127, 255]
theorem spec_DrawCuckooUnstash.tab6 : rtab .any (opsOf Try.f48 6) = spec_DrawCuckooUnstash.T6 := by kernel_rfl
theorem spec_DrawCuckooUnstash.bits6 : waitsOk spec_DrawCuckooUnstash.T6.2 spec_DrawCuckooUnstash.B6 = true := by kernel_rfl
theorem spec_DrawCuckooUnstash.calls (k : Nat) (A0 : Option Addr) (c0 : Nat) (l0 : List Int) (r1 : Int) (r2 : List ByteArray) (r3 : List ByteArray) (w : World) (hr0 : Kd.C (Kd.int .u8) w A0 l0.length l0) (hc0 : l0.length ≤ c0) (h : spec_DrawCuckooUnstash.f k l0 = some (r1, r2, r3)) :
    Calls Try.prog 48 #[.slice A0 l0.length c0] w fun e w' => ∃ v1_ v2_ : Value, e = .returned (.agg #[.int .i64 r1, v1_, v2_]) ∧ Kd.R Kd.string 9 w' w.heap.size (fun k_ => some k_ ≠ (v2_ : Value).ownBlock) v1_ r2 ∧ Kd.R Kd.string 9 w' w.heap.size (fun k_ => some k_ ≠ (v1_ : Value).ownBlock) v2_ r3 ∧ Below w.heap.size w w' := by
  have hu51 := Try.underlying51; have hu75 := Try.underlying75; have HR0 := am hr0; have HC0 := am hc0; clear hr0 hc0; have HB := am (Below.refl w.heap.size w); have H : ((spec_l1Cur_cuckoo.f k l0 0 0).bind fun bt500 => ((spec_l1Cur_pick.f l0 bt500.2.2.2.1 bt500.2.2.2.2 6).bind fun bt510 => (spec_DrawCuckooUnstash.l0 k bt510.1 l0 bt510.2.1 bt510.2.2 bt500.1 bt500.2.1 bt500.2.2.1))) = some (r1, r2, r3) := h; clear h; replace H := Option.bind_eq_some_iff.mp H; obtain ⟨⟨t500, t501, t504, t507, t508⟩, A20, H⟩ := H; (try dsimp -simprocs only at H); have A2 := am A20; clear A20; replace H := Option.bind_eq_some_iff.mp H; obtain ⟨⟨t510, t511, t512⟩, A30, H⟩ := H; (try dsimp -simprocs only at H); have A3 := am A30; clear A30; have H' := am H; clear H
  go_enter Try.func48, Try.ntmps48
  go_wp2_with (first | ((with_reducible refine gate_dst (N := 2) rfl ?_); refine bE 2 #[.int .i64 0, .slice none 0 0, .slice none 0 0] 51 ?_; intro gb498 hg w4 hbox hb; have n0_ := Bb HB hb; have n1_ := am (hbox); have n2_ := Gl HB hg; have n3_ := Gl HB hg; clear HB; revert n0_ n1_ n2_ n3_; intro HB BK498 GW498 GE498; clear hb hbox hg) | ((with_reducible refine gate_dst (N := 8) rfl ?_); refine bE 8 #[.slice A0 l0.length c0, .int .i64 0, .int .u64 0] 75 ?_; intro gb499 hg w5 hbox hb; have n0_ := Kb BK498 hb; have n1_ := Bc HB hb; have n2_ := am (hbox); have n3_ := Gm HB hg; have n4_ := Gm HB hg; have n5_ := Nl BK498 hg; have n6_ := Ng BK498 hg; clear BK498 HB; revert n0_ n1_ n2_ n3_ n4_ n5_ n6_; intro BK498 HB BK499 GW499 GE499 NB498_499 NB499_498; clear hb hbox hg; have HI499 := am (show IsS75 w _ gb499 l0 0 0 from ⟨A0, c0, BK499.out, GE499.out, HR0.out⟩); clear BK499) | ((with_reducible refine gate_callee (f := 95) rfl ?_); refine gL (some 10) Try.func95 #[.pointer (some ⟨gb499, 0, none⟩)] ?_; (with_reducible refine (spec_l1Cur_cuckoo.calls k gb499 l0 0 0 t500 t501 t504 t507 t508 w _ ?side1 ?side2 A2.out).mono ?_); (case side1 => repeat (first | (with_reducible first | exact HI499.out | apply IsS75.alloc | apply IsS75.drewN | apply IsS75.drew | apply IsS75.set_1 | apply IsS75.set_2 | refine IsS75.far ?_ NB499_498.out _) | exact HI499.out)); (case side2 => repeat (first | (with_reducible first | exact HB.out | apply below_alloc | apply pw_below_drewN | apply below_drew1 | refine below_set ?_ (IsS75.ge HI499.out) | refine below_set ?_ GE498.out) | exact HB.out)); rintro e w6 ⟨v502, v505, rfl, ho0, ho1, hi, hb, hk⟩; refine ⟨_, rfl, ?_⟩; have n0_ := am (KeepBut.blk hk (g' := gb498) (o := .cells #[.int .i64 0, .slice none 0 0, .slice none 0 0] 51 (0, 0)) (Kz BK498.out) NB498_499.out (by simp)); have n1_ := am (Kd.R_lower ho0 (below_size (by repeat (first | (with_reducible first | exact HB.out | apply below_alloc | apply pw_below_drewN | apply below_drew1 | refine below_set ?_ (IsS75.ge HI499.out) | refine below_set ?_ GE498.out) | exact HB.out)))); have n2_ := am (Kd.R_lower ho1 (below_size (by repeat (first | (with_reducible first | exact HB.out | apply below_alloc | apply pw_below_drewN | apply below_drew1 | refine below_set ?_ (IsS75.ge HI499.out) | refine below_set ?_ GE498.out) | exact HB.out)))); have n3_ := am (hb); have n4_ := am (hi); clear BK498 HB HI499; revert n0_ n1_ n2_ n3_ n4_; intro BK498 HO503 HO506 HB HI499; (try clear hb); (try clear hb2); (try clear hk); (try clear hi); (try clear ho0); (try clear ho1)) | ((with_reducible refine gate_dst (N := 4) rfl ?_); refine bE 4 #[.int .i64 0, .slice none 0 0, .slice none 0 0] 51 ?_; intro gb509 hg w7 hbox hb; have n0_ := Rb HO503 hb; have n1_ := Rb HO506 hb; have n2_ := Kb BK498 hb; have n3_ := am (IsS75.below (by repeat (first | (with_reducible first | exact HI499.out | apply IsS75.alloc | apply IsS75.drewN | apply IsS75.drew | apply IsS75.set_1 | apply IsS75.set_2 | refine IsS75.far ?_ NB499_498.out _) | exact HI499.out)) hb); have n4_ := am (below_step (by repeat (first | (with_reducible first | exact HB.out | apply below_alloc | apply pw_below_drewN | apply below_drew1 | refine below_set ?_ (IsS75.ge HI499.out) | refine below_set ?_ GE498.out) | exact HB.out)) hb); have n5_ := am (hbox); have n6_ := am ((by rw [hg]; exact (below_size (by repeat (first | (with_reducible first | exact HB.out | apply below_alloc | apply pw_below_drewN | apply below_drew1 | refine below_set ?_ (IsS75.ge HI499.out) | refine below_set ?_ GE498.out) | exact HB.out))) : w.heap.size ≤ gb509)); have n7_ := am ((by rw [hg]; exact (below_size (by repeat (first | (with_reducible first | exact HB.out | apply below_alloc | apply pw_below_drewN | apply below_drew1 | refine below_set ?_ (IsS75.ge HI499.out) | refine below_set ?_ GE498.out) | exact HB.out))) : w.heap.size ≤ gb509)); have n8_ := Nl BK498 hg; have n9_ := Ng BK498 hg; have n10_ := am ((by rw [hg]; exact Nat.ne_of_lt (IsS75.lt (show IsS75 w _ gb499 l0 t507 t508 from by repeat (first | (with_reducible first | exact HI499.out | apply IsS75.alloc | apply IsS75.drewN | apply IsS75.drew | apply IsS75.set_1 | apply IsS75.set_2 | refine IsS75.far ?_ NB499_498.out _) | exact HI499.out))) : gb499 ≠ gb509)); have n11_ := am ((by rw [hg]; exact Nat.ne_of_gt (IsS75.lt (show IsS75 w _ gb499 l0 t507 t508 from by repeat (first | (with_reducible first | exact HI499.out | apply IsS75.alloc | apply IsS75.drewN | apply IsS75.drew | apply IsS75.set_1 | apply IsS75.set_2 | refine IsS75.far ?_ NB499_498.out _) | exact HI499.out))) : gb509 ≠ gb499)); clear HO503 HO506 BK498 HI499 HB; revert n0_ n1_ n2_ n3_ n4_ n5_ n6_ n7_ n8_ n9_ n10_ n11_; intro HO503 HO506 BK498 HI499 HB BK509 GW509 GE509 NB498_509 NB509_498 NB499_509 NB509_499; clear hb hbox hg; have hnb8 := NB509_498.out; have hnc8 := NB498_509.out; have hnb9 := NB509_499.out; have hnc9 := NB499_509.out; obtain ⟨hcz10_0, hcz10_1, hcz10_2, hfz10_0, hfz10_1, hfz10_2⟩ := cf3 (w := w7) BK509; obtain ⟨Ao11, co11, eo11⟩ := Kd.R_slice HO503.out; subst eo11; obtain ⟨Ao12, co12, eo12⟩ := Kd.R_slice HO506.out; subst eo12) | ((with_reducible refine gate_callee (f := 81) rfl ?_); refine gL (some 12) Try.func81 #[.pointer (some ⟨gb499, 0, none⟩), .int .i64 6] ?_; (with_reducible refine (spec_l1Cur_pick.calls gb499 l0 t507 t508 6 t510 t511 t512 w _ ?side1 ?side2 A3.out).mono ?_); (case side1 => repeat (first | (with_reducible first | exact HI499.out | apply IsS75.alloc | apply IsS75.drewN | apply IsS75.drew | apply IsS75.set_1 | apply IsS75.set_2 | refine IsS75.far ?_ NB499_498.out _ | refine IsS75.far ?_ NB499_509.out _) | exact HI499.out)); (case side2 => repeat (first | (with_reducible first | exact HB.out | apply below_alloc | apply pw_below_drewN | apply below_drew1 | refine below_set ?_ (IsS75.ge HI499.out) | refine below_set ?_ GE498.out | refine below_set ?_ GE509.out) | exact HB.out)); rintro e w13 ⟨rfl, hi, hb, hk⟩; refine ⟨_, rfl, ?_⟩; have n0_ := am (KeepBut.blk hk (g' := gb498) (o := .cells #[.int .i64 0, .slice none 0 0, .slice none 0 0] 51 (0, 0)) (by (with_reducible repeat (first | refine blk_drewN ?_ _ | refine blk_drew ?_ | refine blk_alloc ?_ _)); refine blk_far ?_ NB498_509.out _; (with_reducible repeat (first | refine blk_drewN ?_ _ | refine blk_drew ?_ | refine blk_alloc ?_ _)); refine blk_far ?_ NB498_509.out _; (with_reducible repeat (first | refine blk_drewN ?_ _ | refine blk_drew ?_ | refine blk_alloc ?_ _)); refine blk_far ?_ NB498_509.out _; exact Kz BK498.out) NB498_499.out (by simp)); have n1_ := am (Kd.R_mono (Kd.R_keep (IsS75.apart (show IsS75 w _ gb499 l0 t507 t508 from by repeat (first | (with_reducible first | exact HI499.out | apply IsS75.alloc | apply IsS75.drewN | apply IsS75.drew | apply IsS75.set_1 | apply IsS75.set_2 | refine IsS75.far ?_ NB499_498.out _ | refine IsS75.far ?_ NB499_509.out _) | exact HI499.out)) (Rz (Kd.R_mono (Kd.R_far (p := ⟨gb509, 2, none⟩) (Kd.R_far (p := ⟨gb509, 1, none⟩) (Kd.R_far (p := ⟨gb509, 0, none⟩) (Kd.R_types HO503.out BK509.out (by decide)) (fun _ hk => hk.2) (.int .i64 t500)) (fun _ hk => hk.2) (.slice Ao11 t501.length co11)) (fun _ hk => hk.2) (.slice Ao12 t504.length co12)) (fun _ h_ => h_.1))) (by decide)) hk (fun _ h => h.2)) (fun _ h => h.1)); have n2_ := am (Kd.R_mono (Kd.R_keep (IsS75.apart (show IsS75 w _ gb499 l0 t507 t508 from by repeat (first | (with_reducible first | exact HI499.out | apply IsS75.alloc | apply IsS75.drewN | apply IsS75.drew | apply IsS75.set_1 | apply IsS75.set_2 | refine IsS75.far ?_ NB499_498.out _ | refine IsS75.far ?_ NB499_509.out _) | exact HI499.out)) (Rz (Kd.R_mono (Kd.R_far (p := ⟨gb509, 2, none⟩) (Kd.R_far (p := ⟨gb509, 1, none⟩) (Kd.R_far (p := ⟨gb509, 0, none⟩) (Kd.R_types HO506.out BK509.out (by decide)) (fun _ hk => hk.2) (.int .i64 t500)) (fun _ hk => hk.2) (.slice Ao11 t501.length co11)) (fun _ hk => hk.2) (.slice Ao12 t504.length co12)) (fun _ h_ => h_.1))) (by decide)) hk (fun _ h => h.2)) (fun _ h => h.1)); have n3_ := am (KeepBut.blk hk (g' := gb509) (o := .cells #[.int .i64 t500, .slice Ao11 t501.length co11, .slice Ao12 t504.length co12] 51 (0, 0)) (by (with_reducible repeat (first | refine blk_drewN ?_ _ | refine blk_drew ?_ | refine blk_alloc ?_ _)); refine blk_put (cs := #[.int .i64 t500, .slice Ao11 t501.length co11, .slice none 0 0]) ?_ 2 _ rfl; (with_reducible repeat (first | refine blk_drewN ?_ _ | refine blk_drew ?_ | refine blk_alloc ?_ _)); refine blk_put (cs := #[.int .i64 t500, .slice none 0 0, .slice none 0 0]) ?_ 1 _ rfl; (with_reducible repeat (first | refine blk_drewN ?_ _ | refine blk_drew ?_ | refine blk_alloc ?_ _)); refine blk_put (cs := #[.int .i64 0, .slice none 0 0, .slice none 0 0]) ?_ 0 _ rfl; exact Kz BK509.out) NB509_499.out (by simp)); have n4_ := am (hb); have n5_ := am (hi); clear BK498 HO503 HO506 BK509 HB HI499; revert n0_ n1_ n2_ n3_ n4_ n5_; intro BK498 HO503 HO506 BK509 HB HI499; (try clear hb); (try clear hb2); (try clear hk); (try clear hi)))
  (try simp only [aP])
  go_loopg [5] k (fun kq v5 w' => ∃ (x5_1 : Int) (x500001_1 : Int) (x500002_1 : Int) (x510001_1 : List ByteArray) (x510002_1 : List ByteArray) (u510001 : Value) (u510002 : Value), v5 = .int .i64 x5_1 ∧ Aside0 (spec_DrawCuckooUnstash.l0 kq x5_1 l0 x500001_1 x500002_1 t500 x510001_1 x510002_1 = some (r1, r2, r3)) ∧ Aside0 (kq ≤ k) ∧ Aside0 (Kd.R Kd.string 9 w' w.heap.size (fun k_ => some k_ ≠ (u510002 : Value).ownBlock) u510001 x510001_1) ∧ Aside0 (Kd.R Kd.string 9 w' w.heap.size (fun k_ => some k_ ≠ (u510001 : Value).ownBlock) u510002 x510002_1) ∧ Aside0 (w'.heap[gb498]? = some (.cells #[.int .i64 0, (.slice none 0 0), (.slice none 0 0)] 51 (0, 0))) ∧ Aside0 (w'.heap[gb509]? = some (.cells #[.int .i64 t500, u510001, u510002] 51 (0, 0))) ∧ Aside0 (IsS75 w w' gb499 l0 x500001_1 x500002_1) ∧ Aside0 (Below w.heap.size w w'))
  case atStart => exact ⟨(t510), (t511), (t512), (t501), (t504), (.slice Ao11 t501.length co11), (.slice Ao12 t504.length co12), wZ, H', ⟨Nat.le_refl _⟩, ⟨Rz HO503.out⟩, ⟨Rz HO506.out⟩, ⟨Kz BK498.out⟩, ⟨Kz BK509.out⟩, ⟨by repeat (first | (with_reducible first | exact HI499.out | apply IsS75.alloc | apply IsS75.drewN | apply IsS75.drew | apply IsS75.set_1 | apply IsS75.set_2 | refine IsS75.far ?_ NB499_498.out _ | refine IsS75.far ?_ NB499_509.out _) | exact HI499.out)⟩, ⟨by repeat (first | (with_reducible first | exact HB.out | apply below_alloc | apply pw_below_drewN | apply below_drew1 | refine below_set ?_ (IsS75.ge HI499.out) | refine below_set ?_ GE498.out | refine below_set ?_ GE509.out) | exact HB.out)⟩⟩
  case round =>
    clear H'
    try clear p2
    try clear c4
    try clear c8
    try clear c9
    try clear hcz10_0
    try clear hcz10_1
    try clear hcz10_2
    try clear hfz10_0
    try clear hfz10_1
    try clear hfz10_2
    obtain ⟨x5_1, x500001_1, x500002_1, x510001_1, x510002_1, u510001, u510002, rfl, HA, HK1, HO_510001, HO_510002, BK498, BK509, HI499, HB⟩ := hrel; cases gk with
    | zero => exact absurd HA.out (by simp [spec_DrawCuckooUnstash.l0])
    | succ k1 =>
      have H := HA.out; clear HA
      simp only [spec_DrawCuckooUnstash.l0] at H
      by_cases c14 : x5_1 > 0
      · rw [if_pos c14] at H
        have c14b0 : decide (0 < x5_1) = true := decide_eq_true c14; clear c14; replace H := Option.bind_eq_some_iff.mp H; obtain ⟨⟨t513, t514, t515⟩, A150, H⟩ := H; (try dsimp -simprocs only at H); have A15 := am A150; clear A150
        by_cases c16 : 0 ≤ t513
        · rw [if_pos c16] at H
          have c16b0 : decide (0 ≤ t513) = true := decide_eq_true c16; clear c16
          by_cases c17 : t513 < (x510001_1.length : Int)
          · rw [if_pos c17] at H
            have c17b0 : decide (t513 < (x510001_1.length : Int)) = true := decide_eq_true c17; clear c17; obtain ⟨y516, hy516⟩ : ∃ y_ : List ByteArray, y_ = (x510001_1.set (t513 : Int).toNat (⟨#[]⟩ : ByteArray)) := ⟨_, rfl⟩
            replace H : (spec_DrawCuckooUnstash.l0 k1 (wrap64 (x5_1 - 1)) l0 t514 t515 t500 y516 x510002_1) = some (r1, r2, r3) := by first | (rw [hy516]; with_reducible exact H) | (have H2_ := (Option.bind_some _ _).symm.trans H; rw [hy516]; with_reducible exact H2_) | (have H2_ := (Option.bind_some _ _).symm.trans H; with_reducible exact H2_) | with_reducible exact H | (rw [hy516]; exact H) | exact H
            have Ny516 := am hy516; clear hy516; have H' := am H; clear H
            try go_wp2
            have n0_ := am (Kd.R_drew HO_510001.out); have n1_ := am (Kd.R_drew HO_510002.out); have n2_ := am (blk_drew BK498.out); have n3_ := am (blk_drew BK509.out); have n4_ := am (IsS75.drew HI499.out); have n5_ := am (below_drew1 HB.out); clear HO_510001 HO_510002 BK498 BK509 HI499 HB; revert n0_ n1_ n2_ n3_ n4_ n5_; intro HO_510001 HO_510002 BK498 BK509 HI499 HB; obtain ⟨Ao20, co20, eo20⟩ := Kd.R_slice HO_510001.out
            (first | subst eo20 | (injection eo20 with f1_ f2_ f3_; have f4_ := f1_.symm; have f5_ := f3_.symm; clear f1_ f2_ f3_; subst f4_; subst f5_))
            refine start_ (n := 9) (S := fun w' => w'.cell? ⟨gb509, 0, none⟩ = some (.int .i64 t500) ∧ w'.cell? ⟨gb509, 1, none⟩ = some (.slice Ao20 x510001_1.length co20) ∧ w'.cell? ⟨gb509, 2, none⟩ = some (u510002)) (ds := [8]) (bA 9 0) (by kernel_rfl) rfl rfl ⟨cz BK509 0, cz BK509 1, cz BK509 2⟩ (fun hHeld => ?_); refine with_tabW spec_DrawCuckooUnstash.tab6 spec_DrawCuckooUnstash.bits6 (fun HT_ HW_ => ?_); generalize wr.drew = w19 at HO_510001 HO_510002 BK498 BK509 HI499 HB hHeld ⊢; refine pure_ (i := 0) (N := some 17) (v := ?_) (a' := ?_) (bA 9 1) rfl rfl (any_of HT_.out (by kernel_rfl)) (fun _ _ _ h => h) (Or.inl ⟨by rfl, ?_⟩) ?_ ?_
            rotate_left
            · intro w'
              go_simp
              with_reducible rfl
            rotate_left
            · simp only [aP, i64_w, i32_w]
              rfl
            refine pure_ (i := 2) (N := some 19) (v := ?_) (a' := ?_) (bA 9 5) rfl rfl (any_of HT_.out (by kernel_rfl)) (fun _ _ _ h => h) (Or.inl ⟨by rfl, ?_⟩) ?_ ?_
            rotate_left
            · intro w'
              go_simp
              with_reducible rfl
            rotate_left
            · simp only [aP, i64_w, i32_w]
              rfl
            refine pure_ (i := 3) (N := some 20) (v := ?_) (a' := ?_) (bA 9 13) rfl rfl (any_of HT_.out (by kernel_rfl)) (fun _ _ _ h => h) (Or.inl ⟨by rfl, ?_⟩) ?_ ?_
            rotate_left
            · intro w'
              go_simp
              with_reducible rfl
            rotate_left
            · simp only [aP, i64_w, i32_w]
              rfl
            refine take_ (i := 1) (N := some 18) (v := ?_) (a' := ?_) (bA 9 15) rfl rfl (take_ofW HT_.out HW_.out (by kernel_rfl)) (fun _ _ _ h => h) (Or.inl ⟨by rfl, ?_⟩) hHeld ?_ ?_
            rotate_left
            · rintro w' ⟨s0, s1, s2⟩
              go_simp
              with_reducible rfl
            rotate_left
            · simp only [aP, i64_w, i32_w]
              rfl
            refine take_ (i := 4) (N := some 21) (v := ?_) (a' := ?_) (bA 9 31) rfl rfl (take_ofW HT_.out HW_.out (by kernel_rfl)) (fun _ _ _ h => h) (Or.inl ⟨by rfl, ?_⟩) hHeld ?_ ?_
            rotate_left
            · rintro w' ⟨s0, s1, s2⟩
              go_simp
              with_reducible rfl
            rotate_left
            · simp only [aP, i64_w, i32_w]
              rfl
            refine pure_ (i := 5) (N := some 22) (v := ?_) (a' := ?_) (bA 9 63) rfl rfl (any_of HT_.out (by kernel_rfl)) (fun _ _ _ h => h) (Or.inl ⟨by rfl, ?_⟩) ?_ ?_
            rotate_left
            · intro w'
              go_simp
              with_reducible rfl
            rotate_left
            · simp only [aP, i64_w, i32_w]
              rfl
            refine oZ 6 (some 23) (bA 9 127) HT_.out (fun K hK => ?_); refine gZ Try.func81 #[.pointer (some ⟨gb499, 0, none⟩), .int .i64 (x510001_1.length : Int)] ?_
            with_reducible refine (spec_l1Cur_pick.calls gb499 l0 x500001_1 x500002_1 (x510001_1.length : Int) t513 t514 t515 w _ ?side1 ?side2 A15.out).mono ?_
            (case side1 => repeat (first | (with_reducible first | exact HI499.out | apply IsS75.alloc | apply IsS75.drewN | apply IsS75.drew | apply IsS75.set_1 | apply IsS75.set_2 | refine IsS75.far ?_ NB499_498.out _ | refine IsS75.far ?_ NB499_509.out _) | exact HI499.out))
            (case side2 => repeat (first | (with_reducible first | exact HB.out | apply below_alloc | apply pw_below_drewN | apply below_drew1 | refine below_set ?_ (IsS75.ge HI499.out) | refine below_set ?_ GE498.out | refine below_set ?_ GE509.out) | exact HB.out))
            rintro e w21 ⟨rfl, hi, hb, hk⟩; refine ⟨_, rfl, ?_⟩; have n0_ := am (Kd.R_mono (Kd.R_keep (IsS75.apart (show IsS75 w _ gb499 l0 x500001_1 x500002_1 from by repeat (first | (with_reducible first | exact HI499.out | apply IsS75.alloc | apply IsS75.drewN | apply IsS75.drew | apply IsS75.set_1 | apply IsS75.set_2 | refine IsS75.far ?_ NB499_498.out _ | refine IsS75.far ?_ NB499_509.out _) | exact HI499.out)) (Rz HO_510001.out) (by decide)) hk (fun _ h => h.2)) (fun _ h => h.1)); have n1_ := am (Kd.R_mono (Kd.R_keep (IsS75.apart (show IsS75 w _ gb499 l0 x500001_1 x500002_1 from by repeat (first | (with_reducible first | exact HI499.out | apply IsS75.alloc | apply IsS75.drewN | apply IsS75.drew | apply IsS75.set_1 | apply IsS75.set_2 | refine IsS75.far ?_ NB499_498.out _ | refine IsS75.far ?_ NB499_509.out _) | exact HI499.out)) (Rz HO_510002.out) (by decide)) hk (fun _ h => h.2)) (fun _ h => h.1)); have n2_ := am (KeepBut.blk hk (g' := gb498) (o := .cells #[.int .i64 0, .slice none 0 0, .slice none 0 0] 51 (0, 0)) (Kz BK498.out) NB498_499.out (by simp)); have n3_ := am (KeepBut.blk hk (g' := gb509) (o := .cells #[.int .i64 t500, .slice Ao20 x510001_1.length co20, u510002] 51 (0, 0)) (Kz BK509.out) NB509_499.out (by simp)); have n4_ := am (hb); have n5_ := am (hi); clear HO_510001 HO_510002 BK498 BK509 HB HI499; revert n0_ n1_ n2_ n3_ n4_ n5_; intro HO_510001 HO_510002 BK498 BK509 HB HI499
            (try clear hb)
            (try clear hb2)
            (try clear hk)
            (try clear hi)
            have p18 : 0 ≤ (t513 : Int) := dT; have q18 : (t513 : Int) < ((x510001_1.length : Int) : Int) := dT; obtain ⟨go18, co18, eo18, gb18, gl18, cl18, HG18⟩ := Kd.R_form HO_510001.out (by omega)
            (first | cases eo18 | (injection eo18 with ea_ en_ ec_; (first | subst ea_ | (injection ea_ with ea_; subst ea_)); subst ec_; clear en_))
            have GB18 := am gb18; have GG18 := am HG18; clear gb18 gl18 HG18; obtain ⟨hx18_0, hf18_0⟩ := Kd.R_celln (⟨#[]⟩ : ByteArray) HO_510001.out (t513 : Int) p18 q18; replace p18 := eq_true p18; replace q18 := eq_true q18; have HN499_go18 := am (show gb499 ≠ go18 from by have h_ := IsS75.own_ne HI499.out HO_510001.out (by decide); intro e_; exact h_ (by rw [e_]; rfl)); have HP22 := Kd.R_putn HO_510001.out (t513 : Int) (⟨#[]⟩ : ByteArray); rw [← Ny516.out] at HP22; have HQ22 := am HP22; clear HP22; refine hK.out _ _ ⟨cz BK509 0, cz BK509 1, cz BK509 2⟩ (fun hHeld => ?_); clear hK K; refine norm_ (a' := ?_) ?_ ?_
            rotate_left
            · show Act.put _ (some 23) _ = _
              simp only [aP, i64_w, i32_w]
              rfl
            refine pure_ (i := 7) (N := some 24) (v := ?_) (a' := ?_) (bA 9 255) rfl rfl (any_of HT_.out (by kernel_rfl)) (fun _ _ _ h => h) (Or.inl ⟨by rfl, ?_⟩) ?_ ?_
            rotate_left
            · intro w'
              go_simp
              with_reducible rfl
            rotate_left
            · simp only [aP, i64_w, i32_w]
              rfl
            refine lZ 8 none (bA 9 511) HT_.out (fun K hK => ?_); refine skip_ (w1 := ?_) (by rfl) rfl ?_ ?_
            rotate_left
            · go_simp
              rfl
            refine hK.out _ _ ?_; clear hK K; refine done_ (done_of HT_.out (by kernel_rfl)) ?_
            try go_wp2
            go_roundg k1
            case measure => have := HK1.out; omega
            case rel => exact ⟨(wrap64 (x5_1 - 1)), (t514), (t515), (y516), (x510002_1), (.slice (some ⟨go18, 0, none⟩) x510001_1.length co20), (u510002), wZ, H', ⟨by have := HK1.out; omega⟩, ⟨by first | exact HQ22.out | exact Rz HQ22.out⟩, ⟨Rz (Kd.R_mono (Kd.R_far (p := ⟨go18, (t513 : Int).toNat, none⟩) (Kd.R_mono HO_510002.out (fun k_ hk => (⟨hk, fun e_ => hk (by rw [e_]; rfl)⟩ : _ ∧ k_ ≠ go18))) (fun _ hk => hk.2) (.string (⟨#[]⟩ : ByteArray))) (fun _ hk => hk.1))⟩, ⟨by (with_reducible repeat (first | refine blk_drewN ?_ _ | refine blk_drew ?_ | refine blk_alloc ?_ _)); refine blk_far ?_ (by have h_ := Kd.R_ne HO_510001.out BK498.out (by decide); intro e_; exact h_ (by rw [e_]; rfl)) _; (with_reducible repeat (first | refine blk_drewN ?_ _ | refine blk_drew ?_ | refine blk_alloc ?_ _)); exact BK498.out⟩, ⟨by (with_reducible repeat (first | refine blk_drewN ?_ _ | refine blk_drew ?_ | refine blk_alloc ?_ _)); refine blk_far ?_ (by have h_ := Kd.R_ne HO_510001.out BK509.out (by decide); intro e_; exact h_ (by rw [e_]; rfl)) _; (with_reducible repeat (first | refine blk_drewN ?_ _ | refine blk_drew ?_ | refine blk_alloc ?_ _)); exact BK509.out⟩, ⟨by repeat (first | (with_reducible first | exact HI499.out | apply IsS75.alloc | apply IsS75.drewN | apply IsS75.drew | apply IsS75.set_1 | apply IsS75.set_2 | refine IsS75.far ?_ HN499_go18.out _ | refine IsS75.far ?_ NB499_498.out _ | refine IsS75.far ?_ NB499_509.out _) | exact HI499.out)⟩, ⟨by repeat (first | (with_reducible first | exact HB.out | apply below_alloc | apply pw_below_drewN | apply below_drew1 | refine below_set ?_ GB18.out | refine below_set ?_ (IsS75.ge HI499.out) | refine below_set ?_ GE498.out | refine below_set ?_ GE509.out) | exact HB.out)⟩⟩
          · rw [if_neg c17] at H
            exact absurd H (by simp)
        · rw [if_neg c16] at H
          exact absurd H (by simp)
      · rw [if_neg c14] at H
        have c14b0 : decide (0 < x5_1) = false := decide_eq_false c14; clear c14
        simp only [Option.some.injEq, Prod.mk.injEq] at H
        obtain ⟨rfl, rfl, rfl⟩ := H; have hnb23 := NB509_498.out; have hnc23 := NB498_509.out; have hnb24 := NB509_499.out; have hnc24 := NB499_509.out; obtain ⟨hcz25_0, hcz25_1, hcz25_2, hfz25_0, hfz25_1, hfz25_2⟩ := cf3 (w := wr) BK509; have hnb26 := NB498_499.out; have hnc26 := NB499_498.out; obtain ⟨hcz27_0, hcz27_1, hcz27_2, hfz27_0, hfz27_1, hfz27_2⟩ := cf3 (w := wr) BK498; obtain ⟨Ao28, co28, eo28⟩ := Kd.R_slice HO_510001.out; subst eo28; obtain ⟨Ao29, co29, eo29⟩ := Kd.R_slice HO_510002.out; subst eo29
        go_wp2
        refine bodyPost_ret (results_cell_row rfl _ _ gb498 51 #[.int .i64 t500, .slice Ao28 x510001_1.length co28, .slice Ao29 x510002_1.length co29] (0, 0) _ rfl (by (with_reducible repeat (first | refine blk_drewN ?_ _ | refine blk_drew ?_ | refine blk_alloc ?_ _)); refine blk_put (cs := #[.int .i64 t500, .slice Ao28 x510001_1.length co28, .slice none 0 0]) ?_ 2 _ rfl; (with_reducible repeat (first | refine blk_drewN ?_ _ | refine blk_drew ?_ | refine blk_alloc ?_ _)); refine blk_put (cs := #[.int .i64 t500, .slice none 0 0, .slice none 0 0]) ?_ 1 _ rfl; (with_reducible repeat (first | refine blk_drewN ?_ _ | refine blk_drew ?_ | refine blk_alloc ?_ _)); refine blk_put (cs := #[.int .i64 0, .slice none 0 0, .slice none 0 0]) ?_ 0 _ rfl; exact Kz BK498.out) Try.underlying51 rfl (by kernel_rfl)) rfl ?_; exact ⟨_, _, eZ, Rz (Kd.R_mono (Kd.R_far (p := ⟨gb498, 2, none⟩) (Kd.R_far (p := ⟨gb498, 1, none⟩) (Kd.R_far (p := ⟨gb498, 0, none⟩) (Kd.R_types HO_510001.out BK498.out (by decide)) (fun _ hk => hk.2) (.int .i64 t500)) (fun _ hk => hk.2) (.slice Ao28 x510001_1.length co28)) (fun _ hk => hk.2) (.slice Ao29 x510002_1.length co29)) (fun _ hk => hk.1)), Rz (Kd.R_mono (Kd.R_far (p := ⟨gb498, 2, none⟩) (Kd.R_far (p := ⟨gb498, 1, none⟩) (Kd.R_far (p := ⟨gb498, 0, none⟩) (Kd.R_types HO_510002.out BK498.out (by decide)) (fun _ hk => hk.2) (.int .i64 t500)) (fun _ hk => hk.2) (.slice Ao28 x510001_1.length co28)) (fun _ hk => hk.2) (.slice Ao29 x510002_1.length co29)) (fun _ hk => hk.1)), by repeat (first | (with_reducible first | exact HB.out | apply below_alloc | apply pw_below_drewN | apply below_drew1 | refine below_set ?_ (IsS75.ge HI499.out) | refine below_set ?_ GE498.out | refine below_set ?_ GE509.out) | exact HB.out)⟩

open Go Go.Maps Go.Proofs.YtephjmmkggcmeaaGp
def unst (k : Nat) (a0 : Int) : List ByteArray → List ByteArray → Option (List ByteArray × List ByteArray)
 | s, [] => some (s, [])
 | s, x :: t => (impl_Cuckoo_settle.f k a0 s x).bind fun r => (unst k a0 r.1 t).bind fun q => some (q.1, if r.2 then q.2 else x :: q.2)
theorem settle_false {k : Nat} {a0 : Int} {s s1 : List ByteArray} {x : ByteArray} (h : impl_Cuckoo_settle.f k a0 s x = some (s1, false)) : s1 = s := by
 unfold impl_Cuckoo_settle.f at h
 obtain ⟨⟨t1, t2⟩, _, h⟩ := Option.bind_eq_some_iff.mp h
 (try dsimp -simprocs only at h)
 repeat' first | (split at h) | (simp at h; done)
 all_goals (first | (simp at h; done) | (simp at h; exact h.symm))
theorem unst_cons {k : Nat} {a0 : Int} {s s' r : List ByteArray} {x : ByteArray} {t : List ByteArray} (h : unst k a0 s (x :: t) = some (s', r)) : ∃ s1 b r1, impl_Cuckoo_settle.f k a0 s x = some (s1, b) ∧ unst k a0 s1 t = some (s', r1) ∧ r = if b then r1 else x :: r1 := by
 simp only [unst] at h
 obtain ⟨⟨s1, b⟩, h1, h⟩ := Option.bind_eq_some_iff.mp h; obtain ⟨⟨s2, r1⟩, h2, h⟩ := Option.bind_eq_some_iff.mp h
 simp only [Option.some.injEq, Prod.mk.injEq] at h
 obtain ⟨rfl, rfl⟩ := h; exact ⟨s1, b, r1, h1, h2, rfl⟩
theorem drop_rd {l : List ByteArray} {i : Nat} (h : i < l.length) : l.drop i = rdOf ByteArray.empty l (i : Int) :: l.drop (i + 1) := by
 rw [List.drop_eq_getElem_cons h]
 congr 1
 simp [rdOf, h]
theorem idx_settle (k g0 : Nat) (a0 : Int) (P1 P2 : Nat → Prop) (u1 u2 : Value) (s l s' rest : List ByteArray) (w0 w : World) (hb0 : w.heap[g0]? = some (.cells #[.int .i64 a0, u1, u2] 51 (0, 0))) (hB : Below w0.heap.size w0 w) (h1 : Kd.R Kd.string 9 w w0.heap.size P1 u1 s) (h2 : Kd.R Kd.string 9 w w0.heap.size P2 u2 l) (hne : ∀ k, u2.ownBlock = some k → u1.ownBlock ≠ some k) (hl : l.length < 1000000) (hu : unst k a0 s l = some (s', rest)) :
  Calls Try.prog 143 #[u2, .func (.func 109) #[.pointer (some ⟨g0, 0, none⟩)] #[]] w fun e w' => ∃ i : Int, e = .returned (.int .i64 i) ∧ Below w0.heap.size w0 w' ∧ w.grownBy w' u1.ownBlock ∧ ((i = -1 ∧ Kd.R Kd.string 9 w' w0.heap.size P1 u1 s' ∧ rest = l) ∨ ∃ (n : Nat) (s1 r1 : List ByteArray), i = (n : Int) ∧ n < l.length ∧ Kd.R Kd.string 9 w' w0.heap.size P1 u1 s1 ∧ unst k a0 s1 (l.drop (n + 1)) = some (s', r1) ∧ rest = l.take n ++ r1) := by
 have HO1 := am h1; have HO2 := am (Kd.R_tight rfl h2); have BK0 := am hb0; have HB := am hB; have HU := am hu; have HNE := am hne; have HG := am (World.grownBy.refl w u1.ownBlock); clear h1 h2 hb0 hB hu hne; obtain ⟨Ao2, co2, eo2⟩ := Kd.R_slice HO2.out; subst eo2; have HL := am hl; clear hl
 go_enter Try.func143, Try.ntmps143
 go_wp2
 go_loopg [8] l.length (fun gq v8 w' => ∃ (i : Nat) (ri : List ByteArray), v8 = .int .i64 (i : Int) ∧ Aside0 (i ≤ l.length ∧ l.length - i ≤ gq) ∧ Aside0 (unst k a0 s (l.drop i) = some (s', ri) ∧ rest = l.take i ++ ri) ∧ Aside0 (Kd.R Kd.string 9 w' w0.heap.size P1 u1 s) ∧ Aside0 (Kd.R Kd.string 9 w' w0.heap.size (fun k_ => some k_ = (.slice Ao2 l.length co2 : Value).ownBlock) (.slice Ao2 l.length co2) l) ∧ Aside0 (w'.heap[g0]? = some (.cells #[.int .i64 a0, u1, .slice Ao2 l.length co2] 51 (0, 0))) ∧ Aside0 (Below w0.heap.size w0 w') ∧ Aside0 (w.grownBy w' u1.ownBlock))
 case atStart => exact ⟨0, rest, rfl, ⟨⟨Nat.zero_le _, by omega⟩⟩, ⟨⟨by simpa using HU.out, by simp⟩⟩, HO1, HO2, BK0, HB, HG⟩
 case round =>
  clear HO1 HO2 BK0 HB HG; obtain ⟨i, ri, rfl, HI, HUi, HO1, HO2, BK0, HB, HG⟩ := hrel
  by_cases c4 : i < l.length
  · have c4b0 : decide ((i : Int) < (l.length : Int)) = true := decide_eq_true (by omega)
    have c4b1 : decide (0 ≤ (i : Int)) = true := decide_eq_true (by omega); obtain ⟨s1, b, r1, hs, hu1, hr⟩ := unst_cons (by have := HUi.out.1; rw [drop_rd c4] at this; exact this); have A7 := am hs; have HU1 := am hu1; have HRR := am hr; have C4 := am c4; clear hs hu1 hr c4; obtain ⟨ad793, e793, hx793_0⟩ := Kd.at_string (Kd.R_reads' HO2.out).2.2 (i : Int) dT dT; cases e793; rw [Int.toNat_natCast] at hx793_0; have p793 := eT (0 ≤ (i : Int)); have q793 := eT ((i : Int) < (l.length : Int)); cases b with
    | true =>
     go_wp2_with (first | (go_at_call 109; (with_reducible refine (impl_Cuckoo_settle.calls k g0 a0 P1 u1 s (.slice (some ad793) l.length co2) (rdOf ByteArray.empty l (i : Int)) s1 true w0 _ ?side1 ?side2 ?side3 A7.out).mono ?_); (case side1 => exact Kz BK0.out); (case side2 => exact Bz HB.out); (case side3 => exact Rz HO1.out); rintro e w' ⟨rfl, ho, hb, hg⟩))
     go_ret
     refine ⟨_, eZ, hb, Lib.grownBy_trans HG.out (by exact hg), .inr ⟨i, s1, r1, rfl, C4.out, ho, HU1.out, ?_⟩⟩; rw [HUi.out.2, HRR.out]; rfl
    | false =>
     have hs1 := settle_false A7.out; subst hs1
     go_wp2_with (first | (go_at_call 109; (with_reducible refine (impl_Cuckoo_settle.calls k g0 a0 P1 u1 s1 (.slice (some ad793) l.length co2) (rdOf ByteArray.empty l (i : Int)) s1 false w0 _ ?side1 ?side2 ?side3 A7.out).mono ?_); (case side1 => exact Kz BK0.out); (case side2 => exact Bz HB.out); (case side3 => exact Rz HO1.out); rintro e w9 ⟨rfl, ho, hb, hg⟩; have nA_ := am ho; have nB_ := am hb; have nC_ := am (Kd.R_kept HO2.out (Kept.of_grown (S := fun k_ => some k_ = u1.ownBlock) hg (Kept.refl _ _) (fun k_ e_ => .inl e_.symm)) (fun k_ e_ hs_ => HNE.out k_ e_.symm hs_.symm)); have nD_ := am (blk_grown BK0.out hg (Kd.R_ne HO1.out BK0.out (by decide))); have nE_ := am (Lib.grownBy_trans HG.out hg); clear HO1 HO2 BK0 HB HG ho hb hg; revert nA_ nB_ nC_ nD_ nE_; intro HO1 HB HO2 BK0 HG))
     go_roundg (l.length - (i + 1))
     case measure => have := HI.out; have := C4.out; omega
     case rel =>
      have hc4 := C4.out; have hl4 := HL.out; refine ⟨i + 1, r1, by rw [show wrap64 ((i : Int) + 1) = ((i + 1 : Nat) : Int) from by unfold wrap64; omega], ⟨⟨C4.out, Nat.le_refl _⟩⟩, ⟨⟨HU1.out, ?_⟩⟩, ⟨Rz HO1.out⟩, ⟨Rz HO2.out⟩, ⟨Kz BK0.out⟩, ⟨Bz HB.out⟩, HG⟩; rw [HUi.out.2, HRR.out]; have hlt := C4.out; rw [List.take_succ_eq_append_getElem hlt, List.append_assoc]
      simp [rdOf, hlt]
  · have e : i = l.length := by have := HI.out; omega
    subst e
    go_wp2
    go_ret
    have hu := HUi.out
    simp only [List.drop_length, unst, Option.some.injEq, Prod.mk.injEq] at hu
    obtain ⟨⟨rfl, rfl⟩, hr⟩ := hu; exact ⟨_, eZ, Bz HB.out, HG.out, .inl ⟨rfl, Rz HO1.out, by rw [hr]; simp⟩⟩

theorem R_cut0 {e base g n cap : Nat} {ok : Nat → Prop} {w : World} {xs : List ByteArray} (h : Kd.R Kd.string e w base ok (.slice (some ⟨g, 0, none⟩) n cap) xs) (i : Nat) (hi : i ≤ xs.length) : Kd.R Kd.string e w base ok (.slice (some ⟨g, 0, none⟩) i cap) (xs.take i) := by
 have hown := Kd.own_of_R (enc := Value.string) h
 rcases hown.2 with ⟨hv, _⟩ | ⟨g', cap', cur, hv, hbase, hb, h1, h2, h3, h4⟩
 · cases hv
 · injection hv with ha hn hc
   injection ha with ha
   injection ha with ha
   subst ha; subst hc
   have hl : (xs.take i).length = i := by rw [List.length_take]; omega
   refine R_row hl hbase hb (by omega) h2 (by rw [h3, Nat.mul_one]) ?_ (h.1 _ rfl); rw [Nat.mul_one] at h4; have := congrArg (List.take i) h4; rw [List.take_take, Nat.min_eq_left hi] at this; rw [this]
   simp [encs]
theorem R_setCells {e base g n cap : Nat} {ok : Nat → Prop} {w : World} {xs : List ByteArray} (h : Kd.R Kd.string e w base ok (.slice (some ⟨g, 0, none⟩) n cap) xs) (j : Nat) (hj : n ≤ j) (vs : List Value) (hv : j + vs.length ≤ cap) : Kd.R Kd.string e (w.setCells g j vs) base ok (.slice (some ⟨g, 0, none⟩) n cap) xs := by
 have hown := Kd.own_of_R (enc := Value.string) h
 rcases hown.2 with ⟨hv, _⟩ | ⟨g', cap', cur, hv', hbase, hb, h1, h2, h3, h4⟩
 · cases hv
 · injection hv' with ha hn hc
   injection ha with ha
   injection ha with ha
   subst ha; subst hc; rw [Nat.mul_one] at h3 h4; obtain ⟨cur', e1, e2, e3⟩ := setCells_blk g e vs j w cur hb (by omega); refine R_row hn.symm hbase e1 (by omega) h2 (by rw [e2, h3]) ?_ (h.1 _ rfl); rw [e3, List.append_assoc, List.take_append_of_le_length (by rw [List.length_take, Array.length_toList]; omega), List.take_take, Nat.min_eq_left hj, ← h4, hn]
theorem unst_len {k : Nat} {a0 : Int} : ∀ (l s s' r : List ByteArray), unst k a0 s l = some (s', r) → r.length ≤ l.length
 | [], s, s', r, h => by simp only [unst, Option.some.injEq, Prod.mk.injEq] at h; rw [← h.2]; exact Nat.le_refl _
 | x :: t, s, s', r, h => by
  obtain ⟨s1, b, r1, _, h2, rfl⟩ := unst_cons h; have := unst_len t s1 s' r1 h2
  cases b <;> simp <;> omega
theorem short_ne {k n : Nat} {a0 : Int} {l s1 s' r1 rest : List ByteArray} (hn : n < l.length) (h : unst k a0 s1 (l.drop (n + 1)) = some (s', r1)) (hr : rest = l.take n ++ r1) : rest ≠ l := fun e => by
 have h1 := unst_len _ _ _ _ h
 have h2 : rest.length = l.length := by rw [e]
 rw [hr, List.length_append, List.length_take] at h2; rw [List.length_drop] at h1
 omega
theorem step_settle {k : Nat} {a0 : Int} {s' rest l D sj rj : List ByteArray} {i j : Nat} (hj : j < l.length) (hij : i < j) (hD : D.length = l.length) (hdr : D.drop j = l.drop j) (hu : unst k a0 sj (l.drop j) = some (s', rj)) (hr : rest = D.take i ++ rj) :
  ∃ (s1 : List ByteArray) (b : Bool) (r1 : List ByteArray), impl_Cuckoo_settle.f k a0 sj (rdOf ByteArray.empty D (j : Int)) = some (s1, b) ∧ unst k a0 s1 (l.drop (j + 1)) = some (s', r1) ∧ (if b then rest = D.take i ++ r1 else rest = (D.set i (rdOf ByteArray.empty D (j : Int))).take (i + 1) ++ r1) ∧ (D.set i (rdOf ByteArray.empty D (j : Int))).drop (j + 1) = l.drop (j + 1) ∧ D.drop (j + 1) = l.drop (j + 1) := by
 have hjD : j < D.length := by omega
 have hx : rdOf ByteArray.empty l (j : Int) = rdOf ByteArray.empty D (j : Int) := by
  have := congrArg List.head? hdr; rw [drop_rd hj, drop_rd hjD] at this
  simpa using this.symm
 rw [drop_rd hj, hx] at hu; obtain ⟨s1, b, r1, h1, h2, h3⟩ := unst_cons hu; have hd1 : D.drop (j + 1) = l.drop (j + 1) := by
  have := congrArg List.tail hdr; rw [drop_rd hj, drop_rd hjD] at this
  simpa using this
 refine ⟨s1, b, r1, h1, h2, ?_, by rw [List.drop_set_of_lt (by omega)]; exact hd1, hd1⟩; cases b with
 | true => simp at h3; rw [if_pos rfl, hr, h3]
 | false =>
  simp at h3
  rw [if_neg (by simp), hr, h3, List.take_set, List.take_succ_eq_append_getElem (by omega), List.set_append_right _ _ (by simp; omega)]
  simp [List.length_take, Nat.min_eq_left (show i ≤ D.length by omega)]
theorem del_settle (k g0 : Nat) (a0 : Int) (P1 P2 : Nat → Prop) (u1 u2 : Value) (s l s' rest : List ByteArray) (w0 w : World) (hb0 : w.heap[g0]? = some (.cells #[.int .i64 a0, u1, u2] 51 (0, 0))) (hB : Below w0.heap.size w0 w) (h1 : Kd.R Kd.string 9 w w0.heap.size P1 u1 s) (h2 : Kd.R Kd.string 9 w w0.heap.size P2 u2 l) (hne : ∀ k, u2.ownBlock = some k → u1.ownBlock ≠ some k) (hl : l.length < 1000000) (hu : unst k a0 s l = some (s', rest)) :
  Calls Try.prog 108 #[u2, .func (.func 109) #[.pointer (some ⟨g0, 0, none⟩)] #[]] w fun e w' => ∃ v0_ : Value, e = .returned v0_ ∧ v0_.ownBlock = u2.ownBlock ∧ Kd.R Kd.string 9 w' w0.heap.size P1 u1 s' ∧ Kd.R Kd.string 9 w' w0.heap.size (fun k_ => some k_ = u2.ownBlock) v0_ rest ∧ Below w0.heap.size w0 w' ∧ Kept w w' (fun k_ => some k_ = u1.ownBlock ∨ some k_ = u2.ownBlock) := by
 have HO1 := am h1; have HO2 := am (Kd.R_tight rfl h2); have BK0 := am hb0; have HB := am hB; have HU := am hu; have HNE := am hne; have HL := am hl; clear h1 h2 hb0 hB hu hne hl; obtain ⟨Ao2, co2, eo2⟩ := Kd.R_slice HO2.out; subst eo2; have hidx := idx_settle k g0 a0 P1 _ u1 _ s l s' rest w0 w BK0.out HB.out HO1.out HO2.out HNE.out HL.out HU.out; have HIDX := am hidx; clear hidx
 by_cases hA : rest = l
 · have HA := am hA; clear hA
   go_enter Try.func108, Try.ntmps108
   go_wp2_with (first | ((with_reducible refine gate_callee (f := 143) rfl ?_); refine gL (some 10) Try.func143 #[.slice Ao2 l.length co2, .func (.func 109) #[.pointer (some ⟨g0, 0, none⟩)] #[]] ?_; refine HIDX.out.mono ?_; rintro e w9 ⟨i, rfl, hb, hg, hor⟩; refine ⟨_, rfl, ?_⟩; have nA_ := am hb; have nC_ := am (Kd.R_kept HO2.out (Kept.of_grown (S := fun k_ => some k_ = u1.ownBlock) hg (Kept.refl _ _) (fun k_ e_ => .inl e_.symm)) (fun k_ e_ hs_ => HNE.out k_ e_.symm hs_.symm)); have nD_ := am (blk_grown BK0.out hg (Kd.R_ne HO1.out BK0.out (by decide))); have nE_ := am (Kept.of_grown (S := fun k_ => some k_ = u1.ownBlock ∨ some k_ = (.slice Ao2 l.length co2 : Value).ownBlock) hg (Kept.refl _ _) (fun k_ e_ => .inl (.inl e_.symm))); clear HO1 HO2 BK0 HB hb hg HIDX; revert nA_ nC_ nD_ nE_; intro HB HO2 BK0 HK; obtain ⟨rfl, ho1, _⟩ := hor.resolve_right (fun ⟨n_, s1_, r1_, _, h2_, _, h4_, h5_⟩ => short_ne h2_ h4_ h5_ HA.out); have HO1 := am ho1; clear ho1))
   go_ret
   exact ⟨_, eZ, rfl, HO1.out, by first | exact Rz HO2.out | (rw [HA.out]; exact Rz HO2.out), Bz HB.out, HK.out⟩
 · have HA := am hA; clear hA
   have hlp : 0 < l.length := by
    have := HU.out; cases l with
    | nil => simp only [unst, Option.some.injEq, Prod.mk.injEq] at this; exact absurd this.2.symm HA.out
    | cons x t => simp
   obtain ⟨go, co, eo, gb, gl, cl, HGc⟩ := Kd.R_form HO2.out hlp
   (first | cases eo | (injection eo with ea_ en_ ec_; subst ea_; subst ec_; clear en_))
   have GB := am gb; clear gb gl HGc; have COL := am (Kd.R_reads' HO2.out).2.1
   go_enter Try.func108, Try.ntmps108
   go_wp2_with (first | ((with_reducible refine gate_callee (f := 143) rfl ?_); refine gL (some 10) Try.func143 #[.slice (some ⟨go, 0, none⟩) l.length co2, .func (.func 109) #[.pointer (some ⟨g0, 0, none⟩)] #[]] ?_; refine HIDX.out.mono ?_; rintro e w9 ⟨i, rfl, hb, hg, hor⟩; refine ⟨_, rfl, ?_⟩; have nA_ := am hb; have nC_ := am (Kd.R_kept HO2.out (Kept.of_grown (S := fun k_ => some k_ = u1.ownBlock) hg (Kept.refl _ _) (fun k_ e_ => .inl e_.symm)) (fun k_ e_ hs_ => HNE.out k_ e_.symm hs_.symm)); have nD_ := am (blk_grown BK0.out hg (Kd.R_ne HO1.out BK0.out (by decide))); have nE_ := am (Kept.of_grown (S := fun k_ => some k_ = u1.ownBlock ∨ some k_ = (.slice (some ⟨go, 0, none⟩) l.length co2 : Value).ownBlock) hg (Kept.refl _ _) (fun k_ e_ => .inl (.inl e_.symm))); clear HO1 HO2 BK0 HB hb hg HIDX; revert nA_ nC_ nD_ nE_; intro HB HO2 BK0 HK; obtain ⟨n, s1, r1, rfl, hn, ho1, hun, hrn⟩ := hor.resolve_left (fun h_ => HA.out h_.2.2); have HO1 := am ho1; have HN := am hn; have HUN := am hun; have HRN := am hrn; clear ho1 hn hun hrn; have hne1 : ((n : Int) == -1) = false := beq_eq_false_iff_ne.2 (by omega)))
   go_loopg [5, 6, 7] l.length (fun gq v5 v6 v7 w' => ∃ (i j : Nat) (D sj rj : List ByteArray), v5 = .int .i64 (i : Int) ∧ v6 = .int .i64 (j : Int) ∧ Aside0 (i < j ∧ j ≤ l.length ∧ l.length - j ≤ gq) ∧ Aside0 (D.length = l.length ∧ D.drop j = l.drop j ∧ unst k a0 sj (l.drop j) = some (s', rj) ∧ rest = D.take i ++ rj) ∧ Aside0 (Kd.R Kd.string 9 w' w0.heap.size P1 u1 sj) ∧ Aside0 (Kd.R Kd.string 9 w' w0.heap.size (fun k_ => some k_ = (.slice (some ⟨go, 0, none⟩) l.length co2 : Value).ownBlock) (.slice (some ⟨go, 0, none⟩) l.length co2) D) ∧ Aside0 (w'.heap[g0]? = some (.cells #[.int .i64 a0, u1, .slice (some ⟨go, 0, none⟩) l.length co2] 51 (0, 0))) ∧ Aside0 (Below w0.heap.size w0 w') ∧ Aside0 (Kept w w' (fun k_ => some k_ = u1.ownBlock ∨ some k_ = (.slice (some ⟨go, 0, none⟩) l.length co2 : Value).ownBlock)))
   case atStart =>
    have hn := HN.out; have hl4 := HL.out; exact ⟨n, n + 1, l, s1, r1, rfl, by rw [show wrap64 ((n : Int) + 1) = ((n + 1 : Nat) : Int) from by unfold wrap64; omega], ⟨⟨by omega, by omega, by omega⟩⟩, ⟨⟨rfl, rfl, HUN.out, HRN.out⟩⟩, ⟨Rz HO1.out⟩, ⟨Rz HO2.out⟩, ⟨Kz BK0.out⟩, ⟨Bz HB.out⟩, HK⟩
   case round =>
    clear HO1 HO2 BK0 HB HK; obtain ⟨i, j, D, sj, rj, rfl, rfl, HI, HD, HO1, HO2, BK0, HB, HK⟩ := hrel; have HI1 := am HI.out.1; have HL4 := HL.out
    by_cases c4 : j < l.length
    · have c4b0 : decide ((j : Int) < (l.length : Int)) = true := decide_eq_true (by omega)
      have c4b1 : decide (0 ≤ (j : Int)) = true := decide_eq_true (by omega); have c4b2 : decide ((i : Int) < (l.length : Int)) = true := decide_eq_true (by have := HI1.out; omega); have c4b3 : decide (0 ≤ (i : Int)) = true := decide_eq_true (by omega); obtain ⟨s2, b, r2, hs, hu2, hr2, hd1, hd2⟩ := step_settle c4 HI1.out HD.out.1 HD.out.2.1 HD.out.2.2.1 HD.out.2.2.2; have A7 := am hs; have HU2 := am hu2; have HR2 := am hr2; have HD1 := am hd1; have HD2 := am hd2; have C4 := am c4; clear hs hu2 hr2 hd1 hd2 c4; obtain ⟨hx7, hf7⟩ := Kd.R_celln ByteArray.empty HO2.out (j : Int) (of_decide_eq_true c4b1) (of_decide_eq_true c4b0); rw [Int.toNat_natCast] at hx7 hf7; have p793 := eT (0 ≤ (j : Int)); have q793 := eT ((j : Int) < (l.length : Int)); cases b with
      | true =>
       go_wp2_with (first | (go_at_call 109; (with_reducible refine (impl_Cuckoo_settle.calls k g0 a0 P1 u1 sj (.slice (some ⟨go, 0, none⟩) l.length co2) (rdOf ByteArray.empty D (j : Int)) s2 true w0 _ ?side1 ?side2 ?side3 A7.out).mono ?_); (case side1 => exact Kz BK0.out); (case side2 => exact Bz HB.out); (case side3 => exact Rz HO1.out); rintro e w9 ⟨rfl, ho, hb, hg⟩; have nA_ := am ho; have nB_ := am hb; have nC_ := am (Kd.R_kept HO2.out (Kept.of_grown (S := fun k_ => some k_ = u1.ownBlock) hg (Kept.refl _ _) (fun k_ e_ => .inl e_.symm)) (fun k_ e_ hs_ => HNE.out k_ e_.symm hs_.symm)); have nD_ := am (blk_grown BK0.out hg (Kd.R_ne HO1.out BK0.out (by decide))); have nE_ := am (Kept.of_grown hg HK.out (fun k_ e_ => .inl (.inl e_.symm))); clear HO1 HO2 BK0 HB HK ho hb hg; revert nA_ nB_ nC_ nD_ nE_; intro HO1 HB HO2 BK0 HK))
       go_roundg (l.length - (j + 1))
       case measure => have := HI.out; have := C4.out; omega
       case rel =>
        have hc4 := C4.out; have hi1 := HI1.out; exact ⟨i, j + 1, D, s2, r2, rfl, by rw [show wrap64 ((j : Int) + 1) = ((j + 1 : Nat) : Int) from by unfold wrap64; omega], ⟨⟨by omega, hc4, Nat.le_refl _⟩⟩, ⟨⟨HD.out.1, HD2.out, HU2.out, HR2.out⟩⟩, ⟨Rz HO1.out⟩, ⟨Rz HO2.out⟩, ⟨Kz BK0.out⟩, ⟨Bz HB.out⟩, HK⟩
      | false =>
       obtain ⟨y9, hy9⟩ : ∃ y_, y_ = D.set i (rdOf ByteArray.empty D (j : Int)) := ⟨_, rfl⟩; have Ny9 := am hy9; clear hy9
       go_wp2_with (first | (go_at_call 109; (with_reducible refine (impl_Cuckoo_settle.calls k g0 a0 P1 u1 sj (.slice (some ⟨go, 0, none⟩) l.length co2) (rdOf ByteArray.empty D (j : Int)) s2 false w0 _ ?side1 ?side2 ?side3 A7.out).mono ?_); (case side1 => exact Kz BK0.out); (case side2 => exact Bz HB.out); (case side3 => exact Rz HO1.out); rintro e w9 ⟨rfl, ho, hb, hg⟩; have nA_ := am ho; have nB_ := am hb; have nC_ := am (Kd.R_kept HO2.out (Kept.of_grown (S := fun k_ => some k_ = u1.ownBlock) hg (Kept.refl _ _) (fun k_ e_ => .inl e_.symm)) (fun k_ e_ hs_ => HNE.out k_ e_.symm hs_.symm)); have nD_ := am (blk_grown BK0.out hg (Kd.R_ne HO1.out BK0.out (by decide))); have nE_ := am (Kept.of_grown hg HK.out (fun k_ e_ => .inl (.inl e_.symm))); clear HO1 HO2 BK0 HB HK ho hb hg; revert nA_ nB_ nC_ nD_ nE_; intro HO1 HB HO2 BK0 HK; obtain ⟨hx8, hf8⟩ := Kd.R_celln ByteArray.empty HO2.out (i : Int) (of_decide_eq_true c4b3) (of_decide_eq_true c4b2); rw [Int.toNat_natCast] at hx8 hf8; have p8 := eT (0 ≤ (i : Int)); have q8 := eT ((i : Int) < (l.length : Int)); have HP17 := Kd.R_putg HO2.out (i : Int) (rdOf ByteArray.empty D (j : Int)); rw [Int.toNat_natCast] at HP17) | ((with_reducible refine gate_store (t := 9) (p := 33) rfl ?_); refine store_event (t := 9) (p := 33) (v := ?vo_w18) (w1 := (w9.setCell ⟨go, i, none⟩ (.string (rdOf ByteArray.empty D (j : Int))))) ?hg ?ho ?hn ?hr ?_; (case ho => rfl); (case hg => rfl); (case hn => rfl); (case hr => first | (go_simp; done) | (go_simp; rfl)); intro w18 hw; have hg : w9.grownBy w18 (some go) := (by rw [hw]; exact HP17.2); have hp_ : Kd.R Kd.string 9 w18 w0.heap.size (fun k_ => some k_ = (.slice (some ⟨go, 0, none⟩) l.length co2 : Value).ownBlock) (.slice (some ⟨go, 0, none⟩) l.length co2) y9 := (by rw [hw, Ny9.out]; exact HP17.1); clear HP17; have n0_ := am (hp_); have n1_ := am (Kd.R_kept (Kd.R_tight rfl HO1.out) (Kept.of_grown (S := fun k_ => some k_ = some go) hg (Kept.refl _ _) (fun k_ e_ => .inl e_.symm)) (fun k_ e_ hs_ => HNE.out k_ hs_.symm e_.symm)); have n2_ := am (blk_grown BK0.out hg (Kd.R_ne HO2.out BK0.out (by decide))); have n4_ := am ((by rw [hw]; exact below_set (HB.out) GB.out : Below w0.heap.size w0 w18)); have n5_ := am (Kept.of_grown hg HK.out (fun k_ e_ => .inl (.inr e_.symm))); have n6_ := am (HO1.out.1); clear HO1 HO2 BK0 HB HK; revert n0_ n1_ n2_ n4_ n5_ n6_; intro HO2 HO1 BK0 HB HK HOK; clear hg hw hp_))
       go_roundg (l.length - (j + 1))
       case measure => have := HI.out; have := C4.out; omega
       case rel =>
        have hc4 := C4.out; have hi1 := HI1.out; have hr2 := HR2.out; have hd := HD.out.1; exact ⟨i + 1, j + 1, y9, s2, r2, by rw [show wrap64 ((i : Int) + 1) = ((i + 1 : Nat) : Int) from by unfold wrap64; omega], by rw [show wrap64 ((j : Int) + 1) = ((j + 1 : Nat) : Int) from by unfold wrap64; omega], ⟨⟨by omega, hc4, Nat.le_refl _⟩⟩, ⟨⟨by rw [Ny9.out]; simpa using hd, by rw [Ny9.out]; exact HD1.out, HU2.out, by rw [Ny9.out]; exact hr2⟩⟩, ⟨Rz (Kd.R_mono HO1.out (fun k_ e_ => HOK.out k_ e_.symm))⟩, ⟨Rz HO2.out⟩, ⟨Kz BK0.out⟩, ⟨Bz HB.out⟩, HK⟩
    · have e : j = l.length := by have := HI.out; omega
      subst e; have hu := HD.out.2.2.1
      simp only [List.drop_length, unst, Option.some.injEq, Prod.mk.injEq] at hu
      obtain ⟨hu1, hu2⟩ := hu; have HU1 := am hu1; have HU2 := am hu2; clear hu1 hu2; have hi1 := HI1.out; have hco := COL.out; have hHD := HD.out.1
      have hcl : ∀ (ty c' : Nat), (Builtin.clear_ #[24] ty #[.slice (some ⟨go, i, none⟩) (l.length - i) c']).run Try.prog wr = .ok (.tuple #[]) (wr.setCells go i (List.replicate (l.length - i) (.string ⟨#[]⟩))) := fun ty c' =>
       Lib.run_clear_slice (P := Try.prog) wr 24 9 ty (.string ⟨#[]⟩) Try.underlying24 Try.zeroValue9 rfl rfl go i (l.length - i) c' (by omega) (fun j hj => by
        have := (Kd.R_celln ByteArray.empty HO2.out ((i + j : Nat) : Int) (by omega) (by omega)).1; rw [Int.toNat_natCast] at this
        rw [this]; rfl) (fun j hj => by
        have := (Kd.R_celln ByteArray.empty HO2.out ((i + j : Nat) : Int) (by omega) (by omega)).2
        rwa [Int.toNat_natCast] at this)
      have hzi : ((i : Int) ≤ (l.length : Int)) = True := eq_true (by omega); have hzc : (i ≤ co2) = True := eq_true (by omega); have hzc2 : ((i : Int) ≤ (co2 : Int)) = True := eq_true (by omega); have hzl : (i ≤ l.length) = True := eq_true (by omega); have hze : (co2 = i) = False := eq_false (by omega)
      go_wp2
      go_ret
      have hR := R_setCells (R_cut0 HO2.out i (by rw [hHD]; omega)) i (Nat.le_refl _) (List.replicate (l.length - i) (.string ⟨#[]⟩)) (by rw [List.length_replicate]; omega); have hgs := setCells_grown go (List.replicate (l.length - i) (.string ⟨#[]⟩)) i wr; have hO1 := HO1.out; rw [HU1.out] at hO1; refine ⟨.slice (some ⟨go, 0, none⟩) i co2, eZ, rfl, ?_, ?_, ?_, ?_⟩
      · exact Kd.R_mono (Kd.R_kept (Kd.R_tight rfl hO1) (Kept.of_grown (S := fun k_ => some k_ = some go) hgs (Kept.refl _ _) (fun k_ e_ => .inl e_.symm)) (fun k_ e_ hs_ => HNE.out k_ hs_.symm e_.symm)) (fun k_ e_ => HO1.out.1 k_ e_.symm)
      · rw [HD.out.2.2.2, ← HU2.out, List.append_nil]; exact hR
      · exact Below.grown HB.out hgs HB.out.size (fun k hk => by cases hk; exact GB.out)
      · exact Kept.of_grown hgs HK.out (fun k_ e_ => .inl (.inr e_.symm))
def impl_CuckooUnstash.f (k : Nat) (a0_0 : Int) (l0_1 : List ByteArray) (l0_2 : List ByteArray) : Option (Int × List ByteArray × List ByteArray × Bool) := (impl_IsCuckoo.f k a0_0 l0_1 l0_2).bind fun t519 => (if t519 = true then ((impl_cloneCuckoo.f a0_0 l0_1 l0_2).bind fun bt520 => (if bt520.2.2.length < 1000000 then ((unst k bt520.1 bt520.2.1 bt520.2.2).bind fun q => (some (bt520.1, q.1, q.2, true))) else (none))) else (some (0, ([] : List ByteArray), ([] : List ByteArray), false)))
theorem impl_CuckooUnstash.calls (k : Nat) (a0_0 : Int) (A0_1 : Option Addr) (c0_1 : Nat) (l0_1 : List ByteArray) (A0_2 : Option Addr) (c0_2 : Nat) (l0_2 : List ByteArray) (r1 : Int) (r2 : List ByteArray) (r3 : List ByteArray) (r4 : Bool) (w : World) (hr0_1 : Kd.C Kd.string w A0_1 l0_1.length l0_1) (hc0_1 : l0_1.length ≤ c0_1) (hr0_2 : Kd.C Kd.string w A0_2 l0_2.length l0_2) (hc0_2 : l0_2.length ≤ c0_2) (h : impl_CuckooUnstash.f k a0_0 l0_1 l0_2 = some (r1, r2, r3, r4)) :
  Calls Try.prog 49 #[.agg #[.int .i64 a0_0, .slice A0_1 l0_1.length c0_1, .slice A0_2 l0_2.length c0_2]] w fun e w' => ∃ v1_ v2_ : Value, e = .returned (.tuple #[.agg #[.int .i64 r1, v1_, v2_], .bool r4]) ∧ Kd.R Kd.string 9 w' w.heap.size (fun k_ => some k_ ≠ (v2_ : Value).ownBlock) v1_ r2 ∧ Kd.R Kd.string 9 w' w.heap.size (fun k_ => some k_ ≠ (v1_ : Value).ownBlock) v2_ r3 ∧ Below w.heap.size w w' := by
 have hu51 := Try.underlying51; have HR0_1 := am hr0_1; have HC0_1 := am hc0_1; clear hr0_1 hc0_1; have HR0_2 := am hr0_2; have HC0_2 := am hc0_2; clear hr0_2 hc0_2; have HB := am (Below.refl w.heap.size w); have H : ((impl_IsCuckoo.f k a0_0 l0_1 l0_2).bind fun t519 => (if t519 = true then ((impl_cloneCuckoo.f a0_0 l0_1 l0_2).bind fun bt520 => (if bt520.2.2.length < 1000000 then ((unst k bt520.1 bt520.2.1 bt520.2.2).bind fun q => (some (bt520.1, q.1, q.2, true))) else (none))) else (some (0, ([] : List ByteArray), ([] : List ByteArray), false)))) = some (r1, r2, r3, r4) := h; clear h; replace H := Option.bind_eq_some_iff.mp H; obtain ⟨t519, A20, H⟩ := H; (try dsimp -simprocs only at H); have A2 := am A20; clear A20
 by_cases c3 : t519 = true
 ·subst c3
  rw [if_pos rfl] at H; replace H := Option.bind_eq_some_iff.mp H; obtain ⟨⟨t520, t521, t524⟩, A40, H⟩ := H; (try dsimp -simprocs only at H); have A4 := am A40; clear A40
  by_cases cL : t524.length < 1000000
  case neg => rw [if_neg cL] at H; exact absurd H (by simp)
  rw [if_pos cL] at H; have CL := am cL; clear cL; replace H := Option.bind_eq_some_iff.mp H; obtain ⟨⟨tq, t528⟩, A50, H⟩ := H; (try dsimp -simprocs only at H); have A5 := am A50; clear A50
  simp only [Option.some.injEq, Prod.mk.injEq] at H
  obtain ⟨rfl, rfl, rfl, rfl⟩ := H
  go_enter Try.func49, Try.ntmps49
  go_wp2_with (first | ((with_reducible refine gate_dst (N := 1) rfl ?_); refine bE 1 #[.int .i64 a0_0, .slice A0_1 l0_1.length c0_1, .slice A0_2 l0_2.length c0_2] 51 ?_; intro gb517 hg w6 hbox hb; have n0_ := Bb HB hb; have n1_ := am (hbox); have n2_ := Gl HB hg; have n3_ := Gl HB hg; clear HB; revert n0_ n1_ n2_ n3_; intro HB BK517 GW517 GE517; clear hb hbox hg) | ((with_reducible refine gate_dst (N := 2) rfl ?_); refine bE 2 #[.int .i64 0, .slice none 0 0, .slice none 0 0] 51 ?_; intro gb518 hg w7 hbox hb; have n0_ := Kb BK517 hb; have n1_ := Bc HB hb; have n2_ := am (hbox); have n3_ := Gm HB hg; have n4_ := Gm HB hg; have n5_ := Nl BK517 hg; have n6_ := Ng BK517 hg; clear BK517 HB; revert n0_ n1_ n2_ n3_ n4_ n5_ n6_; intro BK517 HB BK518 GW518 GE518 NB517_518 NB518_517; clear hb hbox hg; have hnb8 := NB517_518.out; have hnc8 := NB518_517.out; obtain ⟨hcz9_0, hcz9_1, hcz9_2, hfz9_0, hfz9_1, hfz9_2⟩ := cf3 (w := w7) BK517) | ((with_reducible refine gate_callee (f := 52) rfl ?_); refine gL (some 6) Try.func52 #[.agg #[.int .i64 a0_0, .slice A0_1 l0_1.length c0_1, .slice A0_2 l0_2.length c0_2]] ?_; (with_reducible refine (impl_IsCuckoo.calls k a0_0 _ _ l0_1 _ _ l0_2 true _ ?side1 ?side2 ?side3 ?side4 A2.out).mono ?_); (case side1 => exact Cz (Kd.C_below HR0_1.out HB.out)); (case side2 => exact HC0_1.out); (case side3 => exact Cz (Kd.C_below HR0_2.out HB.out)); (case side4 => exact HC0_2.out); rintro e w10 ⟨rfl, hb⟩; refine ⟨_, rfl, ?_⟩; have n0_ := Kb BK517 hb; have n1_ := Kb BK518 hb; have n2_ := Bc HB hb; clear BK517 BK518 HB; revert n0_ n1_ n2_; intro BK517 BK518 HB; (try clear hb); (try clear hb2); (try clear hk); (try clear hi); obtain ⟨hcz11_0, hcz11_1, hcz11_2, hfz11_0, hfz11_1, hfz11_2⟩ := cf3 (w := w10) BK517) | ((with_reducible refine gate_callee (f := 103) rfl ?_); refine gL (some 10) Try.func103 #[.agg #[.int .i64 a0_0, .slice A0_1 l0_1.length c0_1, .slice A0_2 l0_2.length c0_2]] ?_; (with_reducible refine (impl_cloneCuckoo.calls a0_0 _ _ l0_1 _ _ l0_2 t520 t521 t524 _ ?side1 ?side2 ?side3 ?side4 A4.out).mono ?_); (case side1 => exact Cz (Kd.C_below HR0_1.out HB.out)); (case side2 => exact HC0_1.out); (case side3 => exact Cz (Kd.C_below HR0_2.out HB.out)); (case side4 => exact HC0_2.out); rintro e w12 ⟨v522, v525, rfl, ho0, ho1, hb⟩; refine ⟨_, rfl, ?_⟩; have n0_ := Rm ho0 HB; have n1_ := Rm ho1 HB; have n2_ := Kb BK517 hb; have n3_ := Kb BK518 hb; have n4_ := Bc HB hb; clear BK517 BK518 HB; revert n0_ n1_ n2_ n3_ n4_; intro HO523 HO526 BK517 BK518 HB; (try clear hb); (try clear hb2); (try clear hk); (try clear hi); (try clear ho0); (try clear ho1)) | ((with_reducible refine gate_dst (N := 4) rfl ?_); refine bE 4 #[.int .i64 0, .slice none 0 0, .slice none 0 0] 51 ?_; intro gb527 hg w13 hbox hb; have n0_ := Rb HO523 hb; have n1_ := Rb HO526 hb; have n2_ := Kb BK517 hb; have n3_ := Kb BK518 hb; have n4_ := Bc HB hb; have n5_ := am (hbox); have n6_ := Gm HB hg; have n7_ := Gm HB hg; have n8_ := Nl BK517 hg; have n9_ := Ng BK517 hg; have n10_ := Nl BK518 hg; have n11_ := Ng BK518 hg; clear HO523 HO526 BK517 BK518 HB; revert n0_ n1_ n2_ n3_ n4_ n5_ n6_ n7_ n8_ n9_ n10_ n11_; intro HO523 HO526 BK517 BK518 HB BK527 GW527 GE527 NB517_527 NB527_517 NB518_527 NB527_518; clear hb hbox hg; have hnb14 := NB527_517.out; have hnc14 := NB517_527.out; have hnb15 := NB527_518.out; have hnc15 := NB518_527.out; obtain ⟨hcz16_0, hcz16_1, hcz16_2, hfz16_0, hfz16_1, hfz16_2⟩ := cf3 (w := w13) BK527; obtain ⟨Ao17, co17, eo17⟩ := Kd.R_slice HO523.out; subst eo17; obtain ⟨Ao18, co18, eo18⟩ := Kd.R_slice HO526.out; subst eo18) | ((with_reducible refine gate_callee (f := 108) rfl ?_); refine gL (some 14) Try.func108 #[.slice Ao18 t524.length co18, .func (.func 109) #[.pointer (some ⟨gb527, 0, none⟩)] #[]] ?_; have xA : Kd.R Kd.string 9 (((w13.setCell ⟨gb527, 0, none⟩ (.int .i64 t520)).setCell ⟨gb527, 1, none⟩ (.slice Ao17 t521.length co17)).setCell ⟨gb527, 2, none⟩ (.slice Ao18 t524.length co18)) w.heap.size (fun k_ => some k_ ≠ (.slice Ao18 t524.length co18 : Value).ownBlock) (.slice Ao17 t521.length co17) t521 := (Kd.R_mono (Kd.R_far (p := ⟨gb527, 2, none⟩) (Kd.R_far (p := ⟨gb527, 1, none⟩) (Kd.R_far (p := ⟨gb527, 0, none⟩) (Kd.R_types HO523.out BK527.out (by decide)) (fun _ hk => hk.2) (.int .i64 t520)) (fun _ hk => hk.2) (.slice Ao17 t521.length co17)) (fun _ hk => hk.2) (.slice Ao18 t524.length co18)) (fun _ h_ => h_.1)); have xB : Kd.R Kd.string 9 (((w13.setCell ⟨gb527, 0, none⟩ (.int .i64 t520)).setCell ⟨gb527, 1, none⟩ (.slice Ao17 t521.length co17)).setCell ⟨gb527, 2, none⟩ (.slice Ao18 t524.length co18)) w.heap.size (fun k_ => some k_ ≠ (.slice Ao17 t521.length co17 : Value).ownBlock) (.slice Ao18 t524.length co18) t524 := (Kd.R_mono (Kd.R_far (p := ⟨gb527, 2, none⟩) (Kd.R_far (p := ⟨gb527, 1, none⟩) (Kd.R_far (p := ⟨gb527, 0, none⟩) (Kd.R_types HO526.out BK527.out (by decide)) (fun _ hk => hk.2) (.int .i64 t520)) (fun _ hk => hk.2) (.slice Ao17 t521.length co17)) (fun _ hk => hk.2) (.slice Ao18 t524.length co18)) (fun _ h_ => h_.1)); have xD : (((w13.setCell ⟨gb527, 0, none⟩ (.int .i64 t520)).setCell ⟨gb527, 1, none⟩ (.slice Ao17 t521.length co17)).setCell ⟨gb527, 2, none⟩ (.slice Ao18 t524.length co18)).heap[gb517]? = some (.cells #[.int .i64 a0_0, .slice A0_1 l0_1.length c0_1, .slice A0_2 l0_2.length c0_2] 51 (0, 0)) := (by (with_reducible repeat (first | refine blk_drewN ?_ _ | refine blk_drew ?_ | refine blk_alloc ?_ _)); refine blk_far ?_ NB517_527.out _; (with_reducible repeat (first | refine blk_drewN ?_ _ | refine blk_drew ?_ | refine blk_alloc ?_ _)); refine blk_far ?_ NB517_527.out _; (with_reducible repeat (first | refine blk_drewN ?_ _ | refine blk_drew ?_ | refine blk_alloc ?_ _)); refine blk_far ?_ NB517_527.out _; exact Kz BK517.out); have xE : (((w13.setCell ⟨gb527, 0, none⟩ (.int .i64 t520)).setCell ⟨gb527, 1, none⟩ (.slice Ao17 t521.length co17)).setCell ⟨gb527, 2, none⟩ (.slice Ao18 t524.length co18)).heap[gb518]? = some (.cells #[.int .i64 0, .slice none 0 0, .slice none 0 0] 51 (0, 0)) := (by (with_reducible repeat (first | refine blk_drewN ?_ _ | refine blk_drew ?_ | refine blk_alloc ?_ _)); refine blk_far ?_ NB518_527.out _; (with_reducible repeat (first | refine blk_drewN ?_ _ | refine blk_drew ?_ | refine blk_alloc ?_ _)); refine blk_far ?_ NB518_527.out _; (with_reducible repeat (first | refine blk_drewN ?_ _ | refine blk_drew ?_ | refine blk_alloc ?_ _)); refine blk_far ?_ NB518_527.out _; exact Kz BK518.out); have xC : (((w13.setCell ⟨gb527, 0, none⟩ (.int .i64 t520)).setCell ⟨gb527, 1, none⟩ (.slice Ao17 t521.length co17)).setCell ⟨gb527, 2, none⟩ (.slice Ao18 t524.length co18)).heap[gb527]? = some (.cells #[.int .i64 t520, .slice Ao17 t521.length co17, .slice Ao18 t524.length co18] 51 (0, 0)) := (by (with_reducible repeat (first | refine blk_drewN ?_ _ | refine blk_drew ?_ | refine blk_alloc ?_ _)); refine blk_put (cs := #[.int .i64 t520, .slice Ao17 t521.length co17, .slice none 0 0]) ?_ 2 _ rfl; (with_reducible repeat (first | refine blk_drewN ?_ _ | refine blk_drew ?_ | refine blk_alloc ?_ _)); refine blk_put (cs := #[.int .i64 t520, .slice none 0 0, .slice none 0 0]) ?_ 1 _ rfl; (with_reducible repeat (first | refine blk_drewN ?_ _ | refine blk_drew ?_ | refine blk_alloc ?_ _)); refine blk_put (cs := #[.int .i64 0, .slice none 0 0, .slice none 0 0]) ?_ 0 _ rfl; exact Kz BK527.out); have xF : Below w.heap.size w (((w13.setCell ⟨gb527, 0, none⟩ (.int .i64 t520)).setCell ⟨gb527, 1, none⟩ (.slice Ao17 t521.length co17)).setCell ⟨gb527, 2, none⟩ (.slice Ao18 t524.length co18)) := Bq; (with_reducible refine (del_settle k gb527 t520 _ _ (.slice Ao17 t521.length co17) (.slice Ao18 t524.length co18) t521 t524 tq t528 w _ xC xF xA xB ?sideN CL.out A5.out).mono ?_); (case sideN => exact fun k_ e_ h_ => xB.1 k_ e_ h_.symm); rintro e wz ⟨v529, rfl, hown, ho1, ho0, hb, hkp⟩; refine ⟨_, rfl, ?_⟩; have n0_ := am (Kd.R_mono (ok' := fun k_ => some k_ ≠ (.slice Ao18 t524.length co18 : Value).ownBlock ∧ some k_ ≠ (v529 : Value).ownBlock) ho1 (fun k_ hk_ => ⟨hk_, by rw [hown]; exact hk_⟩)); have n2_ := am (Kd.R_mono (ok' := fun k_ => (True ∧ some k_ ≠ (.slice Ao17 t521.length co17 : Value).ownBlock) ∧ True) ho0 (fun k_ hk_ => ⟨⟨trivial, xB.1 k_ hk_.symm⟩, trivial⟩)); have mD_ := am (blk_kept xD hkp (fun hs_ => Or.elim hs_ (Kd.R_ne xA xD (by decide)) (Kd.R_ne xB xD (by decide)))); have mE_ := am (blk_kept xE hkp (fun hs_ => Or.elim hs_ (Kd.R_ne xA xE (by decide)) (Kd.R_ne xB xE (by decide)))); have mC_ := am (blk_kept xC hkp (fun hs_ => Or.elim hs_ (Kd.R_ne xA xC (by decide)) (Kd.R_ne xB xC (by decide)))); have n6_ := am hb; clear xA xB xC xD xE xF ho0 ho1 hb hkp hown HO523 HO526 BK517 BK518 BK527 HB; revert n0_ n2_ mD_ mE_ mC_ n6_; intro HO523 HO530 BK517 BK518 BK527 HB; obtain ⟨Ao20, co20, eo20⟩ := Kd.R_slice HO530.out; subst eo20; obtain ⟨hcz21_0, hcz21_1, hcz21_2, hfz21_0, hfz21_1, hfz21_2⟩ := cf3 (w := wz) BK527; obtain ⟨hcz22_0, hcz22_1, hcz22_2, hfz22_0, hfz22_1, hfz22_2⟩ := cf3 (w := wz) BK518))
  refine bodyPost_ret (results_ct rfl _ _ gb518 51 #[.int .i64 t520, .slice Ao17 t521.length co17, .slice Ao20 t528.length co20] (0, 0) _ rfl (by (with_reducible repeat (first | refine blk_drewN ?_ _ | refine blk_drew ?_ | refine blk_alloc ?_ _)); refine blk_put (cs := #[.int .i64 t520, .slice Ao17 t521.length co17, .slice none 0 0]) ?_ 2 _ rfl; (with_reducible repeat (first | refine blk_drewN ?_ _ | refine blk_drew ?_ | refine blk_alloc ?_ _)); refine blk_put (cs := #[.int .i64 t520, .slice none 0 0, .slice none 0 0]) ?_ 1 _ rfl; (with_reducible repeat (first | refine blk_drewN ?_ _ | refine blk_drew ?_ | refine blk_alloc ?_ _)); refine blk_put (cs := #[.int .i64 0, .slice none 0 0, .slice none 0 0]) ?_ 0 _ rfl; (with_reducible repeat (first | refine blk_drewN ?_ _ | refine blk_drew ?_ | refine blk_alloc ?_ _)); refine blk_far ?_ NB518_527.out _; exact Kz BK518.out) Try.underlying51 rfl (by kernel_rfl)) rfl ?_; exact ⟨_, _, eZ, Rz (Kd.R_mono (Kd.R_far (p := ⟨gb518, 2, none⟩) (Kd.R_far (p := ⟨gb518, 1, none⟩) (Kd.R_far (p := ⟨gb518, 0, none⟩) (Kd.R_far (p := ⟨gb527, 2, none⟩) (Kd.R_types (Kd.R_types HO523.out BK527.out (by decide)) BK518.out (by decide)) (fun _ hk => hk.1.2) (.slice Ao20 t528.length co20)) (fun _ hk => hk.2) (.int .i64 t520)) (fun _ hk => hk.2) (.slice Ao17 t521.length co17)) (fun _ hk => hk.2) (.slice Ao20 t528.length co20)) (fun _ hk => hk.1.1.2)), Rz (Kd.R_mono (Kd.R_far (p := ⟨gb518, 2, none⟩) (Kd.R_far (p := ⟨gb518, 1, none⟩) (Kd.R_far (p := ⟨gb518, 0, none⟩) (Kd.R_far (p := ⟨gb527, 2, none⟩) (Kd.R_types (Kd.R_types HO530.out BK527.out (by decide)) BK518.out (by decide)) (fun _ hk => hk.1.2) (.slice Ao20 t528.length co20)) (fun _ hk => hk.2) (.int .i64 t520)) (fun _ hk => hk.2) (.slice Ao17 t521.length co17)) (fun _ hk => hk.2) (.slice Ao20 t528.length co20)) (fun _ hk => hk.1.1.1.2)), Bq⟩
 ·replace c3 := Bool.eq_false_iff.mpr c3
  subst c3; rw [if_neg (show ¬ (false = true) by decide)] at H
  simp only [Option.some.injEq, Prod.mk.injEq] at H
  obtain ⟨rfl, rfl, rfl, rfl⟩ := H
  go_enter Try.func49, Try.ntmps49
  go_wp2_with (first | ((with_reducible refine gate_dst (N := 1) rfl ?_); refine bE 1 #[.int .i64 a0_0, .slice A0_1 l0_1.length c0_1, .slice A0_2 l0_2.length c0_2] 51 ?_; intro gb517 hg w23 hbox hb; have n0_ := Bb HB hb; have n1_ := am (hbox); have n2_ := Gl HB hg; have n3_ := Gl HB hg; clear HB; revert n0_ n1_ n2_ n3_; intro HB BK517 GW517 GE517; clear hb hbox hg) | ((with_reducible refine gate_dst (N := 2) rfl ?_); refine bE 2 #[.int .i64 0, .slice none 0 0, .slice none 0 0] 51 ?_; intro gb518 hg w24 hbox hb; have n0_ := Kb BK517 hb; have n1_ := Bc HB hb; have n2_ := am (hbox); have n3_ := Gm HB hg; have n4_ := Gm HB hg; have n5_ := Nl BK517 hg; have n6_ := Ng BK517 hg; clear BK517 HB; revert n0_ n1_ n2_ n3_ n4_ n5_ n6_; intro BK517 HB BK518 GW518 GE518 NB517_518 NB518_517; clear hb hbox hg; have hnb25 := NB517_518.out; have hnc25 := NB518_517.out; obtain ⟨hcz26_0, hcz26_1, hcz26_2, hfz26_0, hfz26_1, hfz26_2⟩ := cf3 (w := w24) BK517) | ((with_reducible refine gate_callee (f := 52) rfl ?_); refine gL (some 6) Try.func52 #[.agg #[.int .i64 a0_0, .slice A0_1 l0_1.length c0_1, .slice A0_2 l0_2.length c0_2]] ?_; (with_reducible refine (impl_IsCuckoo.calls k a0_0 _ _ l0_1 _ _ l0_2 false _ ?side1 ?side2 ?side3 ?side4 A2.out).mono ?_); (case side1 => exact Cz (Kd.C_below HR0_1.out HB.out)); (case side2 => exact HC0_1.out); (case side3 => exact Cz (Kd.C_below HR0_2.out HB.out)); (case side4 => exact HC0_2.out); rintro e w27 ⟨rfl, hb⟩; refine ⟨_, rfl, ?_⟩; have n0_ := Kb BK517 hb; have n1_ := Kb BK518 hb; have n2_ := Bc HB hb; clear BK517 BK518 HB; revert n0_ n1_ n2_; intro BK517 BK518 HB; (try clear hb); (try clear hb2); (try clear hk); (try clear hi); obtain ⟨hcz28_0, hcz28_1, hcz28_2, hfz28_0, hfz28_1, hfz28_2⟩ := cf3 (w := w27) BK518))
  refine bodyPost_ret (results_ct rfl _ _ gb518 51 #[.int .i64 0, .slice none 0 0, .slice none 0 0] (0, 0) _ rfl (by (with_reducible repeat (first | refine blk_drewN ?_ _ | refine blk_drew ?_ | refine blk_alloc ?_ _)); refine blk_put (cs := #[.int .i64 0, .slice none 0 0, .slice none 0 0]) ?_ 2 _ rfl; (with_reducible repeat (first | refine blk_drewN ?_ _ | refine blk_drew ?_ | refine blk_alloc ?_ _)); refine blk_put (cs := #[.int .i64 0, .slice none 0 0, .slice none 0 0]) ?_ 1 _ rfl; (with_reducible repeat (first | refine blk_drewN ?_ _ | refine blk_drew ?_ | refine blk_alloc ?_ _)); refine blk_put (cs := #[.int .i64 0, .slice none 0 0, .slice none 0 0]) ?_ 0 _ rfl; exact Kz BK518.out) Try.underlying51 rfl (by kernel_rfl)) rfl ?_; exact ⟨_, _, eZ, nZ, nZ, Bq⟩

end Go.Proofs.Ytephjmmkggcmeaa.PG
