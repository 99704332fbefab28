import Derived.Test.YtpkpjikkfikejaaCF1
import Derived.Test.YtpkpjikkfikejaaCF2
import Derived.Test.YtpkpjikkfikejaaCF3
import Derived.Test.YtpkpjikkfikejaaCF0
import Derived.Lib.Bytes
import Derived.Laws.BitsLemmas
-- printed by a program of this session (wip/gp) out of the translation; Lean checks it
namespace Go.Proofs.Ytpkpjikkfikejaa.PA
open Go.RowKit Go.Proofs.YtpkpjikkfikejaaW.PrintWords Go.Proofs.YtpkpjikkfikejaaW.PrintLast Go.Proofs.YtpkpjikkfikejaaW.PrintMore Go.Proofs.YtpkpjikkfikejaaSq
attribute [local go_sem] max2_int min2_int max_two min_two max_three min_three max_four min_four   -- for this text's walks alone
attribute [local go_sem] Go.Proofs.YtpkpjikkfikejaaGp.str_geq Go.Proofs.YtpkpjikkfikejaaGp.str_gtr Go.Proofs.YtpkpjikkfikejaaGp.str_leq
set_option linter.unusedVariables false
set_option linter.unusedSimpArgs false

set_option maxHeartbeats 8000000
set_option maxRecDepth 100000
def spec_BloomAdd.f (k : Nat) (a0_0 : Int) (a0_1 : Int) (a0_2 : Int) (l0_3 : List Int) (a1 : ByteArray) : Option (Int × Int × Int × List Int × Bool) := (spec_fiGood.f k a0_0 a0_1 a0_2 l0_3).bind fun t148 => (if t148 = true then ((spec_IsKey.f k a1).bind fun t149 => (if t149 = true then ((spec_fiAdd.f k a0_0 a0_1 a0_2 l0_3 (([a1] : List ByteArray))).bind fun bt153 => (some (bt153.1, bt153.2.1, bt153.2.2.1, bt153.2.2.2, true))) else (some (0, 0, 0, ([] : List Int), false)))) else (some (0, 0, 0, ([] : List Int), false)))
theorem spec_BloomAdd.calls (k : Nat) (a0_0 : Int) (a0_1 : Int) (a0_2 : Int) (A0_3 : Option Addr) (c0_3 : Nat) (l0_3 : List Int) (a1 : ByteArray) (r1 : Int) (r2 : Int) (r3 : Int) (r4 : List Int) (r5 : Bool) (w : World) (hr0_3 : Kd.C (Kd.int .i64) w A0_3 l0_3.length l0_3) (hc0_3 : l0_3.length ≤ c0_3) (h : spec_BloomAdd.f k a0_0 a0_1 a0_2 l0_3 a1 = some (r1, r2, r3, r4, r5)) :
  Calls Try.prog 24 #[.agg #[.int .i64 a0_0, .int .i64 a0_1, .int .i64 a0_2, .slice A0_3 l0_3.length c0_3], .string a1] w fun e w' => ∃ v3_ : Value, e = .returned (.tuple #[.agg #[.int .i64 r1, .int .i64 r2, .int .i64 r3, v3_], .bool r5]) ∧ Kd.R (Kd.int .i64) 3 w' w.heap.size (fun _ => True) v3_ r4 ∧ Below w.heap.size w w' := by
 have hu28 := Try.underlying28; have HR0_3 := am hr0_3; have HC0_3 := am hc0_3; clear hr0_3 hc0_3; have HB := am (Below.refl w.heap.size w); have H : ((spec_fiGood.f k a0_0 a0_1 a0_2 l0_3).bind fun t148 => (if t148 = true then ((spec_IsKey.f k a1).bind fun t149 => (if t149 = true then ((spec_fiAdd.f k a0_0 a0_1 a0_2 l0_3 (([a1] : List ByteArray))).bind fun bt153 => (some (bt153.1, bt153.2.1, bt153.2.2.1, bt153.2.2.2, true))) else (some (0, 0, 0, ([] : List Int), false)))) else (some (0, 0, 0, ([] : List Int), false)))) = some (r1, r2, r3, r4, r5) := h; clear h; replace H := Option.bind_eq_some_iff.mp H; obtain ⟨t148, A30, H⟩ := H; (try dsimp -simprocs only at H); have A3 := am A30; clear A30
 by_cases c4 : t148 = true
 ·subst c4
  rw [if_pos rfl] at H; replace H := Option.bind_eq_some_iff.mp H; obtain ⟨t149, A50, H⟩ := H; (try dsimp -simprocs only at H); have A5 := am A50; clear A50
  by_cases c6 : t149 = true
  ·subst c6
   rw [if_pos rfl] at H; obtain ⟨y150, hy150⟩ : ∃ y_ : List ByteArray, y_ = (([a1] : List ByteArray)) := ⟨_, rfl⟩
   replace H : ((spec_fiAdd.f k a0_0 a0_1 a0_2 l0_3 y150).bind fun bt153 => (some (bt153.1, bt153.2.1, bt153.2.2.1, bt153.2.2.2, true))) = some (r1, r2, r3, r4, r5) := by first | (rw [hy150]; with_reducible exact H) | (have H2_ := (Option.bind_some _ _).symm.trans H; rw [hy150]; with_reducible exact H2_) | (have H2_ := (Option.bind_some _ _).symm.trans H; with_reducible exact H2_) | with_reducible exact H | (rw [hy150]; exact H) | exact H
   have Ny150 := am hy150; clear hy150; replace H := Option.bind_eq_some_iff.mp H; obtain ⟨⟨t153, t154, t155, t156⟩, A70, H⟩ := H; (try dsimp -simprocs only at H); have A7 := am A70; clear A70
   simp only [Option.some.injEq, Prod.mk.injEq] at H
   obtain ⟨rfl, rfl, rfl, rfl, rfl⟩ := H
   go_enter Try.func24, Try.ntmps24
   go_wp2_with (first | ((with_reducible refine gate_dst (N := 2) rfl ?_); refine bE 2 #[.int .i64 a0_0, .int .i64 a0_1, .int .i64 a0_2, .slice A0_3 l0_3.length c0_3] 28 ?_; intro gb146 hg w8 hbox hb; have n0_ := Bb HB hb; have n1_ := am (hbox); have n2_ := Gl HB hg; have n3_ := Gl HB hg; clear HB; revert n0_ n1_ n2_ n3_; intro HB BK146 GW146 GE146; clear hb hbox hg) | ((with_reducible refine gate_dst (N := 4) rfl ?_); refine bE 4 #[.int .i64 0, .int .i64 0, .int .i64 0, .slice none 0 0] 28 ?_; intro gb147 hg w9 hbox hb; have n0_ := Kb BK146 hb; have n1_ := Bc HB hb; have n2_ := am (hbox); have n3_ := Gm HB hg; have n4_ := Gm HB hg; have n5_ := Nl BK146 hg; have n6_ := Ng BK146 hg; clear BK146 HB; revert n0_ n1_ n2_ n3_ n4_ n5_ n6_; intro BK146 HB BK147 GW147 GE147 NB146_147 NB147_146; clear hb hbox hg; have hnb10 := NB146_147.out; have hnc10 := NB147_146.out; obtain ⟨hcz11_0, hcz11_1, hcz11_2, hcz11_3, hfz11_0, hfz11_1, hfz11_2, hfz11_3⟩ := cf4 (w := w9) BK146) | ((with_reducible refine gate_callee (f := 94) rfl ?_); refine gL (some 7) Try.func94 #[.agg #[.int .i64 a0_0, .int .i64 a0_1, .int .i64 a0_2, .slice A0_3 l0_3.length c0_3]] ?_; (with_reducible refine (spec_fiGood.calls k a0_0 a0_1 a0_2 _ _ l0_3 true _ ?side1 ?side2 A3.out).mono ?_); (case side1 => exact Cz (Kd.C_below HR0_3.out HB.out)); (case side2 => exact HC0_3.out); rintro e w12 ⟨rfl, hb⟩; refine ⟨_, rfl, ?_⟩; have n0_ := Kb BK146 hb; have n1_ := Kb BK147 hb; have n2_ := Bc HB hb; clear BK146 BK147 HB; revert n0_ n1_ n2_; intro BK146 BK147 HB; (try clear hb); (try clear hb2); (try clear hk); (try clear hi)) | (go_at_call 95; (with_reducible refine (spec_IsKey.calls k a1 true _ A5.out).mono ?_); rintro e w' ⟨rfl, ⟨nd, rfl⟩⟩; (try (rw [drewN_self w12]; generalize hq_ : World.drewN w12 _ = w12; have n0_ : Aside0 (w12.heap[gb146]? = some (.cells #[.int .i64 a0_0, .int .i64 a0_1, .int .i64 a0_2, .slice A0_3 l0_3.length c0_3] 28 (0, 0))) := ⟨by rw [← hq_]; exact (Kz BK146.out)⟩; have n1_ : Aside0 (w12.heap[gb147]? = some (.cells #[.int .i64 0, .int .i64 0, .int .i64 0, .slice none 0 0] 28 (0, 0))) := ⟨by rw [← hq_]; exact (Kz BK147.out)⟩; have n2_ : Aside0 (Below w.heap.size w w12) := ⟨by rw [← hq_]; exact (Bq)⟩; clear BK146 BK147 HB hq_; revert n0_ n1_ n2_; intro BK146 BK147 HB)); obtain ⟨hcz13_0, hcz13_1, hcz13_2, hcz13_3, hfz13_0, hfz13_1, hfz13_2, hfz13_3⟩ := cf4 (w := w12) BK146) | ((with_reducible refine gate_dst (N := 17) rfl ?_); refine Kd.R_lit Kd.string _ 9 ?hg (N := 17) ?hd (xs := ([a1] : List ByteArray)) (inner := [.string a1]) (ok := fun _ => True) (okp := fun _ => True) ?hr ?hp (fun _ hk => hk) trivial (Below.refl _ _) (Nat.le_refl _) (by simp) ?_; (case hd => rfl); (case hg => rfl); (case hr => first | (go_simp; done) | (go_simp; rfl)); (case hp => exact (Reps.one (show Kd.M Kd.string _ _ _ a1 [.string a1] from rfl) (Reps.none _ _))); intro v151 w14 ho15 hb hg_ hnew_; clear hg_ hnew_; (first | rw [← Ny150.out] at ho15 | (simp only [Int.reduceToNat] at ho15; rw [← Ny150.out] at ho15)); have n0_ := Rm ho15 HB; have n1_ := Kb BK146 hb; have n2_ := Kb BK147 hb; have n3_ := Bc HB hb; clear BK146 BK147 HB; revert n0_ n1_ n2_ n3_; intro HO152 BK146 BK147 HB; clear hb ho15; obtain ⟨Ao16, co16, eo16⟩ := Kd.R_slice HO152.out; subst eo16) | ((with_reducible refine gate_callee (f := 85) rfl ?_); refine gL (some 18) Try.func85 #[.agg #[.int .i64 a0_0, .int .i64 a0_1, .int .i64 a0_2, .slice A0_3 l0_3.length c0_3], .slice Ao16 y150.length co16] ?_; (with_reducible refine (spec_fiAdd.calls k a0_0 a0_1 a0_2 _ _ l0_3 _ _ y150 t153 t154 t155 t156 _ ?side1 ?side2 ?side3 ?side4 A7.out).mono ?_); (case side1 => exact Cz (Kd.C_below HR0_3.out HB.out)); (case side2 => exact HC0_3.out); (case side3 => exact Cz ((Kd.R_reads' HO152.out).2.2)); (case side4 => exact (Kd.R_reads' HO152.out).2.1); rintro e w17 ⟨v157, rfl, ho0, hb⟩; refine ⟨_, rfl, ?_⟩; have n0_ := Rb HO152 hb; have n1_ := Rm ho0 HB; have n2_ := Kb BK146 hb; have n3_ := Kb BK147 hb; have n4_ := Bc HB hb; clear HO152 BK146 BK147 HB; revert n0_ n1_ n2_ n3_ n4_; intro HO152 HO158 BK146 BK147 HB; (try clear hb); (try clear hb2); (try clear hk); (try clear hi); (try clear ho0); obtain ⟨hcz18_0, hcz18_1, hcz18_2, hcz18_3, hfz18_0, hfz18_1, hfz18_2, hfz18_3⟩ := cf4 (w := w17) BK147; obtain ⟨Ao19, co19, eo19⟩ := Kd.R_slice HO158.out; subst eo19))
   refine bodyPost_ret (results_ct rfl _ _ gb147 28 #[.int .i64 t153, .int .i64 t154, .int .i64 t155, .slice Ao19 t156.length co19] (0, 0) _ rfl (by (with_reducible repeat (first | refine blk_drewN ?_ _ | refine blk_drew ?_ | refine blk_alloc ?_ _)); refine blk_put (cs := #[.int .i64 t153, .int .i64 t154, .int .i64 t155, .slice none 0 0]) ?_ 3 _ rfl; (with_reducible repeat (first | refine blk_drewN ?_ _ | refine blk_drew ?_ | refine blk_alloc ?_ _)); refine blk_put (cs := #[.int .i64 t153, .int .i64 t154, .int .i64 0, .slice none 0 0]) ?_ 2 _ rfl; (with_reducible repeat (first | refine blk_drewN ?_ _ | refine blk_drew ?_ | refine blk_alloc ?_ _)); refine blk_put (cs := #[.int .i64 t153, .int .i64 0, .int .i64 0, .slice none 0 0]) ?_ 1 _ rfl; (with_reducible repeat (first | refine blk_drewN ?_ _ | refine blk_drew ?_ | refine blk_alloc ?_ _)); refine blk_put (cs := #[.int .i64 0, .int .i64 0, .int .i64 0, .slice none 0 0]) ?_ 0 _ rfl; exact Kz BK147.out) Try.underlying28 rfl (by kernel_rfl)) rfl ?_; exact ⟨_, eZ, Rz (Kd.R_mono (Kd.R_far (p := ⟨gb147, 3, none⟩) (Kd.R_far (p := ⟨gb147, 2, none⟩) (Kd.R_far (p := ⟨gb147, 1, none⟩) (Kd.R_far (p := ⟨gb147, 0, none⟩) (Kd.R_types HO158.out BK147.out (by decide)) (fun _ hk => hk.2) (.int .i64 t153)) (fun _ hk => hk.2) (.int .i64 t154)) (fun _ hk => hk.2) (.int .i64 t155)) (fun _ hk => hk.2) (.slice Ao19 t156.length co19)) (fun _ hk => trivial)), Bq⟩
  ·replace c6 := Bool.eq_false_iff.mpr c6
   subst c6
   rw [if_neg (show ¬ (false = true) by decide)] at H
   simp only [Option.some.injEq, Prod.mk.injEq] at H
   obtain ⟨rfl, rfl, rfl, rfl, rfl⟩ := H
   go_enter Try.func24, Try.ntmps24
   go_wp2_with (first | ((with_reducible refine gate_dst (N := 2) rfl ?_); refine bE 2 #[.int .i64 a0_0, .int .i64 a0_1, .int .i64 a0_2, .slice A0_3 l0_3.length c0_3] 28 ?_; intro gb146 hg w20 hbox hb; have n0_ := Bb HB hb; have n1_ := am (hbox); have n2_ := Gl HB hg; have n3_ := Gl HB hg; clear HB; revert n0_ n1_ n2_ n3_; intro HB BK146 GW146 GE146; clear hb hbox hg) | ((with_reducible refine gate_dst (N := 4) rfl ?_); refine bE 4 #[.int .i64 0, .int .i64 0, .int .i64 0, .slice none 0 0] 28 ?_; intro gb147 hg w21 hbox hb; have n0_ := Kb BK146 hb; have n1_ := Bc HB hb; have n2_ := am (hbox); have n3_ := Gm HB hg; have n4_ := Gm HB hg; have n5_ := Nl BK146 hg; have n6_ := Ng BK146 hg; clear BK146 HB; revert n0_ n1_ n2_ n3_ n4_ n5_ n6_; intro BK146 HB BK147 GW147 GE147 NB146_147 NB147_146; clear hb hbox hg; have hnb22 := NB146_147.out; have hnc22 := NB147_146.out; obtain ⟨hcz23_0, hcz23_1, hcz23_2, hcz23_3, hfz23_0, hfz23_1, hfz23_2, hfz23_3⟩ := cf4 (w := w21) BK146) | ((with_reducible refine gate_callee (f := 94) rfl ?_); refine gL (some 7) Try.func94 #[.agg #[.int .i64 a0_0, .int .i64 a0_1, .int .i64 a0_2, .slice A0_3 l0_3.length c0_3]] ?_; (with_reducible refine (spec_fiGood.calls k a0_0 a0_1 a0_2 _ _ l0_3 true _ ?side1 ?side2 A3.out).mono ?_); (case side1 => exact Cz (Kd.C_below HR0_3.out HB.out)); (case side2 => exact HC0_3.out); rintro e w24 ⟨rfl, hb⟩; refine ⟨_, rfl, ?_⟩; have n0_ := Kb BK146 hb; have n1_ := Kb BK147 hb; have n2_ := Bc HB hb; clear BK146 BK147 HB; revert n0_ n1_ n2_; intro BK146 BK147 HB; (try clear hb); (try clear hb2); (try clear hk); (try clear hi)) | (go_at_call 95; (with_reducible refine (spec_IsKey.calls k a1 false _ A5.out).mono ?_); rintro e w' ⟨rfl, ⟨nd, rfl⟩⟩; (try (rw [drewN_self w24]; generalize hq_ : World.drewN w24 _ = w24; have n0_ : Aside0 (w24.heap[gb146]? = some (.cells #[.int .i64 a0_0, .int .i64 a0_1, .int .i64 a0_2, .slice A0_3 l0_3.length c0_3] 28 (0, 0))) := ⟨by rw [← hq_]; exact (Kz BK146.out)⟩; have n1_ : Aside0 (w24.heap[gb147]? = some (.cells #[.int .i64 0, .int .i64 0, .int .i64 0, .slice none 0 0] 28 (0, 0))) := ⟨by rw [← hq_]; exact (Kz BK147.out)⟩; have n2_ : Aside0 (Below w.heap.size w w24) := ⟨by rw [← hq_]; exact (Bq)⟩; clear BK146 BK147 HB hq_; revert n0_ n1_ n2_; intro BK146 BK147 HB)); obtain ⟨hcz25_0, hcz25_1, hcz25_2, hcz25_3, hfz25_0, hfz25_1, hfz25_2, hfz25_3⟩ := cf4 (w := w24) BK147))
   refine bodyPost_ret (results_ct rfl _ _ gb147 28 #[.int .i64 0, .int .i64 0, .int .i64 0, .slice none 0 0] (0, 0) _ rfl (by (with_reducible repeat (first | refine blk_drewN ?_ _ | refine blk_drew ?_ | refine blk_alloc ?_ _)); refine blk_put (cs := #[.int .i64 0, .int .i64 0, .int .i64 0, .slice none 0 0]) ?_ 3 _ rfl; (with_reducible repeat (first | refine blk_drewN ?_ _ | refine blk_drew ?_ | refine blk_alloc ?_ _)); refine blk_put (cs := #[.int .i64 0, .int .i64 0, .int .i64 0, .slice none 0 0]) ?_ 2 _ rfl; (with_reducible repeat (first | refine blk_drewN ?_ _ | refine blk_drew ?_ | refine blk_alloc ?_ _)); refine blk_put (cs := #[.int .i64 0, .int .i64 0, .int .i64 0, .slice none 0 0]) ?_ 1 _ rfl; (with_reducible repeat (first | refine blk_drewN ?_ _ | refine blk_drew ?_ | refine blk_alloc ?_ _)); refine blk_put (cs := #[.int .i64 0, .int .i64 0, .int .i64 0, .slice none 0 0]) ?_ 0 _ rfl; exact Kz BK147.out) Try.underlying28 rfl (by kernel_rfl)) rfl ?_; exact ⟨_, eZ, nZ, Bq⟩
 ·replace c4 := Bool.eq_false_iff.mpr c4
  subst c4
  rw [if_neg (show ¬ (false = true) by decide)] at H
  simp only [Option.some.injEq, Prod.mk.injEq] at H
  obtain ⟨rfl, rfl, rfl, rfl, rfl⟩ := H
  go_enter Try.func24, Try.ntmps24
  go_wp2_with (first | ((with_reducible refine gate_dst (N := 2) rfl ?_); refine bE 2 #[.int .i64 a0_0, .int .i64 a0_1, .int .i64 a0_2, .slice A0_3 l0_3.length c0_3] 28 ?_; intro gb146 hg w26 hbox hb; have n0_ := Bb HB hb; have n1_ := am (hbox); have n2_ := Gl HB hg; have n3_ := Gl HB hg; clear HB; revert n0_ n1_ n2_ n3_; intro HB BK146 GW146 GE146; clear hb hbox hg) | ((with_reducible refine gate_dst (N := 4) rfl ?_); refine bE 4 #[.int .i64 0, .int .i64 0, .int .i64 0, .slice none 0 0] 28 ?_; intro gb147 hg w27 hbox hb; have n0_ := Kb BK146 hb; have n1_ := Bc HB hb; have n2_ := am (hbox); have n3_ := Gm HB hg; have n4_ := Gm HB hg; have n5_ := Nl BK146 hg; have n6_ := Ng BK146 hg; clear BK146 HB; revert n0_ n1_ n2_ n3_ n4_ n5_ n6_; intro BK146 HB BK147 GW147 GE147 NB146_147 NB147_146; clear hb hbox hg; have hnb28 := NB146_147.out; have hnc28 := NB147_146.out; obtain ⟨hcz29_0, hcz29_1, hcz29_2, hcz29_3, hfz29_0, hfz29_1, hfz29_2, hfz29_3⟩ := cf4 (w := w27) BK146) | ((with_reducible refine gate_callee (f := 94) rfl ?_); refine gL (some 7) Try.func94 #[.agg #[.int .i64 a0_0, .int .i64 a0_1, .int .i64 a0_2, .slice A0_3 l0_3.length c0_3]] ?_; (with_reducible refine (spec_fiGood.calls k a0_0 a0_1 a0_2 _ _ l0_3 false _ ?side1 ?side2 A3.out).mono ?_); (case side1 => exact Cz (Kd.C_below HR0_3.out HB.out)); (case side2 => exact HC0_3.out); rintro e w30 ⟨rfl, hb⟩; refine ⟨_, rfl, ?_⟩; have n0_ := Kb BK146 hb; have n1_ := Kb BK147 hb; have n2_ := Bc HB hb; clear BK146 BK147 HB; revert n0_ n1_ n2_; intro BK146 BK147 HB; (try clear hb); (try clear hb2); (try clear hk); (try clear hi); obtain ⟨hcz31_0, hcz31_1, hcz31_2, hcz31_3, hfz31_0, hfz31_1, hfz31_2, hfz31_3⟩ := cf4 (w := w30) BK147))
  refine bodyPost_ret (results_ct rfl _ _ gb147 28 #[.int .i64 0, .int .i64 0, .int .i64 0, .slice none 0 0] (0, 0) _ rfl (by (with_reducible repeat (first | refine blk_drewN ?_ _ | refine blk_drew ?_ | refine blk_alloc ?_ _)); refine blk_put (cs := #[.int .i64 0, .int .i64 0, .int .i64 0, .slice none 0 0]) ?_ 3 _ rfl; (with_reducible repeat (first | refine blk_drewN ?_ _ | refine blk_drew ?_ | refine blk_alloc ?_ _)); refine blk_put (cs := #[.int .i64 0, .int .i64 0, .int .i64 0, .slice none 0 0]) ?_ 2 _ rfl; (with_reducible repeat (first | refine blk_drewN ?_ _ | refine blk_drew ?_ | refine blk_alloc ?_ _)); refine blk_put (cs := #[.int .i64 0, .int .i64 0, .int .i64 0, .slice none 0 0]) ?_ 1 _ rfl; (with_reducible repeat (first | refine blk_drewN ?_ _ | refine blk_drew ?_ | refine blk_alloc ?_ _)); refine blk_put (cs := #[.int .i64 0, .int .i64 0, .int .i64 0, .slice none 0 0]) ?_ 0 _ rfl; exact Kz BK147.out) Try.underlying28 rfl (by kernel_rfl)) rfl ?_; exact ⟨_, eZ, nZ, Bq⟩

def spec_DrawBloomAdd.f (k : Nat) (l0 : List Int) : Option (Int × Int × Int × List Int × ByteArray) := (spec_l1Cur_bloom.f k l0 0 0).bind fun bt469 => ((spec_l1Cur_text.f k l0 bt469.2.2.2.2.1 bt469.2.2.2.2.2).bind fun bt477 => (some (bt469.1, bt469.2.1, bt469.2.2.1, bt469.2.2.2.1, bt477.1)))
theorem spec_DrawBloomAdd.calls (k : Nat) (A0 : Option Addr) (c0 : Nat) (l0 : List Int) (r1 : Int) (r2 : Int) (r3 : Int) (r4 : List Int) (r5 : ByteArray) (w : World) (hr0 : Kd.C (Kd.int .u8) w A0 l0.length l0) (hc0 : l0.length ≤ c0) (h : spec_DrawBloomAdd.f k l0 = some (r1, r2, r3, r4, r5)) :
  Calls Try.prog 50 #[.slice A0 l0.length c0] w fun e w' => ∃ v3_ : Value, e = .returned (.tuple #[.agg #[.int .i64 r1, .int .i64 r2, .int .i64 r3, v3_], .string r5]) ∧ Kd.R (Kd.int .i64) 3 w' w.heap.size (fun _ => True) v3_ r4 ∧ Below w.heap.size w w' := by
 have hu28 := Try.underlying28; have hu132 := Try.underlying132; have HR0 := am hr0; have HC0 := am hc0; clear hr0 hc0; have HB := am (Below.refl w.heap.size w); have H : ((spec_l1Cur_bloom.f k l0 0 0).bind fun bt469 => ((spec_l1Cur_text.f k l0 bt469.2.2.2.2.1 bt469.2.2.2.2.2).bind fun bt477 => (some (bt469.1, bt469.2.1, bt469.2.2.1, bt469.2.2.2.1, bt477.1)))) = some (r1, r2, r3, r4, r5) := h; clear h; replace H := Option.bind_eq_some_iff.mp H; obtain ⟨⟨t469, t470, t471, t472, t475, t476⟩, A20, H⟩ := H; (try dsimp -simprocs only at H); have A2 := am A20; clear A20; replace H := Option.bind_eq_some_iff.mp H; obtain ⟨⟨t477, t478, t479⟩, A30, H⟩ := H; (try dsimp -simprocs only at H); have A3 := am A30; clear A30
 simp only [Option.some.injEq, Prod.mk.injEq] at H
 obtain ⟨rfl, rfl, rfl, rfl, rfl⟩ := H
 go_enter Try.func50, Try.ntmps50
 go_wp2_with (first | ((with_reducible refine gate_dst (N := 2) rfl ?_); refine bE 2 #[.int .i64 0, .int .i64 0, .int .i64 0, .slice none 0 0] 28 ?_; intro gb467 hg w4 hbox hb; have n0_ := Bb HB hb; have n1_ := am (hbox); have n2_ := Gl HB hg; have n3_ := Gl HB hg; clear HB; revert n0_ n1_ n2_ n3_; intro HB BK467 GW467 GE467; clear hb hbox hg) | ((with_reducible refine gate_dst (N := 7) rfl ?_); refine bE 7 #[.slice A0 l0.length c0, .int .i64 0, .int .u64 0] 132 ?_; intro gb468 hg w5 hbox hb; have n0_ := Kb BK467 hb; have n1_ := Bc HB hb; have n2_ := am (hbox); have n3_ := Gm HB hg; have n4_ := Gm HB hg; have n5_ := Nl BK467 hg; have n6_ := Ng BK467 hg; clear BK467 HB; revert n0_ n1_ n2_ n3_ n4_ n5_ n6_; intro BK467 HB BK468 GW468 GE468 NB467_468 NB468_467; clear hb hbox hg; have HI468 := am (show IsS132 w _ gb468 l0 0 0 from ⟨A0, c0, BK468.out, GE468.out, HR0.out⟩); clear BK468) | ((with_reducible refine gate_callee (f := 121) rfl ?_); refine gL (some 9) Try.func121 #[.pointer (some ⟨gb468, 0, none⟩)] ?_; (with_reducible refine (spec_l1Cur_bloom.calls k gb468 l0 0 0 t469 t470 t471 t472 t475 t476 w _ ?side1 ?side2 A2.out).mono ?_); (case side1 => repeat (first | (with_reducible first | exact HI468.out | apply IsS132.alloc | apply IsS132.drewN | apply IsS132.drew | apply IsS132.set_1 | apply IsS132.set_2 | refine IsS132.far ?_ NB468_467.out _) | exact HI468.out)); (case side2 => repeat (first | (with_reducible first | exact HB.out | apply below_alloc | apply pw_below_drewN | apply below_drew1 | refine below_set ?_ (IsS132.ge HI468.out) | refine below_set ?_ GE467.out) | exact HB.out)); rintro e w6 ⟨v473, rfl, ho0, hi, hb, hk⟩; refine ⟨_, rfl, ?_⟩; have n0_ := am (KeepBut.blk hk (g' := gb467) (o := .cells #[.int .i64 0, .int .i64 0, .int .i64 0, .slice none 0 0] 28 (0, 0)) (Kz BK467.out) NB467_468.out (by simp)); have n1_ := am (Kd.R_lower ho0 (below_size (by repeat (first | (with_reducible first | exact HB.out | apply below_alloc | apply pw_below_drewN | apply below_drew1 | refine below_set ?_ (IsS132.ge HI468.out) | refine below_set ?_ GE467.out) | exact HB.out)))); have n2_ := am (hb); have n3_ := am (hi); clear BK467 HB HI468; revert n0_ n1_ n2_ n3_; intro BK467 HO474 HB HI468; (try clear hb); (try clear hb2); (try clear hk); (try clear hi); (try clear ho0)) | ((with_reducible refine gate_callee (f := 122) rfl ?_); refine gL (some 11) Try.func122 #[.pointer (some ⟨gb468, 0, none⟩)] ?_; (with_reducible refine (spec_l1Cur_text.calls k gb468 l0 t475 t476 t477 t478 t479 w _ ?side1 ?side2 A3.out).mono ?_); (case side1 => repeat (first | (with_reducible first | exact HI468.out | apply IsS132.alloc | apply IsS132.drewN | apply IsS132.drew | apply IsS132.set_1 | apply IsS132.set_2 | refine IsS132.far ?_ NB468_467.out _) | exact HI468.out)); (case side2 => repeat (first | (with_reducible first | exact HB.out | apply below_alloc | apply pw_below_drewN | apply below_drew1 | refine below_set ?_ (IsS132.ge HI468.out) | refine below_set ?_ GE467.out) | exact HB.out)); rintro e w7 ⟨rfl, hi, hb, hk⟩; refine ⟨_, rfl, ?_⟩; have n0_ := am (KeepBut.blk hk (g' := gb467) (o := .cells #[.int .i64 0, .int .i64 0, .int .i64 0, .slice none 0 0] 28 (0, 0)) (Kz BK467.out) NB467_468.out (by simp)); have n1_ := am (Kd.R_mono (Kd.R_keep (IsS132.apart (show IsS132 w _ gb468 l0 t475 t476 from by repeat (first | (with_reducible first | exact HI468.out | apply IsS132.alloc | apply IsS132.drewN | apply IsS132.drew | apply IsS132.set_1 | apply IsS132.set_2 | refine IsS132.far ?_ NB468_467.out _) | exact HI468.out)) (Rz HO474.out) (by decide)) hk (fun _ h => h.2)) (fun _ h => h.1)); have n2_ := am (hb); have n3_ := am (hi); clear BK467 HO474 HB HI468; revert n0_ n1_ n2_ n3_; intro BK467 HO474 HB HI468; (try clear hb); (try clear hb2); (try clear hk); (try clear hi); have hnb8 := NB467_468.out; have hnc8 := NB468_467.out; obtain ⟨hcz9_0, hcz9_1, hcz9_2, hcz9_3, hfz9_0, hfz9_1, hfz9_2, hfz9_3⟩ := cf4 (w := w7) BK467; obtain ⟨Ao10, co10, eo10⟩ := Kd.R_slice HO474.out; subst eo10))
 refine bodyPost_ret (results_ct rfl _ _ gb467 28 #[.int .i64 t469, .int .i64 t470, .int .i64 t471, .slice Ao10 t472.length co10] (0, 0) _ rfl (by (with_reducible repeat (first | refine blk_drewN ?_ _ | refine blk_drew ?_ | refine blk_alloc ?_ _)); refine blk_put (cs := #[.int .i64 t469, .int .i64 t470, .int .i64 t471, .slice none 0 0]) ?_ 3 _ rfl; (with_reducible repeat (first | refine blk_drewN ?_ _ | refine blk_drew ?_ | refine blk_alloc ?_ _)); refine blk_put (cs := #[.int .i64 t469, .int .i64 t470, .int .i64 0, .slice none 0 0]) ?_ 2 _ rfl; (with_reducible repeat (first | refine blk_drewN ?_ _ | refine blk_drew ?_ | refine blk_alloc ?_ _)); refine blk_put (cs := #[.int .i64 t469, .int .i64 0, .int .i64 0, .slice none 0 0]) ?_ 1 _ rfl; (with_reducible repeat (first | refine blk_drewN ?_ _ | refine blk_drew ?_ | refine blk_alloc ?_ _)); refine blk_put (cs := #[.int .i64 0, .int .i64 0, .int .i64 0, .slice none 0 0]) ?_ 0 _ rfl; exact Kz BK467.out) Try.underlying28 rfl (by kernel_rfl)) rfl ?_; exact ⟨_, eZ, Rz (Kd.R_mono (Kd.R_far (p := ⟨gb467, 3, none⟩) (Kd.R_far (p := ⟨gb467, 2, none⟩) (Kd.R_far (p := ⟨gb467, 1, none⟩) (Kd.R_far (p := ⟨gb467, 0, none⟩) (Kd.R_types HO474.out BK467.out (by decide)) (fun _ hk => hk.2) (.int .i64 t469)) (fun _ hk => hk.2) (.int .i64 t470)) (fun _ hk => hk.2) (.int .i64 t471)) (fun _ hk => hk.2) (.slice Ao10 t472.length co10)) (fun _ hk => trivial)), by repeat (first | (with_reducible first | exact HB.out | apply below_alloc | apply pw_below_drewN | apply below_drew1 | refine below_set ?_ (IsS132.ge HI468.out) | refine below_set ?_ GE467.out) | exact HB.out)⟩

def spec_fiHas.l0 : Nat → List Int → Int → Int → Int → Int → Int → List Int → Option (Bool)
 | 0, _, _, _, _, _, _, _ => none
 | k + 1, x15, x16, x17, x492000, x492001, x492002, x492003 => if x17 < x16 then (if 0 ≤ x17 then (if x17 < (x15.length : Int) then ((spec_biAt.f x492002 x492003 (rd x15 x17)).bind fun t496 => (if t496 = true then (spec_fiHas.l0 k x15 x16 (wrap64 (x17 + 1)) x492000 x492001 x492002 x492003) else (some false))) else (none)) else (none)) else (some true)
def spec_fiHas.f (k : Nat) (a0_0 : Int) (a0_1 : Int) (a0_2 : Int) (l0_3 : List Int) (a1 : ByteArray) : Option (Bool) := (spec_fiProbes.f k a0_0 a0_1 a0_2 a1).bind fun t492 => (spec_fiHas.l0 k t492 (t492.length : Int) 0 a0_0 a0_1 a0_2 l0_3)
theorem spec_fiHas.calls (k : Nat) (a0_0 : Int) (a0_1 : Int) (a0_2 : Int) (A0_3 : Option Addr) (c0_3 : Nat) (l0_3 : List Int) (a1 : ByteArray) (r : Bool) (w : World) (hr0_3 : Kd.C (Kd.int .i64) w A0_3 l0_3.length l0_3) (hc0_3 : l0_3.length ≤ c0_3) (h : spec_fiHas.f k a0_0 a0_1 a0_2 l0_3 a1 = some r) :
  Calls Try.prog 108 #[.agg #[.int .i64 a0_0, .int .i64 a0_1, .int .i64 a0_2, .slice A0_3 l0_3.length c0_3], .string a1] w fun e w' => e = .returned (.bool r) ∧ Below w.heap.size w w' := by
 have hu28 := Try.underlying28; have hu26 := Try.underlying26; have HR0_3 := am hr0_3; have HC0_3 := am hc0_3; clear hr0_3 hc0_3; have HB := am (Below.refl w.heap.size w); have H : ((spec_fiProbes.f k a0_0 a0_1 a0_2 a1).bind fun t492 => (spec_fiHas.l0 k t492 (t492.length : Int) 0 a0_0 a0_1 a0_2 l0_3)) = some r := h; clear h; replace H := Option.bind_eq_some_iff.mp H; obtain ⟨t492, A30, H⟩ := H; (try dsimp -simprocs only at H); have A3 := am A30; clear A30; have H' := am H; clear H
 go_enter Try.func108, Try.ntmps108
 go_wp2_with (first | ((with_reducible refine gate_dst (N := 2) rfl ?_); refine bE 2 #[.int .i64 a0_0, .int .i64 a0_1, .int .i64 a0_2, .slice A0_3 l0_3.length c0_3] 28 ?_; intro gb491 hg w4 hbox hb; have n0_ := Bb HB hb; have n1_ := am (hbox); have n2_ := Gl HB hg; have n3_ := Gl HB hg; clear HB; revert n0_ n1_ n2_ n3_; intro HB BK491 GW491 GE491; clear hb hbox hg; obtain ⟨hcz5_0, hcz5_1, hcz5_2, hcz5_3, hfz5_0, hfz5_1, hfz5_2, hfz5_3⟩ := cf4 (w := w4) BK491) | ((with_reducible refine gate_callee (f := 153) rfl ?_); refine gL (some 15) Try.func153 #[.int .i64 a0_0, .int .i64 a0_1, .int .i64 a0_2, .string a1] ?_; (with_reducible refine (spec_fiProbes.calls k a0_0 a0_1 a0_2 a1 t492 _ A3.out).mono ?_); rintro e w6 ⟨v493, rfl, ho0, hb⟩; refine ⟨_, rfl, ?_⟩; have n0_ := Rm ho0 HB; have n1_ := Kb BK491 hb; have n2_ := Bc HB hb; clear BK491 HB; revert n0_ n1_ n2_; intro HO494 BK491 HB; (try clear hb); (try clear hb2); (try clear hk); (try clear hi); (try clear ho0); obtain ⟨Ao7, co7, eo7⟩ := Kd.R_slice HO494.out; subst eo7))
 (try simp only [aP])
 go_loopg [17] k (fun kq v17 w' => ∃ (x17_1 : Int), v17 = .int .i64 x17_1 ∧ Aside0 (spec_fiHas.l0 kq t492 (t492.length : Int) x17_1 a0_0 a0_1 a0_2 l0_3 = some r) ∧ Aside0 (kq ≤ k) ∧ Aside0 (Kd.R (Kd.int .i64) 3 w' w.heap.size (fun _ => True) (.slice Ao7 t492.length co7) t492) ∧ Aside0 (w'.heap[gb491]? = some (.cells #[.int .i64 a0_0, .int .i64 a0_1, .int .i64 a0_2, (.slice A0_3 l0_3.length c0_3)] 28 (0, 0))) ∧ Aside0 (Below w.heap.size w w'))
 case atStart => exact ⟨(0), wZ, H', ⟨Nat.le_refl _⟩, ⟨Rz HO494.out⟩, ⟨Kz BK491.out⟩, ⟨Bq⟩⟩
 case round =>
  clear H'
  try clear c1
  try clear p2
  try clear hcz5_0
  try clear hcz5_1
  try clear hcz5_2
  try clear hcz5_3
  try clear hfz5_0
  try clear hfz5_1
  try clear hfz5_2
  try clear hfz5_3
  obtain ⟨x17_1, rfl, HA, HK1, HO_15, BK491, HB⟩ := hrel; cases gk with
  | zero => exact absurd HA.out (by simp [spec_fiHas.l0])
  | succ k1 =>
   have H := HA.out; clear HA
   simp only [spec_fiHas.l0] at H
   by_cases c8 : x17_1 < (t492.length : Int)
   ·rw [if_pos c8] at H
    have c8b0 : decide (x17_1 < (t492.length : Int)) = true := decide_eq_true c8; clear c8
    by_cases c9 : 0 ≤ x17_1
    ·rw [if_pos c9] at H
     have c9b0 : decide (0 ≤ x17_1) = true := decide_eq_true c9; clear c9
     by_cases c10 : x17_1 < (t492.length : Int)
     ·rw [if_pos c10] at H
      have c10b0 : decide (x17_1 < (t492.length : Int)) = true := decide_eq_true c10; clear c10; replace H := Option.bind_eq_some_iff.mp H; obtain ⟨t496, A110, H⟩ := H; (try dsimp -simprocs only at H); have A11 := am A110; clear A110
      by_cases c12 : t496 = true
      ·subst c12
       rw [if_pos rfl] at H; have H' := am H; clear H; obtain ⟨ad495, e495, hx495_0⟩ := Kd.at_int (Kd.R_reads' HO_15.out).2.2 x17_1 dT dT; cases e495; have p495 := eT (0 ≤ (x17_1 : Int)); have q495 := eT (x17_1 < (t492.length : Int)); obtain ⟨hcz13_0, hcz13_1, hcz13_2, hcz13_3, hfz13_0, hfz13_1, hfz13_2, hfz13_3⟩ := cf4 (w := wr) BK491
       go_wp2_with (first | ((with_reducible refine gate_callee (f := 144) rfl ?_); refine gL (some 24) Try.func144 #[.agg #[.int .i64 a0_2, .slice A0_3 l0_3.length c0_3], .int .i64 (rd t492 x17_1)] ?_; (with_reducible refine (spec_biAt.calls a0_2 _ _ l0_3 (rd t492 x17_1) true _ ?side1 ?side2 A11.out).mono ?_); (case side1 => exact Cz (Kd.C_below HR0_3.out HB.out)); (case side2 => exact HC0_3.out); rintro e w14 ⟨rfl, hb⟩; refine ⟨_, rfl, ?_⟩; have n0_ := Rb HO_15 hb; have n1_ := Kb BK491 hb; have n2_ := Bc HB hb; clear HO_15 BK491 HB; revert n0_ n1_ n2_; intro HO_15 BK491 HB; (try clear hb); (try clear hb2); (try clear hk); (try clear hi)))
       go_roundg k1
       case measure => have := HK1.out; omega
       case rel => exact ⟨(wrap64 (x17_1 + 1)), wZ, H', ⟨by have := HK1.out; omega⟩, ⟨Rz HO_15.out⟩, ⟨Kz BK491.out⟩, ⟨Bq⟩⟩
      ·replace c12 := Bool.eq_false_iff.mpr c12
       subst c12
       rw [if_neg (show ¬ (false = true) by decide)] at H; obtain rfl := Option.some.inj H; obtain ⟨ad495, e495, hx495_0⟩ := Kd.at_int (Kd.R_reads' HO_15.out).2.2 x17_1 dT dT; cases e495; have p495 := eT (0 ≤ (x17_1 : Int)); have q495 := eT (x17_1 < (t492.length : Int)); obtain ⟨hcz15_0, hcz15_1, hcz15_2, hcz15_3, hfz15_0, hfz15_1, hfz15_2, hfz15_3⟩ := cf4 (w := wr) BK491
       go_wp2_with (first | ((with_reducible refine gate_callee (f := 144) rfl ?_); refine gL (some 24) Try.func144 #[.agg #[.int .i64 a0_2, .slice A0_3 l0_3.length c0_3], .int .i64 (rd t492 x17_1)] ?_; (with_reducible refine (spec_biAt.calls a0_2 _ _ l0_3 (rd t492 x17_1) false _ ?side1 ?side2 A11.out).mono ?_); (case side1 => exact Cz (Kd.C_below HR0_3.out HB.out)); (case side2 => exact HC0_3.out); rintro e w16 ⟨rfl, hb⟩; refine ⟨_, rfl, ?_⟩; have n0_ := Rb HO_15 hb; have n1_ := Kb BK491 hb; have n2_ := Bc HB hb; clear HO_15 BK491 HB; revert n0_ n1_ n2_; intro HO_15 BK491 HB; (try clear hb); (try clear hb2); (try clear hk); (try clear hi)))
       go_ret
       exact ⟨eZ, Bq⟩
     ·rw [if_neg c10] at H
      exact absurd H (by simp)
    ·rw [if_neg c9] at H
     exact absurd H (by simp)
   ·rw [if_neg c8] at H
    have c8b0 : decide (x17_1 < (t492.length : Int)) = false := decide_eq_false c8; clear c8; obtain rfl := Option.some.inj H
    go_wp2
    go_ret
    exact ⟨eZ, Bq⟩

def spec_BloomHas.f (k : Nat) (a0_0 : Int) (a0_1 : Int) (a0_2 : Int) (l0_3 : List Int) (a1 : ByteArray) : Option (Bool × Bool) := (spec_fiGood.f k a0_0 a0_1 a0_2 l0_3).bind fun t498 => (if t498 = true then ((spec_IsKey.f k a1).bind fun t499 => (if t499 = true then ((spec_fiHas.f k a0_0 a0_1 a0_2 l0_3 a1).bind fun t500 => (some (t500, true))) else (some (false, false)))) else (some (false, false)))
theorem spec_BloomHas.calls (k : Nat) (a0_0 : Int) (a0_1 : Int) (a0_2 : Int) (A0_3 : Option Addr) (c0_3 : Nat) (l0_3 : List Int) (a1 : ByteArray) (r1 : Bool) (r2 : Bool) (w : World) (hr0_3 : Kd.C (Kd.int .i64) w A0_3 l0_3.length l0_3) (hc0_3 : l0_3.length ≤ c0_3) (h : spec_BloomHas.f k a0_0 a0_1 a0_2 l0_3 a1 = some (r1, r2)) :
  Calls Try.prog 52 #[.agg #[.int .i64 a0_0, .int .i64 a0_1, .int .i64 a0_2, .slice A0_3 l0_3.length c0_3], .string a1] w fun e w' => e = .returned (.tuple #[.bool r1, .bool r2]) ∧ Below w.heap.size w w' := by
 have hu28 := Try.underlying28; have HR0_3 := am hr0_3; have HC0_3 := am hc0_3; clear hr0_3 hc0_3; have HB := am (Below.refl w.heap.size w); have H : ((spec_fiGood.f k a0_0 a0_1 a0_2 l0_3).bind fun t498 => (if t498 = true then ((spec_IsKey.f k a1).bind fun t499 => (if t499 = true then ((spec_fiHas.f k a0_0 a0_1 a0_2 l0_3 a1).bind fun t500 => (some (t500, true))) else (some (false, false)))) else (some (false, false)))) = some (r1, r2) := h; clear h; replace H := Option.bind_eq_some_iff.mp H; obtain ⟨t498, A30, H⟩ := H; (try dsimp -simprocs only at H); have A3 := am A30; clear A30
 by_cases c4 : t498 = true
 ·subst c4
  rw [if_pos rfl] at H; replace H := Option.bind_eq_some_iff.mp H; obtain ⟨t499, A50, H⟩ := H; (try dsimp -simprocs only at H); have A5 := am A50; clear A50
  by_cases c6 : t499 = true
  ·subst c6
   rw [if_pos rfl] at H; replace H := Option.bind_eq_some_iff.mp H; obtain ⟨t500, A70, H⟩ := H; (try dsimp -simprocs only at H); have A7 := am A70; clear A70
   simp only [Option.some.injEq, Prod.mk.injEq] at H
   obtain ⟨rfl, rfl⟩ := H
   go_enter Try.func52, Try.ntmps52
   go_wp2_with (first | ((with_reducible refine gate_dst (N := 2) rfl ?_); refine bE 2 #[.int .i64 a0_0, .int .i64 a0_1, .int .i64 a0_2, .slice A0_3 l0_3.length c0_3] 28 ?_; intro gb497 hg w8 hbox hb; have n0_ := Bb HB hb; have n1_ := am (hbox); have n2_ := Gl HB hg; have n3_ := Gl HB hg; clear HB; revert n0_ n1_ n2_ n3_; intro HB BK497 GW497 GE497; clear hb hbox hg; obtain ⟨hcz9_0, hcz9_1, hcz9_2, hcz9_3, hfz9_0, hfz9_1, hfz9_2, hfz9_3⟩ := cf4 (w := w8) BK497) | ((with_reducible refine gate_callee (f := 94) rfl ?_); refine gL (some 7) Try.func94 #[.agg #[.int .i64 a0_0, .int .i64 a0_1, .int .i64 a0_2, .slice A0_3 l0_3.length c0_3]] ?_; (with_reducible refine (spec_fiGood.calls k a0_0 a0_1 a0_2 _ _ l0_3 true _ ?side1 ?side2 A3.out).mono ?_); (case side1 => exact Cz (Kd.C_below HR0_3.out HB.out)); (case side2 => exact HC0_3.out); rintro e w10 ⟨rfl, hb⟩; refine ⟨_, rfl, ?_⟩; have n0_ := Kb BK497 hb; have n1_ := Bc HB hb; clear BK497 HB; revert n0_ n1_; intro BK497 HB; (try clear hb); (try clear hb2); (try clear hk); (try clear hi)) | (go_at_call 95; (with_reducible refine (spec_IsKey.calls k a1 true _ A5.out).mono ?_); rintro e w' ⟨rfl, ⟨nd, rfl⟩⟩; obtain ⟨hcz11_0, hcz11_1, hcz11_2, hcz11_3, hfz11_0, hfz11_1, hfz11_2, hfz11_3⟩ := cf4 (w := w10) BK497) | ((with_reducible refine gate_callee (f := 108) rfl ?_); refine gL (some 16) Try.func108 #[.agg #[.int .i64 a0_0, .int .i64 a0_1, .int .i64 a0_2, .slice A0_3 l0_3.length c0_3], .string a1] ?_; (with_reducible refine (spec_fiHas.calls k a0_0 a0_1 a0_2 _ _ l0_3 a1 t500 _ ?side1 ?side2 A7.out).mono ?_); (case side1 => exact Cz (Kd.C_below HR0_3.out (Bq))); (case side2 => exact HC0_3.out); rintro e w12 ⟨rfl, hb⟩; refine ⟨_, rfl, ?_⟩; have n0_ := Kb BK497 hb; have n1_ := Bc HB hb; clear BK497 HB; revert n0_ n1_; intro BK497 HB; (try clear hb); (try clear hb2); (try clear hk); (try clear hi)))
   go_ret2
   exact ⟨eZ, Bq⟩
  ·replace c6 := Bool.eq_false_iff.mpr c6
   subst c6
   rw [if_neg (show ¬ (false = true) by decide)] at H
   simp only [Option.some.injEq, Prod.mk.injEq] at H
   obtain ⟨rfl, rfl⟩ := H
   go_enter Try.func52, Try.ntmps52
   go_wp2_with (first | ((with_reducible refine gate_dst (N := 2) rfl ?_); refine bE 2 #[.int .i64 a0_0, .int .i64 a0_1, .int .i64 a0_2, .slice A0_3 l0_3.length c0_3] 28 ?_; intro gb497 hg w13 hbox hb; have n0_ := Bb HB hb; have n1_ := am (hbox); have n2_ := Gl HB hg; have n3_ := Gl HB hg; clear HB; revert n0_ n1_ n2_ n3_; intro HB BK497 GW497 GE497; clear hb hbox hg; obtain ⟨hcz14_0, hcz14_1, hcz14_2, hcz14_3, hfz14_0, hfz14_1, hfz14_2, hfz14_3⟩ := cf4 (w := w13) BK497) | ((with_reducible refine gate_callee (f := 94) rfl ?_); refine gL (some 7) Try.func94 #[.agg #[.int .i64 a0_0, .int .i64 a0_1, .int .i64 a0_2, .slice A0_3 l0_3.length c0_3]] ?_; (with_reducible refine (spec_fiGood.calls k a0_0 a0_1 a0_2 _ _ l0_3 true _ ?side1 ?side2 A3.out).mono ?_); (case side1 => exact Cz (Kd.C_below HR0_3.out HB.out)); (case side2 => exact HC0_3.out); rintro e w15 ⟨rfl, hb⟩; refine ⟨_, rfl, ?_⟩; have n0_ := Kb BK497 hb; have n1_ := Bc HB hb; clear BK497 HB; revert n0_ n1_; intro BK497 HB; (try clear hb); (try clear hb2); (try clear hk); (try clear hi)) | (go_at_call 95; (with_reducible refine (spec_IsKey.calls k a1 false _ A5.out).mono ?_); rintro e w' ⟨rfl, ⟨nd, rfl⟩⟩))
   go_ret2
   exact ⟨eZ, Bq⟩
 ·replace c4 := Bool.eq_false_iff.mpr c4
  subst c4
  rw [if_neg (show ¬ (false = true) by decide)] at H
  simp only [Option.some.injEq, Prod.mk.injEq] at H
  obtain ⟨rfl, rfl⟩ := H
  go_enter Try.func52, Try.ntmps52
  go_wp2_with (first | ((with_reducible refine gate_dst (N := 2) rfl ?_); refine bE 2 #[.int .i64 a0_0, .int .i64 a0_1, .int .i64 a0_2, .slice A0_3 l0_3.length c0_3] 28 ?_; intro gb497 hg w16 hbox hb; have n0_ := Bb HB hb; have n1_ := am (hbox); have n2_ := Gl HB hg; have n3_ := Gl HB hg; clear HB; revert n0_ n1_ n2_ n3_; intro HB BK497 GW497 GE497; clear hb hbox hg; obtain ⟨hcz17_0, hcz17_1, hcz17_2, hcz17_3, hfz17_0, hfz17_1, hfz17_2, hfz17_3⟩ := cf4 (w := w16) BK497) | ((with_reducible refine gate_callee (f := 94) rfl ?_); refine gL (some 7) Try.func94 #[.agg #[.int .i64 a0_0, .int .i64 a0_1, .int .i64 a0_2, .slice A0_3 l0_3.length c0_3]] ?_; (with_reducible refine (spec_fiGood.calls k a0_0 a0_1 a0_2 _ _ l0_3 false _ ?side1 ?side2 A3.out).mono ?_); (case side1 => exact Cz (Kd.C_below HR0_3.out HB.out)); (case side2 => exact HC0_3.out); rintro e w18 ⟨rfl, hb⟩; refine ⟨_, rfl, ?_⟩; have n0_ := Kb BK497 hb; have n1_ := Bc HB hb; clear BK497 HB; revert n0_ n1_; intro BK497 HB; (try clear hb); (try clear hb2); (try clear hk); (try clear hi)))
  go_ret2
  exact ⟨eZ, Bq⟩

def impl_ProbesOf.f (k : Nat) (a0 : Int) (a1 : Int) (a2 : Int) (a3 : ByteArray) : Option (List Int × Bool) := (impl_sizesOk.f a0 a1 a2).bind fun t509 => (if t509 = true then ((impl_IsKey.f k a3).bind fun t510 => (if t510 = true then ((impl_probesOf.f k a0 a1 a2 a3).bind fun t511 => (some (t511, true))) else (some (([] : List Int), false)))) else (some (([] : List Int), false)))
theorem impl_ProbesOf.calls (k : Nat) (a0 : Int) (a1 : Int) (a2 : Int) (a3 : ByteArray) (r1 : List Int) (r2 : Bool) (w : World) (h : impl_ProbesOf.f k a0 a1 a2 a3 = some (r1, r2)) :
  Calls Try.prog 54 #[.int .i64 a0, .int .i64 a1, .int .i64 a2, .string a3] w fun e w' => ∃ v0_ : Value, e = .returned (.tuple #[v0_, .bool r2]) ∧ Kd.R (Kd.int .i64) 3 w' w.heap.size (fun _ => True) v0_ r1 ∧ Below w.heap.size w w' := by
 have HB := am (Below.refl w.heap.size w); have H : ((impl_sizesOk.f a0 a1 a2).bind fun t509 => (if t509 = true then ((impl_IsKey.f k a3).bind fun t510 => (if t510 = true then ((impl_probesOf.f k a0 a1 a2 a3).bind fun t511 => (some (t511, true))) else (some (([] : List Int), false)))) else (some (([] : List Int), false)))) = some (r1, r2) := h; clear h; replace H := Option.bind_eq_some_iff.mp H; obtain ⟨t509, A50, H⟩ := H; (try dsimp -simprocs only at H); have A5 := am A50; clear A50
 by_cases c6 : t509 = true
 ·subst c6
  rw [if_pos rfl] at H; replace H := Option.bind_eq_some_iff.mp H; obtain ⟨t510, A70, H⟩ := H; (try dsimp -simprocs only at H); have A7 := am A70; clear A70
  by_cases c8 : t510 = true
  ·subst c8
   rw [if_pos rfl] at H; replace H := Option.bind_eq_some_iff.mp H; obtain ⟨t511, A90, H⟩ := H; (try dsimp -simprocs only at H); have A9 := am A90; clear A90
   simp only [Option.some.injEq, Prod.mk.injEq] at H
   obtain ⟨rfl, rfl⟩ := H
   go_enter Try.func54, Try.ntmps54
   go_wp2_with (first | ((with_reducible refine gate_callee (f := 102) rfl ?_); refine gL (some 13) Try.func102 #[.int .i64 a0, .int .i64 a1, .int .i64 a2] ?_; (with_reducible refine (impl_sizesOk.calls a0 a1 a2 true _ A5.out).mono ?_); rintro e w' ⟨rfl, ⟨nd, rfl⟩⟩; refine ⟨_, rfl, ?_⟩) | (go_at_call 98; (with_reducible refine (impl_IsKey.calls k a3 true _ A7.out).mono ?_); rintro e w' ⟨rfl, ⟨nd, rfl⟩⟩) | ((with_reducible refine gate_callee (f := 124) rfl ?_); refine gL (some 24) Try.func124 #[.int .i64 a0, .int .i64 a1, .int .i64 a2, .string a3] ?_; (with_reducible refine (impl_probesOf.calls k a0 a1 a2 a3 t511 _ A9.out).mono ?_); rintro e w10 ⟨v512, rfl, ho0, hb⟩; refine ⟨_, rfl, ?_⟩; have n0_ := Rl ho0 HB; have n1_ := Bb HB hb; clear HB; revert n0_ n1_; intro HO513 HB; (try clear hb); (try clear hb2); (try clear hk); (try clear hi); (try clear ho0)))
   go_ret2
   exact ⟨_, eZ, Rz HO513.out, Bz HB.out⟩
  ·replace c8 := Bool.eq_false_iff.mpr c8
   subst c8
   rw [if_neg (show ¬ (false = true) by decide)] at H
   simp only [Option.some.injEq, Prod.mk.injEq] at H
   obtain ⟨rfl, rfl⟩ := H
   go_enter Try.func54, Try.ntmps54
   go_wp2_with (first | ((with_reducible refine gate_callee (f := 102) rfl ?_); refine gL (some 13) Try.func102 #[.int .i64 a0, .int .i64 a1, .int .i64 a2] ?_; (with_reducible refine (impl_sizesOk.calls a0 a1 a2 true _ A5.out).mono ?_); rintro e w' ⟨rfl, ⟨nd, rfl⟩⟩; refine ⟨_, rfl, ?_⟩) | (go_at_call 98; (with_reducible refine (impl_IsKey.calls k a3 false _ A7.out).mono ?_); rintro e w' ⟨rfl, ⟨nd, rfl⟩⟩))
   go_ret2
   exact ⟨_, eZ, nZ, Bz HB.out⟩
 ·replace c6 := Bool.eq_false_iff.mpr c6
  subst c6
  rw [if_neg (show ¬ (false = true) by decide)] at H
  simp only [Option.some.injEq, Prod.mk.injEq] at H
  obtain ⟨rfl, rfl⟩ := H
  go_enter Try.func54, Try.ntmps54
  go_wp2_with (first | ((with_reducible refine gate_callee (f := 102) rfl ?_); refine gL (some 13) Try.func102 #[.int .i64 a0, .int .i64 a1, .int .i64 a2] ?_; (with_reducible refine (impl_sizesOk.calls a0 a1 a2 false _ A5.out).mono ?_); rintro e w' ⟨rfl, ⟨nd, rfl⟩⟩; refine ⟨_, rfl, ?_⟩))
  go_ret2
  exact ⟨_, eZ, nZ, Bz HB.out⟩

def impl_BitAt.f (k : Nat) (a0_0 : Int) (l0_1 : List Int) (a1 : Int) : Option (Bool × Bool) := (impl_IsBits.f k a0_0 l0_1).bind fun t515 => (if t515 = true then ((impl_in.f a1 0 (wrap64 (a0_0 - 1))).bind fun t516 => (if t516 = true then ((impl_Bits_at.f a0_0 l0_1 a1).bind fun t517 => (some (t517, true))) else (some (false, false)))) else (some (false, false)))
theorem impl_BitAt.calls (k : Nat) (a0_0 : Int) (A0_1 : Option Addr) (c0_1 : Nat) (l0_1 : List Int) (a1 : Int) (r1 : Bool) (r2 : Bool) (w : World) (hr0_1 : Kd.C (Kd.int .i64) w A0_1 l0_1.length l0_1) (hc0_1 : l0_1.length ≤ c0_1) (h : impl_BitAt.f k a0_0 l0_1 a1 = some (r1, r2)) :
  Calls Try.prog 55 #[.agg #[.int .i64 a0_0, .slice A0_1 l0_1.length c0_1], .int .i64 a1] w fun e w' => e = .returned (.tuple #[.bool r1, .bool r2]) ∧ Below w.heap.size w w' := by
 have hu26 := Try.underlying26; have HR0_1 := am hr0_1; have HC0_1 := am hc0_1; clear hr0_1 hc0_1; have HB := am (Below.refl w.heap.size w); have H : ((impl_IsBits.f k a0_0 l0_1).bind fun t515 => (if t515 = true then ((impl_in.f a1 0 (wrap64 (a0_0 - 1))).bind fun t516 => (if t516 = true then ((impl_Bits_at.f a0_0 l0_1 a1).bind fun t517 => (some (t517, true))) else (some (false, false)))) else (some (false, false)))) = some (r1, r2) := h; clear h; replace H := Option.bind_eq_some_iff.mp H; obtain ⟨t515, A30, H⟩ := H; (try dsimp -simprocs only at H); have A3 := am A30; clear A30
 by_cases c4 : t515 = true
 ·subst c4
  rw [if_pos rfl] at H; replace H := Option.bind_eq_some_iff.mp H; obtain ⟨t516, A50, H⟩ := H; (try dsimp -simprocs only at H); have A5 := am A50; clear A50
  by_cases c6 : t516 = true
  ·subst c6
   rw [if_pos rfl] at H; replace H := Option.bind_eq_some_iff.mp H; obtain ⟨t517, A70, H⟩ := H; (try dsimp -simprocs only at H); have A7 := am A70; clear A70
   simp only [Option.some.injEq, Prod.mk.injEq] at H
   obtain ⟨rfl, rfl⟩ := H
   go_enter Try.func55, Try.ntmps55
   go_wp2_with (first | ((with_reducible refine gate_dst (N := 2) rfl ?_); refine bE 2 #[.int .i64 a0_0, .slice A0_1 l0_1.length c0_1] 26 ?_; intro gb514 hg w8 hbox hb; have n0_ := Bb HB hb; have n1_ := am (hbox); have n2_ := Gl HB hg; have n3_ := Gl HB hg; clear HB; revert n0_ n1_ n2_ n3_; intro HB BK514 GW514 GE514; clear hb hbox hg; obtain ⟨hcz9_0, hcz9_1, hfz9_0, hfz9_1⟩ := cf2 (w := w8) BK514) | ((with_reducible refine gate_callee (f := 125) rfl ?_); refine gL (some 7) Try.func125 #[.agg #[.int .i64 a0_0, .slice A0_1 l0_1.length c0_1]] ?_; (with_reducible refine (impl_IsBits.calls k a0_0 _ _ l0_1 true _ ?side1 ?side2 A3.out).mono ?_); (case side1 => exact Cz (Kd.C_below HR0_1.out HB.out)); (case side2 => exact HC0_1.out); rintro e w10 ⟨rfl, hb⟩; refine ⟨_, rfl, ?_⟩; have n0_ := Kb BK514 hb; have n1_ := Bc HB hb; clear BK514 HB; revert n0_ n1_; intro BK514 HB; (try clear hb); (try clear hb2); (try clear hk); (try clear hi); obtain ⟨hcz11_0, hcz11_1, hfz11_0, hfz11_1⟩ := cf2 (w := w10) BK514) | (go_at_call 126; (with_reducible refine (impl_in.calls a1 0 (wrap64 (a0_0 - 1)) true _ A5.out).mono ?_); rintro e w' ⟨rfl, ⟨nd, rfl⟩⟩) | ((with_reducible refine gate_callee (f := 127) rfl ?_); refine gL (some 18) Try.func127 #[.pointer (some ⟨gb514, 0, none⟩), .int .i64 a1] ?_; (with_reducible refine (impl_Bits_at.calls gb514 a0_0 A0_1 c0_1 l0_1 a1 t517 _ ?side1 ?side2 ?side3 A7.out).mono ?_); (case side1 => exact Kz BK514.out); (case side2 => exact Cz (Kd.C_below HR0_1.out (Bq))); (case side3 => exact HC0_1.out); rintro e w' ⟨rfl, ⟨nd, rfl⟩⟩; refine ⟨_, rfl, ?_⟩))
   go_ret2
   exact ⟨eZ, Bq⟩
  ·replace c6 := Bool.eq_false_iff.mpr c6
   subst c6
   rw [if_neg (show ¬ (false = true) by decide)] at H
   simp only [Option.some.injEq, Prod.mk.injEq] at H
   obtain ⟨rfl, rfl⟩ := H
   go_enter Try.func55, Try.ntmps55
   go_wp2_with (first | ((with_reducible refine gate_dst (N := 2) rfl ?_); refine bE 2 #[.int .i64 a0_0, .slice A0_1 l0_1.length c0_1] 26 ?_; intro gb514 hg w12 hbox hb; have n0_ := Bb HB hb; have n1_ := am (hbox); have n2_ := Gl HB hg; have n3_ := Gl HB hg; clear HB; revert n0_ n1_ n2_ n3_; intro HB BK514 GW514 GE514; clear hb hbox hg; obtain ⟨hcz13_0, hcz13_1, hfz13_0, hfz13_1⟩ := cf2 (w := w12) BK514) | ((with_reducible refine gate_callee (f := 125) rfl ?_); refine gL (some 7) Try.func125 #[.agg #[.int .i64 a0_0, .slice A0_1 l0_1.length c0_1]] ?_; (with_reducible refine (impl_IsBits.calls k a0_0 _ _ l0_1 true _ ?side1 ?side2 A3.out).mono ?_); (case side1 => exact Cz (Kd.C_below HR0_1.out HB.out)); (case side2 => exact HC0_1.out); rintro e w14 ⟨rfl, hb⟩; refine ⟨_, rfl, ?_⟩; have n0_ := Kb BK514 hb; have n1_ := Bc HB hb; clear BK514 HB; revert n0_ n1_; intro BK514 HB; (try clear hb); (try clear hb2); (try clear hk); (try clear hi); obtain ⟨hcz15_0, hcz15_1, hfz15_0, hfz15_1⟩ := cf2 (w := w14) BK514) | (go_at_call 126; (with_reducible refine (impl_in.calls a1 0 (wrap64 (a0_0 - 1)) false _ A5.out).mono ?_); rintro e w' ⟨rfl, ⟨nd, rfl⟩⟩))
   go_ret2
   exact ⟨eZ, Bq⟩
 ·replace c4 := Bool.eq_false_iff.mpr c4
  subst c4
  rw [if_neg (show ¬ (false = true) by decide)] at H
  simp only [Option.some.injEq, Prod.mk.injEq] at H
  obtain ⟨rfl, rfl⟩ := H
  go_enter Try.func55, Try.ntmps55
  go_wp2_with (first | ((with_reducible refine gate_dst (N := 2) rfl ?_); refine bE 2 #[.int .i64 a0_0, .slice A0_1 l0_1.length c0_1] 26 ?_; intro gb514 hg w16 hbox hb; have n0_ := Bb HB hb; have n1_ := am (hbox); have n2_ := Gl HB hg; have n3_ := Gl HB hg; clear HB; revert n0_ n1_ n2_ n3_; intro HB BK514 GW514 GE514; clear hb hbox hg; obtain ⟨hcz17_0, hcz17_1, hfz17_0, hfz17_1⟩ := cf2 (w := w16) BK514) | ((with_reducible refine gate_callee (f := 125) rfl ?_); refine gL (some 7) Try.func125 #[.agg #[.int .i64 a0_0, .slice A0_1 l0_1.length c0_1]] ?_; (with_reducible refine (impl_IsBits.calls k a0_0 _ _ l0_1 false _ ?side1 ?side2 A3.out).mono ?_); (case side1 => exact Cz (Kd.C_below HR0_1.out HB.out)); (case side2 => exact HC0_1.out); rintro e w18 ⟨rfl, hb⟩; refine ⟨_, rfl, ?_⟩; have n0_ := Kb BK514 hb; have n1_ := Bc HB hb; clear BK514 HB; revert n0_ n1_; intro BK514 HB; (try clear hb); (try clear hb2); (try clear hk); (try clear hi)))
  go_ret2
  exact ⟨eZ, Bq⟩

def impl_PlaceOf.f (k : Nat) (a0 : Int) (a1 : Int) (a2 : ByteArray) (a3 : Int) : Option (Int × Bool) := (impl_isSeed.f a0).bind fun t518 => (if t518 = true then ((impl_in.f a1 0 9).bind fun t519 => (if t519 = true then ((impl_IsKey.f k a2).bind fun t520 => (if t520 = true then ((impl_in.f a3 1 4096).bind fun t521 => (if t521 = true then ((impl_place.f k a0 a1 a2 a3).bind fun t522 => (some (t522, true))) else (some (0, false)))) else (some (0, false)))) else (some (0, false)))) else (some (0, false)))
theorem impl_PlaceOf.calls (k : Nat) (a0 : Int) (a1 : Int) (a2 : ByteArray) (a3 : Int) (r1 : Int) (r2 : Bool) (w : World) (h : impl_PlaceOf.f k a0 a1 a2 a3 = some (r1, r2)) :
  Calls Try.prog 56 #[.int .i64 a0, .int .i64 a1, .string a2, .int .i64 a3] w fun e w' => e = .returned (.tuple #[.int .i64 r1, .bool r2]) ∧ Drawn0 w w' := by
 have H : ((impl_isSeed.f a0).bind fun t518 => (if t518 = true then ((impl_in.f a1 0 9).bind fun t519 => (if t519 = true then ((impl_IsKey.f k a2).bind fun t520 => (if t520 = true then ((impl_in.f a3 1 4096).bind fun t521 => (if t521 = true then ((impl_place.f k a0 a1 a2 a3).bind fun t522 => (some (t522, true))) else (some (0, false)))) else (some (0, false)))) else (some (0, false)))) else (some (0, false)))) = some (r1, r2) := h; clear h; replace H := Option.bind_eq_some_iff.mp H; obtain ⟨t518, A50, H⟩ := H; (try dsimp -simprocs only at H); have A5 := am A50; clear A50
 by_cases c6 : t518 = true
 ·subst c6
  rw [if_pos rfl] at H; replace H := Option.bind_eq_some_iff.mp H; obtain ⟨t519, A70, H⟩ := H; (try dsimp -simprocs only at H); have A7 := am A70; clear A70
  by_cases c8 : t519 = true
  ·subst c8
   rw [if_pos rfl] at H; replace H := Option.bind_eq_some_iff.mp H; obtain ⟨t520, A90, H⟩ := H; (try dsimp -simprocs only at H); have A9 := am A90; clear A90
   by_cases c10 : t520 = true
   ·subst c10
    rw [if_pos rfl] at H; replace H := Option.bind_eq_some_iff.mp H; obtain ⟨t521, A110, H⟩ := H; (try dsimp -simprocs only at H); have A11 := am A110; clear A110
    by_cases c12 : t521 = true
    ·subst c12
     rw [if_pos rfl] at H; replace H := Option.bind_eq_some_iff.mp H; obtain ⟨t522, A130, H⟩ := H; (try dsimp -simprocs only at H); have A13 := am A130; clear A130
     simp only [Option.some.injEq, Prod.mk.injEq] at H
     obtain ⟨rfl, rfl⟩ := H
     go_enter Try.func56, Try.ntmps56
     go_wp2_with (first | ((with_reducible refine gate_callee (f := 128) rfl ?_); refine gL (some 11) Try.func128 #[.int .i64 a0] ?_; (with_reducible refine (impl_isSeed.calls a0 true _ A5.out).mono ?_); rintro e w' ⟨rfl, ⟨nd, rfl⟩⟩; refine ⟨_, rfl, ?_⟩) | (go_at_call 126; (with_reducible refine (impl_in.calls a1 0 9 true _ A7.out).mono ?_); rintro e w' ⟨rfl, ⟨nd, rfl⟩⟩) | (go_at_call 98; (with_reducible refine (impl_IsKey.calls k a2 true _ A9.out).mono ?_); rintro e w' ⟨rfl, ⟨nd, rfl⟩⟩) | (go_at_call 126; (with_reducible refine (impl_in.calls a3 1 4096 true _ A11.out).mono ?_); rintro e w' ⟨rfl, ⟨nd, rfl⟩⟩) | ((with_reducible refine gate_callee (f := 129) rfl ?_); refine gL (some 32) Try.func129 #[.int .i64 a0, .int .i64 a1, .string a2, .int .i64 a3] ?_; (with_reducible refine (impl_place.calls k a0 a1 a2 a3 t522 _ A13.out).mono ?_); rintro e w' ⟨rfl, ⟨nd, rfl⟩⟩; refine ⟨_, rfl, ?_⟩))
     go_ret2
     exact ⟨by first | rfl | (simp; done) | (simp [*]; done), by repeat (first | exact Drawn0.refl _ | apply Drawn0.step)⟩
    ·replace c12 := Bool.eq_false_iff.mpr c12
     subst c12
     rw [if_neg (show ¬ (false = true) by decide)] at H
     simp only [Option.some.injEq, Prod.mk.injEq] at H
     obtain ⟨rfl, rfl⟩ := H
     go_enter Try.func56, Try.ntmps56
     go_wp2_with (first | ((with_reducible refine gate_callee (f := 128) rfl ?_); refine gL (some 11) Try.func128 #[.int .i64 a0] ?_; (with_reducible refine (impl_isSeed.calls a0 true _ A5.out).mono ?_); rintro e w' ⟨rfl, ⟨nd, rfl⟩⟩; refine ⟨_, rfl, ?_⟩) | (go_at_call 126; (with_reducible refine (impl_in.calls a1 0 9 true _ A7.out).mono ?_); rintro e w' ⟨rfl, ⟨nd, rfl⟩⟩) | (go_at_call 98; (with_reducible refine (impl_IsKey.calls k a2 true _ A9.out).mono ?_); rintro e w' ⟨rfl, ⟨nd, rfl⟩⟩) | (go_at_call 126; (with_reducible refine (impl_in.calls a3 1 4096 false _ A11.out).mono ?_); rintro e w' ⟨rfl, ⟨nd, rfl⟩⟩))
     go_ret2
     exact ⟨by first | rfl | (simp; done) | (simp [*]; done), by repeat (first | exact Drawn0.refl _ | apply Drawn0.step)⟩
   ·replace c10 := Bool.eq_false_iff.mpr c10
    subst c10
    rw [if_neg (show ¬ (false = true) by decide)] at H
    simp only [Option.some.injEq, Prod.mk.injEq] at H
    obtain ⟨rfl, rfl⟩ := H
    go_enter Try.func56, Try.ntmps56
    go_wp2_with (first | ((with_reducible refine gate_callee (f := 128) rfl ?_); refine gL (some 11) Try.func128 #[.int .i64 a0] ?_; (with_reducible refine (impl_isSeed.calls a0 true _ A5.out).mono ?_); rintro e w' ⟨rfl, ⟨nd, rfl⟩⟩; refine ⟨_, rfl, ?_⟩) | (go_at_call 126; (with_reducible refine (impl_in.calls a1 0 9 true _ A7.out).mono ?_); rintro e w' ⟨rfl, ⟨nd, rfl⟩⟩) | (go_at_call 98; (with_reducible refine (impl_IsKey.calls k a2 false _ A9.out).mono ?_); rintro e w' ⟨rfl, ⟨nd, rfl⟩⟩))
    go_ret2
    exact ⟨by first | rfl | (simp; done) | (simp [*]; done), by repeat (first | exact Drawn0.refl _ | apply Drawn0.step)⟩
  ·replace c8 := Bool.eq_false_iff.mpr c8
   subst c8
   rw [if_neg (show ¬ (false = true) by decide)] at H
   simp only [Option.some.injEq, Prod.mk.injEq] at H
   obtain ⟨rfl, rfl⟩ := H
   go_enter Try.func56, Try.ntmps56
   go_wp2_with (first | ((with_reducible refine gate_callee (f := 128) rfl ?_); refine gL (some 11) Try.func128 #[.int .i64 a0] ?_; (with_reducible refine (impl_isSeed.calls a0 true _ A5.out).mono ?_); rintro e w' ⟨rfl, ⟨nd, rfl⟩⟩; refine ⟨_, rfl, ?_⟩) | (go_at_call 126; (with_reducible refine (impl_in.calls a1 0 9 false _ A7.out).mono ?_); rintro e w' ⟨rfl, ⟨nd, rfl⟩⟩))
   go_ret2
   exact ⟨by first | rfl | (simp; done) | (simp [*]; done), by repeat (first | exact Drawn0.refl _ | apply Drawn0.step)⟩
 ·replace c6 := Bool.eq_false_iff.mpr c6
  subst c6
  rw [if_neg (show ¬ (false = true) by decide)] at H
  simp only [Option.some.injEq, Prod.mk.injEq] at H
  obtain ⟨rfl, rfl⟩ := H
  go_enter Try.func56, Try.ntmps56
  go_wp2_with (first | ((with_reducible refine gate_callee (f := 128) rfl ?_); refine gL (some 11) Try.func128 #[.int .i64 a0] ?_; (with_reducible refine (impl_isSeed.calls a0 false _ A5.out).mono ?_); rintro e w' ⟨rfl, ⟨nd, rfl⟩⟩; refine ⟨_, rfl, ?_⟩))
  go_ret2
  exact ⟨by first | rfl | (simp; done) | (simp [*]; done), by repeat (first | exact Drawn0.refl _ | apply Drawn0.step)⟩

mutual
def laws_FnBloomAnswers.j0 : Nat → ByteArray → Bool → Bool → Bool → Int → Int → Int → List Int → Int → Int → Int → List Int → Option (Bool)
 | 0, _, _, _, _, _, _, _, _, _, _, _, _ => none
 | k + 1, x6, x8, x11, x83, x541000, x541001, x541002, x541003, x549000, x549001, x549002, x549003 => if x83 = true then (some false) else (if x8 = true then ((impl_ProbesOf.f k x541000 x541001 x541002 x6).bind fun bt562 => (if bt562.2 = true then (laws_FnBloomAnswers.j1 k x6 x11 bt562.1 ((bt562.1.length : Int) != x541001) x541000 x541001 x541002 x541003 x549000 x549001 x549002 x549003) else (laws_FnBloomAnswers.j1 k x6 x11 bt562.1 true x541000 x541001 x541002 x541003 x549000 x549001 x549002 x549003))) else (some true))
def laws_FnBloomAnswers.j1 : Nat → ByteArray → Bool → List Int → Bool → Int → Int → Int → List Int → Int → Int → Int → List Int → Option (Bool)
 | 0, _, _, _, _, _, _, _, _, _, _, _, _ => none
 | k + 1, x6, x11, x15, x106, x541000, x541001, x541002, x541003, x549000, x549001, x549002, x549003 => if x106 = true then (some false) else (laws_FnBloomAnswers.l0 k x6 x11 true x15 (x15.length : Int) 0 x541000 x541001 x541002 x541003 x549000 x549001 x549002 x549003)
def laws_FnBloomAnswers.l0 : Nat → ByteArray → Bool → Bool → List Int → Int → Int → Int → Int → Int → List Int → Int → Int → Int → List Int → Option (Bool)
 | 0, _, _, _, _, _, _, _, _, _, _, _, _, _, _ => none
 | k + 1, x6, x11, x17, x107, x108, x109, x541000, x541001, x541002, x541003, x549000, x549001, x549002, x549003 => if x109 < x108 then (if 0 ≤ x109 then (if x109 < (x107.length : Int) then ((impl_BitAt.f k x541002 x541003 (rd x107 x109)).bind fun bt572 => ((impl_PlaceOf.f k x541000 x109 x6 x541002).bind fun bt574 => (if bt572.2 = true then (if bt574.2 = true then (if bt574.1 = (rd x107 x109) then (if x17 = true then (laws_FnBloomAnswers.l0 k x6 x11 bt572.1 x107 x108 (wrap64 (x109 + 1)) x541000 x541001 x541002 x541003 x549000 x549001 x549002 x549003) else (laws_FnBloomAnswers.l0 k x6 x11 false x107 x108 (wrap64 (x109 + 1)) x541000 x541001 x541002 x541003 x549000 x549001 x549002 x549003)) else (some false)) else (some false)) else (some false)))) else (none)) else (none)) else ((impl_BloomHas.f k x549000 x549001 x549002 x549003 x6).bind fun bt566 => ((impl_CoversBloom.f k x549000 x549001 x549002 x549003 x541000 x541001 x541002 x541003).bind fun bt568 => (if (x17 == x11) = true then (if bt566.2 = true then (if bt566.1 = true then (if bt568.2 = true then (if bt568.1 = true then ((laws_rSameBloom.f k x541000 x541001 x541002 x541003 x549000 x549001 x549002 x549003).bind fun t570 => (some (t570 == x11))) else (some false)) else (some false)) else (some false)) else (some false)) else (some false))))
end
def laws_FnBloomAnswers.f (k : Nat) (l0 : List Int) (l1 : List Int) : Option (Bool) := (laws_big.f l0 l1).bind fun t532 => (if t532 = true then (some true) else ((spec_DrawBloomAdd.f k l0).bind fun bt533 => ((impl_BloomAdd.f k bt533.1 bt533.2.1 bt533.2.2.1 bt533.2.2.2.1 bt533.2.2.2.2).bind fun bt541 => ((spec_BloomAdd.f k bt533.1 bt533.2.1 bt533.2.2.1 bt533.2.2.2.1 bt533.2.2.2.2).bind fun bt549 => ((impl_BloomHas.f k bt533.1 bt533.2.1 bt533.2.2.1 bt533.2.2.2.1 bt533.2.2.2.2).bind fun bt557 => ((spec_BloomHas.f k bt533.1 bt533.2.1 bt533.2.2.1 bt533.2.2.2.1 bt533.2.2.2.2).bind fun bt559 => (if (bt541.2.2.2.2 != bt549.2.2.2.2) = true then (laws_FnBloomAnswers.j0 k bt533.2.2.2.2 bt541.2.2.2.2 bt557.1 true bt533.1 bt533.2.1 bt533.2.2.1 bt533.2.2.2.1 bt541.1 bt541.2.1 bt541.2.2.1 bt541.2.2.2.1) else ((laws_rSameBloom.f k bt541.1 bt541.2.1 bt541.2.2.1 bt541.2.2.2.1 bt549.1 bt549.2.1 bt549.2.2.1 bt549.2.2.2.1).bind fun t561 => (if t561 = true then (if (bt557.2 != bt559.2) = true then (laws_FnBloomAnswers.j0 k bt533.2.2.2.2 bt541.2.2.2.2 bt557.1 true bt533.1 bt533.2.1 bt533.2.2.1 bt533.2.2.2.1 bt541.1 bt541.2.1 bt541.2.2.1 bt541.2.2.2.1) else (if (bt557.1 != bt559.1) = true then (laws_FnBloomAnswers.j0 k bt533.2.2.2.2 bt541.2.2.2.2 bt557.1 true bt533.1 bt533.2.1 bt533.2.2.1 bt533.2.2.2.1 bt541.1 bt541.2.1 bt541.2.2.1 bt541.2.2.2.1) else (laws_FnBloomAnswers.j0 k bt533.2.2.2.2 bt541.2.2.2.2 bt557.1 (bt541.2.2.2.2 != bt557.2) bt533.1 bt533.2.1 bt533.2.2.1 bt533.2.2.2.1 bt541.1 bt541.2.1 bt541.2.2.1 bt541.2.2.2.1))) else (laws_FnBloomAnswers.j0 k bt533.2.2.2.2 bt541.2.2.2.2 bt557.1 true bt533.1 bt533.2.1 bt533.2.2.1 bt533.2.2.2.1 bt541.1 bt541.2.1 bt541.2.2.1 bt541.2.2.2.1))))))))))
theorem laws_FnBloomAnswers.calls (k : Nat) (A0 : Option Addr) (c0 : Nat) (l0 : List Int) (A1 : Option Addr) (c1 : Nat) (l1 : List Int) (r : Bool) (w : World) (hr0 : Kd.C (Kd.int .u8) w A0 l0.length l0) (hc0 : l0.length ≤ c0) (hr1 : Kd.C (Kd.int .u8) w A1 l1.length l1) (hc1 : l1.length ≤ c1) (h : laws_FnBloomAnswers.f k l0 l1 = some r) :
  Calls Try.prog 10 #[.slice A0 l0.length c0, .slice A1 l1.length c1] w fun e w' => e = .returned (.bool r) ∧ Below w.heap.size w w' := by
 have hu28 := Try.underlying28; have hu26 := Try.underlying26; have HR0 := am hr0; have HC0 := am hc0; clear hr0 hc0; have HR1 := am hr1; have HC1 := am hc1; clear hr1 hc1; have HB := am (Below.refl w.heap.size w); have H : ((laws_big.f l0 l1).bind fun t532 => (if t532 = true then (some true) else ((spec_DrawBloomAdd.f k l0).bind fun bt533 => ((impl_BloomAdd.f k bt533.1 bt533.2.1 bt533.2.2.1 bt533.2.2.2.1 bt533.2.2.2.2).bind fun bt541 => ((spec_BloomAdd.f k bt533.1 bt533.2.1 bt533.2.2.1 bt533.2.2.2.1 bt533.2.2.2.2).bind fun bt549 => ((impl_BloomHas.f k bt533.1 bt533.2.1 bt533.2.2.1 bt533.2.2.2.1 bt533.2.2.2.2).bind fun bt557 => ((spec_BloomHas.f k bt533.1 bt533.2.1 bt533.2.2.1 bt533.2.2.2.1 bt533.2.2.2.2).bind fun bt559 => (if (bt541.2.2.2.2 != bt549.2.2.2.2) = true then (laws_FnBloomAnswers.j0 k bt533.2.2.2.2 bt541.2.2.2.2 bt557.1 true bt533.1 bt533.2.1 bt533.2.2.1 bt533.2.2.2.1 bt541.1 bt541.2.1 bt541.2.2.1 bt541.2.2.2.1) else ((laws_rSameBloom.f k bt541.1 bt541.2.1 bt541.2.2.1 bt541.2.2.2.1 bt549.1 bt549.2.1 bt549.2.2.1 bt549.2.2.2.1).bind fun t561 => (if t561 = true then (if (bt557.2 != bt559.2) = true then (laws_FnBloomAnswers.j0 k bt533.2.2.2.2 bt541.2.2.2.2 bt557.1 true bt533.1 bt533.2.1 bt533.2.2.1 bt533.2.2.2.1 bt541.1 bt541.2.1 bt541.2.2.1 bt541.2.2.2.1) else (if (bt557.1 != bt559.1) = true then (laws_FnBloomAnswers.j0 k bt533.2.2.2.2 bt541.2.2.2.2 bt557.1 true bt533.1 bt533.2.1 bt533.2.2.1 bt533.2.2.2.1 bt541.1 bt541.2.1 bt541.2.2.1 bt541.2.2.2.1) else (laws_FnBloomAnswers.j0 k bt533.2.2.2.2 bt541.2.2.2.2 bt557.1 (bt541.2.2.2.2 != bt557.2) bt533.1 bt533.2.1 bt533.2.2.1 bt533.2.2.2.1 bt541.1 bt541.2.1 bt541.2.2.1 bt541.2.2.2.1))) else (laws_FnBloomAnswers.j0 k bt533.2.2.2.2 bt541.2.2.2.2 bt557.1 true bt533.1 bt533.2.1 bt533.2.2.1 bt533.2.2.2.1 bt541.1 bt541.2.1 bt541.2.2.1 bt541.2.2.2.1))))))))))) = some r := h; clear h; replace H := Option.bind_eq_some_iff.mp H; obtain ⟨t532, A30, H⟩ := H; (try dsimp -simprocs only at H)
 have A3 := am A30; clear A30
 by_cases c4 : t532 = true
 ·subst c4
  rw [if_pos rfl] at H; obtain rfl := Option.some.inj H
  go_enter Try.func10, Try.ntmps10
  go_wp2_with (first | ((with_reducible refine gate_callee (f := 49) rfl ?_); refine gL (some 30) Try.func49 #[.slice A0 l0.length c0, .slice A1 l1.length c1] ?_; (with_reducible refine (laws_big.calls _ _ l0 _ _ l1 true _ ?side1 ?side2 ?side3 ?side4 A3.out).mono ?_); (case side1 => exact Cz HR0.out); (case side2 => exact HC0.out); (case side3 => exact Cz HR1.out); (case side4 => exact HC1.out); rintro e w' ⟨rfl, ⟨nd, rfl⟩⟩; refine ⟨_, rfl, ?_⟩))
  go_ret
  exact ⟨eZ, Bz HB.out⟩
 ·replace c4 := Bool.eq_false_iff.mpr c4
  subst c4
  rw [if_neg (show ¬ (false = true) by decide)] at H; replace H := Option.bind_eq_some_iff.mp H; obtain ⟨⟨t533, t534, t535, t536, t539⟩, A50, H⟩ := H; (try dsimp -simprocs only at H); have A5 := am A50; clear A50; replace H := Option.bind_eq_some_iff.mp H; obtain ⟨⟨t541, t542, t543, t544, t547⟩, A60, H⟩ := H; (try dsimp -simprocs only at H); have A6 := am A60; clear A60; replace H := Option.bind_eq_some_iff.mp H; obtain ⟨⟨t549, t550, t551, t552, t555⟩, A70, H⟩ := H; (try dsimp -simprocs only at H)
  have A7 := am A70; clear A70; replace H := Option.bind_eq_some_iff.mp H; obtain ⟨⟨t557, t558⟩, A80, H⟩ := H; (try dsimp -simprocs only at H); have A8 := am A80; clear A80; replace H := Option.bind_eq_some_iff.mp H; obtain ⟨⟨t559, t560⟩, A90, H⟩ := H; (try dsimp -simprocs only at H); have A9 := am A90; clear A90; have HC10 := am H; clear H
  go_enter Try.func10, Try.ntmps10
  go_upto_region 8 with (first | ((with_reducible refine gate_callee (f := 49) rfl ?_); refine gL (some 30) Try.func49 #[.slice A0 l0.length c0, .slice A1 l1.length c1] ?_; (with_reducible refine (laws_big.calls _ _ l0 _ _ l1 false _ ?side1 ?side2 ?side3 ?side4 A3.out).mono ?_); (case side1 => exact Cz HR0.out); (case side2 => exact HC0.out); (case side3 => exact Cz HR1.out); (case side4 => exact HC1.out); rintro e w' ⟨rfl, ⟨nd, rfl⟩⟩; refine ⟨_, rfl, ?_⟩) | ((with_reducible refine gate_callee (f := 50) rfl ?_); refine gL (some 33) Try.func50 #[.slice A0 l0.length c0] ?_; (with_reducible refine (spec_DrawBloomAdd.calls k _ _ l0 t533 t534 t535 t536 t539 _ ?side1 ?side2 A5.out).mono ?_); (case side1 => exact Cz HR0.out); (case side2 => exact HC0.out); rintro e w11 ⟨v537, rfl, ho0, hb⟩; refine ⟨_, rfl, ?_⟩; have n0_ := Rl ho0 HB; have n1_ := Bb HB hb; clear HB; revert n0_ n1_; intro HO538 HB; (try clear hb); (try clear hb2); (try clear hk); (try clear hi); (try clear ho0)) | ((with_reducible refine gate_dst (N := 5) rfl ?_); (try (refine gate_guard (by rfl) ?_; dsimp only)); refine bE 5 #[.int .i64 0, .int .i64 0, .int .i64 0, .slice none 0 0] 28 ?_; intro gb540 hg w12 hbox hb; have n0_ := Rb HO538 hb; have n1_ := Bb HB hb; have n2_ := am (hbox); have n3_ := Gl HB hg; have n4_ := Gl HB hg; clear HO538 HB; revert n0_ n1_ n2_ n3_ n4_; intro HO538 HB BK540 GW540 GE540; clear hb hbox hg; obtain ⟨hcz13_0, hcz13_1, hcz13_2, hcz13_3, hfz13_0, hfz13_1, hfz13_2, hfz13_3⟩ := cf4 (w := w12) BK540; obtain ⟨Ao14, co14, eo14⟩ := Kd.R_slice HO538.out; subst eo14) | ((with_reducible refine gate_callee (f := 26) rfl ?_); refine gL (some 39) Try.func26 #[.agg #[.int .i64 t533, .int .i64 t534, .int .i64 t535, .slice Ao14 t536.length co14], .string t539] ?_; (with_reducible refine (impl_BloomAdd.calls k t533 t534 t535 _ _ t536 t539 t541 t542 t543 t544 t547 _ ?side1 ?side2 A6.out).mono ?_); (case side1 => refine (Kd.R_reads' (e := 3) (base := w.heap.size) (ok := fun k_ => True) (n := t536.length) (c := co14) ?_).2.2; exact (Rz (Kd.R_mono (Kd.R_far (p := ⟨gb540, 3, none⟩) (Kd.R_far (p := ⟨gb540, 2, none⟩) (Kd.R_far (p := ⟨gb540, 1, none⟩) (Kd.R_far (p := ⟨gb540, 0, none⟩) (Kd.R_types HO538.out BK540.out (by decide)) (fun _ hk => hk.2) (.int .i64 t533)) (fun _ hk => hk.2) (.int .i64 t534)) (fun _ hk => hk.2) (.int .i64 t535)) (fun _ hk => hk.2) (.slice Ao14 t536.length co14)) (fun _ h_ => h_.1)))); (case side2 => exact (Kd.R_reads' HO538.out).2.1); rintro e w15 ⟨v545, rfl, ho0, hb⟩; refine ⟨_, rfl, ?_⟩; have n0_ := am (Kd.R_elder' (Rz (Kd.R_mono (Kd.R_far (p := ⟨gb540, 3, none⟩) (Kd.R_far (p := ⟨gb540, 2, none⟩) (Kd.R_far (p := ⟨gb540, 1, none⟩) (Kd.R_far (p := ⟨gb540, 0, none⟩) (Kd.R_types HO538.out BK540.out (by decide)) (fun _ hk => hk.2) (.int .i64 t533)) (fun _ hk => hk.2) (.int .i64 t534)) (fun _ hk => hk.2) (.int .i64 t535)) (fun _ hk => hk.2) (.slice Ao14 t536.length co14)) (fun _ h_ => h_.1))) (Kd.R_base ho0) hb); have n1_ := am (Kd.R_lower (Kd.R_new' ho0 (Kd.R_lt (Rz (Kd.R_mono (Kd.R_far (p := ⟨gb540, 3, none⟩) (Kd.R_far (p := ⟨gb540, 2, none⟩) (Kd.R_far (p := ⟨gb540, 1, none⟩) (Kd.R_far (p := ⟨gb540, 0, none⟩) (Kd.R_types HO538.out BK540.out (by decide)) (fun _ hk => hk.2) (.int .i64 t533)) (fun _ hk => hk.2) (.int .i64 t534)) (fun _ hk => hk.2) (.int .i64 t535)) (fun _ hk => hk.2) (.slice Ao14 t536.length co14)) (fun _ h_ => h_.1))))) (below_size (w := w) (Bq))); have n2_ := am (blk_below (g := gb540) (o := .cells #[.int .i64 t533, .int .i64 t534, .int .i64 t535, .slice Ao14 t536.length co14] 28 (0, 0)) (by (with_reducible repeat (first | refine blk_drewN ?_ _ | refine blk_drew ?_ | refine blk_alloc ?_ _)); refine blk_put (cs := #[.int .i64 t533, .int .i64 t534, .int .i64 t535, .slice none 0 0]) ?_ 3 _ rfl; (with_reducible repeat (first | refine blk_drewN ?_ _ | refine blk_drew ?_ | refine blk_alloc ?_ _)); refine blk_put (cs := #[.int .i64 t533, .int .i64 t534, .int .i64 0, .slice none 0 0]) ?_ 2 _ rfl; (with_reducible repeat (first | refine blk_drewN ?_ _ | refine blk_drew ?_ | refine blk_alloc ?_ _)); refine blk_put (cs := #[.int .i64 t533, .int .i64 0, .int .i64 0, .slice none 0 0]) ?_ 1 _ rfl; (with_reducible repeat (first | refine blk_drewN ?_ _ | refine blk_drew ?_ | refine blk_alloc ?_ _)); refine blk_put (cs := #[.int .i64 0, .int .i64 0, .int .i64 0, .slice none 0 0]) ?_ 0 _ rfl; exact Kz BK540.out) hb); have n3_ := Bc HB hb; clear HO538 BK540 HB; revert n0_ n1_ n2_ n3_; intro HO538 HO546 BK540 HB; (try clear hb); (try clear hb2); (try clear hk); (try clear hi); (try clear ho0)) | ((with_reducible refine gate_dst (N := 7) rfl ?_); (try (refine gate_guard (by rfl) ?_; dsimp only)); refine bE 7 #[.int .i64 0, .int .i64 0, .int .i64 0, .slice none 0 0] 28 ?_; intro gb548 hg w16 hbox hb; have n0_ := Rb HO538 hb; have n1_ := Rb HO546 hb; have n2_ := Kb BK540 hb; have n3_ := Bc HB hb; have n4_ := am (hbox); have n5_ := Gm HB hg; have n6_ := Gm HB hg; have n7_ := Nl BK540 hg; have n8_ := Ng BK540 hg; clear HO538 HO546 BK540 HB; revert n0_ n1_ n2_ n3_ n4_ n5_ n6_ n7_ n8_; intro HO538 HO546 BK540 HB BK548 GW548 GE548 NB540_548 NB548_540; clear hb hbox hg; have hnb17 := NB548_540.out; have hnc17 := NB540_548.out; obtain ⟨hcz18_0, hcz18_1, hcz18_2, hcz18_3, hfz18_0, hfz18_1, hfz18_2, hfz18_3⟩ := cf4 (w := w16) BK548; obtain ⟨Ao19, co19, eo19⟩ := Kd.R_slice HO546.out; subst eo19; obtain ⟨hcz20_0, hcz20_1, hcz20_2, hcz20_3, hfz20_0, hfz20_1, hfz20_2, hfz20_3⟩ := cf4 (w := w16) BK540) | ((with_reducible refine gate_callee (f := 24) rfl ?_); refine gL (some 45) Try.func24 #[.agg #[.int .i64 t533, .int .i64 t534, .int .i64 t535, .slice Ao14 t536.length co14], .string t539] ?_; (with_reducible refine (spec_BloomAdd.calls k t533 t534 t535 _ _ t536 t539 t549 t550 t551 t552 t555 _ ?side1 ?side2 A7.out).mono ?_); (case side1 => refine (Kd.R_reads' (e := 3) (base := w.heap.size) (ok := fun k_ => (True ∧ some k_ ≠ (.slice Ao19 t544.length co19 : Value).ownBlock)) (n := t536.length) (c := co14) ?_).2.2; exact (Rz (Kd.R_mono (Kd.R_far (p := ⟨gb548, 3, none⟩) (Kd.R_far (p := ⟨gb548, 2, none⟩) (Kd.R_far (p := ⟨gb548, 1, none⟩) (Kd.R_far (p := ⟨gb548, 0, none⟩) (Kd.R_types HO538.out BK548.out (by decide)) (fun _ hk => hk.2) (.int .i64 t541)) (fun _ hk => hk.2) (.int .i64 t542)) (fun _ hk => hk.2) (.int .i64 t543)) (fun _ hk => hk.2) (.slice Ao19 t544.length co19)) (fun _ h_ => h_.1)))); (case side2 => exact (Kd.R_reads' HO538.out).2.1); rintro e w21 ⟨v553, rfl, ho0, hb⟩; refine ⟨_, rfl, ?_⟩; have n0_ := am (Kd.R_elder' (Rz (Kd.R_mono (Kd.R_far (p := ⟨gb548, 3, none⟩) (Kd.R_far (p := ⟨gb548, 2, none⟩) (Kd.R_far (p := ⟨gb548, 1, none⟩) (Kd.R_far (p := ⟨gb548, 0, none⟩) (Kd.R_types HO538.out BK548.out (by decide)) (fun _ hk => hk.2) (.int .i64 t541)) (fun _ hk => hk.2) (.int .i64 t542)) (fun _ hk => hk.2) (.int .i64 t543)) (fun _ hk => hk.2) (.slice Ao19 t544.length co19)) (fun _ h_ => h_.1))) (Kd.R_base ho0) hb); have n1_ := am (Kd.R_elder' (Rz (Kd.R_mono (Kd.R_far (p := ⟨gb548, 3, none⟩) (Kd.R_far (p := ⟨gb548, 2, none⟩) (Kd.R_far (p := ⟨gb548, 1, none⟩) (Kd.R_far (p := ⟨gb548, 0, none⟩) (Kd.R_types HO546.out BK548.out (by decide)) (fun _ hk => hk.2) (.int .i64 t541)) (fun _ hk => hk.2) (.int .i64 t542)) (fun _ hk => hk.2) (.int .i64 t543)) (fun _ hk => hk.2) (.slice Ao19 t544.length co19)) (fun _ h_ => h_.1))) (Kd.R_base ho0) hb); have n2_ := am (Kd.R_lower (Kd.R_new' (Kd.R_new' ho0 (Kd.R_lt (Rz (Kd.R_mono (Kd.R_far (p := ⟨gb548, 3, none⟩) (Kd.R_far (p := ⟨gb548, 2, none⟩) (Kd.R_far (p := ⟨gb548, 1, none⟩) (Kd.R_far (p := ⟨gb548, 0, none⟩) (Kd.R_types HO538.out BK548.out (by decide)) (fun _ hk => hk.2) (.int .i64 t541)) (fun _ hk => hk.2) (.int .i64 t542)) (fun _ hk => hk.2) (.int .i64 t543)) (fun _ hk => hk.2) (.slice Ao19 t544.length co19)) (fun _ h_ => h_.1))))) (Kd.R_lt (Rz (Kd.R_mono (Kd.R_far (p := ⟨gb548, 3, none⟩) (Kd.R_far (p := ⟨gb548, 2, none⟩) (Kd.R_far (p := ⟨gb548, 1, none⟩) (Kd.R_far (p := ⟨gb548, 0, none⟩) (Kd.R_types HO546.out BK548.out (by decide)) (fun _ hk => hk.2) (.int .i64 t541)) (fun _ hk => hk.2) (.int .i64 t542)) (fun _ hk => hk.2) (.int .i64 t543)) (fun _ hk => hk.2) (.slice Ao19 t544.length co19)) (fun _ h_ => h_.1))))) (below_size (w := w) (Bq))); have n3_ := am (blk_below (g := gb540) (o := .cells #[.int .i64 t533, .int .i64 t534, .int .i64 t535, .slice Ao14 t536.length co14] 28 (0, 0)) (by (with_reducible repeat (first | refine blk_drewN ?_ _ | refine blk_drew ?_ | refine blk_alloc ?_ _)); refine blk_far ?_ NB540_548.out _; (with_reducible repeat (first | refine blk_drewN ?_ _ | refine blk_drew ?_ | refine blk_alloc ?_ _)); refine blk_far ?_ NB540_548.out _; (with_reducible repeat (first | refine blk_drewN ?_ _ | refine blk_drew ?_ | refine blk_alloc ?_ _)); refine blk_far ?_ NB540_548.out _; (with_reducible repeat (first | refine blk_drewN ?_ _ | refine blk_drew ?_ | refine blk_alloc ?_ _)); refine blk_far ?_ NB540_548.out _; exact Kz BK540.out) hb); have n4_ := am (blk_below (g := gb548) (o := .cells #[.int .i64 t541, .int .i64 t542, .int .i64 t543, .slice Ao19 t544.length co19] 28 (0, 0)) (by (with_reducible repeat (first | refine blk_drewN ?_ _ | refine blk_drew ?_ | refine blk_alloc ?_ _)); refine blk_put (cs := #[.int .i64 t541, .int .i64 t542, .int .i64 t543, .slice none 0 0]) ?_ 3 _ rfl; (with_reducible repeat (first | refine blk_drewN ?_ _ | refine blk_drew ?_ | refine blk_alloc ?_ _)); refine blk_put (cs := #[.int .i64 t541, .int .i64 t542, .int .i64 0, .slice none 0 0]) ?_ 2 _ rfl; (with_reducible repeat (first | refine blk_drewN ?_ _ | refine blk_drew ?_ | refine blk_alloc ?_ _)); refine blk_put (cs := #[.int .i64 t541, .int .i64 0, .int .i64 0, .slice none 0 0]) ?_ 1 _ rfl; (with_reducible repeat (first | refine blk_drewN ?_ _ | refine blk_drew ?_ | refine blk_alloc ?_ _)); refine blk_put (cs := #[.int .i64 0, .int .i64 0, .int .i64 0, .slice none 0 0]) ?_ 0 _ rfl; exact Kz BK548.out) hb); have n5_ := Bc HB hb; clear HO538 HO546 BK540 BK548 HB; revert n0_ n1_ n2_ n3_ n4_ n5_; intro HO538 HO546 HO554 BK540 BK548 HB; (try clear hb); (try clear hb2); (try clear hk); (try clear hi); (try clear ho0)) | ((with_reducible refine gate_dst (N := 9) rfl ?_); (try (refine gate_guard (by rfl) ?_; dsimp only)); refine bE 9 #[.int .i64 0, .int .i64 0, .int .i64 0, .slice none 0 0] 28 ?_; intro gb556 hg w22 hbox hb; have n0_ := Rb HO538 hb; have n1_ := Rb HO546 hb; have n2_ := Rb HO554 hb; have n3_ := Kb BK540 hb; have n4_ := Kb BK548 hb; have n5_ := Bc HB hb; have n6_ := am (hbox); have n7_ := Gm HB hg; have n8_ := Gm HB hg; have n9_ := Nl BK540 hg; have n10_ := Ng BK540 hg; have n11_ := Nl BK548 hg; have n12_ := Ng BK548 hg; clear HO538 HO546 HO554 BK540 BK548 HB; revert n0_ n1_ n2_ n3_ n4_ n5_ n6_ n7_ n8_ n9_ n10_ n11_ n12_; intro HO538 HO546 HO554 BK540 BK548 HB BK556 GW556 GE556 NB540_556 NB556_540 NB548_556 NB556_548; clear hb hbox hg; have hnb23 := NB556_540.out; have hnc23 := NB540_556.out; have hnb24 := NB556_548.out; have hnc24 := NB548_556.out; obtain ⟨hcz25_0, hcz25_1, hcz25_2, hcz25_3, hfz25_0, hfz25_1, hfz25_2, hfz25_3⟩ := cf4 (w := w22) BK556; obtain ⟨Ao26, co26, eo26⟩ := Kd.R_slice HO554.out; subst eo26; obtain ⟨hcz27_0, hcz27_1, hcz27_2, hcz27_3, hfz27_0, hfz27_1, hfz27_2, hfz27_3⟩ := cf4 (w := w22) BK540) | ((with_reducible refine gate_callee (f := 51) rfl ?_); refine gL (some 51) Try.func51 #[.agg #[.int .i64 t533, .int .i64 t534, .int .i64 t535, .slice Ao14 t536.length co14], .string t539] ?_; (with_reducible refine (impl_BloomHas.calls k t533 t534 t535 _ _ t536 t539 t557 t558 _ ?side1 ?side2 A8.out).mono ?_); (case side1 => refine (Kd.R_reads' (e := 3) (base := w.heap.size) (ok := fun k_ => ((True ∧ some k_ ≠ (.slice Ao19 t544.length co19 : Value).ownBlock) ∧ some k_ ≠ (.slice Ao26 t552.length co26 : Value).ownBlock)) (n := t536.length) (c := co14) ?_).2.2; exact (Rz (Kd.R_mono (Kd.R_far (p := ⟨gb556, 3, none⟩) (Kd.R_far (p := ⟨gb556, 2, none⟩) (Kd.R_far (p := ⟨gb556, 1, none⟩) (Kd.R_far (p := ⟨gb556, 0, none⟩) (Kd.R_types HO538.out BK556.out (by decide)) (fun _ hk => hk.2) (.int .i64 t549)) (fun _ hk => hk.2) (.int .i64 t550)) (fun _ hk => hk.2) (.int .i64 t551)) (fun _ hk => hk.2) (.slice Ao26 t552.length co26)) (fun _ h_ => h_.1)))); (case side2 => exact (Kd.R_reads' HO538.out).2.1); rintro e w28 ⟨rfl, hb⟩; refine ⟨_, rfl, ?_⟩; have n0_ := am (Kd.R_below (Rz (Kd.R_mono (Kd.R_far (p := ⟨gb556, 3, none⟩) (Kd.R_far (p := ⟨gb556, 2, none⟩) (Kd.R_far (p := ⟨gb556, 1, none⟩) (Kd.R_far (p := ⟨gb556, 0, none⟩) (Kd.R_types HO538.out BK556.out (by decide)) (fun _ hk => hk.2) (.int .i64 t549)) (fun _ hk => hk.2) (.int .i64 t550)) (fun _ hk => hk.2) (.int .i64 t551)) (fun _ hk => hk.2) (.slice Ao26 t552.length co26)) (fun _ h_ => h_.1))) hb); have n1_ := am (Kd.R_below (Rz (Kd.R_mono (Kd.R_far (p := ⟨gb556, 3, none⟩) (Kd.R_far (p := ⟨gb556, 2, none⟩) (Kd.R_far (p := ⟨gb556, 1, none⟩) (Kd.R_far (p := ⟨gb556, 0, none⟩) (Kd.R_types HO546.out BK556.out (by decide)) (fun _ hk => hk.2) (.int .i64 t549)) (fun _ hk => hk.2) (.int .i64 t550)) (fun _ hk => hk.2) (.int .i64 t551)) (fun _ hk => hk.2) (.slice Ao26 t552.length co26)) (fun _ h_ => h_.1))) hb); have n2_ := am (Kd.R_below (Rz (Kd.R_mono (Kd.R_far (p := ⟨gb556, 3, none⟩) (Kd.R_far (p := ⟨gb556, 2, none⟩) (Kd.R_far (p := ⟨gb556, 1, none⟩) (Kd.R_far (p := ⟨gb556, 0, none⟩) (Kd.R_types HO554.out BK556.out (by decide)) (fun _ hk => hk.2) (.int .i64 t549)) (fun _ hk => hk.2) (.int .i64 t550)) (fun _ hk => hk.2) (.int .i64 t551)) (fun _ hk => hk.2) (.slice Ao26 t552.length co26)) (fun _ h_ => h_.1))) hb); have n3_ := am (blk_below (g := gb540) (o := .cells #[.int .i64 t533, .int .i64 t534, .int .i64 t535, .slice Ao14 t536.length co14] 28 (0, 0)) (by (with_reducible repeat (first | refine blk_drewN ?_ _ | refine blk_drew ?_ | refine blk_alloc ?_ _)); refine blk_far ?_ NB540_556.out _; (with_reducible repeat (first | refine blk_drewN ?_ _ | refine blk_drew ?_ | refine blk_alloc ?_ _)); refine blk_far ?_ NB540_556.out _; (with_reducible repeat (first | refine blk_drewN ?_ _ | refine blk_drew ?_ | refine blk_alloc ?_ _)); refine blk_far ?_ NB540_556.out _; (with_reducible repeat (first | refine blk_drewN ?_ _ | refine blk_drew ?_ | refine blk_alloc ?_ _)); refine blk_far ?_ NB540_556.out _; exact Kz BK540.out) hb); have n4_ := am (blk_below (g := gb548) (o := .cells #[.int .i64 t541, .int .i64 t542, .int .i64 t543, .slice Ao19 t544.length co19] 28 (0, 0)) (by (with_reducible repeat (first | refine blk_drewN ?_ _ | refine blk_drew ?_ | refine blk_alloc ?_ _)); refine blk_far ?_ NB548_556.out _; (with_reducible repeat (first | refine blk_drewN ?_ _ | refine blk_drew ?_ | refine blk_alloc ?_ _)); refine blk_far ?_ NB548_556.out _; (with_reducible repeat (first | refine blk_drewN ?_ _ | refine blk_drew ?_ | refine blk_alloc ?_ _)); refine blk_far ?_ NB548_556.out _; (with_reducible repeat (first | refine blk_drewN ?_ _ | refine blk_drew ?_ | refine blk_alloc ?_ _)); refine blk_far ?_ NB548_556.out _; exact Kz BK548.out) hb); have n5_ := am (blk_below (g := gb556) (o := .cells #[.int .i64 t549, .int .i64 t550, .int .i64 t551, .slice Ao26 t552.length co26] 28 (0, 0)) (by (with_reducible repeat (first | refine blk_drewN ?_ _ | refine blk_drew ?_ | refine blk_alloc ?_ _)); refine blk_put (cs := #[.int .i64 t549, .int .i64 t550, .int .i64 t551, .slice none 0 0]) ?_ 3 _ rfl; (with_reducible repeat (first | refine blk_drewN ?_ _ | refine blk_drew ?_ | refine blk_alloc ?_ _)); refine blk_put (cs := #[.int .i64 t549, .int .i64 t550, .int .i64 0, .slice none 0 0]) ?_ 2 _ rfl; (with_reducible repeat (first | refine blk_drewN ?_ _ | refine blk_drew ?_ | refine blk_alloc ?_ _)); refine blk_put (cs := #[.int .i64 t549, .int .i64 0, .int .i64 0, .slice none 0 0]) ?_ 1 _ rfl; (with_reducible repeat (first | refine blk_drewN ?_ _ | refine blk_drew ?_ | refine blk_alloc ?_ _)); refine blk_put (cs := #[.int .i64 0, .int .i64 0, .int .i64 0, .slice none 0 0]) ?_ 0 _ rfl; exact Kz BK556.out) hb); have n6_ := Bc HB hb; clear HO538 HO546 HO554 BK540 BK548 BK556 HB; revert n0_ n1_ n2_ n3_ n4_ n5_ n6_; intro HO538 HO546 HO554 BK540 BK548 BK556 HB; (try clear hb); (try clear hb2); (try clear hk); (try clear hi); obtain ⟨hcz29_0, hcz29_1, hcz29_2, hcz29_3, hfz29_0, hfz29_1, hfz29_2, hfz29_3⟩ := cf4 (w := w28) BK540) | ((with_reducible refine gate_callee (f := 52) rfl ?_); refine gL (some 57) Try.func52 #[.agg #[.int .i64 t533, .int .i64 t534, .int .i64 t535, .slice Ao14 t536.length co14], .string t539] ?_; (with_reducible refine (spec_BloomHas.calls k t533 t534 t535 _ _ t536 t539 t559 t560 _ ?side1 ?side2 A9.out).mono ?_); (case side1 => exact Cz ((Kd.R_reads' HO538.out).2.2)); (case side2 => exact (Kd.R_reads' HO538.out).2.1); rintro e w30 ⟨rfl, hb⟩; refine ⟨_, rfl, ?_⟩; have n0_ := Rb HO538 hb; have n1_ := Rb HO546 hb; have n2_ := Rb HO554 hb; have n3_ := Kb BK540 hb; have n4_ := Kb BK548 hb; have n5_ := Kb BK556 hb; have n6_ := Bc HB hb; clear HO538 HO546 HO554 BK540 BK548 BK556 HB; revert n0_ n1_ n2_ n3_ n4_ n5_ n6_; intro HO538 HO546 HO554 BK540 BK548 BK556 HB; (try clear hb); (try clear hb2); (try clear hk); (try clear hi)))
  (try simp only [aP])
  go_cut [83] (fun v83 wc => ∃ (kq : Nat) (x83_9 : Bool), v83 = .bool x83_9 ∧ Aside0 (laws_FnBloomAnswers.j0 kq t539 t547 t557 x83_9 t533 t534 t535 t536 t541 t542 t543 t544 = some r) ∧ Aside0 (kq ≤ k) ∧ Aside0 (Kd.R (Kd.int .i64) 3 wc w.heap.size (fun k_ => some k_ ≠ ((.slice Ao19 t544.length co19) : Value).ownBlock ∧ some k_ ≠ ((.slice Ao26 t552.length co26) : Value).ownBlock) (.slice Ao14 t536.length co14) t536) ∧ Aside0 (Kd.R (Kd.int .i64) 3 wc w.heap.size (fun k_ => some k_ ≠ ((.slice Ao14 t536.length co14) : Value).ownBlock ∧ some k_ ≠ ((.slice Ao26 t552.length co26) : Value).ownBlock) (.slice Ao19 t544.length co19) t544) ∧ Aside0 (Kd.R (Kd.int .i64) 3 wc w.heap.size (fun k_ => some k_ ≠ ((.slice Ao14 t536.length co14) : Value).ownBlock ∧ some k_ ≠ ((.slice Ao19 t544.length co19) : Value).ownBlock) (.slice Ao26 t552.length co26) t552) ∧ Aside0 (wc.heap[gb540]? = some (.cells #[.int .i64 t533, .int .i64 t534, .int .i64 t535, (.slice Ao14 t536.length co14)] 28 (0, 0))) ∧ Aside0 (wc.heap[gb548]? = some (.cells #[.int .i64 t541, .int .i64 t542, .int .i64 t543, (.slice Ao19 t544.length co19)] 28 (0, 0))) ∧ Aside0 (wc.heap[gb556]? = some (.cells #[.int .i64 t549, .int .i64 t550, .int .i64 t551, (.slice Ao26 t552.length co26)] 28 (0, 0))) ∧ Aside0 (Below w.heap.size w wc))
  case first =>
   have H := HC10.out; clear HC10
   by_cases c31 : (t547 != t555) = true
   ·rw [if_pos c31] at H
    have c31b0 : (t547 != t555) = true := c31
    (try (have c31b1 : decide (t547 = t555) = false := by simpa using c31))
    (try (have c31b2 : (t547 == t555) = false := by simpa using c31))
    (try (have c31b3 : ¬ (t547 = t555) := by simpa using c31))
    clear c31
    (first | rw [c31b0] | (simp only [i64_w, i32_w]; rw [c31b0]) | skip)
    have H' := am H; clear H
    go_wp2
    go_meet
    case rel => exact ⟨_, (true), wZ, H', ⟨by first | omega | exact Nat.le_refl _⟩, ⟨Rz (Kd.R_mono HO538.out (fun _ hk => ⟨hk.1.2, hk.2⟩))⟩, ⟨Rz (Kd.R_mono HO546.out (fun _ hk => ⟨hk.1.2, hk.2⟩))⟩, ⟨Rz (Kd.R_mono HO554.out (fun _ hk => ⟨hk.1.2, hk.2⟩))⟩, ⟨Kz BK540.out⟩, ⟨Kz BK548.out⟩, ⟨Kz BK556.out⟩, ⟨Bq⟩⟩
   ·rw [if_neg c31] at H
    have c31b0 : (t547 != t555) = false := by simpa using c31
    (try (have c31b1 : decide (t547 = t555) = true := by simpa using c31))
    (try (have c31b2 : (t547 == t555) = true := by simpa using c31))
    clear c31
    (first | rw [c31b0] | (simp only [i64_w, i32_w]; rw [c31b0]) | skip)
    replace H := Option.bind_eq_some_iff.mp H; obtain ⟨t561, A320, H⟩ := H; (try dsimp -simprocs only at H); have A32 := am A320; clear A320
    by_cases c33 : t561 = true
    ·subst c33
     rw [if_pos rfl] at H
     by_cases c34 : (t558 != t560) = true
     ·rw [if_pos c34] at H
      have c34b0 : (t558 != t560) = true := c34
      (try (have c34b1 : decide (t558 = t560) = false := by simpa using c34))
      (try (have c34b2 : (t558 == t560) = false := by simpa using c34))
      (try (have c34b3 : ¬ (t558 = t560) := by simpa using c34))
      clear c34; have H' := am H; clear H; have hnb35 := NB548_540.out; have hnc35 := NB540_548.out; have hnb36 := NB548_556.out; have hnc36 := NB556_548.out; obtain ⟨hcz37_0, hcz37_1, hcz37_2, hcz37_3, hfz37_0, hfz37_1, hfz37_2, hfz37_3⟩ := cf4 (w := w30) BK548; have hnb38 := NB556_540.out; have hnc38 := NB540_556.out; obtain ⟨hcz39_0, hcz39_1, hcz39_2, hcz39_3, hfz39_0, hfz39_1, hfz39_2, hfz39_3⟩ := cf4 (w := w30) BK556
      go_wp2_with (first | (go_at_call 53; (with_reducible refine (laws_rSameBloom.calls k t541 t542 t543 _ _ t544 t549 t550 t551 _ _ t552 true _ ?side1 ?side2 ?side3 ?side4 A32.out).mono ?_); (case side1 => exact Cz ((Kd.R_reads' HO546.out).2.2)); (case side2 => exact (Kd.R_reads' HO546.out).2.1); (case side3 => exact Cz ((Kd.R_reads' HO554.out).2.2)); (case side4 => exact (Kd.R_reads' HO554.out).2.1); rintro e w40 ⟨rfl, hb⟩; have n0_ := Rb HO538 hb; have n1_ := Rb HO546 hb; have n2_ := Rb HO554 hb; have n3_ := Kb BK540 hb; have n4_ := Kb BK548 hb; have n5_ := Kb BK556 hb; have n6_ := Bc HB hb; clear HO538 HO546 HO554 BK540 BK548 BK556 HB; revert n0_ n1_ n2_ n3_ n4_ n5_ n6_; intro HO538 HO546 HO554 BK540 BK548 BK556 HB; (try clear hb); (try clear hb2); (try clear hk); (try clear hi)))
      go_meet
      case rel => exact ⟨_, (true), wZ, H', ⟨by first | omega | exact Nat.le_refl _⟩, ⟨Rz (Kd.R_mono HO538.out (fun _ hk => ⟨hk.1.2, hk.2⟩))⟩, ⟨Rz (Kd.R_mono HO546.out (fun _ hk => ⟨hk.1.2, hk.2⟩))⟩, ⟨Rz (Kd.R_mono HO554.out (fun _ hk => ⟨hk.1.2, hk.2⟩))⟩, ⟨Kz BK540.out⟩, ⟨Kz BK548.out⟩, ⟨Kz BK556.out⟩, ⟨Bq⟩⟩
     ·rw [if_neg c34] at H
      have c34b0 : (t558 != t560) = false := by simpa using c34
      (try (have c34b1 : decide (t558 = t560) = true := by simpa using c34))
      (try (have c34b2 : (t558 == t560) = true := by simpa using c34))
      clear c34
      by_cases c41 : (t557 != t559) = true
      ·rw [if_pos c41] at H
       have c41b0 : (t557 != t559) = true := c41
       (try (have c41b1 : decide (t557 = t559) = false := by simpa using c41))
       (try (have c41b2 : (t557 == t559) = false := by simpa using c41))
       (try (have c41b3 : ¬ (t557 = t559) := by simpa using c41))
       clear c41; have H' := am H; clear H; have hnb42 := NB548_540.out; have hnc42 := NB540_548.out; have hnb43 := NB548_556.out; have hnc43 := NB556_548.out; obtain ⟨hcz44_0, hcz44_1, hcz44_2, hcz44_3, hfz44_0, hfz44_1, hfz44_2, hfz44_3⟩ := cf4 (w := w30) BK548; have hnb45 := NB556_540.out; have hnc45 := NB540_556.out; obtain ⟨hcz46_0, hcz46_1, hcz46_2, hcz46_3, hfz46_0, hfz46_1, hfz46_2, hfz46_3⟩ := cf4 (w := w30) BK556
       go_wp2_with (first | (go_at_call 53; (with_reducible refine (laws_rSameBloom.calls k t541 t542 t543 _ _ t544 t549 t550 t551 _ _ t552 true _ ?side1 ?side2 ?side3 ?side4 A32.out).mono ?_); (case side1 => exact Cz ((Kd.R_reads' HO546.out).2.2)); (case side2 => exact (Kd.R_reads' HO546.out).2.1); (case side3 => exact Cz ((Kd.R_reads' HO554.out).2.2)); (case side4 => exact (Kd.R_reads' HO554.out).2.1); rintro e w47 ⟨rfl, hb⟩; have n0_ := Rb HO538 hb; have n1_ := Rb HO546 hb; have n2_ := Rb HO554 hb; have n3_ := Kb BK540 hb; have n4_ := Kb BK548 hb; have n5_ := Kb BK556 hb; have n6_ := Bc HB hb; clear HO538 HO546 HO554 BK540 BK548 BK556 HB; revert n0_ n1_ n2_ n3_ n4_ n5_ n6_; intro HO538 HO546 HO554 BK540 BK548 BK556 HB; (try clear hb); (try clear hb2); (try clear hk); (try clear hi)))
       go_meet
       case rel => exact ⟨_, (true), wZ, H', ⟨by first | omega | exact Nat.le_refl _⟩, ⟨Rz (Kd.R_mono HO538.out (fun _ hk => ⟨hk.1.2, hk.2⟩))⟩, ⟨Rz (Kd.R_mono HO546.out (fun _ hk => ⟨hk.1.2, hk.2⟩))⟩, ⟨Rz (Kd.R_mono HO554.out (fun _ hk => ⟨hk.1.2, hk.2⟩))⟩, ⟨Kz BK540.out⟩, ⟨Kz BK548.out⟩, ⟨Kz BK556.out⟩, ⟨Bq⟩⟩
      ·rw [if_neg c41] at H
       have c41b0 : (t557 != t559) = false := by simpa using c41
       (try (have c41b1 : decide (t557 = t559) = true := by simpa using c41))
       (try (have c41b2 : (t557 == t559) = true := by simpa using c41))
       clear c41; have H' := am H; clear H; have hnb48 := NB548_540.out; have hnc48 := NB540_548.out; have hnb49 := NB548_556.out; have hnc49 := NB556_548.out; obtain ⟨hcz50_0, hcz50_1, hcz50_2, hcz50_3, hfz50_0, hfz50_1, hfz50_2, hfz50_3⟩ := cf4 (w := w30) BK548; have hnb51 := NB556_540.out; have hnc51 := NB540_556.out; obtain ⟨hcz52_0, hcz52_1, hcz52_2, hcz52_3, hfz52_0, hfz52_1, hfz52_2, hfz52_3⟩ := cf4 (w := w30) BK556
       go_wp2_with (first | (go_at_call 53; (with_reducible refine (laws_rSameBloom.calls k t541 t542 t543 _ _ t544 t549 t550 t551 _ _ t552 true _ ?side1 ?side2 ?side3 ?side4 A32.out).mono ?_); (case side1 => exact Cz ((Kd.R_reads' HO546.out).2.2)); (case side2 => exact (Kd.R_reads' HO546.out).2.1); (case side3 => exact Cz ((Kd.R_reads' HO554.out).2.2)); (case side4 => exact (Kd.R_reads' HO554.out).2.1); rintro e w53 ⟨rfl, hb⟩; have n0_ := Rb HO538 hb; have n1_ := Rb HO546 hb; have n2_ := Rb HO554 hb; have n3_ := Kb BK540 hb; have n4_ := Kb BK548 hb; have n5_ := Kb BK556 hb; have n6_ := Bc HB hb; clear HO538 HO546 HO554 BK540 BK548 BK556 HB; revert n0_ n1_ n2_ n3_ n4_ n5_ n6_; intro HO538 HO546 HO554 BK540 BK548 BK556 HB; (try clear hb); (try clear hb2); (try clear hk); (try clear hi)))
       go_meet
       case rel => exact ⟨_, ((t547 != t558)), wZ, H', ⟨by first | omega | exact Nat.le_refl _⟩, ⟨Rz (Kd.R_mono HO538.out (fun _ hk => ⟨hk.1.2, hk.2⟩))⟩, ⟨Rz (Kd.R_mono HO546.out (fun _ hk => ⟨hk.1.2, hk.2⟩))⟩, ⟨Rz (Kd.R_mono HO554.out (fun _ hk => ⟨hk.1.2, hk.2⟩))⟩, ⟨Kz BK540.out⟩, ⟨Kz BK548.out⟩, ⟨Kz BK556.out⟩, ⟨Bq⟩⟩
    ·replace c33 := Bool.eq_false_iff.mpr c33
     subst c33
     rw [if_neg (show ¬ (false = true) by decide)] at H; have H' := am H; clear H; have hnb54 := NB548_540.out; have hnc54 := NB540_548.out; have hnb55 := NB548_556.out; have hnc55 := NB556_548.out; obtain ⟨hcz56_0, hcz56_1, hcz56_2, hcz56_3, hfz56_0, hfz56_1, hfz56_2, hfz56_3⟩ := cf4 (w := w30) BK548; have hnb57 := NB556_540.out; have hnc57 := NB540_556.out; obtain ⟨hcz58_0, hcz58_1, hcz58_2, hcz58_3, hfz58_0, hfz58_1, hfz58_2, hfz58_3⟩ := cf4 (w := w30) BK556
     go_wp2_with (first | (go_at_call 53; (with_reducible refine (laws_rSameBloom.calls k t541 t542 t543 _ _ t544 t549 t550 t551 _ _ t552 false _ ?side1 ?side2 ?side3 ?side4 A32.out).mono ?_); (case side1 => exact Cz ((Kd.R_reads' HO546.out).2.2)); (case side2 => exact (Kd.R_reads' HO546.out).2.1); (case side3 => exact Cz ((Kd.R_reads' HO554.out).2.2)); (case side4 => exact (Kd.R_reads' HO554.out).2.1); rintro e w59 ⟨rfl, hb⟩; have n0_ := Rb HO538 hb; have n1_ := Rb HO546 hb; have n2_ := Rb HO554 hb; have n3_ := Kb BK540 hb; have n4_ := Kb BK548 hb; have n5_ := Kb BK556 hb; have n6_ := Bc HB hb; clear HO538 HO546 HO554 BK540 BK548 BK556 HB; revert n0_ n1_ n2_ n3_ n4_ n5_ n6_; intro HO538 HO546 HO554 BK540 BK548 BK556 HB; (try clear hb); (try clear hb2); (try clear hk); (try clear hi)))
     go_meet
     case rel => exact ⟨_, (true), wZ, H', ⟨by first | omega | exact Nat.le_refl _⟩, ⟨Rz (Kd.R_mono HO538.out (fun _ hk => ⟨hk.1.2, hk.2⟩))⟩, ⟨Rz (Kd.R_mono HO546.out (fun _ hk => ⟨hk.1.2, hk.2⟩))⟩, ⟨Rz (Kd.R_mono HO554.out (fun _ hk => ⟨hk.1.2, hk.2⟩))⟩, ⟨Kz BK540.out⟩, ⟨Kz BK548.out⟩, ⟨Kz BK556.out⟩, ⟨Bq⟩⟩
  case rest =>
   clear HC10
   try clear c1
   try clear c2
   try clear p2
   try clear c3
   try clear c4
   try clear c5
   try clear c10
   try clear c17
   try clear c23
   try clear c24
   try clear c26
   try clear c31
   try clear c31b0
   try clear c31b1
   try clear c31b2
   try clear c33
   try clear c34
   try clear c34b0
   try clear c34b1
   try clear c34b2
   try clear c35
   try clear c36
   try clear c38
   try clear c41
   try clear c41b0
   try clear c41b1
   try clear c41b2
   try clear c42
   try clear c43
   try clear c45
   try clear c48
   try clear c49
   try clear c50
   try clear c51
   try clear c52
   try clear c54
   try clear c55
   try clear c57
   try clear hcz13_0
   try clear hcz13_1
   try clear hcz13_2
   try clear hcz13_3
   try clear hcz18_0
   try clear hcz18_1
   try clear hcz18_2
   try clear hcz18_3
   try clear hcz20_0
   try clear hcz20_1
   try clear hcz20_2
   try clear hcz20_3
   try clear hcz25_0
   try clear hcz25_1
   try clear hcz25_2
   try clear hcz25_3
   try clear hcz27_0
   try clear hcz27_1
   try clear hcz27_2
   try clear hcz27_3
   try clear hcz29_0
   try clear hcz29_1
   try clear hcz29_2
   try clear hcz29_3
   try clear hcz37_0
   try clear hcz37_1
   try clear hcz37_2
   try clear hcz37_3
   try clear hcz39_0
   try clear hcz39_1
   try clear hcz39_2
   try clear hcz39_3
   try clear hcz44_0
   try clear hcz44_1
   try clear hcz44_2
   try clear hcz44_3
   try clear hcz46_0
   try clear hcz46_1
   try clear hcz46_2
   try clear hcz46_3
   try clear hcz50_0
   try clear hcz50_1
   try clear hcz50_2
   try clear hcz50_3
   try clear hcz52_0
   try clear hcz52_1
   try clear hcz52_2
   try clear hcz52_3
   try clear hcz56_0
   try clear hcz56_1
   try clear hcz56_2
   try clear hcz56_3
   try clear hcz58_0
   try clear hcz58_1
   try clear hcz58_2
   try clear hcz58_3
   try clear hfz13_0
   try clear hfz13_1
   try clear hfz13_2
   try clear hfz13_3
   try clear hfz18_0
   try clear hfz18_1
   try clear hfz18_2
   try clear hfz18_3
   try clear hfz20_0
   try clear hfz20_1
   try clear hfz20_2
   try clear hfz20_3
   try clear hfz25_0
   try clear hfz25_1
   try clear hfz25_2
   try clear hfz25_3
   try clear hfz27_0
   try clear hfz27_1
   try clear hfz27_2
   try clear hfz27_3
   try clear hfz29_0
   try clear hfz29_1
   try clear hfz29_2
   try clear hfz29_3
   try clear hfz37_0
   try clear hfz37_1
   try clear hfz37_2
   try clear hfz37_3
   try clear hfz39_0
   try clear hfz39_1
   try clear hfz39_2
   try clear hfz39_3
   try clear hfz44_0
   try clear hfz44_1
   try clear hfz44_2
   try clear hfz44_3
   try clear hfz46_0
   try clear hfz46_1
   try clear hfz46_2
   try clear hfz46_3
   try clear hfz50_0
   try clear hfz50_1
   try clear hfz50_2
   try clear hfz50_3
   try clear hfz52_0
   try clear hfz52_1
   try clear hfz52_2
   try clear hfz52_3
   try clear hfz56_0
   try clear hfz56_1
   try clear hfz56_2
   try clear hfz56_3
   try clear hfz58_0
   try clear hfz58_1
   try clear hfz58_2
   try clear hfz58_3
   obtain ⟨kq, x83_9, rfl, HA, HJ9, HO_541003, HO_549003, HO_557003, BK540, BK548, BK556, HB⟩ := hcut; cases kq with
   | zero => exact absurd HA.out (by simp [laws_FnBloomAnswers.j0])
   | succ kj9 =>
    have H := HA.out; clear HA
    simp only [laws_FnBloomAnswers.j0] at H
    by_cases c60 : x83_9 = true
    ·subst c60
     rw [if_pos rfl] at H; obtain rfl := Option.some.inj H
     go_wp2
     go_ret
     exact ⟨eZ, Bq⟩
    ·replace c60 := Bool.eq_false_iff.mpr c60
     subst c60
     rw [if_neg (show ¬ (false = true) by decide)] at H
     by_cases c61 : t547 = true
     ·subst c61
      rw [if_pos rfl] at H; replace H := Option.bind_eq_some_iff.mp H; obtain ⟨⟨t562, t563⟩, A620, H⟩ := H; (try dsimp -simprocs only at H); have A62 := am A620; clear A620; have HC63 := am H; clear H; have hnb64 := NB540_548.out; have hnc64 := NB548_540.out; have hnb65 := NB540_556.out; have hnc65 := NB556_540.out; obtain ⟨hcz66_0, hcz66_1, hcz66_2, hcz66_3, hfz66_0, hfz66_1, hfz66_2, hfz66_3⟩ := cf4 (w := wc) BK540
      go_upto_region 13 with (first | ((with_reducible refine gate_callee (f := 54) rfl ?_); refine gL (some 95) Try.func54 #[.int .i64 t533, .int .i64 t534, .int .i64 t535, .string t539] ?_; (with_reducible refine (impl_ProbesOf.calls kj9 t533 t534 t535 t539 t562 t563 _ A62.out).mono ?_); rintro e w67 ⟨v564, rfl, ho0, hb⟩; refine ⟨_, rfl, ?_⟩; have n0_ := Re HO_541003 (Kd.R_base ho0) hb; have n1_ := Re HO_549003 (Kd.R_base ho0) hb; have n2_ := Re HO_557003 (Kd.R_base ho0) hb; have n3_ := am (Kd.R_lower (Kd.R_new' (Kd.R_new' (Kd.R_new' ho0 (Kd.R_lt (Rz HO_541003.out))) (Kd.R_lt (Rz HO_549003.out))) (Kd.R_lt (Rz HO_557003.out))) (below_size (w := w) (Bq))); have n4_ := Kb BK540 hb; have n5_ := Kb BK548 hb; have n6_ := Kb BK556 hb; have n7_ := Bc HB hb; clear HO_541003 HO_549003 HO_557003 BK540 BK548 BK556 HB; revert n0_ n1_ n2_ n3_ n4_ n5_ n6_ n7_; intro HO_541003 HO_549003 HO_557003 HO565 BK540 BK548 BK556 HB; (try clear hb); (try clear hb2); (try clear hk); (try clear hi); (try clear ho0)))
      (try simp only [aP])
      go_cut [106] (fun v106 wc => ∃ (kq : Nat) (x106_62 : Bool), v106 = .bool x106_62 ∧ Aside0 (laws_FnBloomAnswers.j1 kq t539 t557 t562 x106_62 t533 t534 t535 t536 t541 t542 t543 t544 = some r) ∧ Aside0 (kq ≤ kj9) ∧ Aside0 (Kd.R (Kd.int .i64) 3 wc w.heap.size (fun k_ => some k_ ≠ ((.slice Ao14 t536.length co14) : Value).ownBlock ∧ some k_ ≠ ((.slice Ao19 t544.length co19) : Value).ownBlock ∧ some k_ ≠ ((.slice Ao26 t552.length co26) : Value).ownBlock) v564 t562) ∧ Aside0 (Kd.R (Kd.int .i64) 3 wc w.heap.size (fun k_ => some k_ ≠ (v564 : Value).ownBlock ∧ some k_ ≠ ((.slice Ao19 t544.length co19) : Value).ownBlock ∧ some k_ ≠ ((.slice Ao26 t552.length co26) : Value).ownBlock) (.slice Ao14 t536.length co14) t536) ∧ Aside0 (Kd.R (Kd.int .i64) 3 wc w.heap.size (fun k_ => some k_ ≠ (v564 : Value).ownBlock ∧ some k_ ≠ ((.slice Ao14 t536.length co14) : Value).ownBlock ∧ some k_ ≠ ((.slice Ao26 t552.length co26) : Value).ownBlock) (.slice Ao19 t544.length co19) t544) ∧ Aside0 (Kd.R (Kd.int .i64) 3 wc w.heap.size (fun k_ => some k_ ≠ (v564 : Value).ownBlock ∧ some k_ ≠ ((.slice Ao14 t536.length co14) : Value).ownBlock ∧ some k_ ≠ ((.slice Ao19 t544.length co19) : Value).ownBlock) (.slice Ao26 t552.length co26) t552) ∧ Aside0 (wc.heap[gb540]? = some (.cells #[.int .i64 t533, .int .i64 t534, .int .i64 t535, (.slice Ao14 t536.length co14)] 28 (0, 0))) ∧ Aside0 (wc.heap[gb548]? = some (.cells #[.int .i64 t541, .int .i64 t542, .int .i64 t543, (.slice Ao19 t544.length co19)] 28 (0, 0))) ∧ Aside0 (wc.heap[gb556]? = some (.cells #[.int .i64 t549, .int .i64 t550, .int .i64 t551, (.slice Ao26 t552.length co26)] 28 (0, 0))) ∧ Aside0 (Below w.heap.size w wc))
      case first =>
       have H := HC63.out; clear HC63
       by_cases c68 : t563 = true
       ·subst c68
        rw [if_pos rfl] at H; have H' := am H; clear H; obtain ⟨Ao69, co69, eo69⟩ := Kd.R_slice HO565.out; subst eo69; have hnb70 := NB540_548.out; have hnc70 := NB548_540.out; have hnb71 := NB540_556.out; have hnc71 := NB556_540.out; obtain ⟨hcz72_0, hcz72_1, hcz72_2, hcz72_3, hfz72_0, hfz72_1, hfz72_2, hfz72_3⟩ := cf4 (w := w67) BK540
        go_wp2
        go_meet
        case rel => exact ⟨_, (((t562.length : Int) != t534)), wZ, H', ⟨by have := HJ9.out; first | omega | exact Nat.le_refl _⟩, ⟨Rz (Kd.R_mono HO565.out (fun _ hk => ⟨hk.1.1.2, ⟨hk.1.2, hk.2⟩⟩))⟩, ⟨Rz (Kd.R_mono HO_541003.out (fun _ hk => ⟨hk.2, ⟨hk.1.1, hk.1.2⟩⟩))⟩, ⟨Rz (Kd.R_mono HO_549003.out (fun _ hk => ⟨hk.2, ⟨hk.1.1, hk.1.2⟩⟩))⟩, ⟨Rz (Kd.R_mono HO_557003.out (fun _ hk => ⟨hk.2, ⟨hk.1.1, hk.1.2⟩⟩))⟩, ⟨Kz BK540.out⟩, ⟨Kz BK548.out⟩, ⟨Kz BK556.out⟩, ⟨Bq⟩⟩
       ·replace c68 := Bool.eq_false_iff.mpr c68
        subst c68
        rw [if_neg (show ¬ (false = true) by decide)] at H; have H' := am H; clear H
        go_wp2
        go_meet
        case rel => exact ⟨_, (true), wZ, H', ⟨by have := HJ9.out; first | omega | exact Nat.le_refl _⟩, ⟨Rz (Kd.R_mono HO565.out (fun _ hk => ⟨hk.1.1.2, ⟨hk.1.2, hk.2⟩⟩))⟩, ⟨Rz (Kd.R_mono HO_541003.out (fun _ hk => ⟨hk.2, ⟨hk.1.1, hk.1.2⟩⟩))⟩, ⟨Rz (Kd.R_mono HO_549003.out (fun _ hk => ⟨hk.2, ⟨hk.1.1, hk.1.2⟩⟩))⟩, ⟨Rz (Kd.R_mono HO_557003.out (fun _ hk => ⟨hk.2, ⟨hk.1.1, hk.1.2⟩⟩))⟩, ⟨Kz BK540.out⟩, ⟨Kz BK548.out⟩, ⟨Kz BK556.out⟩, ⟨Bq⟩⟩
      case rest =>
       clear HC63
       try clear c1
       try clear c2
       try clear p2
       try clear c3
       try clear c4
       try clear c5
       try clear c6
       try clear c7
       try clear c10
       try clear c17
       try clear c23
       try clear c24
       try clear c26
       try clear c31
       try clear c31b0
       try clear c31b1
       try clear c31b2
       try clear c33
       try clear c34
       try clear c34b0
       try clear c34b1
       try clear c34b2
       try clear c35
       try clear c36
       try clear c38
       try clear c41
       try clear c41b0
       try clear c41b1
       try clear c41b2
       try clear c42
       try clear c43
       try clear c45
       try clear c48
       try clear c49
       try clear c50
       try clear c51
       try clear c52
       try clear c54
       try clear c55
       try clear c57
       try clear c60
       try clear c61
       try clear c64
       try clear c65
       try clear c68
       try clear c70
       try clear c71
       try clear hcz13_0
       try clear hcz13_1
       try clear hcz13_2
       try clear hcz13_3
       try clear hcz18_0
       try clear hcz18_1
       try clear hcz18_2
       try clear hcz18_3
       try clear hcz20_0
       try clear hcz20_1
       try clear hcz20_2
       try clear hcz20_3
       try clear hcz25_0
       try clear hcz25_1
       try clear hcz25_2
       try clear hcz25_3
       try clear hcz27_0
       try clear hcz27_1
       try clear hcz27_2
       try clear hcz27_3
       try clear hcz29_0
       try clear hcz29_1
       try clear hcz29_2
       try clear hcz29_3
       try clear hcz37_0
       try clear hcz37_1
       try clear hcz37_2
       try clear hcz37_3
       try clear hcz39_0
       try clear hcz39_1
       try clear hcz39_2
       try clear hcz39_3
       try clear hcz44_0
       try clear hcz44_1
       try clear hcz44_2
       try clear hcz44_3
       try clear hcz46_0
       try clear hcz46_1
       try clear hcz46_2
       try clear hcz46_3
       try clear hcz50_0
       try clear hcz50_1
       try clear hcz50_2
       try clear hcz50_3
       try clear hcz52_0
       try clear hcz52_1
       try clear hcz52_2
       try clear hcz52_3
       try clear hcz56_0
       try clear hcz56_1
       try clear hcz56_2
       try clear hcz56_3
       try clear hcz58_0
       try clear hcz58_1
       try clear hcz58_2
       try clear hcz58_3
       try clear hcz66_0
       try clear hcz66_1
       try clear hcz66_2
       try clear hcz66_3
       try clear hcz72_0
       try clear hcz72_1
       try clear hcz72_2
       try clear hcz72_3
       try clear hfz13_0
       try clear hfz13_1
       try clear hfz13_2
       try clear hfz13_3
       try clear hfz18_0
       try clear hfz18_1
       try clear hfz18_2
       try clear hfz18_3
       try clear hfz20_0
       try clear hfz20_1
       try clear hfz20_2
       try clear hfz20_3
       try clear hfz25_0
       try clear hfz25_1
       try clear hfz25_2
       try clear hfz25_3
       try clear hfz27_0
       try clear hfz27_1
       try clear hfz27_2
       try clear hfz27_3
       try clear hfz29_0
       try clear hfz29_1
       try clear hfz29_2
       try clear hfz29_3
       try clear hfz37_0
       try clear hfz37_1
       try clear hfz37_2
       try clear hfz37_3
       try clear hfz39_0
       try clear hfz39_1
       try clear hfz39_2
       try clear hfz39_3
       try clear hfz44_0
       try clear hfz44_1
       try clear hfz44_2
       try clear hfz44_3
       try clear hfz46_0
       try clear hfz46_1
       try clear hfz46_2
       try clear hfz46_3
       try clear hfz50_0
       try clear hfz50_1
       try clear hfz50_2
       try clear hfz50_3
       try clear hfz52_0
       try clear hfz52_1
       try clear hfz52_2
       try clear hfz52_3
       try clear hfz56_0
       try clear hfz56_1
       try clear hfz56_2
       try clear hfz56_3
       try clear hfz58_0
       try clear hfz58_1
       try clear hfz58_2
       try clear hfz58_3
       try clear hfz66_0
       try clear hfz66_1
       try clear hfz66_2
       try clear hfz66_3
       try clear hfz72_0
       try clear hfz72_1
       try clear hfz72_2
       try clear hfz72_3
       try clear p2
       obtain ⟨kq, x106_62, rfl, HA, HJ62, HO_15, HO_541003, HO_549003, HO_557003, BK540, BK548, BK556, HB⟩ := hcut; cases kq with
       | zero => exact absurd HA.out (by simp [laws_FnBloomAnswers.j1])
       | succ kj62 =>
        have H := HA.out; clear HA
        simp only [laws_FnBloomAnswers.j1] at H
        by_cases c73 : x106_62 = true
        ·subst c73
         rw [if_pos rfl] at H; obtain rfl := Option.some.inj H
         go_wp2
         go_ret
         exact ⟨eZ, Bq⟩
        ·replace c73 := Bool.eq_false_iff.mpr c73
         subst c73
         rw [if_neg (show ¬ (false = true) by decide)] at H; have H' := am H; clear H; obtain ⟨Ao74, co74, eo74⟩ := Kd.R_slice HO_15.out; subst eo74
         go_wp2
         go_loopg [17, 109] kj62 (fun kq v17 v109 w' => ∃ (x17_3 : Bool) (x109_3 : Int), v17 = .bool x17_3 ∧ v109 = .int .i64 x109_3 ∧ Aside0 (laws_FnBloomAnswers.l0 kq t539 t557 x17_3 t562 (t562.length : Int) x109_3 t533 t534 t535 t536 t541 t542 t543 t544 = some r) ∧ Aside0 (kq ≤ kj62) ∧ Aside0 (Kd.R (Kd.int .i64) 3 w' w.heap.size (fun k_ => some k_ ≠ ((.slice Ao14 t536.length co14) : Value).ownBlock ∧ some k_ ≠ ((.slice Ao19 t544.length co19) : Value).ownBlock ∧ some k_ ≠ ((.slice Ao26 t552.length co26) : Value).ownBlock) (.slice Ao74 t562.length co74) t562) ∧ Aside0 (Kd.R (Kd.int .i64) 3 w' w.heap.size (fun k_ => some k_ ≠ ((.slice Ao74 t562.length co74) : Value).ownBlock ∧ some k_ ≠ ((.slice Ao19 t544.length co19) : Value).ownBlock ∧ some k_ ≠ ((.slice Ao26 t552.length co26) : Value).ownBlock) (.slice Ao14 t536.length co14) t536) ∧ Aside0 (Kd.R (Kd.int .i64) 3 w' w.heap.size (fun k_ => some k_ ≠ ((.slice Ao74 t562.length co74) : Value).ownBlock ∧ some k_ ≠ ((.slice Ao14 t536.length co14) : Value).ownBlock ∧ some k_ ≠ ((.slice Ao26 t552.length co26) : Value).ownBlock) (.slice Ao19 t544.length co19) t544) ∧ Aside0 (Kd.R (Kd.int .i64) 3 w' w.heap.size (fun k_ => some k_ ≠ ((.slice Ao74 t562.length co74) : Value).ownBlock ∧ some k_ ≠ ((.slice Ao14 t536.length co14) : Value).ownBlock ∧ some k_ ≠ ((.slice Ao19 t544.length co19) : Value).ownBlock) (.slice Ao26 t552.length co26) t552) ∧ Aside0 (w'.heap[gb540]? = some (.cells #[.int .i64 t533, .int .i64 t534, .int .i64 t535, (.slice Ao14 t536.length co14)] 28 (0, 0))) ∧ Aside0 (w'.heap[gb548]? = some (.cells #[.int .i64 t541, .int .i64 t542, .int .i64 t543, (.slice Ao19 t544.length co19)] 28 (0, 0))) ∧ Aside0 (w'.heap[gb556]? = some (.cells #[.int .i64 t549, .int .i64 t550, .int .i64 t551, (.slice Ao26 t552.length co26)] 28 (0, 0))) ∧ Aside0 (Below w.heap.size w w'))
         case atStart => exact ⟨(true), (0), wZ, wZ, H', ⟨Nat.le_refl _⟩, ⟨Rz HO_15.out⟩, ⟨Rz HO_541003.out⟩, ⟨Rz HO_549003.out⟩, ⟨Rz HO_557003.out⟩, ⟨Kz BK540.out⟩, ⟨Kz BK548.out⟩, ⟨Kz BK556.out⟩, ⟨Bq⟩⟩
         case round =>
          clear H'
          try clear c1
          try clear c2
          try clear p2
          try clear c3
          try clear c4
          try clear c5
          try clear c6
          try clear c7
          try clear c10
          try clear c17
          try clear c23
          try clear c24
          try clear c26
          try clear c31
          try clear c31b0
          try clear c31b1
          try clear c31b2
          try clear c33
          try clear c34
          try clear c34b0
          try clear c34b1
          try clear c34b2
          try clear c35
          try clear c36
          try clear c38
          try clear c41
          try clear c41b0
          try clear c41b1
          try clear c41b2
          try clear c42
          try clear c43
          try clear c45
          try clear c48
          try clear c49
          try clear c50
          try clear c51
          try clear c52
          try clear c54
          try clear c55
          try clear c57
          try clear c60
          try clear c61
          try clear c64
          try clear c65
          try clear c68
          try clear c70
          try clear c71
          try clear c73
          try clear hcz13_0
          try clear hcz13_1
          try clear hcz13_2
          try clear hcz13_3
          try clear hcz18_0
          try clear hcz18_1
          try clear hcz18_2
          try clear hcz18_3
          try clear hcz20_0
          try clear hcz20_1
          try clear hcz20_2
          try clear hcz20_3
          try clear hcz25_0
          try clear hcz25_1
          try clear hcz25_2
          try clear hcz25_3
          try clear hcz27_0
          try clear hcz27_1
          try clear hcz27_2
          try clear hcz27_3
          try clear hcz29_0
          try clear hcz29_1
          try clear hcz29_2
          try clear hcz29_3
          try clear hcz37_0
          try clear hcz37_1
          try clear hcz37_2
          try clear hcz37_3
          try clear hcz39_0
          try clear hcz39_1
          try clear hcz39_2
          try clear hcz39_3
          try clear hcz44_0
          try clear hcz44_1
          try clear hcz44_2
          try clear hcz44_3
          try clear hcz46_0
          try clear hcz46_1
          try clear hcz46_2
          try clear hcz46_3
          try clear hcz50_0
          try clear hcz50_1
          try clear hcz50_2
          try clear hcz50_3
          try clear hcz52_0
          try clear hcz52_1
          try clear hcz52_2
          try clear hcz52_3
          try clear hcz56_0
          try clear hcz56_1
          try clear hcz56_2
          try clear hcz56_3
          try clear hcz58_0
          try clear hcz58_1
          try clear hcz58_2
          try clear hcz58_3
          try clear hcz66_0
          try clear hcz66_1
          try clear hcz66_2
          try clear hcz66_3
          try clear hcz72_0
          try clear hcz72_1
          try clear hcz72_2
          try clear hcz72_3
          try clear hfz13_0
          try clear hfz13_1
          try clear hfz13_2
          try clear hfz13_3
          try clear hfz18_0
          try clear hfz18_1
          try clear hfz18_2
          try clear hfz18_3
          try clear hfz20_0
          try clear hfz20_1
          try clear hfz20_2
          try clear hfz20_3
          try clear hfz25_0
          try clear hfz25_1
          try clear hfz25_2
          try clear hfz25_3
          try clear hfz27_0
          try clear hfz27_1
          try clear hfz27_2
          try clear hfz27_3
          try clear hfz29_0
          try clear hfz29_1
          try clear hfz29_2
          try clear hfz29_3
          try clear hfz37_0
          try clear hfz37_1
          try clear hfz37_2
          try clear hfz37_3
          try clear hfz39_0
          try clear hfz39_1
          try clear hfz39_2
          try clear hfz39_3
          try clear hfz44_0
          try clear hfz44_1
          try clear hfz44_2
          try clear hfz44_3
          try clear hfz46_0
          try clear hfz46_1
          try clear hfz46_2
          try clear hfz46_3
          try clear hfz50_0
          try clear hfz50_1
          try clear hfz50_2
          try clear hfz50_3
          try clear hfz52_0
          try clear hfz52_1
          try clear hfz52_2
          try clear hfz52_3
          try clear hfz56_0
          try clear hfz56_1
          try clear hfz56_2
          try clear hfz56_3
          try clear hfz58_0
          try clear hfz58_1
          try clear hfz58_2
          try clear hfz58_3
          try clear hfz66_0
          try clear hfz66_1
          try clear hfz66_2
          try clear hfz66_3
          try clear hfz72_0
          try clear hfz72_1
          try clear hfz72_2
          try clear hfz72_3
          try clear p2
          obtain ⟨x17_3, x109_3, rfl, rfl, HA, HK3, HO_107, HO_541003, HO_549003, HO_557003, BK540, BK548, BK556, HB⟩ := hrel; cases gk with
          | zero => exact absurd HA.out (by simp [laws_FnBloomAnswers.l0])
          | succ k3 =>
           have H := HA.out; clear HA
           simp only [laws_FnBloomAnswers.l0] at H
           by_cases c75 : x109_3 < (t562.length : Int)
           ·rw [if_pos c75] at H
            have c75b0 : decide (x109_3 < (t562.length : Int)) = true := decide_eq_true c75; clear c75
            by_cases c76 : 0 ≤ x109_3
            ·rw [if_pos c76] at H
             have c76b0 : decide (0 ≤ x109_3) = true := decide_eq_true c76; clear c76
             by_cases c77 : x109_3 < (t562.length : Int)
             ·rw [if_pos c77] at H
              have c77b0 : decide (x109_3 < (t562.length : Int)) = true := decide_eq_true c77; clear c77; replace H := Option.bind_eq_some_iff.mp H; obtain ⟨⟨t572, t573⟩, A780, H⟩ := H; (try dsimp -simprocs only at H); have A78 := am A780; clear A780; replace H := Option.bind_eq_some_iff.mp H; obtain ⟨⟨t574, t575⟩, A790, H⟩ := H; (try dsimp -simprocs only at H); have A79 := am A790; clear A790
              by_cases c80 : t573 = true
              ·subst c80
               rw [if_pos rfl] at H
               by_cases c81 : t575 = true
               ·subst c81
                rw [if_pos rfl] at H
                by_cases c82 : t574 = (rd t562 x109_3)
                ·rw [if_pos c82] at H
                 have c82b0 : (t574 == (rd t562 x109_3)) = true := beq_iff_eq.mpr c82; have c82b1 : (t574 != (rd t562 x109_3)) = false := bne_eq_false_iff_eq.mpr c82; clear c82
                 by_cases c83 : x17_3 = true
                 ·subst c83
                  rw [if_pos rfl] at H; have H' := am H; clear H; obtain ⟨ad571, e571, hx571_0⟩ := Kd.at_int (Kd.R_reads' HO_107.out).2.2 x109_3 dT dT; cases e571; have p571 := eT (0 ≤ (x109_3 : Int)); have q571 := eT (x109_3 < (t562.length : Int)); have hnb84 := NB540_548.out; have hnc84 := NB548_540.out; have hnb85 := NB540_556.out; have hnc85 := NB556_540.out; obtain ⟨hcz86_0, hcz86_1, hcz86_2, hcz86_3, hfz86_0, hfz86_1, hfz86_2, hfz86_3⟩ := cf4 (w := wr) BK540
                  go_wp2_with (first | ((with_reducible refine gate_callee (f := 55) rfl ?_); refine gL (some 118) Try.func55 #[.agg #[.int .i64 t535, .slice Ao14 t536.length co14], .int .i64 (rd t562 x109_3)] ?_; (with_reducible refine (impl_BitAt.calls k3 t535 _ _ t536 (rd t562 x109_3) t572 true _ ?side1 ?side2 A78.out).mono ?_); (case side1 => exact Cz ((Kd.R_reads' HO_541003.out).2.2)); (case side2 => exact (Kd.R_reads' HO_541003.out).2.1); rintro e w87 ⟨rfl, hb⟩; refine ⟨_, rfl, ?_⟩; have n0_ := Rb HO_107 hb; have n1_ := Rb HO_541003 hb; have n2_ := Rb HO_549003 hb; have n3_ := Rb HO_557003 hb; have n4_ := Kb BK540 hb; have n5_ := Kb BK548 hb; have n6_ := Kb BK556 hb; have n7_ := Bc HB hb; clear HO_107 HO_541003 HO_549003 HO_557003 BK540 BK548 BK556 HB; revert n0_ n1_ n2_ n3_ n4_ n5_ n6_ n7_; intro HO_107 HO_541003 HO_549003 HO_557003 BK540 BK548 BK556 HB; (try clear hb); (try clear hb2); (try clear hk); (try clear hi); obtain ⟨hcz88_0, hcz88_1, hcz88_2, hcz88_3, hfz88_0, hfz88_1, hfz88_2, hfz88_3⟩ := cf4 (w := w87) BK540) | ((with_reducible refine gate_callee (f := 56) rfl ?_); refine gL (some 129) Try.func56 #[.int .i64 t533, .int .i64 x109_3, .string t539, .int .i64 t535] ?_; (with_reducible refine (impl_PlaceOf.calls k3 t533 x109_3 t539 t535 t574 true _ A79.out).mono ?_); rintro e w' ⟨rfl, ⟨nd, rfl⟩⟩; refine ⟨_, rfl, ?_⟩))
                  go_roundg k3
                  case measure => have := HJ9.out; have := HJ62.out; have := HK3.out; omega
                  case rel => exact ⟨(t572), (wrap64 (x109_3 + 1)), wZ, wZ, H', ⟨by have := HJ9.out; have := HJ62.out; have := HK3.out; omega⟩, ⟨Rz HO_107.out⟩, ⟨Rz HO_541003.out⟩, ⟨Rz HO_549003.out⟩, ⟨Rz HO_557003.out⟩, ⟨Kz BK540.out⟩, ⟨Kz BK548.out⟩, ⟨Kz BK556.out⟩, ⟨Bq⟩⟩
                 ·replace c83 := Bool.eq_false_iff.mpr c83
                  subst c83
                  rw [if_neg (show ¬ (false = true) by decide)] at H; have H' := am H; clear H; obtain ⟨ad571, e571, hx571_0⟩ := Kd.at_int (Kd.R_reads' HO_107.out).2.2 x109_3 dT dT; cases e571; have p571 := eT (0 ≤ (x109_3 : Int)); have q571 := eT (x109_3 < (t562.length : Int)); have hnb89 := NB540_548.out; have hnc89 := NB548_540.out; have hnb90 := NB540_556.out; have hnc90 := NB556_540.out; obtain ⟨hcz91_0, hcz91_1, hcz91_2, hcz91_3, hfz91_0, hfz91_1, hfz91_2, hfz91_3⟩ := cf4 (w := wr) BK540
                  go_wp2_with (first | ((with_reducible refine gate_callee (f := 55) rfl ?_); refine gL (some 118) Try.func55 #[.agg #[.int .i64 t535, .slice Ao14 t536.length co14], .int .i64 (rd t562 x109_3)] ?_; (with_reducible refine (impl_BitAt.calls k3 t535 _ _ t536 (rd t562 x109_3) t572 true _ ?side1 ?side2 A78.out).mono ?_); (case side1 => exact Cz ((Kd.R_reads' HO_541003.out).2.2)); (case side2 => exact (Kd.R_reads' HO_541003.out).2.1); rintro e w92 ⟨rfl, hb⟩; refine ⟨_, rfl, ?_⟩; have n0_ := Rb HO_107 hb; have n1_ := Rb HO_541003 hb; have n2_ := Rb HO_549003 hb; have n3_ := Rb HO_557003 hb; have n4_ := Kb BK540 hb; have n5_ := Kb BK548 hb; have n6_ := Kb BK556 hb; have n7_ := Bc HB hb; clear HO_107 HO_541003 HO_549003 HO_557003 BK540 BK548 BK556 HB; revert n0_ n1_ n2_ n3_ n4_ n5_ n6_ n7_; intro HO_107 HO_541003 HO_549003 HO_557003 BK540 BK548 BK556 HB; (try clear hb); (try clear hb2); (try clear hk); (try clear hi); obtain ⟨hcz93_0, hcz93_1, hcz93_2, hcz93_3, hfz93_0, hfz93_1, hfz93_2, hfz93_3⟩ := cf4 (w := w92) BK540) | ((with_reducible refine gate_callee (f := 56) rfl ?_); refine gL (some 129) Try.func56 #[.int .i64 t533, .int .i64 x109_3, .string t539, .int .i64 t535] ?_; (with_reducible refine (impl_PlaceOf.calls k3 t533 x109_3 t539 t535 t574 true _ A79.out).mono ?_); rintro e w' ⟨rfl, ⟨nd, rfl⟩⟩; refine ⟨_, rfl, ?_⟩))
                  go_roundg k3
                  case measure => have := HJ9.out; have := HJ62.out; have := HK3.out; omega
                  case rel => exact ⟨(false), (wrap64 (x109_3 + 1)), wZ, wZ, H', ⟨by have := HJ9.out; have := HJ62.out; have := HK3.out; omega⟩, ⟨Rz HO_107.out⟩, ⟨Rz HO_541003.out⟩, ⟨Rz HO_549003.out⟩, ⟨Rz HO_557003.out⟩, ⟨Kz BK540.out⟩, ⟨Kz BK548.out⟩, ⟨Kz BK556.out⟩, ⟨Bq⟩⟩
                ·rw [if_neg c82] at H
                 have c82b0 : (t574 == (rd t562 x109_3)) = false := beq_eq_false_iff_ne.mpr c82; have c82b1 : (t574 != (rd t562 x109_3)) = true := bne_iff_ne.mpr c82; obtain rfl := Option.some.inj H; obtain ⟨ad571, e571, hx571_0⟩ := Kd.at_int (Kd.R_reads' HO_107.out).2.2 x109_3 dT dT; cases e571; have p571 := eT (0 ≤ (x109_3 : Int)); have q571 := eT (x109_3 < (t562.length : Int)); have hnb94 := NB540_548.out; have hnc94 := NB548_540.out; have hnb95 := NB540_556.out; have hnc95 := NB556_540.out; obtain ⟨hcz96_0, hcz96_1, hcz96_2, hcz96_3, hfz96_0, hfz96_1, hfz96_2, hfz96_3⟩ := cf4 (w := wr) BK540
                 go_wp2_with (first | ((with_reducible refine gate_callee (f := 55) rfl ?_); refine gL (some 118) Try.func55 #[.agg #[.int .i64 t535, .slice Ao14 t536.length co14], .int .i64 (rd t562 x109_3)] ?_; (with_reducible refine (impl_BitAt.calls k3 t535 _ _ t536 (rd t562 x109_3) t572 true _ ?side1 ?side2 A78.out).mono ?_); (case side1 => exact Cz ((Kd.R_reads' HO_541003.out).2.2)); (case side2 => exact (Kd.R_reads' HO_541003.out).2.1); rintro e w97 ⟨rfl, hb⟩; refine ⟨_, rfl, ?_⟩; have n0_ := Rb HO_107 hb; have n1_ := Rb HO_541003 hb; have n2_ := Rb HO_549003 hb; have n3_ := Rb HO_557003 hb; have n4_ := Kb BK540 hb; have n5_ := Kb BK548 hb; have n6_ := Kb BK556 hb; have n7_ := Bc HB hb; clear HO_107 HO_541003 HO_549003 HO_557003 BK540 BK548 BK556 HB; revert n0_ n1_ n2_ n3_ n4_ n5_ n6_ n7_; intro HO_107 HO_541003 HO_549003 HO_557003 BK540 BK548 BK556 HB; (try clear hb); (try clear hb2); (try clear hk); (try clear hi); obtain ⟨hcz98_0, hcz98_1, hcz98_2, hcz98_3, hfz98_0, hfz98_1, hfz98_2, hfz98_3⟩ := cf4 (w := w97) BK540) | ((with_reducible refine gate_callee (f := 56) rfl ?_); refine gL (some 129) Try.func56 #[.int .i64 t533, .int .i64 x109_3, .string t539, .int .i64 t535] ?_; (with_reducible refine (impl_PlaceOf.calls k3 t533 x109_3 t539 t535 t574 true _ A79.out).mono ?_); rintro e w' ⟨rfl, ⟨nd, rfl⟩⟩; refine ⟨_, rfl, ?_⟩))
                 go_ret
                 exact ⟨eZ, Bq⟩
               ·replace c81 := Bool.eq_false_iff.mpr c81
                subst c81
                rw [if_neg (show ¬ (false = true) by decide)] at H; obtain rfl := Option.some.inj H; obtain ⟨ad571, e571, hx571_0⟩ := Kd.at_int (Kd.R_reads' HO_107.out).2.2 x109_3 dT dT; cases e571; have p571 := eT (0 ≤ (x109_3 : Int)); have q571 := eT (x109_3 < (t562.length : Int)); have hnb99 := NB540_548.out; have hnc99 := NB548_540.out; have hnb100 := NB540_556.out; have hnc100 := NB556_540.out; obtain ⟨hcz101_0, hcz101_1, hcz101_2, hcz101_3, hfz101_0, hfz101_1, hfz101_2, hfz101_3⟩ := cf4 (w := wr) BK540
                go_wp2_with (first | ((with_reducible refine gate_callee (f := 55) rfl ?_); refine gL (some 118) Try.func55 #[.agg #[.int .i64 t535, .slice Ao14 t536.length co14], .int .i64 (rd t562 x109_3)] ?_; (with_reducible refine (impl_BitAt.calls k3 t535 _ _ t536 (rd t562 x109_3) t572 true _ ?side1 ?side2 A78.out).mono ?_); (case side1 => exact Cz ((Kd.R_reads' HO_541003.out).2.2)); (case side2 => exact (Kd.R_reads' HO_541003.out).2.1); rintro e w102 ⟨rfl, hb⟩; refine ⟨_, rfl, ?_⟩; have n0_ := Rb HO_107 hb; have n1_ := Rb HO_541003 hb; have n2_ := Rb HO_549003 hb; have n3_ := Rb HO_557003 hb; have n4_ := Kb BK540 hb; have n5_ := Kb BK548 hb; have n6_ := Kb BK556 hb; have n7_ := Bc HB hb; clear HO_107 HO_541003 HO_549003 HO_557003 BK540 BK548 BK556 HB; revert n0_ n1_ n2_ n3_ n4_ n5_ n6_ n7_; intro HO_107 HO_541003 HO_549003 HO_557003 BK540 BK548 BK556 HB; (try clear hb); (try clear hb2); (try clear hk); (try clear hi); obtain ⟨hcz103_0, hcz103_1, hcz103_2, hcz103_3, hfz103_0, hfz103_1, hfz103_2, hfz103_3⟩ := cf4 (w := w102) BK540) | ((with_reducible refine gate_callee (f := 56) rfl ?_); refine gL (some 129) Try.func56 #[.int .i64 t533, .int .i64 x109_3, .string t539, .int .i64 t535] ?_; (with_reducible refine (impl_PlaceOf.calls k3 t533 x109_3 t539 t535 t574 false _ A79.out).mono ?_); rintro e w' ⟨rfl, ⟨nd, rfl⟩⟩; refine ⟨_, rfl, ?_⟩))
                go_ret
                exact ⟨eZ, Bq⟩
              ·replace c80 := Bool.eq_false_iff.mpr c80
               subst c80
               rw [if_neg (show ¬ (false = true) by decide)] at H; obtain rfl := Option.some.inj H; obtain ⟨ad571, e571, hx571_0⟩ := Kd.at_int (Kd.R_reads' HO_107.out).2.2 x109_3 dT dT; cases e571; have p571 := eT (0 ≤ (x109_3 : Int)); have q571 := eT (x109_3 < (t562.length : Int)); have hnb104 := NB540_548.out; have hnc104 := NB548_540.out; have hnb105 := NB540_556.out; have hnc105 := NB556_540.out; obtain ⟨hcz106_0, hcz106_1, hcz106_2, hcz106_3, hfz106_0, hfz106_1, hfz106_2, hfz106_3⟩ := cf4 (w := wr) BK540
               go_wp2_with (first | ((with_reducible refine gate_callee (f := 55) rfl ?_); refine gL (some 118) Try.func55 #[.agg #[.int .i64 t535, .slice Ao14 t536.length co14], .int .i64 (rd t562 x109_3)] ?_; (with_reducible refine (impl_BitAt.calls k3 t535 _ _ t536 (rd t562 x109_3) t572 false _ ?side1 ?side2 A78.out).mono ?_); (case side1 => exact Cz ((Kd.R_reads' HO_541003.out).2.2)); (case side2 => exact (Kd.R_reads' HO_541003.out).2.1); rintro e w107 ⟨rfl, hb⟩; refine ⟨_, rfl, ?_⟩; have n0_ := Rb HO_107 hb; have n1_ := Rb HO_541003 hb; have n2_ := Rb HO_549003 hb; have n3_ := Rb HO_557003 hb; have n4_ := Kb BK540 hb; have n5_ := Kb BK548 hb; have n6_ := Kb BK556 hb; have n7_ := Bc HB hb; clear HO_107 HO_541003 HO_549003 HO_557003 BK540 BK548 BK556 HB; revert n0_ n1_ n2_ n3_ n4_ n5_ n6_ n7_; intro HO_107 HO_541003 HO_549003 HO_557003 BK540 BK548 BK556 HB; (try clear hb); (try clear hb2); (try clear hk); (try clear hi); obtain ⟨hcz108_0, hcz108_1, hcz108_2, hcz108_3, hfz108_0, hfz108_1, hfz108_2, hfz108_3⟩ := cf4 (w := w107) BK540) | ((with_reducible refine gate_callee (f := 56) rfl ?_); refine gL (some 129) Try.func56 #[.int .i64 t533, .int .i64 x109_3, .string t539, .int .i64 t535] ?_; (with_reducible refine (impl_PlaceOf.calls k3 t533 x109_3 t539 t535 t574 t575 _ A79.out).mono ?_); rintro e w' ⟨rfl, ⟨nd, rfl⟩⟩; refine ⟨_, rfl, ?_⟩))
               go_ret
               exact ⟨eZ, Bq⟩
             ·rw [if_neg c77] at H
              exact absurd H (by simp)
            ·rw [if_neg c76] at H
             exact absurd H (by simp)
           ·rw [if_neg c75] at H
            have c75b0 : decide (x109_3 < (t562.length : Int)) = false := decide_eq_false c75; clear c75; replace H := Option.bind_eq_some_iff.mp H; obtain ⟨⟨t566, t567⟩, A1090, H⟩ := H; (try dsimp -simprocs only at H); have A109 := am A1090; clear A1090; replace H := Option.bind_eq_some_iff.mp H; obtain ⟨⟨t568, t569⟩, A1100, H⟩ := H; (try dsimp -simprocs only at H); have A110 := am A1100; clear A1100
            by_cases c111 : (x17_3 == t557) = true
            ·rw [if_pos c111] at H
             have c111b0 : (x17_3 == t557) = true := c111
             (try (have c111b1 : decide (x17_3 = t557) = true := by simpa using c111))
             (try (have c111b2 : (x17_3 == t557) = true := by simpa using c111))
             clear c111
             by_cases c112 : t567 = true
             ·subst c112
              rw [if_pos rfl] at H
              by_cases c113 : t566 = true
              ·subst c113
               rw [if_pos rfl] at H
               by_cases c114 : t569 = true
               ·subst c114
                rw [if_pos rfl] at H
                by_cases c115 : t568 = true
                ·subst c115
                 rw [if_pos rfl] at H; replace H := Option.bind_eq_some_iff.mp H; obtain ⟨t570, A1160, H⟩ := H; (try dsimp -simprocs only at H); have A116 := am A1160; clear A1160; obtain rfl := Option.some.inj H; have hnb117 := NB548_540.out; have hnc117 := NB540_548.out; have hnb118 := NB548_556.out; have hnc118 := NB556_548.out; obtain ⟨hcz119_0, hcz119_1, hcz119_2, hcz119_3, hfz119_0, hfz119_1, hfz119_2, hfz119_3⟩ := cf4 (w := wr) BK548
                 go_wp2_with (first | ((with_reducible refine gate_callee (f := 51) rfl ?_); refine gL (some 151) Try.func51 #[.agg #[.int .i64 t541, .int .i64 t542, .int .i64 t543, .slice Ao19 t544.length co19], .string t539] ?_; (with_reducible refine (impl_BloomHas.calls k3 t541 t542 t543 _ _ t544 t539 true true _ ?side1 ?side2 A109.out).mono ?_); (case side1 => exact Cz ((Kd.R_reads' HO_549003.out).2.2)); (case side2 => exact (Kd.R_reads' HO_549003.out).2.1); rintro e w120 ⟨rfl, hb⟩; refine ⟨_, rfl, ?_⟩; have n0_ := Rb HO_107 hb; have n1_ := Rb HO_541003 hb; have n2_ := Rb HO_549003 hb; have n3_ := Rb HO_557003 hb; have n4_ := Kb BK540 hb; have n5_ := Kb BK548 hb; have n6_ := Kb BK556 hb; have n7_ := Bc HB hb; clear HO_107 HO_541003 HO_549003 HO_557003 BK540 BK548 BK556 HB; revert n0_ n1_ n2_ n3_ n4_ n5_ n6_ n7_; intro HO_107 HO_541003 HO_549003 HO_557003 BK540 BK548 BK556 HB; (try clear hb); (try clear hb2); (try clear hk); (try clear hi); obtain ⟨hcz121_0, hcz121_1, hcz121_2, hcz121_3, hfz121_0, hfz121_1, hfz121_2, hfz121_3⟩ := cf4 (w := w120) BK548; have hnb122 := NB540_556.out; have hnc122 := NB556_540.out; obtain ⟨hcz123_0, hcz123_1, hcz123_2, hcz123_3, hfz123_0, hfz123_1, hfz123_2, hfz123_3⟩ := cf4 (w := w120) BK540) | ((with_reducible refine gate_callee (f := 57) rfl ?_); refine gL (some 157) Try.func57 #[.agg #[.int .i64 t541, .int .i64 t542, .int .i64 t543, .slice Ao19 t544.length co19], .agg #[.int .i64 t533, .int .i64 t534, .int .i64 t535, .slice Ao14 t536.length co14]] ?_; (with_reducible refine (impl_CoversBloom.calls k3 t541 t542 t543 _ _ t544 t533 t534 t535 _ _ t536 true true _ ?side1 ?side2 ?side3 ?side4 A110.out).mono ?_); (case side1 => exact Cz ((Kd.R_reads' HO_549003.out).2.2)); (case side2 => exact (Kd.R_reads' HO_549003.out).2.1); (case side3 => exact Cz ((Kd.R_reads' HO_541003.out).2.2)); (case side4 => exact (Kd.R_reads' HO_541003.out).2.1); rintro e w124 ⟨rfl, hb⟩; refine ⟨_, rfl, ?_⟩; have n0_ := Rb HO_107 hb; have n1_ := Rb HO_541003 hb; have n2_ := Rb HO_549003 hb; have n3_ := Rb HO_557003 hb; have n4_ := Kb BK540 hb; have n5_ := Kb BK548 hb; have n6_ := Kb BK556 hb; have n7_ := Bc HB hb; clear HO_107 HO_541003 HO_549003 HO_557003 BK540 BK548 BK556 HB; revert n0_ n1_ n2_ n3_ n4_ n5_ n6_ n7_; intro HO_107 HO_541003 HO_549003 HO_557003 BK540 BK548 BK556 HB; (try clear hb); (try clear hb2); (try clear hk); (try clear hi); obtain ⟨hcz125_0, hcz125_1, hcz125_2, hcz125_3, hfz125_0, hfz125_1, hfz125_2, hfz125_3⟩ := cf4 (w := w124) BK540; obtain ⟨hcz126_0, hcz126_1, hcz126_2, hcz126_3, hfz126_0, hfz126_1, hfz126_2, hfz126_3⟩ := cf4 (w := w124) BK548) | (go_at_call 53; (with_reducible refine (laws_rSameBloom.calls k3 t533 t534 t535 _ _ t536 t541 t542 t543 _ _ t544 t570 _ ?side1 ?side2 ?side3 ?side4 A116.out).mono ?_); (case side1 => exact Cz ((Kd.R_reads' HO_541003.out).2.2)); (case side2 => exact (Kd.R_reads' HO_541003.out).2.1); (case side3 => exact Cz ((Kd.R_reads' HO_549003.out).2.2)); (case side4 => exact (Kd.R_reads' HO_549003.out).2.1); rintro e w127 ⟨rfl, hb⟩; have n0_ := Rb HO_107 hb; have n1_ := Rb HO_541003 hb; have n2_ := Rb HO_549003 hb; have n3_ := Rb HO_557003 hb; have n4_ := Kb BK540 hb; have n5_ := Kb BK548 hb; have n6_ := Kb BK556 hb; have n7_ := Bc HB hb; clear HO_107 HO_541003 HO_549003 HO_557003 BK540 BK548 BK556 HB; revert n0_ n1_ n2_ n3_ n4_ n5_ n6_ n7_; intro HO_107 HO_541003 HO_549003 HO_557003 BK540 BK548 BK556 HB; (try clear hb); (try clear hb2); (try clear hk); (try clear hi)))
                 go_ret
                 exact ⟨eZ, Bq⟩
                ·replace c115 := Bool.eq_false_iff.mpr c115
                 subst c115
                 rw [if_neg (show ¬ (false = true) by decide)] at H; obtain rfl := Option.some.inj H; have hnb128 := NB548_540.out; have hnc128 := NB540_548.out; have hnb129 := NB548_556.out; have hnc129 := NB556_548.out; obtain ⟨hcz130_0, hcz130_1, hcz130_2, hcz130_3, hfz130_0, hfz130_1, hfz130_2, hfz130_3⟩ := cf4 (w := wr) BK548
                 go_wp2_with (first | ((with_reducible refine gate_callee (f := 51) rfl ?_); refine gL (some 151) Try.func51 #[.agg #[.int .i64 t541, .int .i64 t542, .int .i64 t543, .slice Ao19 t544.length co19], .string t539] ?_; (with_reducible refine (impl_BloomHas.calls k3 t541 t542 t543 _ _ t544 t539 true true _ ?side1 ?side2 A109.out).mono ?_); (case side1 => exact Cz ((Kd.R_reads' HO_549003.out).2.2)); (case side2 => exact (Kd.R_reads' HO_549003.out).2.1); rintro e w131 ⟨rfl, hb⟩; refine ⟨_, rfl, ?_⟩; have n0_ := Rb HO_107 hb; have n1_ := Rb HO_541003 hb; have n2_ := Rb HO_549003 hb; have n3_ := Rb HO_557003 hb; have n4_ := Kb BK540 hb; have n5_ := Kb BK548 hb; have n6_ := Kb BK556 hb; have n7_ := Bc HB hb; clear HO_107 HO_541003 HO_549003 HO_557003 BK540 BK548 BK556 HB; revert n0_ n1_ n2_ n3_ n4_ n5_ n6_ n7_; intro HO_107 HO_541003 HO_549003 HO_557003 BK540 BK548 BK556 HB; (try clear hb); (try clear hb2); (try clear hk); (try clear hi); obtain ⟨hcz132_0, hcz132_1, hcz132_2, hcz132_3, hfz132_0, hfz132_1, hfz132_2, hfz132_3⟩ := cf4 (w := w131) BK548; have hnb133 := NB540_556.out; have hnc133 := NB556_540.out; obtain ⟨hcz134_0, hcz134_1, hcz134_2, hcz134_3, hfz134_0, hfz134_1, hfz134_2, hfz134_3⟩ := cf4 (w := w131) BK540) | ((with_reducible refine gate_callee (f := 57) rfl ?_); refine gL (some 157) Try.func57 #[.agg #[.int .i64 t541, .int .i64 t542, .int .i64 t543, .slice Ao19 t544.length co19], .agg #[.int .i64 t533, .int .i64 t534, .int .i64 t535, .slice Ao14 t536.length co14]] ?_; (with_reducible refine (impl_CoversBloom.calls k3 t541 t542 t543 _ _ t544 t533 t534 t535 _ _ t536 false true _ ?side1 ?side2 ?side3 ?side4 A110.out).mono ?_); (case side1 => exact Cz ((Kd.R_reads' HO_549003.out).2.2)); (case side2 => exact (Kd.R_reads' HO_549003.out).2.1); (case side3 => exact Cz ((Kd.R_reads' HO_541003.out).2.2)); (case side4 => exact (Kd.R_reads' HO_541003.out).2.1); rintro e w135 ⟨rfl, hb⟩; refine ⟨_, rfl, ?_⟩; have n0_ := Rb HO_107 hb; have n1_ := Rb HO_541003 hb; have n2_ := Rb HO_549003 hb; have n3_ := Rb HO_557003 hb; have n4_ := Kb BK540 hb; have n5_ := Kb BK548 hb; have n6_ := Kb BK556 hb; have n7_ := Bc HB hb; clear HO_107 HO_541003 HO_549003 HO_557003 BK540 BK548 BK556 HB; revert n0_ n1_ n2_ n3_ n4_ n5_ n6_ n7_; intro HO_107 HO_541003 HO_549003 HO_557003 BK540 BK548 BK556 HB; (try clear hb); (try clear hb2); (try clear hk); (try clear hi)))
                 go_ret
                 exact ⟨eZ, Bq⟩
               ·replace c114 := Bool.eq_false_iff.mpr c114
                subst c114
                rw [if_neg (show ¬ (false = true) by decide)] at H; obtain rfl := Option.some.inj H; have hnb136 := NB548_540.out; have hnc136 := NB540_548.out; have hnb137 := NB548_556.out; have hnc137 := NB556_548.out; obtain ⟨hcz138_0, hcz138_1, hcz138_2, hcz138_3, hfz138_0, hfz138_1, hfz138_2, hfz138_3⟩ := cf4 (w := wr) BK548
                go_wp2_with (first | ((with_reducible refine gate_callee (f := 51) rfl ?_); refine gL (some 151) Try.func51 #[.agg #[.int .i64 t541, .int .i64 t542, .int .i64 t543, .slice Ao19 t544.length co19], .string t539] ?_; (with_reducible refine (impl_BloomHas.calls k3 t541 t542 t543 _ _ t544 t539 true true _ ?side1 ?side2 A109.out).mono ?_); (case side1 => exact Cz ((Kd.R_reads' HO_549003.out).2.2)); (case side2 => exact (Kd.R_reads' HO_549003.out).2.1); rintro e w139 ⟨rfl, hb⟩; refine ⟨_, rfl, ?_⟩; have n0_ := Rb HO_107 hb; have n1_ := Rb HO_541003 hb; have n2_ := Rb HO_549003 hb; have n3_ := Rb HO_557003 hb; have n4_ := Kb BK540 hb; have n5_ := Kb BK548 hb; have n6_ := Kb BK556 hb; have n7_ := Bc HB hb; clear HO_107 HO_541003 HO_549003 HO_557003 BK540 BK548 BK556 HB; revert n0_ n1_ n2_ n3_ n4_ n5_ n6_ n7_; intro HO_107 HO_541003 HO_549003 HO_557003 BK540 BK548 BK556 HB; (try clear hb); (try clear hb2); (try clear hk); (try clear hi); obtain ⟨hcz140_0, hcz140_1, hcz140_2, hcz140_3, hfz140_0, hfz140_1, hfz140_2, hfz140_3⟩ := cf4 (w := w139) BK548; have hnb141 := NB540_556.out; have hnc141 := NB556_540.out; obtain ⟨hcz142_0, hcz142_1, hcz142_2, hcz142_3, hfz142_0, hfz142_1, hfz142_2, hfz142_3⟩ := cf4 (w := w139) BK540) | ((with_reducible refine gate_callee (f := 57) rfl ?_); refine gL (some 157) Try.func57 #[.agg #[.int .i64 t541, .int .i64 t542, .int .i64 t543, .slice Ao19 t544.length co19], .agg #[.int .i64 t533, .int .i64 t534, .int .i64 t535, .slice Ao14 t536.length co14]] ?_; (with_reducible refine (impl_CoversBloom.calls k3 t541 t542 t543 _ _ t544 t533 t534 t535 _ _ t536 t568 false _ ?side1 ?side2 ?side3 ?side4 A110.out).mono ?_); (case side1 => exact Cz ((Kd.R_reads' HO_549003.out).2.2)); (case side2 => exact (Kd.R_reads' HO_549003.out).2.1); (case side3 => exact Cz ((Kd.R_reads' HO_541003.out).2.2)); (case side4 => exact (Kd.R_reads' HO_541003.out).2.1); rintro e w143 ⟨rfl, hb⟩; refine ⟨_, rfl, ?_⟩; have n0_ := Rb HO_107 hb; have n1_ := Rb HO_541003 hb; have n2_ := Rb HO_549003 hb; have n3_ := Rb HO_557003 hb; have n4_ := Kb BK540 hb; have n5_ := Kb BK548 hb; have n6_ := Kb BK556 hb; have n7_ := Bc HB hb; clear HO_107 HO_541003 HO_549003 HO_557003 BK540 BK548 BK556 HB; revert n0_ n1_ n2_ n3_ n4_ n5_ n6_ n7_; intro HO_107 HO_541003 HO_549003 HO_557003 BK540 BK548 BK556 HB; (try clear hb); (try clear hb2); (try clear hk); (try clear hi)))
                go_ret
                exact ⟨eZ, Bq⟩
              ·replace c113 := Bool.eq_false_iff.mpr c113
               subst c113
               rw [if_neg (show ¬ (false = true) by decide)] at H; obtain rfl := Option.some.inj H; have hnb144 := NB548_540.out; have hnc144 := NB540_548.out; have hnb145 := NB548_556.out; have hnc145 := NB556_548.out; obtain ⟨hcz146_0, hcz146_1, hcz146_2, hcz146_3, hfz146_0, hfz146_1, hfz146_2, hfz146_3⟩ := cf4 (w := wr) BK548
               go_wp2_with (first | ((with_reducible refine gate_callee (f := 51) rfl ?_); refine gL (some 151) Try.func51 #[.agg #[.int .i64 t541, .int .i64 t542, .int .i64 t543, .slice Ao19 t544.length co19], .string t539] ?_; (with_reducible refine (impl_BloomHas.calls k3 t541 t542 t543 _ _ t544 t539 false true _ ?side1 ?side2 A109.out).mono ?_); (case side1 => exact Cz ((Kd.R_reads' HO_549003.out).2.2)); (case side2 => exact (Kd.R_reads' HO_549003.out).2.1); rintro e w147 ⟨rfl, hb⟩; refine ⟨_, rfl, ?_⟩; have n0_ := Rb HO_107 hb; have n1_ := Rb HO_541003 hb; have n2_ := Rb HO_549003 hb; have n3_ := Rb HO_557003 hb; have n4_ := Kb BK540 hb; have n5_ := Kb BK548 hb; have n6_ := Kb BK556 hb; have n7_ := Bc HB hb; clear HO_107 HO_541003 HO_549003 HO_557003 BK540 BK548 BK556 HB; revert n0_ n1_ n2_ n3_ n4_ n5_ n6_ n7_; intro HO_107 HO_541003 HO_549003 HO_557003 BK540 BK548 BK556 HB; (try clear hb); (try clear hb2); (try clear hk); (try clear hi); obtain ⟨hcz148_0, hcz148_1, hcz148_2, hcz148_3, hfz148_0, hfz148_1, hfz148_2, hfz148_3⟩ := cf4 (w := w147) BK548; have hnb149 := NB540_556.out; have hnc149 := NB556_540.out; obtain ⟨hcz150_0, hcz150_1, hcz150_2, hcz150_3, hfz150_0, hfz150_1, hfz150_2, hfz150_3⟩ := cf4 (w := w147) BK540) | ((with_reducible refine gate_callee (f := 57) rfl ?_); refine gL (some 157) Try.func57 #[.agg #[.int .i64 t541, .int .i64 t542, .int .i64 t543, .slice Ao19 t544.length co19], .agg #[.int .i64 t533, .int .i64 t534, .int .i64 t535, .slice Ao14 t536.length co14]] ?_; (with_reducible refine (impl_CoversBloom.calls k3 t541 t542 t543 _ _ t544 t533 t534 t535 _ _ t536 t568 t569 _ ?side1 ?side2 ?side3 ?side4 A110.out).mono ?_); (case side1 => exact Cz ((Kd.R_reads' HO_549003.out).2.2)); (case side2 => exact (Kd.R_reads' HO_549003.out).2.1); (case side3 => exact Cz ((Kd.R_reads' HO_541003.out).2.2)); (case side4 => exact (Kd.R_reads' HO_541003.out).2.1); rintro e w151 ⟨rfl, hb⟩; refine ⟨_, rfl, ?_⟩; have n0_ := Rb HO_107 hb; have n1_ := Rb HO_541003 hb; have n2_ := Rb HO_549003 hb; have n3_ := Rb HO_557003 hb; have n4_ := Kb BK540 hb; have n5_ := Kb BK548 hb; have n6_ := Kb BK556 hb; have n7_ := Bc HB hb; clear HO_107 HO_541003 HO_549003 HO_557003 BK540 BK548 BK556 HB; revert n0_ n1_ n2_ n3_ n4_ n5_ n6_ n7_; intro HO_107 HO_541003 HO_549003 HO_557003 BK540 BK548 BK556 HB; (try clear hb); (try clear hb2); (try clear hk); (try clear hi)))
               go_ret
               exact ⟨eZ, Bq⟩
             ·replace c112 := Bool.eq_false_iff.mpr c112
              subst c112
              rw [if_neg (show ¬ (false = true) by decide)] at H; obtain rfl := Option.some.inj H; have hnb152 := NB548_540.out; have hnc152 := NB540_548.out; have hnb153 := NB548_556.out; have hnc153 := NB556_548.out; obtain ⟨hcz154_0, hcz154_1, hcz154_2, hcz154_3, hfz154_0, hfz154_1, hfz154_2, hfz154_3⟩ := cf4 (w := wr) BK548
              go_wp2_with (first | ((with_reducible refine gate_callee (f := 51) rfl ?_); refine gL (some 151) Try.func51 #[.agg #[.int .i64 t541, .int .i64 t542, .int .i64 t543, .slice Ao19 t544.length co19], .string t539] ?_; (with_reducible refine (impl_BloomHas.calls k3 t541 t542 t543 _ _ t544 t539 t566 false _ ?side1 ?side2 A109.out).mono ?_); (case side1 => exact Cz ((Kd.R_reads' HO_549003.out).2.2)); (case side2 => exact (Kd.R_reads' HO_549003.out).2.1); rintro e w155 ⟨rfl, hb⟩; refine ⟨_, rfl, ?_⟩; have n0_ := Rb HO_107 hb; have n1_ := Rb HO_541003 hb; have n2_ := Rb HO_549003 hb; have n3_ := Rb HO_557003 hb; have n4_ := Kb BK540 hb; have n5_ := Kb BK548 hb; have n6_ := Kb BK556 hb; have n7_ := Bc HB hb; clear HO_107 HO_541003 HO_549003 HO_557003 BK540 BK548 BK556 HB; revert n0_ n1_ n2_ n3_ n4_ n5_ n6_ n7_; intro HO_107 HO_541003 HO_549003 HO_557003 BK540 BK548 BK556 HB; (try clear hb); (try clear hb2); (try clear hk); (try clear hi); obtain ⟨hcz156_0, hcz156_1, hcz156_2, hcz156_3, hfz156_0, hfz156_1, hfz156_2, hfz156_3⟩ := cf4 (w := w155) BK548; have hnb157 := NB540_556.out; have hnc157 := NB556_540.out; obtain ⟨hcz158_0, hcz158_1, hcz158_2, hcz158_3, hfz158_0, hfz158_1, hfz158_2, hfz158_3⟩ := cf4 (w := w155) BK540) | ((with_reducible refine gate_callee (f := 57) rfl ?_); refine gL (some 157) Try.func57 #[.agg #[.int .i64 t541, .int .i64 t542, .int .i64 t543, .slice Ao19 t544.length co19], .agg #[.int .i64 t533, .int .i64 t534, .int .i64 t535, .slice Ao14 t536.length co14]] ?_; (with_reducible refine (impl_CoversBloom.calls k3 t541 t542 t543 _ _ t544 t533 t534 t535 _ _ t536 t568 t569 _ ?side1 ?side2 ?side3 ?side4 A110.out).mono ?_); (case side1 => exact Cz ((Kd.R_reads' HO_549003.out).2.2)); (case side2 => exact (Kd.R_reads' HO_549003.out).2.1); (case side3 => exact Cz ((Kd.R_reads' HO_541003.out).2.2)); (case side4 => exact (Kd.R_reads' HO_541003.out).2.1); rintro e w159 ⟨rfl, hb⟩; refine ⟨_, rfl, ?_⟩; have n0_ := Rb HO_107 hb; have n1_ := Rb HO_541003 hb; have n2_ := Rb HO_549003 hb; have n3_ := Rb HO_557003 hb; have n4_ := Kb BK540 hb; have n5_ := Kb BK548 hb; have n6_ := Kb BK556 hb; have n7_ := Bc HB hb; clear HO_107 HO_541003 HO_549003 HO_557003 BK540 BK548 BK556 HB; revert n0_ n1_ n2_ n3_ n4_ n5_ n6_ n7_; intro HO_107 HO_541003 HO_549003 HO_557003 BK540 BK548 BK556 HB; (try clear hb); (try clear hb2); (try clear hk); (try clear hi)))
              go_ret
              exact ⟨eZ, Bq⟩
            ·rw [if_neg c111] at H
             have c111b0 : (x17_3 == t557) = false := by simpa using c111
             (try (have c111b1 : decide (x17_3 = t557) = false := by simpa using c111))
             (try (have c111b2 : (x17_3 == t557) = false := by simpa using c111))
             (try (have c111b3 : ¬ (x17_3 = t557) := by simpa using c111))
             clear c111; obtain rfl := Option.some.inj H; have hnb160 := NB548_540.out; have hnc160 := NB540_548.out; have hnb161 := NB548_556.out; have hnc161 := NB556_548.out; obtain ⟨hcz162_0, hcz162_1, hcz162_2, hcz162_3, hfz162_0, hfz162_1, hfz162_2, hfz162_3⟩ := cf4 (w := wr) BK548
             go_wp2_with (first | ((with_reducible refine gate_callee (f := 51) rfl ?_); refine gL (some 151) Try.func51 #[.agg #[.int .i64 t541, .int .i64 t542, .int .i64 t543, .slice Ao19 t544.length co19], .string t539] ?_; (with_reducible refine (impl_BloomHas.calls k3 t541 t542 t543 _ _ t544 t539 t566 t567 _ ?side1 ?side2 A109.out).mono ?_); (case side1 => exact Cz ((Kd.R_reads' HO_549003.out).2.2)); (case side2 => exact (Kd.R_reads' HO_549003.out).2.1); rintro e w163 ⟨rfl, hb⟩; refine ⟨_, rfl, ?_⟩; have n0_ := Rb HO_107 hb; have n1_ := Rb HO_541003 hb; have n2_ := Rb HO_549003 hb; have n3_ := Rb HO_557003 hb; have n4_ := Kb BK540 hb; have n5_ := Kb BK548 hb; have n6_ := Kb BK556 hb; have n7_ := Bc HB hb; clear HO_107 HO_541003 HO_549003 HO_557003 BK540 BK548 BK556 HB; revert n0_ n1_ n2_ n3_ n4_ n5_ n6_ n7_; intro HO_107 HO_541003 HO_549003 HO_557003 BK540 BK548 BK556 HB; (try clear hb); (try clear hb2); (try clear hk); (try clear hi); obtain ⟨hcz164_0, hcz164_1, hcz164_2, hcz164_3, hfz164_0, hfz164_1, hfz164_2, hfz164_3⟩ := cf4 (w := w163) BK548; have hnb165 := NB540_556.out; have hnc165 := NB556_540.out; obtain ⟨hcz166_0, hcz166_1, hcz166_2, hcz166_3, hfz166_0, hfz166_1, hfz166_2, hfz166_3⟩ := cf4 (w := w163) BK540) | ((with_reducible refine gate_callee (f := 57) rfl ?_); refine gL (some 157) Try.func57 #[.agg #[.int .i64 t541, .int .i64 t542, .int .i64 t543, .slice Ao19 t544.length co19], .agg #[.int .i64 t533, .int .i64 t534, .int .i64 t535, .slice Ao14 t536.length co14]] ?_; (with_reducible refine (impl_CoversBloom.calls k3 t541 t542 t543 _ _ t544 t533 t534 t535 _ _ t536 t568 t569 _ ?side1 ?side2 ?side3 ?side4 A110.out).mono ?_); (case side1 => exact Cz ((Kd.R_reads' HO_549003.out).2.2)); (case side2 => exact (Kd.R_reads' HO_549003.out).2.1); (case side3 => exact Cz ((Kd.R_reads' HO_541003.out).2.2)); (case side4 => exact (Kd.R_reads' HO_541003.out).2.1); rintro e w167 ⟨rfl, hb⟩; refine ⟨_, rfl, ?_⟩; have n0_ := Rb HO_107 hb; have n1_ := Rb HO_541003 hb; have n2_ := Rb HO_549003 hb; have n3_ := Rb HO_557003 hb; have n4_ := Kb BK540 hb; have n5_ := Kb BK548 hb; have n6_ := Kb BK556 hb; have n7_ := Bc HB hb; clear HO_107 HO_541003 HO_549003 HO_557003 BK540 BK548 BK556 HB; revert n0_ n1_ n2_ n3_ n4_ n5_ n6_ n7_; intro HO_107 HO_541003 HO_549003 HO_557003 BK540 BK548 BK556 HB; (try clear hb); (try clear hb2); (try clear hk); (try clear hi)))
             go_ret
             exact ⟨eZ, Bq⟩
     ·replace c61 := Bool.eq_false_iff.mpr c61
      subst c61
      rw [if_neg (show ¬ (false = true) by decide)] at H; obtain rfl := Option.some.inj H
      go_wp2
      go_ret
      exact ⟨eZ, Bq⟩

def laws_FnBloomAnswers.Pure : Prop := ∀ (l0 : List Int) (l1 : List Int), l0.length ≤ maxLen → l0.length * 1 ≤ 140737488351232 → (∀ x ∈ l0, (Lit.int .u8 x).wf = true) → l1.length ≤ maxLen → l1.length * 1 ≤ 140737488351232 → (∀ x ∈ l1, (Lit.int .u8 x).wf = true) → ∃ k, laws_FnBloomAnswers.f k l0 l1 = some true
theorem laws_FnBloomAnswers.walk (P : laws_FnBloomAnswers.Pure) (a0 : Option Addr) (len0 cap0 : Nat) (z0 : List Int) (a1 : Option Addr) (len1 cap1 : Nat) (z1 : List Int) (w : World) (w0 : (a0 = none ∧ len0 = 0 ∧ cap0 = 0 ∧ z0 = []) ∨ ∃ x, a0 = some x ∧ len0 ≤ cap0 ∧ cap0 ≤ maxLen ∧ z0.length = cap0 ∧ (∀ i, i < z0.length → w.cell? (x.add i) = some (.int .u8 (z0.getD i 0))) ∧ ∀ n ∈ z0, (Lit.int .u8 n).wf = true) (y0 : len0 * 1 ≤ 140737488351232) (w1 : (a1 = none ∧ len1 = 0 ∧ cap1 = 0 ∧ z1 = []) ∨ ∃ x, a1 = some x ∧ len1 ≤ cap1 ∧ cap1 ≤ maxLen ∧ z1.length = cap1 ∧ (∀ i, i < z1.length → w.cell? (x.add i) = some (.int .u8 (z1.getD i 0))) ∧ ∀ n ∈ z1, (Lit.int .u8 n).wf = true) (y1 : len1 * 1 ≤ 140737488351232) :
  Calls Try.prog 10 #[.slice a0 len0 cap0, .slice a1 len1 cap1] w fun e w' => e = .returned (.bool true) ∧ Below w.heap.size w w' := by
 obtain ⟨l0, rfl, hr0, hm0, hw0, hc0⟩ := ReadsInt.ofRowC w0; obtain ⟨l1, rfl, hr1, hm1, hw1, hc1⟩ := ReadsInt.ofRowC w1; obtain ⟨k, h⟩ := P l0 l1 hm0 y0 hw0 hm1 y1 hw1; refine (laws_FnBloomAnswers.calls k _ _ l0 _ _ l1 true w (Kd.C_of_reads (d := (0 : Int)) (h1 := fun _ => rfl) hr0) hc0 (Kd.C_of_reads (d := (0 : Int)) (h1 := fun _ => rfl) hr1) hc1 h).mono ?_; rintro e w' ⟨rfl, hd⟩; exact ⟨rfl, hd⟩

end Go.Proofs.Ytpkpjikkfikejaa.PA
-- printed by a program of this session (wip/gp) out of the translation; Lean checks it
namespace Go.Proofs.Ytpkpjikkfikejaa.PA
open Go.RowKit Go.Proofs.YtpkpjikkfikejaaW.PrintWords Go.Proofs.YtpkpjikkfikejaaW.PrintLast Go.Proofs.YtpkpjikkfikejaaW.PrintMore Go.Proofs.YtpkpjikkfikejaaSq
attribute [local go_sem] max2_int min2_int max_two min_two max_three min_three max_four min_four   -- for this text's walks alone
attribute [local go_sem] Go.Proofs.YtpkpjikkfikejaaGp.str_geq Go.Proofs.YtpkpjikkfikejaaGp.str_gtr Go.Proofs.YtpkpjikkfikejaaGp.str_leq
set_option linter.unusedVariables false
set_option linter.unusedSimpArgs false

set_option maxHeartbeats 8000000
set_option maxRecDepth 100000
-- NOT PRINTED: function 141 (impl_madeBits)

-- NOT PRINTED: function 142 (impl_UnionBloom_1)

end Go.Proofs.Ytpkpjikkfikejaa.PA
namespace Go.Proofs.YtpkpjikkfikejaaQ
open Go Go.RowKit Go.Proofs.YtpkpjikkfikejaaW.PrintWords Go.Proofs.YtpkpjikkfikejaaGp

theorem ev_succ {α : Type} {g : Nat → Option α} {r : α} (h : Ev (fun k => g (k + 1)) r) : Ev g r := Ev.step (f := fun k => g (k + 1)) (fun _ => rfl) h
theorem ev_some {α : Type} {a r : α} (h : a = r) : Ev (fun _ => some a) r := h ▸ Ev.now a
theorem ev_pos {α : Type} {c : Prop} [Decidable c] {f g : Nat → Option α} {r : α} (h : c) (k : Ev f r) : Ev (fun n => if c then f n else g n) r := by simpa only [if_pos h] using k
theorem ev_neg {α : Type} {c : Prop} [Decidable c] {f g : Nat → Option α} {r : α} (h : ¬ c) (k : Ev g r) : Ev (fun n => if c then f n else g n) r := by simpa only [if_neg h] using k
theorem ev_bind {α β : Type} {g : Nat → Option α} {f : Nat → α → Option β} {r : β} (a : α) (h : Ev g a) (k : Ev (fun n => f n a) r) : Ev (fun n => (g n).bind (f n)) r := Ev.bind h k
theorem w64 {x : Int} (h0 : -9223372036854775808 ≤ x) (h1 : x ≤ 9223372036854775807) : wrap64 x = x := by unfold wrap64; omega
theorem winc {i : Nat} (h : (i : Int) < 9223372036854775807) : wrap64 ((i : Int) + 1) = ((i + 1 : Nat) : Int) := by unfold wrap64; omega
theorem wdec {i : Nat} (h : (i : Int) < 9223372036854775807) : wrap64 (((i + 1 : Nat) : Int) - 1) = (i : Int) := by unfold wrap64; omega
theorem maxLen_eq : maxLen = 9223372036854775807 := by unfold maxLen; rfl
section
variable {α : Type} {d : α} {pre t : List α} {s : α}
theorem rdOf_mid : rdOf d (pre ++ s :: t) ((pre.length : Nat) : Int) = s := by simp [rdOf]
theorem lt_mid : ((pre.length : Nat) : Int) < ((pre ++ s :: t).length : Int) := by simp; omega
theorem not_lt_end : ¬ ((pre.length : Nat) : Int) < ((pre ++ ([] : List α)).length : Int) := by simp
theorem len_one : ((pre ++ [s]).length : Int) = ((pre.length + 1 : Nat) : Int) := by simp
end
theorem rd_mid {pre t : List Int} {s : Int} : rd (pre ++ s :: t) ((pre.length : Nat) : Int) = s := by simp [rd]
theorem rd_get {xs : List Int} {i : Nat} (h : i < xs.length) : rd xs (i : Int) = xs[i] := by simp [rd, h]

theorem tl (s : ByteArray) : s.toList = s.data.toList := Lib.toList_data s
theorem tl_inj {x y : ByteArray} : x.toList = y.toList ↔ x = y := by
  rw [tl, tl]
  exact ⟨fun h => ByteArray.ext (Array.toList_inj.1 h), fun h => h ▸ rfl⟩
theorem size_len (s : ByteArray) : s.size = s.data.toList.length := (data_length s).symm
theorem bt_mid {s : ByteArray} {pre t : List UInt8} {c : UInt8} (h : s.data.toList = pre ++ c :: t) : bt s ((pre.length : Nat) : Int) = (c.toNat : Int) := by
  have hs : pre.length < s.size := by rw [size_len, h]; simp
  have hg : s[pre.length]'hs = c := by
    have : s.data.toList[pre.length]'(by rw [h]; simp) = c := by simp [h]
    rw [← this]; rfl
  unfold bt
  rw [dif_pos (by simpa using hs)]
  simp only [Int.toNat_natCast, hg]
theorem lt_size {s : ByteArray} {pre t : List UInt8} {c : UInt8} (h : s.data.toList = pre ++ c :: t) : ((pre.length : Nat) : Int) < (s.size : Int) := by rw [size_len, h]; simp; omega
theorem not_lt_size {s : ByteArray} {pre : List UInt8} (h : s.data.toList = pre ++ []) : ¬ ((pre.length : Nat) : Int) < (s.size : Int) := by rw [size_len, h]; simp
def lessS (a b : ByteArray) : Bool := Op.bytesLess a.toList b.toList
end Go.Proofs.YtpkpjikkfikejaaQ
namespace Go.Proofs.YtpkpjikkfikejaaQ
open Go Go.RowKit Go.Proofs.YtpkpjikkfikejaaW.PrintWords Go.Proofs.YtpkpjikkfikejaaGp Go.Proofs.Ytpkpjikkfikejaa.PA

def mm (x y : Int) : Int := Int.tmod (wrap64 (x * y)) 65521
theorem mul_range {x y : Int} (hx : 0 ≤ x) (hx1 : x ≤ 65520) (hy : 0 ≤ y) (hy1 : y ≤ 65520) : 0 ≤ x * y ∧ x * y ≤ 4292870400 :=
  ⟨Int.mul_nonneg hx hy, by have := Int.mul_le_mul hx1 hy1 hy (by omega); omega⟩
theorem emod_range (x : Int) : 0 ≤ x % 65521 ∧ x % 65521 ≤ 65520 := by omega
theorem mm_eq {x y : Int} (hx : 0 ≤ x) (hx1 : x ≤ 65520) (hy : 0 ≤ y) (hy1 : y ≤ 65520) : mm x y = x * y % 65521 := by
  obtain ⟨h0, h1⟩ := mul_range hx hx1 hy hy1
  unfold mm
  rw [w64 (by omega) (by omega)]
  exact Int.tmod_eq_emod_of_nonneg h0
theorem mm_mod (a b : Int) : mm (a % 65521) (b % 65521) = a * b % 65521 := by
  rw [mm_eq (emod_range a).1 (emod_range a).2 (emod_range b).1 (emod_range b).2]
  exact (Int.mul_emod a b 65521).symm
def pw (h : Int) : Nat → Int
  | 0 => 1
  | n + 1 => pw h n * h
theorem self_mod {h : Int} (h0 : 0 ≤ h) (h1 : h ≤ 65520) : h = h % 65521 := by omega
theorem mm11 {h : Int} (h0 : 0 ≤ h) (h1 : h ≤ 65520) : mm (mm (mm (mm (mm h h) (mm h h)) h) (mm (mm (mm h h) (mm h h)) h)) h = pw h 11 % 65521 := by
  have e := self_mod h0 h1
  have a2 : mm h h = h * h % 65521 := mm_eq h0 h1 h0 h1
  have a4 : mm (mm h h) (mm h h) = (h * h) * (h * h) % 65521 := by rw [a2, mm_mod]
  have a5 : mm (mm (mm h h) (mm h h)) h = (h * h) * (h * h) * h % 65521 := by
    rw [a4]; conv => lhs; arg 2; rw [e]
    rw [mm_mod]
  rw [a5, mm_mod]
  conv => lhs; arg 2; rw [e]
  rw [mm_mod]
  congr 1
  simp only [pw, Int.one_mul, Int.mul_assoc]
theorem mm_pw {h : Int} (h0 : 0 ≤ h) (h1 : h ≤ 65520) (n : Nat) : mm (pw h n % 65521) h = pw h (n + 1) % 65521 := by
  conv => lhs; arg 2; rw [self_mod h0 h1]
  rw [mm_mod]
  rfl

def hstep (h : Int) (c : UInt8) : Int := Int.tmod (wrap64 ((wrap64 (263 * h)) + (wrap64 (c.toNat : Int)))) 65521
def hfold (h : Int) (l : List UInt8) : Int := l.foldl hstep h
theorem hstep_range {h : Int} {c : UInt8} (h0 : 0 ≤ h) (h1 : h ≤ 65520) : 0 ≤ hstep h c ∧ hstep h c ≤ 65520 := by
  have hc : c.toNat < 256 := c.toNat_lt
  unfold hstep
  rw [w64 (x := 263 * h) (by omega) (by omega), w64 (x := (c.toNat : Int)) (by omega) (by omega), w64 (by omega) (by omega), Int.tmod_eq_emod_of_nonneg (by omega)]
  omega
def hstart (a0 a1 : Int) : Int := Int.tmod (wrap64 ((wrap64 ((wrap64 (31 * a0)) + (wrap64 (977 * a1)))) + 7)) 65521
theorem hstart_range {a0 a1 : Int} (h0 : 0 ≤ a0) (h0' : a0 ≤ 1000000) (h1 : 0 ≤ a1) (h1' : a1 ≤ 1000000) : 0 ≤ hstart a0 a1 ∧ hstart a0 a1 ≤ 65520 := by
  unfold hstart
  rw [w64 (x := 31 * a0) (by omega) (by omega), w64 (x := 977 * a1) (by omega) (by omega), w64 (x := 31 * a0 + 977 * a1) (by omega) (by omega), w64 (by omega) (by omega), Int.tmod_eq_emod_of_nonneg (by omega)]
  omega
def hashV (a0 a1 : Int) (s : ByteArray) : Int := pw (hfold (hstart a0 a1) s.data.toList) 11 % 65521
theorem hashV_range (a0 a1 : Int) (s : ByteArray) : 0 ≤ hashV a0 a1 s ∧ hashV a0 a1 s ≤ 65520 := emod_range _
theorem spec_biHash_l0 (x2 : ByteArray) (hz : (x2.size : Int) ≤ 9223372036854775806) : ∀ (t pre : List UInt8) (h : Int), x2.data.toList = pre ++ t → 0 ≤ h → h ≤ 65520 →
    Ev (fun k => spec_biHash.l0 k x2 h (pre.length : Int)) (pw (hfold h t) 11 % 65521) := by
  intro t
  induction t with
  | nil =>
    intro pre h e h0 h1
    refine ev_succ ?_
    simp only [spec_biHash.l0]
    refine ev_neg (not_lt_size e) (ev_some ?_)
    exact mm11 h0 h1
  | cons c t ih =>
    intro pre h e h0 h1
    have hm := lt_size e
    refine ev_succ ?_
    simp only [spec_biHash.l0, bt_mid e]
    refine ev_pos hm (ev_pos (by omega) ?_)
    rw [winc (by omega)]
    have := ih (pre ++ [c]) (hstep h c) (by rw [e]; simp) (hstep_range h0 h1).1 (hstep_range h0 h1).2
    rw [len_one] at this
    exact this
theorem spec_biHash_f (a0 a1 : Int) (s : ByteArray) (hz : (s.size : Int) ≤ 9223372036854775806) (h0 : 0 ≤ a0) (h0' : a0 ≤ 1000000) (h1 : 0 ≤ a1) (h1' : a1 ≤ 1000000) :
    Ev (fun k => spec_biHash.f k a0 a1 s) (hashV a0 a1 s) := by
  unfold spec_biHash.f
  exact spec_biHash_l0 s hz s.data.toList [] _ rfl (hstart_range h0 h0' h1 h1').1 (hstart_range h0 h0' h1 h1').2
theorem impl_hash_l1 {h : Int} (h0 : 0 ≤ h) (h1 : h ≤ 65520) : ∀ (m i : Nat), i + m = 11 → Ev (fun k => impl_hash.l1 k h (pw h i % 65521) (i : Int)) (pw h 11 % 65521) := by
  intro m
  induction m with
  | zero =>
    intro i e
    obtain rfl : i = 11 := by omega
    refine ev_succ ?_
    simp only [impl_hash.l1]
    exact ev_neg (by omega) (ev_some rfl)
  | succ m ih =>
    intro i e
    refine ev_succ ?_
    simp only [impl_hash.l1]
    refine ev_pos (by omega) ?_
    rw [winc (by omega)]
    have := ih (i + 1) (by omega)
    rw [← mm_pw h0 h1 i] at this
    exact this
theorem impl_hash_l0 (x2 : ByteArray) (hz : (x2.size : Int) ≤ 9223372036854775806) : ∀ (t pre : List UInt8) (h : Int), x2.data.toList = pre ++ t → 0 ≤ h → h ≤ 65520 →
    Ev (fun k => impl_hash.l0 k x2 h (x2.size : Int) (pre.length : Int)) (pw (hfold h t) 11 % 65521) := by
  intro t
  induction t with
  | nil =>
    intro pre h e h0 h1
    refine ev_succ ?_
    simp only [impl_hash.l0]
    exact ev_neg (not_lt_size e) (impl_hash_l1 h0 h1 11 0 rfl)
  | cons c t ih =>
    intro pre h e h0 h1
    have hm := lt_size e
    refine ev_succ ?_
    simp only [impl_hash.l0, bt_mid e]
    refine ev_pos hm (ev_pos (by omega) (ev_pos hm ?_))
    rw [winc (by omega)]
    have := ih (pre ++ [c]) (hstep h c) (by rw [e]; simp) (hstep_range h0 h1).1 (hstep_range h0 h1).2
    rw [len_one] at this
    exact this
theorem impl_hash_f (a0 a1 : Int) (s : ByteArray) (hz : (s.size : Int) ≤ 9223372036854775806) (h0 : 0 ≤ a0) (h0' : a0 ≤ 1000000) (h1 : 0 ≤ a1) (h1' : a1 ≤ 1000000) :
    Ev (fun k => impl_hash.f k a0 a1 s) (hashV a0 a1 s) := by
  unfold impl_hash.f
  exact impl_hash_l0 s hz s.data.toList [] _ rfl (hstart_range h0 h0' h1 h1').1 (hstart_range h0 h0' h1 h1').2

def placeV (a0 a1 : Int) (s : ByteArray) (n : Int) : Int := wrap64 (Int.tdiv (wrap64 (hashV a0 a1 s * n)) 65521)
theorem placeV_range (a0 a1 : Int) (s : ByteArray) {n : Int} (h0 : 1 ≤ n) (h1 : n ≤ 1000000) : 0 ≤ placeV a0 a1 s n ∧ placeV a0 a1 s n < n := by
  obtain ⟨a, b⟩ := hashV_range a0 a1 s
  have c := Int.mul_nonneg a (show (0 : Int) ≤ n by omega)
  have d := Int.mul_le_mul_of_nonneg_right b (show (0 : Int) ≤ n by omega)
  unfold placeV
  generalize hashV a0 a1 s * n = y at *
  rw [w64 (x := y) (by omega) (by omega), Int.tdiv_eq_ediv_of_nonneg (by omega), w64 (by omega) (by omega)]
  omega
theorem spec_biPlace_f (a0 a1 : Int) (s : ByteArray) (n : Int) (hz : (s.size : Int) ≤ 9223372036854775806) (h0 : 0 ≤ a0) (h0' : a0 ≤ 1000000) (h1 : 0 ≤ a1) (h1' : a1 ≤ 1000000) :
    Ev (fun k => spec_biPlace.f k a0 a1 s n) (placeV a0 a1 s n) := by
  unfold spec_biPlace.f
  exact ev_bind _ (spec_biHash_f a0 a1 s hz h0 h0' h1 h1') (Ev.now _)
theorem impl_place_f (a0 a1 : Int) (s : ByteArray) (n : Int) (hz : (s.size : Int) ≤ 9223372036854775806) (h0 : 0 ≤ a0) (h0' : a0 ≤ 1000000) (h1 : 0 ≤ a1) (h1' : a1 ≤ 1000000) :
    Ev (fun k => impl_place.f k a0 a1 s n) (placeV a0 a1 s n) := by
  unfold impl_place.f
  exact ev_bind _ (impl_hash_f a0 a1 s hz h0 h0' h1 h1') (Ev.now _)
end Go.Proofs.YtpkpjikkfikejaaQ
namespace Go.Proofs.YtpkpjikkfikejaaQ
open Go Go.RowKit Go.Proofs.YtpkpjikkfikejaaW.PrintWords Go.Proofs.YtpkpjikkfikejaaGp Go.Proofs.Ytpkpjikkfikejaa.PA

def probesL (a0 : Int) (s : ByteArray) (n : Int) : Nat → Nat → List Int
  | 0, _ => []
  | m + 1, i => placeV a0 (i : Int) s n :: probesL a0 s n m (i + 1)
theorem probesL_len (a0 : Int) (s : ByteArray) (n : Int) : ∀ m i, (probesL a0 s n m i).length = m
  | 0, _ => rfl
  | m + 1, i => by simp [probesL, probesL_len a0 s n m]
theorem probesL_range (a0 : Int) (s : ByteArray) {n : Int} (h0 : 1 ≤ n) (h1 : n ≤ 1000000) : ∀ m i, ∀ p ∈ probesL a0 s n m i, 0 ≤ p ∧ p < n
  | 0, _, p, h => by simp [probesL] at h
  | m + 1, i, p, h => by
    simp only [probesL, List.mem_cons] at h
    rcases h with rfl | h
    · exact placeV_range a0 _ s h0 h1
    · exact probesL_range a0 s h0 h1 m (i + 1) p h
theorem spec_fiProbes_l0 (a0 : Int) (n : Int) (s : ByteArray) (hz : (s.size : Int) ≤ 9223372036854775806) (h0 : 0 ≤ a0) (h0' : a0 ≤ 1000000) (x1 : Int) (hx : x1 ≤ 1000000) : ∀ (m i : Nat) (acc : List Int), ((i + m : Nat) : Int) = x1 → acc.length = i →
    Ev (fun k => spec_fiProbes.l0 k a0 x1 n s acc (i : Int)) (acc ++ probesL a0 s n m i) := by
  intro m
  induction m with
  | zero =>
    intro i acc e ha
    refine ev_succ ?_
    simp only [spec_fiProbes.l0, probesL]
    exact ev_neg (by omega) (ev_some (by simp))
  | succ m ih =>
    intro i acc e ha
    refine ev_succ ?_
    simp only [spec_fiProbes.l0, probesL]
    refine ev_pos (by omega) (ev_bind _ (spec_biPlace_f a0 (i : Int) s n hz h0 h0' (by omega) (by omega)) (ev_pos (by omega) ?_))
    rw [winc (by omega)]
    have := ih (i + 1) (acc ++ [placeV a0 (i : Int) s n]) (by omega) (by simp [ha])
    rw [List.append_assoc] at this
    exact this
theorem spec_fiProbes_f (a0 a1 n : Int) (s : ByteArray) (hz : (s.size : Int) ≤ 9223372036854775806) (h0 : 0 ≤ a0) (h0' : a0 ≤ 1000000) (h1 : 0 ≤ a1) (h1' : a1 ≤ 1000000) :
    Ev (fun k => spec_fiProbes.f k a0 a1 n s) (probesL a0 s n a1.toNat 0) := by
  unfold spec_fiProbes.f
  have := spec_fiProbes_l0 a0 n s hz h0 h0' a1 h1' a1.toNat 0 [] (by omega) rfl
  exact this
theorem impl_probesOf_l0 (a0 : Int) (n : Int) (s : ByteArray) (hz : (s.size : Int) ≤ 9223372036854775806) (h0 : 0 ≤ a0) (h0' : a0 ≤ 1000000) (x1 : Int) (hx : x1 ≤ 1000000) : ∀ (m i : Nat) (acc : List Int), ((i + m : Nat) : Int) = x1 → acc.length = i →
    Ev (fun k => impl_probesOf.l0 k a0 n s acc x1 (i : Int)) (acc ++ probesL a0 s n m i) := by
  intro m
  induction m with
  | zero =>
    intro i acc e ha
    refine ev_succ ?_
    simp only [impl_probesOf.l0, probesL]
    exact ev_neg (by omega) (ev_some (by simp))
  | succ m ih =>
    intro i acc e ha
    refine ev_succ ?_
    simp only [impl_probesOf.l0, probesL]
    refine ev_pos (by omega) (ev_bind _ (impl_place_f a0 (i : Int) s n hz h0 h0' (by omega) (by omega)) (ev_pos (by omega) ?_))
    rw [winc (by omega)]
    have := ih (i + 1) (acc ++ [placeV a0 (i : Int) s n]) (by omega) (by simp [ha])
    rw [List.append_assoc] at this
    exact this
theorem impl_probesOf_f (a0 a1 n : Int) (s : ByteArray) (hz : (s.size : Int) ≤ 9223372036854775806) (h0 : 0 ≤ a0) (h0' : a0 ≤ 1000000) (h1 : 0 ≤ a1) (h1' : a1 ≤ 1000000) :
    Ev (fun k => impl_probesOf.f k a0 a1 n s) (probesL a0 s n a1.toNat 0) := by
  unfold impl_probesOf.f
  have := impl_probesOf_l0 a0 n s hz h0 h0' a1 h1' a1.toNat 0 [] (by omega) rfl
  exact this
end Go.Proofs.YtpkpjikkfikejaaQ
namespace Go.Proofs.YtpkpjikkfikejaaQ
open Go Go.RowKit Go.Proofs.YtpkpjikkfikejaaW.PrintWords Go.Proofs.YtpkpjikkfikejaaGp Go.Proofs.Ytpkpjikkfikejaa.PA

theorem ofInt_wrap (a : BitVec 64) : BitVec.ofInt 64 (IntKind.i64.wrap (a.toNat : Int)) = a := by
  have h : a.toNat < 2 ^ 64 := a.isLt
  apply BitVec.eq_of_toNat_eq
  rw [BitVec.toNat_ofInt]
  show ((IntKind.i64.wrap (a.toNat : Int)) % ((2 ^ 64 : Nat) : Int)).toNat = a.toNat
  have e : IntKind.i64.wrap (a.toNat : Int) = if (a.toNat : Int) % 18446744073709551616 ≥ 9223372036854775808 then (a.toNat : Int) % 18446744073709551616 - 18446744073709551616 else (a.toNat : Int) % 18446744073709551616 := by
    unfold IntKind.wrap
    simp [IntKind.bits, IntKind.signed]
  rw [e]
  have h2 : (2 : Nat) ^ 64 = 18446744073709551616 := by decide
  rw [h2] at h ⊢
  split <;> omega
theorem or_andNot (x b : Int) : Go.bits .or .i64 (Go.bits .andNot .i64 x b) b = Go.bits .or .i64 x b := by
  have e : ∀ op y, Go.bits op .i64 y b = IntKind.i64.wrap (((match op with | .and => BitVec.ofInt 64 y &&& BitVec.ofInt 64 b | .or => BitVec.ofInt 64 y ||| BitVec.ofInt 64 b | .xor => BitVec.ofInt 64 y ^^^ BitVec.ofInt 64 b | _ => BitVec.ofInt 64 y &&& ~~~(BitVec.ofInt 64 b)) : BitVec 64).toNat : Int) := fun op y => by
    unfold Go.bits; cases op <;> rfl
  rw [e .or, e .or, e .andNot]
  simp only
  rw [ofInt_wrap]
  congr 2
  apply congrArg
  apply BitVec.eq_of_getLsbD_eq
  intro i hi
  simp only [BitVec.getLsbD_or, BitVec.getLsbD_and, BitVec.getLsbD_not, hi, decide_true, Bool.true_and]
  cases (BitVec.ofInt 64 x).getLsbD i <;> cases (BitVec.ofInt 64 b).getLsbD i <;> rfl

def setV (l : List Int) (p : Int) : List Int := l.set (p / 16).toNat (Go.bits .or .i64 (rd l (p / 16)) (shl .i64 1 (p % 16)))
theorem setV_len (l : List Int) (p : Int) : (setV l p).length = l.length := by simp [setV]
theorem div16 {p : Int} (h0 : 0 ≤ p) (h1 : p ≤ 1000000) : wrap64 (Int.tdiv p 16) = p / 16 ∧ Int.tmod p 16 = p % 16 := by
  rw [Int.tdiv_eq_ediv_of_nonneg h0, Int.tmod_eq_emod_of_nonneg h0, w64 (by omega) (by omega)]
  exact ⟨rfl, rfl⟩
theorem rd_set {l : List Int} {i : Nat} {v : Int} (h : i < l.length) : rd (l.set i v) (i : Int) = v := by simp [rd, h]
theorem spec_biSet_f (n : Int) (l : List Int) {p : Int} (h0 : 0 ≤ p) (h1 : p ≤ 1000000) (h2 : p / 16 < (l.length : Int)) : spec_biSet.f n l p = some (setV l p) := by
  unfold spec_biSet.f
  rw [(div16 h0 h1).1, (div16 h0 h1).2, if_pos (by omega), if_pos h2, if_pos (by omega)]
  rfl
theorem impl_Bits_set_f (n : Int) (l : List Int) {p : Int} (h0 : 0 ≤ p) (h1 : p ≤ 1000000) (h2 : p / 16 < (l.length : Int)) : impl_Bits_set.f n l p true = some (setV l p) := by
  unfold impl_Bits_set.f
  rw [(div16 h0 h1).1, (div16 h0 h1).2, if_pos (by omega), if_pos h2, if_pos (by omega)]
  simp only [Option.bind_some, if_true]
  obtain ⟨q, hq⟩ : ∃ q : Nat, p / 16 = (q : Int) := ⟨(p / 16).toNat, by omega⟩
  unfold setV
  rw [hq] at h2 ⊢
  simp only [Int.toNat_natCast]
  rw [rd_set (by omega), List.set_set, or_andNot]

def addP (l : List Int) (ps : List Int) : List Int := ps.foldl setV l
theorem addP_len : ∀ (ps l : List Int), (addP l ps).length = l.length
  | [], _ => rfl
  | p :: ps, l => (addP_len ps (setV l p)).trans (setV_len l p)
def addK (a0 : Int) (m : Nat) (n : Int) (l : List Int) (ks : List ByteArray) : List Int := ks.foldl (fun l s => addP l (probesL a0 s n m 0)) l
theorem addK_len (a0 : Int) (m : Nat) (n : Int) : ∀ (ks : List ByteArray) (l : List Int), (addK a0 m n l ks).length = l.length
  | [], _ => rfl
  | _ :: ks, l => (addK_len a0 m n ks _).trans (addP_len _ l)
theorem impl_put_l0 (a0 a1 n : Int) (x20 : List Int) (hl : (x20.length : Int) ≤ 9223372036854775806) : ∀ (t pre l : List Int), x20 = pre ++ t → (∀ p ∈ t, 0 ≤ p ∧ p ≤ 1000000 ∧ p / 16 < (l.length : Int)) →
    Ev (fun k => impl_Bloom_put.l0 k x20 (x20.length : Int) (pre.length : Int) a0 a1 n l) (addP l t) := by
  intro t
  induction t with
  | nil =>
    intro pre l e hp
    refine ev_succ ?_
    simp only [impl_Bloom_put.l0]
    exact ev_neg (by rw [e]; exact not_lt_end) (ev_some rfl)
  | cons s t ih =>
    intro pre l e hp
    have hm : ((pre.length : Nat) : Int) < (x20.length : Int) := by rw [e]; exact lt_mid
    have hg : rd x20 (pre.length : Int) = s := by rw [e]; exact rd_mid
    obtain ⟨p0, p1, p2⟩ := hp s (by simp)
    refine ev_succ ?_
    simp only [impl_Bloom_put.l0, hg]
    refine ev_pos hm (ev_pos (by omega) (ev_pos hm (ev_bind (setV l s) (by rw [impl_Bits_set_f n l p0 p1 p2]; exact Ev.now _) ?_)))
    rw [winc (by omega)]
    have := ih (pre ++ [s]) (setV l s) (by rw [e]; simp) (fun p h => by rw [setV_len]; exact hp p (by simp [h]))
    rw [len_one] at this
    exact this
theorem impl_put_f (a0 a1 n : Int) (l : List Int) (s : ByteArray) (hz : (s.size : Int) ≤ 9223372036854775806) (h0 : 0 ≤ a0) (h0' : a0 ≤ 1000000) (h1 : 0 ≤ a1) (h1' : a1 ≤ 1000000)
    (hn : 1 ≤ n) (hn' : n ≤ 1000000) (hl : (n + 15) / 16 ≤ (l.length : Int)) : Ev (fun k => impl_Bloom_put.f k a0 a1 n l s) (addP l (probesL a0 s n a1.toNat 0)) := by
  unfold impl_Bloom_put.f
  refine ev_bind _ (impl_probesOf_f a0 a1 n s hz h0 h0' h1 h1') ?_
  exact impl_put_l0 a0 a1 n _ (by rw [probesL_len]; omega) _ [] l rfl (fun p h => by
    obtain ⟨x, y⟩ := probesL_range a0 s hn hn' _ _ p h
    exact ⟨x, by omega, by omega⟩)
end Go.Proofs.YtpkpjikkfikejaaQ
namespace Go.Proofs.YtpkpjikkfikejaaQ
open Go Go.RowKit Go.Proofs.YtpkpjikkfikejaaW.PrintWords Go.Proofs.YtpkpjikkfikejaaGp Go.Proofs.Ytpkpjikkfikejaa.PA

theorem spec_in (n a b : Int) : spec_l1In.f n a b = some (decide (a ≤ n ∧ n ≤ b)) := by
  unfold spec_l1In.f
  by_cases h : a ≤ n <;> by_cases h' : n ≤ b <;> simp [h, h']
theorem impl_in (n a b : Int) : impl_in.f n a b = some (decide (a ≤ n ∧ n ≤ b)) := by
  unfold impl_in.f
  by_cases h : a ≤ n <;> by_cases h' : n ≤ b <;> simp [h, h']

def byteOk (c : UInt8) : Bool := decide (33 ≤ (c.toNat : Int) ∧ (c.toNat : Int) ≤ 125)
def isKeyB (s : ByteArray) : Bool := s.data.toList.all byteOk && decide (1 ≤ (s.size : Int) ∧ (s.size : Int) ≤ 12)
theorem spec_IsKey_l0 (x0 : ByteArray) (hz : (x0.size : Int) ≤ 9223372036854775806) : ∀ (t pre : List UInt8), x0.data.toList = pre ++ t →
    Ev (fun k => spec_IsKey.l0 k x0 (pre.length : Int)) (t.all byteOk && decide (1 ≤ (x0.size : Int) ∧ (x0.size : Int) ≤ 12)) := by
  intro t
  induction t with
  | nil =>
    intro pre h
    refine ev_succ ?_
    simp only [spec_IsKey.l0, spec_in, Option.bind_some]
    exact ev_neg (not_lt_size h) (ev_some (by simp))
  | cons c t ih =>
    intro pre h
    have hm := lt_size h
    refine ev_succ ?_
    simp only [spec_IsKey.l0, bt_mid h]
    refine ev_pos hm (ev_pos (by omega) ?_)
    by_cases c1 : (c.toNat : Int) < 33
    · exact ev_pos c1 (ev_some (by simp [byteOk]; omega))
    · refine ev_neg c1 ?_
      by_cases c2 : (c.toNat : Int) > 125
      · exact ev_pos c2 (ev_some (by simp [byteOk]; omega))
      · refine ev_neg c2 ?_
        rw [winc (by omega)]
        have := ih (pre ++ [c]) (by rw [h]; simp)
        rw [len_one] at this
        have hb : byteOk c = true := by simp [byteOk]; omega
        simpa [hb] using this
theorem spec_IsKey_f (s : ByteArray) (hz : (s.size : Int) ≤ 9223372036854775806) : Ev (fun k => spec_IsKey.f k s) (isKeyB s) := by
  unfold spec_IsKey.f
  exact spec_IsKey_l0 s hz s.data.toList [] rfl
theorem impl_IsKey_l0 (x0 : ByteArray) (hz : (x0.size : Int) ≤ 9223372036854775806) : ∀ (t pre : List UInt8), x0.data.toList = pre ++ t →
    Ev (fun k => impl_IsKey.l0 k x0 (x0.size : Int) (pre.length : Int)) (t.all byteOk && decide (1 ≤ (x0.size : Int) ∧ (x0.size : Int) ≤ 12)) := by
  intro t
  induction t with
  | nil =>
    intro pre h
    refine ev_succ ?_
    simp only [impl_IsKey.l0, impl_in, Option.bind_some]
    exact ev_neg (not_lt_size h) (ev_some (by simp))
  | cons c t ih =>
    intro pre h
    have hm := lt_size h
    refine ev_succ ?_
    simp only [impl_IsKey.l0, bt_mid h]
    refine ev_pos hm (ev_pos (by omega) (ev_pos hm ?_))
    by_cases c1 : (c.toNat : Int) < 33
    · exact ev_pos c1 (ev_some (by simp [byteOk]; omega))
    · refine ev_neg c1 ?_
      by_cases c2 : (c.toNat : Int) > 125
      · exact ev_pos c2 (ev_some (by simp [byteOk]; omega))
      · refine ev_neg c2 ?_
        rw [winc (by omega)]
        have := ih (pre ++ [c]) (by rw [h]; simp)
        rw [len_one] at this
        have hb : byteOk c = true := by simp [byteOk]; omega
        simpa [hb] using this
theorem impl_IsKey_f (s : ByteArray) (hz : (s.size : Int) ≤ 9223372036854775806) : Ev (fun k => impl_IsKey.f k s) (isKeyB s) := by
  unfold impl_IsKey.f
  exact impl_IsKey_l0 s hz s.data.toList [] rfl
end Go.Proofs.YtpkpjikkfikejaaQ
namespace Go.Proofs.YtpkpjikkfikejaaQ
open Go Go.RowKit Go.Proofs.YtpkpjikkfikejaaW.PrintWords Go.Proofs.YtpkpjikkfikejaaGp Go.Proofs.Ytpkpjikkfikejaa.PA

def sizesB (a0 a1 a2 : Int) : Bool := decide (0 ≤ a0 ∧ a0 ≤ 9999) && decide (1 ≤ a1 ∧ a1 ≤ 8) && decide (1 ≤ a2 ∧ a2 ≤ 512)
theorem sizesB_ok {a0 a1 a2 : Int} (h : sizesB a0 a1 a2 = true) : (0 ≤ a0 ∧ a0 ≤ 9999) ∧ (1 ≤ a1 ∧ a1 ≤ 8) ∧ 1 ≤ a2 ∧ a2 ≤ 512 := by
  simp only [sizesB, Bool.and_eq_true, decide_eq_true_eq] at h
  exact ⟨h.1.1, h.1.2, h.2⟩
def blankV (n : Int) : List Int := List.replicate ((n + 15) / 16).toNat 0
theorem spec_fiSize_f (a0 a1 a2 : Int) : spec_fiSize.f a0 a1 a2 = some (sizesB a0 a1 a2) := by
  unfold spec_fiSize.f sizesB
  simp only [spec_in, Option.bind_some]
  by_cases h0 : 0 ≤ a0 ∧ a0 ≤ 9999 <;> by_cases h1 : 1 ≤ a1 ∧ a1 ≤ 8 <;> by_cases h2 : 1 ≤ a2 ∧ a2 ≤ 512 <;> simp [h0, h1, h2]
theorem spec_fiAdd_l1 (x18 : List ByteArray) (x19 x20 a0 a1 n : Int) (l' : List Int) (b0 b1 bn : Int) (x32 : List Int) (hl : (x32.length : Int) ≤ 9223372036854775806) {r : Int × Int × Int × List Int} : ∀ (t pre l : List Int), x32 = pre ++ t → (∀ p ∈ t, 0 ≤ p ∧ p ≤ 1000000 ∧ p / 16 < (l.length : Int)) →
    Ev (fun k => spec_fiAdd.l0 k x18 x19 (wrap64 (x20 + 1)) a0 a1 n l' b0 b1 bn (addP l t)) r →
    Ev (fun k => spec_fiAdd.l1 k x18 x19 x20 x32 (x32.length : Int) (pre.length : Int) a0 a1 n l' b0 b1 bn l) r := by
  intro t
  induction t with
  | nil =>
    intro pre l e hp H
    refine ev_succ ?_
    simp only [spec_fiAdd.l1]
    exact ev_neg (by rw [e]; exact not_lt_end) H
  | cons s t ih =>
    intro pre l e hp H
    have hm : ((pre.length : Nat) : Int) < (x32.length : Int) := by rw [e]; exact lt_mid
    have hg : rd x32 (pre.length : Int) = s := by rw [e]; exact rd_mid
    obtain ⟨p0, p1, p2⟩ := hp s (by simp)
    refine ev_succ ?_
    simp only [spec_fiAdd.l1, hg]
    refine ev_pos hm (ev_pos (by omega) (ev_pos hm (ev_bind (setV l s) (by rw [spec_biSet_f bn l p0 p1 p2]; exact Ev.now _) ?_)))
    rw [winc (by omega)]
    have := ih (pre ++ [s]) (setV l s) (by rw [e]; simp) (fun p h => by rw [setV_len]; exact hp p (by simp [h])) H
    rw [len_one] at this
    exact this
theorem spec_fiAdd_l0 (x18 : List ByteArray) (a0 a1 n : Int) (l' : List Int) (b0 b1 bn : Int) (hl : (x18.length : Int) ≤ 9223372036854775806) (h0 : 0 ≤ a0) (h0' : a0 ≤ 1000000) (h1 : 0 ≤ a1) (h1' : a1 ≤ 1000000) (hn : 1 ≤ n) (hn' : n ≤ 1000000) : ∀ (t pre : List ByteArray) (l : List Int), x18 = pre ++ t → (∀ s ∈ t, (s.size : Int) ≤ 9223372036854775806) → (n + 15) / 16 ≤ (l.length : Int) →
    Ev (fun k => spec_fiAdd.l0 k x18 (x18.length : Int) (pre.length : Int) a0 a1 n l' b0 b1 bn l) (b0, b1, bn, addK a0 a1.toNat n l t) := by
  intro t
  induction t with
  | nil =>
    intro pre l e hz hb
    refine ev_succ ?_
    simp only [spec_fiAdd.l0]
    exact ev_neg (by rw [e]; exact not_lt_end) (ev_some rfl)
  | cons s t ih =>
    intro pre l e hz hb
    have hm : ((pre.length : Nat) : Int) < (x18.length : Int) := by rw [e]; exact lt_mid
    have hg : rdOf ByteArray.empty x18 (pre.length : Int) = s := by rw [e]; exact rdOf_mid
    refine ev_succ ?_
    simp only [spec_fiAdd.l0, hg]
    refine ev_pos hm (ev_pos (by omega) (ev_pos hm (ev_bind _ (spec_fiProbes_f a0 a1 n s (hz s (by simp)) h0 h0' h1 h1') ?_)))
    refine spec_fiAdd_l1 _ _ _ _ _ _ _ _ _ _ _ (by rw [probesL_len]; omega) _ [] l rfl (fun p h => by
      obtain ⟨x, y⟩ := probesL_range a0 s hn hn' _ _ p h
      exact ⟨x, by omega, by omega⟩) ?_
    rw [winc (by omega)]
    have := ih (pre ++ [s]) (addP l (probesL a0 s n a1.toNat 0)) (by rw [e]; simp) (fun s h => hz s (by simp [h])) (by rw [addP_len]; exact hb)
    rw [len_one] at this
    exact this
theorem spec_fiAdd_f (a0 a1 n : Int) (l : List Int) (ks : List ByteArray) (hk : (ks.length : Int) ≤ 9223372036854775806) (hz : ∀ s ∈ ks, (s.size : Int) ≤ 9223372036854775806) (hl : (l.length : Int) ≤ 1000000) (h0 : 0 ≤ a0) (h0' : a0 ≤ 1000000) (h1 : 0 ≤ a1) (h1' : a1 ≤ 1000000) (hn : 1 ≤ n) (hn' : n ≤ 1000000) (hb : (n + 15) / 16 ≤ (l.length : Int)) :
    Ev (fun k => spec_fiAdd.f k a0 a1 n l ks) (a0, a1, n, addK a0 a1.toNat n l ks) := by
  have e : spec_biOwn.f n l = some (n, l) := by
    unfold spec_biOwn.f spec_l1Own.f
    simp only [Option.bind_some, List.length_nil, List.nil_append]
    rw [if_pos (by omega)]
    rfl
  unfold spec_fiAdd.f
  rw [e]
  have := spec_fiAdd_l0 ks a0 a1 n l a0 a1 n hk h0 h0' h1 h1' hn hn' ks [] l rfl hz hb
  exact this
end Go.Proofs.YtpkpjikkfikejaaQ
namespace Go.Proofs.YtpkpjikkfikejaaQ
open Go Go.RowKit Go.Proofs.YtpkpjikkfikejaaW.PrintWords Go.Proofs.YtpkpjikkfikejaaGp Go.Proofs.Ytpkpjikkfikejaa.PA

theorem impl_isSeed_f (a0 : Int) : impl_isSeed.f a0 = some (decide (0 ≤ a0 ∧ a0 ≤ 9999)) := by
  unfold impl_isSeed.f
  rw [impl_in]
  rfl
theorem impl_sizesOk_f (a0 a1 a2 : Int) : impl_sizesOk.f a0 a1 a2 = some (sizesB a0 a1 a2) := by
  unfold impl_sizesOk.f sizesB
  simp only [impl_isSeed_f, impl_in, Option.bind_some]
  by_cases h0 : 0 ≤ a0 ∧ a0 ≤ 9999 <;> by_cases h1 : 1 ≤ a1 ∧ a1 ≤ 8 <;> by_cases h2 : 1 ≤ a2 ∧ a2 ≤ 512 <;> simp [h0, h1, h2]
end Go.Proofs.YtpkpjikkfikejaaQ
namespace Go.Proofs.YtpkpjikkfikejaaQ
open Go Go.RowKit Go.Proofs.YtpkpjikkfikejaaW.PrintWords Go.Proofs.YtpkpjikkfikejaaGp Go.Proofs.Ytpkpjikkfikejaa.PA

def all16 (l : List Int) : Bool := l.all (fun x => decide (0 ≤ x ∧ x ≤ 65535))
def bitsB (n : Int) (l : List Int) : Bool :=
  decide (0 ≤ n ∧ n ≤ 4096) && (decide ((l.length : Int) = (n + 15) / 16) && (all16 l && (decide (n % 16 = 0) || (shr .i64 (rd l ((l.length : Int) - 1)) (n % 16) == 0))))
theorem bitsB_len {n : Int} {l : List Int} (h : bitsB n l = true) : 0 ≤ n ∧ n ≤ 4096 ∧ (l.length : Int) = (n + 15) / 16 := by
  simp only [bitsB, Bool.and_eq_true, decide_eq_true_eq] at h
  exact ⟨h.1.1, h.1.2, h.2.1⟩
theorem spec_l1All_l0 (x0 : List Int) (hl : (x0.length : Int) ≤ 9223372036854775806) : ∀ (t pre : List Int), x0 = pre ++ t →
    Ev (fun k => spec_l1All.l0 k 0 65535 x0 (x0.length : Int) (pre.length : Int)) (all16 t) := by
  intro t
  induction t with
  | nil =>
    intro pre h
    refine ev_succ ?_
    simp only [spec_l1All.l0]
    exact ev_neg (by rw [h]; exact not_lt_end) (ev_some (by simp [all16]))
  | cons s t ih =>
    intro pre h
    have hm : ((pre.length : Nat) : Int) < (x0.length : Int) := by rw [h]; exact lt_mid
    have hg : rd x0 (pre.length : Int) = s := by rw [h]; exact rd_mid
    refine ev_succ ?_
    simp only [spec_l1All.l0, hg, spec_in]
    refine ev_pos hm (ev_pos (by omega) (ev_pos hm (ev_bind _ (Ev.now _) ?_)))
    by_cases c : 0 ≤ s ∧ s ≤ 65535
    · refine ev_pos (by simpa using c) ?_
      rw [winc (by omega)]
      have := ih (pre ++ [s]) (by rw [h]; simp)
      rw [len_one] at this
      rw [show all16 (s :: t) = all16 t from by simp [all16, c]]
      exact this
    · refine ev_neg (by simpa using c) (ev_some ?_)
      have : decide (0 ≤ s ∧ s ≤ 65535) = false := decide_eq_false c
      simp only [all16, List.all_cons, this, Bool.false_and]
theorem spec_l1All_f (l : List Int) (hl : (l.length : Int) ≤ 9223372036854775806) : Ev (fun k => spec_l1All.f k l 0 65535) (all16 l) := by
  unfold spec_l1All.f
  exact spec_l1All_l0 l hl l [] rfl
theorem words_up {n : Int} (h0 : 0 ≤ n) (h1 : n ≤ 4096) : wrap64 (Int.tdiv (wrap64 (n + 15)) 16) = (n + 15) / 16 := by
  rw [w64 (x := n + 15) (by omega) (by omega), Int.tdiv_eq_ediv_of_nonneg (by omega), w64 (by omega) (by omega)]
theorem spec_biGood_f (n : Int) (l : List Int) (hl : (l.length : Int) ≤ 9223372036854775806) : Ev (fun k => spec_biGood.f k n l) (bitsB n l) := by
  unfold spec_biGood.f
  simp only [spec_in]
  refine ev_bind _ (Ev.now _) ?_
  by_cases c : 0 ≤ n ∧ n ≤ 4096
  · refine ev_pos (by simpa using c) ?_
    rw [words_up c.1 c.2]
    by_cases c2 : (l.length : Int) = (n + 15) / 16
    · refine ev_pos c2 (ev_bind _ (spec_l1All_f l hl) ?_)
      by_cases c3 : all16 l = true
      · refine ev_pos c3 ?_
        rw [Int.tmod_eq_emod_of_nonneg c.1]
        by_cases c4 : n % 16 = 0
        · exact ev_pos c4 (ev_some (by simp [bitsB, c, c2, c3, c4]))
        · refine ev_neg c4 ?_
          rw [w64 (x := (l.length : Int) - 1) (by omega) (by omega)]
          refine ev_pos (by omega) (ev_pos (by omega) (ev_pos (by omega) (ev_some ?_)))
          simp [bitsB, c, c2, c3, c4]
      · exact ev_neg c3 (ev_some (by simp [bitsB, c3]))
    · exact ev_neg c2 (ev_some (by simp [bitsB, c2]))
  · refine ev_neg (by simpa using c) (ev_some ?_)
    have : decide (0 ≤ n ∧ n ≤ 4096) = false := decide_eq_false c
    simp only [bitsB, this, Bool.false_and]
theorem impl_IsBits_l0 (n : Int) (x20 : List Int) (c : 0 ≤ n ∧ n ≤ 4096) (c2 : (x20.length : Int) = (n + 15) / 16) : ∀ (t pre : List Int), x20 = pre ++ t →
    Ev (fun k => impl_IsBits.l0 k x20 (x20.length : Int) (pre.length : Int) n x20) (all16 t && (decide (n % 16 = 0) || (shr .i64 (rd x20 ((x20.length : Int) - 1)) (n % 16) == 0))) := by
  intro t
  induction t with
  | nil =>
    intro pre h
    refine ev_succ ?_
    simp only [impl_IsBits.l0]
    refine ev_neg (by rw [h]; exact not_lt_end) ?_
    rw [Int.tmod_eq_emod_of_nonneg c.1]
    by_cases c4 : n % 16 = 0
    · exact ev_pos c4 (ev_some (by simp [all16, c4]))
    · refine ev_neg c4 ?_
      rw [w64 (x := (x20.length : Int) - 1) (by omega) (by omega)]
      refine ev_pos (by omega) (ev_pos (by omega) (ev_pos (by omega) (ev_some ?_)))
      simp [all16, c4]
  | cons s t ih =>
    intro pre h
    have hm : ((pre.length : Nat) : Int) < (x20.length : Int) := by rw [h]; exact lt_mid
    have hg : rd x20 (pre.length : Int) = s := by rw [h]; exact rd_mid
    refine ev_succ ?_
    simp only [impl_IsBits.l0, hg, impl_in]
    refine ev_pos hm (ev_pos (by omega) (ev_pos hm (ev_bind _ (Ev.now _) ?_)))
    by_cases c5 : 0 ≤ s ∧ s ≤ 65535
    · refine ev_pos (by simpa using c5) ?_
      rw [winc (by omega)]
      have := ih (pre ++ [s]) (by rw [h]; simp)
      rw [len_one] at this
      rw [show all16 (s :: t) = all16 t from by simp [all16, c5]]
      exact this
    · refine ev_neg (by simpa using c5) (ev_some ?_)
      have : decide (0 ≤ s ∧ s ≤ 65535) = false := decide_eq_false c5
      simp only [all16, List.all_cons, this, Bool.false_and]
theorem impl_words_f {n : Int} (h0 : 0 ≤ n) (h1 : n ≤ 4096) : impl_words.f n = some ((n + 15) / 16) := by
  unfold impl_words.f
  rw [w64 (x := n + 16) (by omega) (by omega), w64 (x := n + 16 - 1) (by omega) (by omega), Int.tdiv_eq_ediv_of_nonneg (by omega), w64 (by omega) (by omega), show n + 16 - 1 = n + 15 from by omega]
theorem impl_IsBits_f (n : Int) (l : List Int) : Ev (fun k => impl_IsBits.f k n l) (bitsB n l) := by
  unfold impl_IsBits.f
  simp only [impl_in]
  refine ev_bind _ (Ev.now _) ?_
  by_cases c : 0 ≤ n ∧ n ≤ 4096
  · refine ev_pos (by simpa using c) ?_
    rw [impl_words_f c.1 c.2]
    simp only [Option.bind_some]
    refine ev_succ ?_
    simp only [impl_IsBits.j0]
    by_cases c2 : (l.length : Int) = (n + 15) / 16
    · refine ev_neg (by simp [c2]) ?_
      have := impl_IsBits_l0 n l c c2 l [] rfl
      rw [show bitsB n l = (all16 l && (decide (n % 16 = 0) || (shr .i64 (rd l ((l.length : Int) - 1)) (n % 16) == 0))) from by simp [bitsB, c, c2]]
      exact this
    · exact ev_pos (by simpa using c2) (ev_some (by simp [bitsB, c2]))
  · refine ev_neg (by simpa using c) (ev_succ ?_)
    simp only [impl_IsBits.j0]
    refine ev_pos (by trivial) (ev_some ?_)
    have : decide (0 ≤ n ∧ n ≤ 4096) = false := decide_eq_false c
    simp only [bitsB, this, Bool.false_and]
def isBloomB (a0 a1 a2 : Int) (l : List Int) : Bool := sizesB a0 a1 a2 && bitsB a2 l
theorem isBloomB_ok {a0 a1 a2 : Int} {l : List Int} (h : isBloomB a0 a1 a2 l = true) : (0 ≤ a0 ∧ a0 ≤ 9999) ∧ (1 ≤ a1 ∧ a1 ≤ 8) ∧ (1 ≤ a2 ∧ a2 ≤ 512) ∧ (l.length : Int) = (a2 + 15) / 16 := by
  rw [isBloomB, Bool.and_eq_true] at h
  obtain ⟨x, y, z⟩ := sizesB_ok h.1
  exact ⟨x, y, z, (bitsB_len h.2).2.2⟩
theorem spec_fiGood_f (a0 a1 a2 : Int) (l : List Int) (hl : (l.length : Int) ≤ 9223372036854775806) : Ev (fun k => spec_fiGood.f k a0 a1 a2 l) (isBloomB a0 a1 a2 l) := by
  unfold spec_fiGood.f
  refine ev_bind _ (spec_biGood_f a2 l hl) ?_
  rw [spec_fiSize_f]
  by_cases c : bitsB a2 l = true
  · exact ev_pos c (ev_bind _ (Ev.now _) (ev_some (by simp [isBloomB, c])))
  · exact ev_neg c (ev_some (by simp [isBloomB, c]))
theorem impl_IsBloom_f (a0 a1 a2 : Int) (l : List Int) : Ev (fun k => impl_IsBloom.f k a0 a1 a2 l) (isBloomB a0 a1 a2 l) := by
  unfold impl_IsBloom.f
  rw [impl_sizesOk_f]
  simp only [Option.bind_some]
  by_cases c : sizesB a0 a1 a2 = true
  · exact ev_pos c (ev_bind _ (impl_IsBits_f a2 l) (ev_some (by simp [isBloomB, c])))
  · exact ev_neg c (ev_some (by simp [isBloomB, c]))
end Go.Proofs.YtpkpjikkfikejaaQ
namespace Go.Proofs.YtpkpjikkfikejaaQ
open Go Go.RowKit Go.Proofs.YtpkpjikkfikejaaW.PrintWords Go.Proofs.YtpkpjikkfikejaaGp Go.Proofs.Ytpkpjikkfikejaa.PA

def addV (a0 a1 a2 : Int) (l : List Int) (s : ByteArray) : Int × Int × Int × List Int × Bool :=
  if (isBloomB a0 a1 a2 l && isKeyB s) = true then (a0, a1, a2, addP l (probesL a0 s a2 a1.toNat 0), true) else (0, 0, 0, [], false)
theorem addV_len (a0 a1 a2 : Int) (l : List Int) (s : ByteArray) : (addV a0 a1 a2 l s).2.2.2.1.length ≤ 40 := by
  unfold addV
  split
  · rename_i h
    rw [Bool.and_eq_true] at h
    obtain ⟨_, _, h2, h3⟩ := isBloomB_ok h.1
    simp only [addP_len]
    omega
  · simp
theorem spec_BloomAdd_f (a0 a1 a2 : Int) (l : List Int) (s : ByteArray) (hl : (l.length : Int) ≤ 9223372036854775806) (hz : (s.size : Int) ≤ 9223372036854775806) : Ev (fun k => spec_BloomAdd.f k a0 a1 a2 l s) (addV a0 a1 a2 l s) := by
  unfold spec_BloomAdd.f
  refine ev_bind _ (spec_fiGood_f a0 a1 a2 l hl) ?_
  by_cases c : isBloomB a0 a1 a2 l = true
  · obtain ⟨⟨p0, p1⟩, ⟨p2, p3⟩, ⟨p4, p5⟩, p6⟩ := isBloomB_ok c
    refine ev_pos c (ev_bind _ (spec_IsKey_f s hz) ?_)
    by_cases c2 : isKeyB s = true
    · refine ev_pos c2 (ev_bind _ (spec_fiAdd_f a0 a1 a2 l [s] (by simp) (by simpa using hz) (by omega) p0 (by omega) (by omega) (by omega) p4 (by omega) (by omega)) (ev_some ?_))
      simp [addV, c, c2, addK]
    · exact ev_neg c2 (ev_some (by simp [addV, c2]))
  · exact ev_neg c (ev_some (by simp [addV, c]))
theorem impl_BloomAdd_f (a0 a1 a2 : Int) (l : List Int) (s : ByteArray) (hz : (s.size : Int) ≤ 9223372036854775806) : Ev (fun k => impl_BloomAdd.f k a0 a1 a2 l s) (addV a0 a1 a2 l s) := by
  unfold impl_BloomAdd.f
  refine ev_bind _ (impl_IsBloom_f a0 a1 a2 l) ?_
  by_cases c : isBloomB a0 a1 a2 l = true
  · obtain ⟨⟨p0, p1⟩, ⟨p2, p3⟩, ⟨p4, p5⟩, p6⟩ := isBloomB_ok c
    refine ev_pos c (ev_bind _ (impl_IsKey_f s hz) (ev_succ ?_))
    simp only [impl_BloomAdd.j0]
    by_cases c2 : isKeyB s = true
    · have hc : impl_cloneBits.f a2 l = some (a2, l) := by
        unfold impl_cloneBits.f slices_Clone_int_int.f
        simp only [Option.bind_some, List.length_nil, List.nil_append]
        rw [if_pos (by omega)]
        rfl
      rw [hc]
      refine ev_neg (by simp [c2]) ?_
      simp only [Option.bind_some]
      exact ev_bind _ (impl_put_f a0 a1 a2 l s hz p0 (by omega) (by omega) (by omega) p4 (by omega) (by omega)) (ev_some (by simp [addV, c, c2]))
    · exact ev_pos (by simp [c2]) (ev_some (by simp [addV, c2]))
  · refine ev_neg c (ev_succ ?_)
    simp only [impl_BloomAdd.j0]
    exact ev_pos (by trivial) (ev_some (by simp [addV, c]))
end Go.Proofs.YtpkpjikkfikejaaQ
namespace Go.Proofs.YtpkpjikkfikejaaQ
open Go Go.RowKit Go.Proofs.YtpkpjikkfikejaaW.PrintWords Go.Proofs.YtpkpjikkfikejaaGp Go.Proofs.Ytpkpjikkfikejaa.PA

structure Bys (s : List Int) : Prop where
  len : (s.length : Int) ≤ 1048576
  all : ∀ x ∈ s, 0 ≤ x ∧ x ≤ 255
theorem and255 (x : Int) : 0 ≤ Go.bits .and .u64 x 255 ∧ Go.bits .and .u64 x 255 ≤ 255 := by
  have e : Go.bits .and .u64 x 255 = IntKind.u64.wrap (((BitVec.ofInt 64 x &&& BitVec.ofInt 64 255 : BitVec 64)).toNat : Int) := by unfold Go.bits; rfl
  have h : ((BitVec.ofInt 64 x &&& BitVec.ofInt 64 255 : BitVec 64)).toNat ≤ 255 := by
    rw [BitVec.toNat_and]
    exact Nat.and_le_right
  rw [e]
  unfold IntKind.wrap
  simp only [IntKind.bits, IntKind.signed]
  generalize (BitVec.ofInt 64 x &&& BitVec.ofInt 64 255 : BitVec 64).toNat = m at h
  simp
  omega
theorem rd_by {s : List Int} (hs : Bys s) (i : Int) : 0 ≤ rd s i ∧ rd s i ≤ 255 := by
  unfold rd
  by_cases c : i.toNat < s.length
  · rw [List.getD_eq_getElem?_getD, List.getElem?_eq_getElem c]
    exact hs.all _ (List.getElem_mem c)
  · rw [List.getD_eq_getElem?_getD, List.getElem?_eq_none (by omega)]
    simp
theorem next_ok {s : List Int} (hs : Bys s) {p : Int} (sd : Int) (h0 : 0 ≤ p) (h1 : p ≤ 4000000000000000000) :
    ∃ v p' sd', spec_l1Cur_next.f s p sd = some (v, p', sd') ∧ (0 ≤ v ∧ v ≤ 255) ∧ 0 ≤ p' ∧ p' ≤ p + 1 := by
  have hb := rd_by hs p
  have w1 : wrap64 (p + 1) = p + 1 := w64 (by omega) (by omega)
  have w2 : wrap64 (rd s p) = rd s p := w64 (by omega) (by omega)
  unfold spec_l1Cur_next.f
  rw [w1, w2]
  by_cases c : p < (s.length : Int)
  · rw [if_pos c, if_pos h0]
    split
    · exact ⟨_, _, _, rfl, hb, by omega, by omega⟩
    · omega
  · rw [if_neg c, if_neg (by omega)]
    refine ⟨_, _, _, rfl, ?_, by omega, by omega⟩
    have := and255 ((IntKind.u64.wrap ((IntKind.u64.wrap (IntKind.u64.wrap (sd * 6364136223846793005))) + 1442695040888963407)) / 1099511627776)
    rw [w64 (by omega) (by omega)]
    exact this
theorem pick_ok {s : List Int} (hs : Bys s) {p : Int} (sd : Int) {n : Int} (h0 : 0 ≤ p) (h1 : p ≤ 3000000000000000000) :
    ∃ v p' sd', spec_l1Cur_pick.f s p sd n = some (v, p', sd') ∧ (0 ≤ v ∧ (v < n ∨ v = 0)) ∧ 0 ≤ p' ∧ p' ≤ p + 2 := by
  unfold spec_l1Cur_pick.f
  by_cases c : n ≤ 1
  · rw [if_pos c]; exact ⟨_, _, _, rfl, ⟨by omega, .inr rfl⟩, h0, by omega⟩
  obtain ⟨v, p', sd', e, hv, q0, q1⟩ := next_ok hs sd h0 (by omega)
  have hn : ¬ n = 0 := by omega
  rw [if_neg c, e]
  simp only [Option.bind_some, if_neg hn]
  by_cases d : n > 200
  · obtain ⟨u, p2, sd2, e2, hu, r0, r1⟩ := next_ok hs sd' q0 (by omega)
    rw [if_pos d, e2]
    simp only [Option.bind_some]
    refine ⟨_, _, _, rfl, ?_, r0, by omega⟩
    rw [w64 (x := v * 256) (by omega) (by omega), w64 (x := v * 256 + u) (by omega) (by omega), Int.tmod_eq_emod_of_nonneg (by omega)]
    exact ⟨Int.emod_nonneg _ hn, .inl (Int.emod_lt_of_pos _ (by omega))⟩
  · rw [if_neg d]
    refine ⟨_, _, _, rfl, ?_, q0, by omega⟩
    rw [Int.tmod_eq_emod_of_nonneg hv.1]
    exact ⟨Int.emod_nonneg _ hn, .inl (Int.emod_lt_of_pos _ (by omega))⟩
theorem one_ok {s : List Int} (hs : Bys s) {p : Int} (sd : Int) (n : Int) (h0 : 0 ≤ p) (h1 : p ≤ 3000000000000000000) :
    ∃ v p' sd', spec_l1Cur_one.f s p sd n = some (v, p', sd') ∧ 0 ≤ p' ∧ p' ≤ p + 2 := by
  obtain ⟨v, p', sd', e, _, q0, q1⟩ := pick_ok hs sd (n := n) h0 h1
  unfold spec_l1Cur_one.f
  rw [e]
  exact ⟨_, _, _, rfl, q0, q1⟩
theorem among_ok {s : List Int} (hs : Bys s) {p : Int} (sd : Int) {l : List Int} (hl : 0 < l.length) (h0 : 0 ≤ p) (h1 : p ≤ 3000000000000000000) :
    ∃ v p' sd', spec_l1Cur_among.f s p sd l = some (v, p', sd') ∧ v ∈ l ∧ 0 ≤ p' ∧ p' ≤ p + 2 := by
  obtain ⟨v, p', sd', e, hv, q0, q1⟩ := pick_ok hs sd (n := (l.length : Int)) h0 h1
  have hm : rd l v ∈ l := by
    unfold rd
    have : v.toNat < l.length := by omega
    rw [List.getD_eq_getElem?_getD, List.getElem?_eq_getElem this]
    exact List.getElem_mem this
  unfold spec_l1Cur_among.f
  rw [e]
  simp only [Option.bind_some]
  rw [if_pos (by omega), if_pos (by omega)]
  exact ⟨_, _, _, rfl, hm, q0, q1⟩
theorem strOf_size (l : List Int) : (strOfNums l).size = l.length := by simp [strOfNums, ByteArray.size]

def Dr {α : Type} (g : Nat → Option (α × Int × Int)) (p c : Int) (P : α → Prop) : Prop := ∃ v p' sd', Ev g (v, p', sd') ∧ P v ∧ 0 ≤ p' ∧ p' ≤ p + c
theorem key_l1 (s : List Int) (p sd : Int) : ∀ (d : Nat) (x : List Int), 12 - x.length ≤ d → x.length ≤ 12 →
    ∃ v, Ev (fun k => spec_l1Cur_key.l1 k x s p sd) (v, p, sd) ∧ v.size ≤ 12 := by
  intro d
  induction d with
  | zero =>
    intro x h1 h2
    refine ⟨strOfNums x, ev_succ ?_, by rw [strOf_size]; omega⟩
    simp only [spec_l1Cur_key.l1]
    exact ev_neg (by omega) (Ev.now _)
  | succ d ih =>
    intro x h1 h2
    by_cases c : (x.length : Int) < 12
    · obtain ⟨v, e, hv⟩ := ih (x ++ [97]) (by simp; omega) (by simp; omega)
      refine ⟨v, ev_succ ?_, hv⟩
      simp only [spec_l1Cur_key.l1]
      exact ev_pos c (ev_pos (by omega) e)
    · refine ⟨strOfNums x, ev_succ ?_, by rw [strOf_size]; omega⟩
      simp only [spec_l1Cur_key.l1]
      exact ev_neg c (Ev.now _)
theorem key_l0 {s : List Int} (hs : Bys s) : ∀ (n : Nat) (x : List Int) (p sd : Int), x.length + n ≤ 12 → 0 ≤ p → p + 2 * (n : Int) ≤ 2000000000000000000 →
    Dr (fun k => spec_l1Cur_key.l0 k x (n : Int) s p sd) p (2 * (n : Int) + 2) (fun v => v.size ≤ 12) := by
  intro n
  induction n with
  | zero =>
    intro x p sd hx h0 h1
    obtain ⟨v, p', sd', e, q0, q1⟩ := one_ok hs sd 12 h0 (by omega)
    by_cases c : v = true
    · obtain ⟨u, eu, hu⟩ := key_l1 s p' sd' 12 x (by omega) (by omega)
      refine ⟨u, p', sd', ev_succ ?_, hu, q0, by omega⟩
      simp only [spec_l1Cur_key.l0, e]
      exact ev_neg (by omega) (ev_bind _ (Ev.now _) (ev_pos c eu))
    · refine ⟨strOfNums x, p', sd', ev_succ ?_, (by rw [strOf_size]; omega : (strOfNums x).size ≤ 12), q0, by omega⟩
      simp only [spec_l1Cur_key.l0, e]
      exact ev_neg (by omega) (ev_bind _ (Ev.now _) (ev_neg c (Ev.now _)))
  | succ n ih =>
    intro x p sd hx h0 h1
    obtain ⟨v, p', sd', e, hv, q0, q1⟩ := pick_ok hs sd (n := 11) h0 (by omega)
    obtain ⟨u, p2, sd2, eu, hu, r0, r1⟩ := ih (x ++ [bt (⟨#[97, 97, 98, 98, 99, 120, 121, 122, 33, 125, 48]⟩ : ByteArray) v]) p' sd' (by simp; omega) q0 (by omega)
    refine ⟨u, p2, sd2, ev_succ ?_, hu, r0, by omega⟩
    simp only [spec_l1Cur_key.l0, e]
    refine ev_pos (by omega) (ev_bind _ (Ev.now _) (ev_pos hv.1 (ev_pos (by omega) (ev_pos (by omega) ?_))))
    rw [wdec (by omega)]
    exact eu
theorem key_ok {s : List Int} (hs : Bys s) {p : Int} (sd : Int) (h0 : 0 ≤ p) (h1 : p ≤ 1000000000000000000) : Dr (fun k => spec_l1Cur_key.f k s p sd) p 12 (fun v => v.size ≤ 12) := by
  obtain ⟨v, p', sd', e, hv, q0, q1⟩ := pick_ok hs sd (n := 4) h0 (by omega)
  obtain ⟨u, p2, sd2, eu, hu, r0, r1⟩ := key_l0 hs (v.toNat + 1) [] p' sd' (by simp; omega) q0 (by omega)
  refine ⟨u, p2, sd2, ?_, hu, r0, by omega⟩
  unfold spec_l1Cur_key.f
  rw [e]
  refine ev_bind _ (Ev.now _) ?_
  rw [w64 (by omega) (by omega), show 1 + v = ((v.toNat + 1 : Nat) : Int) from by omega]
  exact eu
def insK (s : ByteArray) : List ByteArray → List ByteArray
  | [] => [s]
  | q :: t => if lessS q s = true then q :: insK s t else if q = s then q :: t else s :: q :: t
theorem insK_len (s : ByteArray) : ∀ l, (insK s l).length ≤ l.length + 1
  | [] => by simp [insK]
  | q :: t => by
    have := insK_len s t
    unfold insK
    split
    · simp; omega
    · split <;> simp
theorem insK_mem (s : ByteArray) : ∀ l, ∀ x ∈ insK s l, x = s ∨ x ∈ l
  | [], x, h => by simp [insK] at h; exact .inl h
  | q :: t, x, h => by
    unfold insK at h
    split at h
    · rcases List.mem_cons.1 h with e | e
      · exact .inr (by simp [e])
      · rcases insK_mem s t x e with e | e
        · exact .inl e
        · exact .inr (by simp [e])
    · split at h
      · exact .inr h
      · rcases List.mem_cons.1 h with e | e
        · exact .inl e
        · exact .inr e
theorem putS_l0 (x0 : List ByteArray) (s : ByteArray) (hx : x0.length ≤ 1000000) : ∀ (t pre : List ByteArray), x0 = pre ++ t →
    Ev (fun k => spec_l1PutS.l0 k x0 s (pre.length : Int)) (pre ++ insK s t) := by
  intro t
  induction t with
  | nil =>
    intro pre h
    have hp : x0 = pre := by rw [h, List.append_nil]
    subst hp
    refine ev_succ ?_
    simp only [spec_l1PutS.l0]
    refine ev_neg (by omega) (ev_bind _ (Ev.now _) (ev_pos (by omega) (ev_pos (by omega) (ev_bind _ (Ev.now _) ?_))))
    rw [Int.toNat_natCast, List.take_length, List.nil_append]
    refine ev_pos (by simp; omega) (ev_bind _ (Ev.now _) (ev_pos (by omega) (ev_bind _ (Ev.now _) (ev_bind _ (Ev.now _) (ev_pos (by simp; omega) (ev_some ?_))))))
    simp [insK]
  | cons q t ih =>
    intro pre h
    have hm : ((pre.length : Nat) : Int) < (x0.length : Int) := by rw [h]; exact lt_mid
    have hg : rdOf ByteArray.empty x0 (pre.length : Int) = q := by rw [h]; exact rdOf_mid
    refine ev_succ ?_
    simp only [spec_l1PutS.l0, hg]
    refine ev_pos hm (ev_pos (by omega) ?_)
    unfold insK
    by_cases c : lessS q s = true
    · refine ev_pos c ?_
      rw [winc (by omega), if_pos c]
      have := ih (pre ++ [q]) (by rw [h]; simp)
      rw [len_one] at this
      simpa using this
    · refine ev_neg c ?_
      rw [if_neg c]
      by_cases d : q = s
      · refine ev_pos (tl_inj.2 d) (ev_some ?_)
        rw [if_pos d, h]
      · refine ev_neg (fun e => d (tl_inj.1 e)) (ev_bind _ (Ev.now _) (ev_pos (by omega) (ev_bind _ (Ev.now _) ?_)))
        have et : x0.take pre.length = pre := by rw [h]; simp
        have ed : x0.drop pre.length = q :: t := by rw [h]; simp
        have hl : x0.length = pre.length + (t.length + 1) := by rw [h]; simp
        rw [Int.toNat_natCast, et, ed, List.nil_append, if_neg d]
        refine ev_pos (by simp; omega) (ev_bind _ (Ev.now _) (ev_pos (by omega) (ev_bind _ (Ev.now _) (ev_bind _ (Ev.now _) (ev_pos (by simp; omega) (ev_some ?_))))))
        simp
theorem putS_f (l : List ByteArray) (s : ByteArray) (h : l.length ≤ 1000000) : Ev (fun k => spec_l1PutS.f k l s) (insK s l) := putS_l0 l s h l [] rfl
def Kys (m : Nat) (l : List ByteArray) : Prop := l.length ≤ m ∧ ∀ s ∈ l, s.size ≤ 13
theorem Kys.ins {m : Nat} {l : List ByteArray} (h : Kys m l) {s : ByteArray} (hs : s.size ≤ 13) : Kys (m + 1) (insK s l) :=
  ⟨by have := insK_len s l; have := h.1; omega, fun x hx => by exact (insK_mem s l x hx).elim (fun e => e ▸ hs) (h.2 x)⟩
theorem Kys.one {m : Nat} {l : List ByteArray} (h : Kys m l) {s : ByteArray} (hs : s.size ≤ 13) : Kys (m + 1) (l ++ [s]) :=
  ⟨by have := h.1; simp; omega, fun x hx => by exact (List.mem_append.1 hx).elim (h.2 x) (fun e => List.mem_singleton.1 e ▸ hs)⟩
theorem Kys.mono {m m' : Nat} {l : List ByteArray} (h : Kys m l) (hm : m ≤ m') : Kys m' l := ⟨Nat.le_trans h.1 hm, h.2⟩
theorem keys_l0 {s : List Int} (hs : Bys s) : ∀ (n m : Nat) (x : List ByteArray) (p sd : Int), Kys m x → m + n ≤ 1000 → 0 ≤ p → p + 12 * (n : Int) ≤ 500000000000000000 →
    Dr (fun k => spec_l1Cur_keys.l0 k x (n : Int) s p sd) p (12 * (n : Int)) (Kys (m + n)) := by
  intro n
  induction n with
  | zero =>
    intro m x p sd hx hm h0 h1
    refine ⟨x, p, sd, ev_succ ?_, hx, h0, by omega⟩
    simp only [spec_l1Cur_keys.l0]
    exact ev_neg (by omega) (Ev.now _)
  | succ n ih =>
    intro m x p sd hx hm h0 h1
    obtain ⟨v, p', sd', e, hv, q0, q1⟩ := key_ok hs sd h0 (by omega)
    have hl := hx.1
    obtain ⟨u, p2, sd2, eu, hu, r0, r1⟩ := ih (m + 1) (insK v x) p' sd' (hx.ins (by omega)) (by omega) q0 (by omega)
    refine ⟨u, p2, sd2, ev_succ ?_, hu.mono (by omega), r0, by omega⟩
    simp only [spec_l1Cur_keys.l0]
    refine ev_pos (by omega) (ev_bind _ e (ev_bind _ (putS_f x v (by omega)) ?_))
    rw [wdec (by omega)]
    exact eu
theorem keys_ok {s : List Int} (hs : Bys s) {p : Int} (sd : Int) {n : Nat} (hn : n ≤ 100) (h0 : 0 ≤ p) (h1 : p ≤ 400000000000000000) : Dr (fun k => spec_l1Cur_keys.f k s p sd (n : Int)) p (12 * (n : Int) + 2) (Kys n) := by
  obtain ⟨v, p', sd', e, hv, q0, q1⟩ := pick_ok hs sd (n := (n : Int) + 1) h0 (by omega)
  obtain ⟨u, p2, sd2, eu, hu, r0, r1⟩ := keys_l0 hs v.toNat 0 [] p' sd' ⟨by simp, by simp⟩ (by omega) q0 (by omega)
  refine ⟨u, p2, sd2, ?_, hu.mono (by omega), r0, by omega⟩
  unfold spec_l1Cur_keys.f
  rw [w64 (x := (n : Int) + 1) (by omega) (by omega), e]
  refine ev_bind _ (Ev.now _) ?_
  rw [show ((v.toNat : Nat) : Int) = v from by omega] at eu
  exact eu
end Go.Proofs.YtpkpjikkfikejaaQ
namespace Go.Proofs.YtpkpjikkfikejaaQ
open Go Go.RowKit Go.Proofs.YtpkpjikkfikejaaW.PrintWords Go.Proofs.YtpkpjikkfikejaaGp Go.Proofs.Ytpkpjikkfikejaa.PA

theorem Dr.mono {α : Type} {g : Nat → Option (α × Int × Int)} {p c c' : Int} {P P' : α → Prop} (h : Dr g p c P) (hc : c ≤ c') (hP : ∀ x, P x → P' x) : Dr g p c' P' := by
  obtain ⟨v, p', sd', e, hv, q0, q1⟩ := h
  exact ⟨v, p', sd', e, hP v hv, q0, by omega⟩
theorem seed9_ok {s : List Int} (hs : Bys s) {p : Int} (sd : Int) (h0 : 0 ≤ p) (h1 : p ≤ 1000000000000000000) :
    ∃ v p' sd', spec_l1Cur_seed9.f s p sd = some (v, p', sd') ∧ (-1 ≤ v ∧ v ≤ 10000) ∧ 0 ≤ p' ∧ p' ≤ p + 4 := by
  obtain ⟨v, p', sd', e, hv, q0, q1⟩ := pick_ok hs sd (n := 12) h0 (by omega)
  unfold spec_l1Cur_seed9.f
  rw [e]
  simp only [Option.bind_some]
  by_cases c : v = 0
  · obtain ⟨u, p2, sd2, eu, hu, r0, r1⟩ := among_ok hs sd' (l := [(-1), 9999, 10000]) (by simp) q0 (by omega)
    rw [if_pos c, eu]
    refine ⟨u, p2, sd2, rfl, ?_, r0, by omega⟩
    simp only [List.mem_cons, List.not_mem_nil, or_false] at hu
    omega
  · rw [if_neg c]
    by_cases d : v = 1
    · obtain ⟨u, p2, sd2, eu, hu, r0, r1⟩ := pick_ok hs sd' (n := 10000) q0 (by omega)
      rw [if_pos d, eu]
      exact ⟨u, p2, sd2, rfl, by omega, r0, by omega⟩
    · obtain ⟨u, p2, sd2, eu, hu, r0, r1⟩ := pick_ok hs sd' (n := 20) q0 (by omega)
      rw [if_neg d, eu]
      exact ⟨u, p2, sd2, rfl, by omega, r0, by omega⟩
theorem of_ok {s : List Int} (hs : Bys s) {p : Int} (sd : Int) {l : List ByteArray} (hl : 0 < l.length) (h0 : 0 ≤ p) (h1 : p ≤ 3000000000000000000) :
    ∃ v p' sd', spec_l1Cur_of.f s p sd l = some (v, p', sd') ∧ v ∈ l ∧ 0 ≤ p' ∧ p' ≤ p + 2 := by
  obtain ⟨v, p', sd', e, hv, q0, q1⟩ := pick_ok hs sd (n := (l.length : Int)) h0 h1
  have hm : rdOf ByteArray.empty l v ∈ l := by
    unfold rdOf
    have : v.toNat < l.length := by omega
    rw [List.getD_eq_getElem?_getD, List.getElem?_eq_getElem this]
    exact List.getElem_mem this
  unfold spec_l1Cur_of.f
  rw [e]
  simp only [Option.bind_some]
  rw [if_pos (by omega), if_pos (by omega)]
  exact ⟨_, _, _, rfl, hm, q0, q1⟩
theorem text_ok {s : List Int} (hs : Bys s) {p : Int} (sd : Int) (h0 : 0 ≤ p) (h1 : p ≤ 500000000000000000) : Dr (fun k => spec_l1Cur_text.f k s p sd) p 14 (fun v => v.size ≤ 13) := by
  obtain ⟨v, p', sd', e, hv, q0, q1⟩ := pick_ok hs sd (n := 16) h0 (by omega)
  obtain ⟨u, p2, sd2, eu, hu, r0, r1⟩ := key_ok hs sd' q0 (by omega)
  unfold spec_l1Cur_text.f
  rw [e]
  simp only [Option.bind_some]
  by_cases c0 : v = 0
  · exact ⟨_, p', sd', ev_pos c0 (Ev.now _), by decide, q0, by omega⟩
  · by_cases c1 : v = 1
    · have h1 : (⟨#[32]⟩ : ByteArray).size = 1 := rfl
      refine ⟨u ++ ⟨#[32]⟩, p2, sd2, ev_neg c0 (ev_pos c1 (ev_bind _ eu (ev_pos (by simp only []; omega) (Ev.now _)))), ?_, r0, by omega⟩
      show (u ++ ⟨#[32]⟩ : ByteArray).size ≤ 13
      rw [ByteArray.size_append]
      omega
    · by_cases c2 : v = 2
      · exact ⟨_, p', sd', ev_neg c0 (ev_neg c1 (ev_pos c2 (Ev.now _))), by decide, q0, by omega⟩
      · by_cases c3 : v = 3
        · obtain ⟨x, p3, sd3, ex, hx, t0, t1⟩ := of_ok hs sd' (l := [(⟨#[126]⟩ : ByteArray), (⟨#[125]⟩ : ByteArray), (⟨#[97, 126]⟩ : ByteArray), (⟨#[127]⟩ : ByteArray)]) (by simp) q0 (by omega)
          refine ⟨x, p3, sd3, ev_neg c0 (ev_neg c1 (ev_neg c2 (ev_pos c3 ?_))), ?_, t0, by omega⟩
          · rw [ex]; exact ev_bind _ (Ev.now _) (Ev.now _)
          · simp only [List.mem_cons, List.not_mem_nil, or_false] at hx
            rcases hx with rfl | rfl | rfl | rfl <;> decide
        · exact ⟨u, p2, sd2, ev_neg c0 (ev_neg c1 (ev_neg c2 (ev_neg c3 (ev_bind _ eu (Ev.now _))))), by omega, r0, by omega⟩
theorem big_f {l0 l1 : List Int} (h0 : l0.length ≤ maxLen) (h1 : l1.length ≤ maxLen) : ∃ b, laws_big.f l0 l1 = some b ∧ (b = false → (l0.length : Int) ≤ 1048576 ∧ (l1.length : Int) ≤ 1048576) := by
  rw [maxLen_eq] at h0 h1
  unfold laws_big.f
  by_cases c : (l0.length : Int) > 1048576
  · exact ⟨true, if_pos c, by simp⟩
  · refine ⟨_, if_neg c, fun h => ?_⟩
    rw [decide_eq_false_iff_not, w64 (by omega) (by omega)] at h
    omega
theorem bys {l : List Int} (h : (l.length : Int) ≤ 1048576) (hw : ∀ x ∈ l, (Lit.int .u8 x).wf = true) : Bys l := by
  refine ⟨h, fun x hx => ?_⟩
  have := hw x hx
  simp only [Lit.wf, Bool.and_eq_true, decide_eq_true_eq] at this
  exact this
end Go.Proofs.YtpkpjikkfikejaaQ
namespace Go.Proofs.YtpkpjikkfikejaaQ
open Go Go.RowKit Go.Proofs.YtpkpjikkfikejaaW.PrintWords Go.Proofs.YtpkpjikkfikejaaGp Go.Proofs.Ytpkpjikkfikejaa.PA

theorem biNew_ok {n : Int} (h0 : 0 ≤ n) (h1 : n ≤ 100000) : spec_biNew.f n = some (n, blankV n) := by
  unfold spec_biNew.f
  rw [w64 (x := n + 15) (by omega) (by omega), Int.tdiv_eq_ediv_of_nonneg (by omega), w64 (by omega) (by omega), if_pos (by omega), if_pos (by omega)]
  rfl
theorem blankV_le {n : Int} (h0 : 0 ≤ n) : ((blankV n).length : Int) = (n + 15) / 16 := by simp [blankV]; omega
theorem biSome_l0 (B : List Bool) (n : Int) (hB : B.length ≤ 1000000) : ∀ (t pre : List Bool) (l : List Int), B = pre ++ t → B.length ≤ 16 * l.length →
    ∃ l', Ev (fun k => spec_biSome.l0 k B (B.length : Int) (pre.length : Int) n l) (n, l') ∧ l'.length = l.length := by
  intro t
  induction t with
  | nil =>
    intro pre l h hl
    refine ⟨l, ev_succ ?_, rfl⟩
    simp only [spec_biSome.l0]
    exact ev_neg (by rw [h]; exact not_lt_end) (Ev.now _)
  | cons b t ih =>
    intro pre l h hl
    have hm : ((pre.length : Nat) : Int) < (B.length : Int) := by rw [h]; exact lt_mid
    have hg : rdOf false B (pre.length : Int) = b := by rw [h]; exact rdOf_mid
    by_cases c : b = true
    · obtain ⟨l', e, el⟩ := ih (pre ++ [b]) (setV l (pre.length : Int)) (by rw [h]; simp) (by rw [setV_len]; exact hl)
      rw [len_one] at e
      refine ⟨l', ev_succ ?_, by rw [el, setV_len]⟩
      simp only [spec_biSome.l0, hg]
      rw [winc (by omega)]
      exact ev_pos hm (ev_pos (by omega) (ev_pos hm (ev_pos c (ev_bind (setV l (pre.length : Int)) (by rw [spec_biSet_f n l (by omega) (by omega) (by omega)]; exact Ev.now _) e))))
    · obtain ⟨l', e, el⟩ := ih (pre ++ [b]) l (by rw [h]; simp) hl
      rw [len_one] at e
      refine ⟨l', ev_succ ?_, el⟩
      simp only [spec_biSome.l0, hg]
      rw [winc (by omega)]
      exact ev_pos hm (ev_pos (by omega) (ev_pos hm (ev_neg c e)))
theorem biSome_ok (B : List Bool) (hB : B.length ≤ 1000) : ∃ l, Ev (fun k => spec_biSome.f k B) ((B.length : Int), l) ∧ l.length ≤ 100 := by
  have hb := blankV_le (n := (B.length : Int)) (by omega)
  obtain ⟨l, e, el⟩ := biSome_l0 B (B.length : Int) (by omega) B [] (blankV (B.length : Int)) rfl (by omega)
  refine ⟨l, ?_, by omega⟩
  unfold spec_biSome.f
  rw [biNew_ok (by omega) (by omega)]
  exact ev_bind _ (Ev.now _) e
def DrB (g : Nat → Option (Int × List Int × Int × Int)) (p c : Int) : Prop := ∃ n l p' sd', Ev g (n, l, p', sd') ∧ ((-10 ≤ n ∧ n ≤ 5000) ∧ (l : List Int).length ≤ 1000) ∧ 0 ≤ p' ∧ p' ≤ p + c
theorem bits_l0 {s : List Int} (hs : Bys s) : ∀ (n : Nat) (x : List Bool) (p sd : Int), x.length + n ≤ 1000 → 0 ≤ p → p + 2 * (n : Int) ≤ 900000000000000000 →
    ∃ m l p' sd', Ev (fun k => spec_l1Cur_bits.l0 k x (n : Int) s p sd) (m, l, p', sd') ∧ ((0 ≤ m ∧ m ≤ 1000) ∧ (l : List Int).length ≤ 100) ∧ 0 ≤ p' ∧ p' ≤ p + 2 * (n : Int) := by
  intro n
  induction n with
  | zero =>
    intro x p sd hx h0 h1
    obtain ⟨l, e, hl⟩ := biSome_ok x (by omega)
    refine ⟨(x.length : Int), l, p, sd, ev_succ ?_, ⟨by omega, hl⟩, h0, by omega⟩
    simp only [spec_l1Cur_bits.l0]
    exact ev_neg (by omega) (ev_bind _ e (Ev.now _))
  | succ n ih =>
    intro x p sd hx h0 h1
    obtain ⟨v, p', sd', e, q0, q1⟩ := one_ok hs sd 2 h0 (by omega)
    obtain ⟨m, l, p2, sd2, e2, hm, r0, r1⟩ := ih (x ++ [v]) p' sd' (by simp; omega) q0 (by omega)
    refine ⟨m, l, p2, sd2, ev_succ ?_, hm, r0, by omega⟩
    simp only [spec_l1Cur_bits.l0, e]
    refine ev_pos (by omega) (ev_bind _ (Ev.now _) (ev_pos (by omega) ?_))
    rw [wdec (by omega)]
    exact e2
theorem bits_ok {s : List Int} (hs : Bys s) {p : Int} (sd : Int) {n : Nat} (hn : n ≤ 200) (h0 : 0 ≤ p) (h1 : p ≤ 500000000000000000) :
    ∃ m l p' sd', Ev (fun k => spec_l1Cur_bits.f k s p sd (n : Int)) (m, l, p', sd') ∧ ((0 ≤ m ∧ m ≤ 1000) ∧ (l : List Int).length ≤ 100) ∧ 0 ≤ p' ∧ p' ≤ p + 500 := by
  unfold spec_l1Cur_bits.f
  rw [winc (by omega)]
  obtain ⟨v, p', sd', e, hv, q0, q1⟩ := pick_ok hs sd (n := ((n + 1 : Nat) : Int)) h0 (by omega)
  obtain ⟨m, l, p2, sd2, e2, hm, r0, r1⟩ := bits_l0 hs v.toNat [] p' sd' (by simp; omega) q0 (by omega)
  refine ⟨m, l, p2, sd2, ?_, hm, r0, by omega⟩
  rw [e]
  refine ev_bind _ (Ev.now _) ?_
  rw [show ((v.toNat : Nat) : Int) = v from by omega] at e2
  exact e2
theorem anyBits_ok {s : List Int} (hs : Bys s) {p : Int} (sd : Int) (h0 : 0 ≤ p) (h1 : p ≤ 400000000000000000) : DrB (fun k => spec_l1Cur_anyBits.f k s p sd) p 600 := by
  obtain ⟨m, l, p1, sd1, e1, ⟨hm, hl⟩, q0, q1⟩ := bits_ok hs sd (n := 40) (by omega) h0 (by omega)
  obtain ⟨v, p2, sd2, e2, hv, r0, r1⟩ := pick_ok hs sd1 (n := 16) q0 (by omega)
  have first : ∀ {r : Int × List Int × Int × Int} {g : Nat → Int × List Int × Int × Int → Option (Int × List Int × Int × Int)}, Ev (fun k => g k (m, l, p1, sd1)) r → Ev (fun k => (spec_l1Cur_bits.f k s p sd 40).bind (g k)) r := fun h => ev_bind _ e1 h
  unfold spec_l1Cur_anyBits.f
  by_cases c0 : v = 0
  · obtain ⟨u, p3, sd3, e3, hu, t0, t1⟩ := pick_ok hs sd2 (n := 2) r0 (by omega)
    refine ⟨m, l ++ [u], p3, sd3, first ?_, ⟨by omega, by simp; omega⟩, t0, by omega⟩
    simp only [e2]
    refine ev_bind _ (Ev.now _) (ev_pos c0 ?_)
    simp only [e3]
    exact ev_bind _ (Ev.now _) (ev_pos (by omega) (Ev.now _))
  by_cases c1 : v = 1
  · obtain ⟨u, p3, sd3, e3, hu, t0, t1⟩ := pick_ok hs sd2 (n := 3) r0 (by omega)
    refine ⟨wrap64 (m + wrap64 (u - 1)), l, p3, sd3, first ?_, ⟨?_, by omega⟩, t0, by omega⟩
    · simp only [e2]
      refine ev_bind _ (Ev.now _) (ev_neg c0 (ev_pos c1 ?_))
      simp only [e3]
      exact ev_bind _ (Ev.now _) (Ev.now _)
    · rw [w64 (x := u - 1) (by omega) (by omega), w64 (by omega) (by omega)]
      omega
  by_cases c2 : v = 2
  · by_cases cl : (l.length : Int) > 0
    · obtain ⟨u, p3, sd3, e3, hu, t0, t1⟩ := pick_ok hs sd2 (n := (l.length : Int)) r0 (by omega)
      obtain ⟨x, p4, sd4, e4, hx, z0, z1⟩ := among_ok hs sd3 (l := [(-1), 65535, 65536, 40000]) (by simp) t0 (by omega)
      refine ⟨m, l.set u.toNat x, p4, sd4, first ?_, ⟨by omega, by simp; omega⟩, z0, by omega⟩
      simp only [e2]
      refine ev_bind _ (Ev.now _) (ev_neg c0 (ev_neg c1 (ev_pos c2 (ev_pos cl ?_))))
      simp only [e3]
      refine ev_bind _ (Ev.now _) ?_
      simp only [e4]
      exact ev_bind _ (Ev.now _) (ev_pos (by omega) (ev_pos (by omega) (Ev.now _)))
    · refine ⟨m, l, p2, sd2, first ?_, ⟨by omega, by omega⟩, r0, by omega⟩
      simp only [e2]
      exact ev_bind _ (Ev.now _) (ev_neg c0 (ev_neg c1 (ev_pos c2 (ev_neg cl (Ev.now _)))))
  by_cases c3 : v = 3
  · obtain ⟨u, p3, sd3, e3, hu, t0, t1⟩ := pick_ok hs sd2 (n := 2) r0 (by omega)
    have hw : wrap64 (4096 - u) = 4096 - u := w64 (by omega) (by omega)
    have hb := blankV_le (n := 4096 - u) (by omega)
    refine ⟨4096 - u, blankV (4096 - u), p3, sd3, first ?_, ⟨by omega, by omega⟩, t0, by omega⟩
    simp only [e2]
    refine ev_bind _ (Ev.now _) (ev_neg c0 (ev_neg c1 (ev_neg c2 (ev_pos c3 ?_))))
    simp only [e3]
    refine ev_bind _ (Ev.now _) ?_
    rw [hw, biNew_ok (by omega) (by omega)]
    exact ev_bind _ (Ev.now _) (Ev.now _)
  by_cases c4 : v = 4
  · obtain ⟨u, p3, sd3, e3, hu, t0, t1⟩ := pick_ok hs sd2 (n := 5) r0 (by omega)
    have hw : wrap64 (16 * u) = 16 * u := w64 (by omega) (by omega)
    have hb := blankV_le (n := 16 * u) (by omega)
    refine ⟨16 * u, blankV (16 * u), p3, sd3, first ?_, ⟨by omega, by omega⟩, t0, by omega⟩
    simp only [e2]
    refine ev_bind _ (Ev.now _) (ev_neg c0 (ev_neg c1 (ev_neg c2 (ev_neg c3 (ev_pos c4 ?_)))))
    simp only [e3]
    refine ev_bind _ (Ev.now _) ?_
    rw [hw, biNew_ok (by omega) (by omega)]
    exact ev_bind _ (Ev.now _) (Ev.now _)
  · refine ⟨m, l, p2, sd2, first ?_, ⟨by omega, by omega⟩, r0, by omega⟩
    simp only [e2]
    exact ev_bind _ (Ev.now _) (ev_neg c0 (ev_neg c1 (ev_neg c2 (ev_neg c3 (ev_neg c4 (Ev.now _))))))
theorem probes_ok {s : List Int} (hs : Bys s) {p : Int} (sd : Int) (h0 : 0 ≤ p) (h1 : p ≤ 400000000000000000) : ∃ v p' sd', spec_l1Cur_probes.f s p sd = some (v, p', sd') ∧ 0 ≤ p' ∧ p' ≤ p + 10 := by
  obtain ⟨b, p1, sd1, e1, q0, q1⟩ := one_ok hs sd 10 h0 (by omega)
  unfold spec_l1Cur_probes.f
  rw [e1]
  simp only [Option.bind_some]
  by_cases c : b = true
  · obtain ⟨u, p2, sd2, e2, hu, r0, r1⟩ := among_ok hs sd1 (l := [(-1), 0, 8, 9]) (by simp) q0 (by omega)
    rw [if_pos c, e2]
    exact ⟨u, p2, sd2, rfl, r0, by omega⟩
  · obtain ⟨u, p2, sd2, e2, hu, r0, r1⟩ := pick_ok hs sd1 (n := 4) q0 (by omega)
    rw [if_neg c, e2]
    exact ⟨wrap64 (1 + u), p2, sd2, rfl, r0, by omega⟩
def DrF (g : Nat → Option (Int × Int × Int × List Int × Int × Int)) (p c : Int) : Prop := ∃ a b n l p' sd', Ev g (a, b, n, l, p', sd') ∧ (l : List Int).length ≤ 1000 ∧ 0 ≤ p' ∧ p' ≤ p + c
theorem bloom_ok {s : List Int} (hs : Bys s) {p : Int} (sd : Int) (h0 : 0 ≤ p) (h1 : p ≤ 100000000000000000) : DrF (fun k => spec_l1Cur_bloom.f k s p sd) p 1000 := by
  obtain ⟨v1, p1, sd1, e1, hv1, q0, q1⟩ := pick_ok hs sd (n := 20) h0 (by omega)
  obtain ⟨v2, p2, sd2, e2, hv2, r0, r1⟩ := pick_ok hs sd1 (n := 4) q0 (by omega)
  obtain ⟨v3, p3, sd3, e3, hv3, t0, t1⟩ := among_ok hs sd2 (l := [4, 16, 40, 120]) (by simp) r0 (by omega)
  obtain ⟨v4, p4, sd4, e4, hv4, z0, z1⟩ := pick_ok hs sd3 (n := v3) t0 (by omega)
  obtain ⟨v5, p5, sd5, e5, hv5, y0, y1⟩ := among_ok hs sd4 (l := [2, 5, 9]) (by simp) z0 (by omega)
  simp only [List.mem_cons, List.not_mem_nil, or_false] at hv3 hv5
  obtain ⟨ks, p6, sd6, e6, hk, x0, x1⟩ := keys_ok hs sd5 (n := v5.toNat) (by omega) y0 (by omega)
  rw [show ((v5.toNat : Nat) : Int) = v5 from by omega] at e6
  obtain ⟨v7, p7, sd7, e7, hv7, o0, o1⟩ := pick_ok hs sd6 (n := 30) x0 (by omega)
  have hw2 : wrap64 (1 + v2) = 1 + v2 := w64 (by omega) (by omega)
  have hw4 : wrap64 (1 + v4) = 1 + v4 := w64 (by omega) (by omega)
  have hb := blankV_le (n := 1 + v4) (by omega)
  have hnew : spec_fiNew.f v1 (1 + v2) (1 + v4) = some (v1, 1 + v2, 1 + v4, blankV (1 + v4)) := by
    unfold spec_fiNew.f
    rw [biNew_ok (by omega) (by omega)]
    rfl
  have hadd := spec_fiAdd_f v1 (1 + v2) (1 + v4) (blankV (1 + v4)) ks (by have := hk.1; omega) (fun x hx => by have := hk.2 x hx; omega) (by omega) (by omega) (by omega) (by omega) (by omega) (by omega) (by omega) (by omega)
  have hal : (addK v1 (1 + v2).toNat (1 + v4) (blankV (1 + v4)) ks).length ≤ 100 := by rw [addK_len]; omega
  generalize hL : addK v1 (1 + v2).toNat (1 + v4) (blankV (1 + v4)) ks = L at hadd hal
  have go : ∀ {r : Int × Int × Int × List Int × Int × Int}, Ev (fun k => (if v7 = 0 then ((spec_l1Cur_seed9.f s p7 sd7).bind fun bt436 => (some (bt436.1, 1 + v2, 1 + v4, L, bt436.2.1, bt436.2.2))) else (if v7 = 1 then ((spec_l1Cur_probes.f s p7 sd7).bind fun bt439 => (some (v1, bt439.1, 1 + v4, L, bt439.2.1, bt439.2.2))) else (if v7 = 2 then ((spec_l1Cur_anyBits.f k s p7 sd7).bind fun bt442 => (some (v1, 1 + v2, bt442.1, bt442.2.1, bt442.2.2.1, bt442.2.2.2))) else (if v7 = 3 then (some (v1, 1 + v2, wrap64 (1 + v4 + 1), L, p7, sd7)) else (some (v1, 1 + v2, 1 + v4, L, p7, sd7))))))) r →
      Ev (fun k => spec_l1Cur_bloom.f k s p sd) r := fun {r} h => by
    unfold spec_l1Cur_bloom.f
    simp only [e1, Option.bind_some, e2, e3, e4, hw2, hw4, hnew, e5]
    refine ev_bind _ e6 (ev_bind _ hadd ?_)
    simp only [e7, Option.bind_some]
    exact h
  by_cases c0 : v7 = 0
  · obtain ⟨u, p8, sd8, e8, _, w0, w1⟩ := seed9_ok hs sd7 o0 (by omega)
    refine ⟨u, 1 + v2, 1 + v4, L, p8, sd8, go (ev_pos c0 ?_), by omega, w0, by omega⟩
    rw [e8]
    exact ev_bind _ (Ev.now _) (Ev.now _)
  by_cases c1 : v7 = 1
  · obtain ⟨u, p8, sd8, e8, w0, w1⟩ := probes_ok hs sd7 o0 (by omega)
    refine ⟨v1, u, 1 + v4, L, p8, sd8, go (ev_neg c0 (ev_pos c1 ?_)), by omega, w0, by omega⟩
    rw [e8]
    exact ev_bind _ (Ev.now _) (Ev.now _)
  by_cases c2 : v7 = 2
  · obtain ⟨n, l, p8, sd8, e8, hl, w0, w1⟩ := anyBits_ok hs sd7 o0 (by omega)
    exact ⟨v1, 1 + v2, n, l, p8, sd8, go (ev_neg c0 (ev_neg c1 (ev_pos c2 (ev_bind _ e8 (Ev.now _))))), hl.2, w0, by omega⟩
  by_cases c3 : v7 = 3
  · exact ⟨v1, 1 + v2, wrap64 (1 + v4 + 1), L, p7, sd7, go (ev_neg c0 (ev_neg c1 (ev_neg c2 (ev_pos c3 (Ev.now _))))), by omega, o0, by omega⟩
  · exact ⟨v1, 1 + v2, 1 + v4, L, p7, sd7, go (ev_neg c0 (ev_neg c1 (ev_neg c2 (ev_neg c3 (Ev.now _))))), by omega, o0, by omega⟩
end Go.Proofs.YtpkpjikkfikejaaQ
namespace Go.Proofs.YtpkpjikkfikejaaQ
open Go Go.RowKit Go.Proofs.YtpkpjikkfikejaaW.PrintWords Go.Proofs.YtpkpjikkfikejaaGp Go.Proofs.Ytpkpjikkfikejaa.PA

def atV (l : List Int) (p : Int) : Bool := Go.bits .and .i64 (shr .i64 (rd l (p / 16)) (p % 16)) 1 == 1
theorem div16' {p : Int} (h0 : 0 ≤ p) (h1 : p ≤ 1000000) : wrap64 (Int.tdiv p 16) = p / 16 ∧ Int.tmod p 16 = p % 16 := by
  rw [Int.tdiv_eq_ediv_of_nonneg h0, Int.tmod_eq_emod_of_nonneg h0, w64 (by omega) (by omega)]
  exact ⟨rfl, rfl⟩
theorem spec_biAt_f (n : Int) (l : List Int) {p : Int} (h0 : 0 ≤ p) (h1 : p ≤ 1000000) (h2 : p / 16 < (l.length : Int)) : spec_biAt.f n l p = some (atV l p) := by
  unfold spec_biAt.f
  rw [(div16' h0 h1).1, (div16' h0 h1).2, if_pos (by omega), if_pos h2, if_pos (by omega)]
  rfl
theorem impl_Bits_at_f (n : Int) (l : List Int) {p : Int} (h0 : 0 ≤ p) (h1 : p ≤ 1000000) (h2 : p / 16 < (l.length : Int)) : impl_Bits_at.f n l p = some (atV l p) := by
  unfold impl_Bits_at.f
  rw [(div16' h0 h1).1, (div16' h0 h1).2, if_pos (by omega), if_pos h2, if_pos (by omega)]
  rfl
def saysV (a0 a1 n : Int) (l : List Int) (s : ByteArray) : Bool := (probesL a0 s n a1.toNat 0).all (atV l)
theorem spec_fiHas_l0 (a0 a1 n : Int) (l : List Int) (x20 : List Int) (hl : (x20.length : Int) ≤ 9223372036854775806) : ∀ (t pre : List Int), x20 = pre ++ t → (∀ p ∈ t, 0 ≤ p ∧ p ≤ 1000000 ∧ p / 16 < (l.length : Int)) →
    Ev (fun k => spec_fiHas.l0 k x20 (x20.length : Int) (pre.length : Int) a0 a1 n l) (t.all (atV l)) := by
  intro t
  induction t with
  | nil =>
    intro pre e hp
    refine ev_succ ?_
    simp only [spec_fiHas.l0]
    exact ev_neg (by rw [e]; exact not_lt_end) (ev_some rfl)
  | cons s t ih =>
    intro pre e hp
    have hm : ((pre.length : Nat) : Int) < (x20.length : Int) := by rw [e]; exact lt_mid
    have hg : rd x20 (pre.length : Int) = s := by rw [e]; exact rd_mid
    obtain ⟨p0, p1, p2⟩ := hp s (by simp)
    refine ev_succ ?_
    simp only [spec_fiHas.l0, hg]
    refine ev_pos hm (ev_pos (by omega) (ev_pos hm (ev_bind (atV l s) (by rw [spec_biAt_f n l p0 p1 p2]; exact Ev.now _) ?_)))
    by_cases c : atV l s = true
    · refine ev_pos c ?_
      rw [winc (by omega)]
      have := ih (pre ++ [s]) (by rw [e]; simp) (fun p h => hp p (by simp [h]))
      rw [len_one] at this
      simpa [c] using this
    · exact ev_neg c (ev_some (by simp [c]))
theorem spec_fiHas_f (a0 a1 n : Int) (l : List Int) (s : ByteArray) (hz : (s.size : Int) ≤ 9223372036854775806) (h0 : 0 ≤ a0) (h0' : a0 ≤ 1000000) (h1 : 0 ≤ a1) (h1' : a1 ≤ 1000000)
    (hn : 1 ≤ n) (hn' : n ≤ 1000000) (hl : (n + 15) / 16 ≤ (l.length : Int)) : Ev (fun k => spec_fiHas.f k a0 a1 n l s) (saysV a0 a1 n l s) := by
  unfold spec_fiHas.f
  refine ev_bind _ (spec_fiProbes_f a0 a1 n s hz h0 h0' h1 h1') ?_
  exact spec_fiHas_l0 a0 a1 n l _ (by rw [probesL_len]; omega) _ [] rfl (fun p h => by
    obtain ⟨x, y⟩ := probesL_range a0 s hn hn' _ _ p h
    exact ⟨x, by omega, by omega⟩)
theorem impl_says_l0 (a0 a1 n : Int) (l : List Int) (s : ByteArray) (hz : (s.size : Int) ≤ 9223372036854775806) (h0 : 0 ≤ a0) (h0' : a0 ≤ 1000000) (h1' : a1 ≤ 1000000)
    (hn : 1 ≤ n) (hn' : n ≤ 1000000) (hl : (n + 15) / 16 ≤ (l.length : Int)) : ∀ (m i : Nat), ((i + m : Nat) : Int) = a1 → Ev (fun k => impl_Bloom_says.l0 k s a1 (i : Int) a0 a1 n l) ((probesL a0 s n m i).all (atV l)) := by
  intro m
  induction m with
  | zero =>
    intro i e
    refine ev_succ ?_
    simp only [impl_Bloom_says.l0, probesL]
    exact ev_neg (by omega) (ev_some rfl)
  | succ m ih =>
    intro i e
    obtain ⟨p0, p1⟩ := placeV_range a0 (i : Int) s hn hn'
    refine ev_succ ?_
    simp only [impl_Bloom_says.l0, probesL]
    refine ev_pos (by omega) (ev_bind _ (impl_place_f a0 (i : Int) s n hz h0 h0' (by omega) (by omega)) (ev_bind (atV l (placeV a0 (i : Int) s n)) (by rw [impl_Bits_at_f n l p0 (by omega) (by omega)]; exact Ev.now _) ?_))
    by_cases c : atV l (placeV a0 (i : Int) s n) = true
    · refine ev_pos c ?_
      rw [winc (by omega)]
      have := ih (i + 1) (by omega)
      simpa [c] using this
    · exact ev_neg c (ev_some (by simp [c]))
theorem impl_says_f (a0 a1 n : Int) (l : List Int) (s : ByteArray) (hz : (s.size : Int) ≤ 9223372036854775806) (h0 : 0 ≤ a0) (h0' : a0 ≤ 1000000) (h1 : 0 ≤ a1) (h1' : a1 ≤ 1000000)
    (hn : 1 ≤ n) (hn' : n ≤ 1000000) (hl : (n + 15) / 16 ≤ (l.length : Int)) : Ev (fun k => impl_Bloom_says.f k a0 a1 n l s) (saysV a0 a1 n l s) := by
  unfold impl_Bloom_says.f
  have := impl_says_l0 a0 a1 n l s hz h0 h0' h1' hn hn' hl a1.toNat 0 (by omega)
  exact this
end Go.Proofs.YtpkpjikkfikejaaQ
namespace Go.Proofs.YtpkpjikkfikejaaQ
open Go Go.RowKit Go.Proofs.YtpkpjikkfikejaaW.PrintWords Go.Proofs.YtpkpjikkfikejaaW.PrintMore Go.Proofs.YtpkpjikkfikejaaGp

theorem wraps_i64 (n : Int) (h0 : 0 ≤ n) (h1 : n < 2 ^ 62) : IntKind.i64.wrap n = n := by
  rw [IntKind.wrap_i64]
  have : (2 : Int) ^ 62 = 4611686018427387904 := by decide
  omega
theorem bits64 (a b : Nat) (ha : a < 2 ^ 62) (hb : b < 2 ^ 62) : Go.bits .and .i64 a b = ((a &&& b : Nat) : Int) ∧ Go.bits .or .i64 a b = ((a ||| b : Nat) : Int) :=
  bits_nat .i64 62 (by decide) wraps_i64 a b ha hb
theorem two62 : (2 : Nat) ^ 62 = 4611686018427387904 := by decide
theorem pow16 {j : Nat} (h : j < 16) : 2 ^ j < 65536 := by
  have : 2 ^ j ≤ 2 ^ 15 := Nat.pow_le_pow_right (by decide) (by omega)
  have e : (2 : Nat) ^ 15 = 32768 := by decide
  omega
theorem shl1 {j : Nat} (h : j < 16) : shl .i64 1 (j : Int) = ((2 ^ j : Nat) : Int) := by
  unfold shl
  have hj : min (j : Int).toNat IntKind.i64.bits = j := by simp [IntKind.bits]; omega
  rw [hj, Int.one_mul, show ((2 : Int) ^ j) = ((2 ^ j : Nat) : Int) from by simp]
  have hp := pow16 h
  generalize 2 ^ j = z at hp ⊢
  refine wraps_i64 _ (by omega) ?_
  have : (2 : Int) ^ 62 = 4611686018427387904 := by decide
  omega
theorem shrN {w j : Nat} (h : j < 16) : shr .i64 (w : Int) (j : Int) = ((w / 2 ^ j : Nat) : Int) := by
  unfold shr
  have hj : min (j : Int).toNat IntKind.i64.bits = j := by simp [IntKind.bits]; omega
  rw [hj]
  simp
theorem and1 {w j : Nat} (hw : w < 65536) (h : j < 16) : (Go.bits .and .i64 (shr .i64 (w : Int) (j : Int)) 1 == 1) = w.testBit j := by
  have hd : w / 2 ^ j ≤ w := Nat.div_le_self _ _
  have e : Go.bits .and .i64 ((w / 2 ^ j : Nat) : Int) ((1 : Nat) : Int) = (((w / 2 ^ j) &&& 1 : Nat) : Int) := (bits64 _ _ (by rw [two62]; omega) (by rw [two62]; omega)).1
  rw [shrN h, show (1 : Int) = ((1 : Nat) : Int) from rfl, e, Nat.and_one_is_mod, Nat.testBit_eq_decide_div_mod_eq]
  rw [Bool.eq_iff_iff]
  simp only [beq_iff_eq, decide_eq_true_eq]
  omega
theorem or1 {w j : Nat} (hw : w < 65536) (h : j < 16) : Go.bits .or .i64 (w : Int) (shl .i64 1 (j : Int)) = ((w ||| 2 ^ j : Nat) : Int) := by
  have := pow16 h
  rw [shl1 h]
  exact (bits64 _ _ (by rw [two62]; omega) (by rw [two62]; omega)).2
theorem or1_lt {w j : Nat} (hw : w < 65536) (h : j < 16) : w ||| 2 ^ j < 65536 := by
  have e : (65536 : Nat) = 2 ^ 16 := by decide
  rw [e] at hw ⊢
  have := pow16 h
  exact Nat.or_lt_two_pow hw (by omega)
def okW (l : List Int) : Prop := ∀ w ∈ l, 0 ≤ w ∧ w ≤ 65535
def bitN (l : List Int) (p : Nat) : Bool := (l.getD (p / 16) 0).toNat.testBit (p % 16)
theorem rdN {l : List Int} {p : Nat} (h : p / 16 < l.length) : rd l ((p : Int) / 16) = l.getD (p / 16) 0 := by
  have : ((p : Int) / 16) = ((p / 16 : Nat) : Int) := by omega
  rw [this, rd_get h, List.getD_eq_getElem?_getD, List.getElem?_eq_getElem h]
  rfl
theorem okW_get {l : List Int} (hl : okW l) {i : Nat} (h : i < l.length) : ∃ w : Nat, l.getD i 0 = (w : Int) ∧ w < 65536 := by
  have hm := hl _ (List.getElem_mem h)
  rw [List.getD_eq_getElem?_getD, List.getElem?_eq_getElem h]
  exact ⟨l[i].toNat, by simp; omega, by omega⟩
theorem atV_bit {l : List Int} (hl : okW l) {p : Nat} (h : p / 16 < l.length) : atV l (p : Int) = bitN l p := by
  obtain ⟨w, hw, hw2⟩ := okW_get hl h
  unfold atV bitN
  rw [rdN h, hw, show ((p : Int) % 16) = ((p % 16 : Nat) : Int) from by omega, and1 hw2 (by omega)]
  simp
theorem setV_get {l : List Int} (hl : okW l) {p : Nat} (h : p / 16 < l.length) : ∃ w : Nat, w < 65536 ∧ l.getD (p / 16) 0 = (w : Int) ∧ setV l (p : Int) = l.set (p / 16) ((w ||| 2 ^ (p % 16) : Nat) : Int) := by
  obtain ⟨w, hw, hw2⟩ := okW_get hl h
  refine ⟨w, hw2, hw, ?_⟩
  unfold setV
  rw [rdN h, hw, show ((p : Int) % 16) = ((p % 16 : Nat) : Int) from by omega, or1 hw2 (by omega)]
  congr 1
theorem okW_setV {l : List Int} (hl : okW l) {p : Nat} (h : p / 16 < l.length) : okW (setV l (p : Int)) := by
  obtain ⟨w, hw, _, e⟩ := setV_get hl h
  rw [e]
  intro x hx
  rcases List.mem_or_eq_of_mem_set hx with hx | rfl
  · exact hl x hx
  · have := or1_lt hw (show p % 16 < 16 by omega)
    omega
theorem bit_setV {l : List Int} (hl : okW l) {p q : Nat} (h : p / 16 < l.length) : bitN (setV l (p : Int)) q = (decide (p = q) || bitN l q) := by
  obtain ⟨w, hw, hg, e⟩ := setV_get hl h
  rw [e]
  unfold bitN
  by_cases c : p / 16 = q / 16
  · rw [← c, List.getD_eq_getElem?_getD, List.getElem?_set_self (by simpa using h), hg]
    simp only [Option.getD_some, Int.toNat_natCast, Nat.testBit_or, Nat.testBit_two_pow]
    rw [show decide (p % 16 = q % 16) = decide (p = q) from by
      rw [Bool.eq_iff_iff]; simp; omega, Bool.or_comm]
  · rw [List.getD_eq_getElem?_getD, List.getElem?_set_ne c, ← List.getD_eq_getElem?_getD, decide_eq_false (by omega), Bool.false_or]
end Go.Proofs.YtpkpjikkfikejaaQ
namespace Go.Proofs.YtpkpjikkfikejaaQ
open Go Go.RowKit Go.Proofs.YtpkpjikkfikejaaW.PrintWords Go.Proofs.YtpkpjikkfikejaaW.PrintMore Go.Proofs.YtpkpjikkfikejaaGp

theorem all16_ok {l : List Int} : all16 l = true ↔ okW l := by
  unfold all16 okW
  rw [List.all_eq_true]
  simp
theorem andN0 {w v : Nat} (h : ∀ j, w.testBit j = true → v.testBit j = true) : Go.bits .andNot .i64 (w : Int) (v : Int) = 0 := by
  have e : Go.bits .andNot .i64 (w : Int) (v : Int) = IntKind.i64.wrap (((BitVec.ofInt 64 (w : Int) &&& ~~~ BitVec.ofInt 64 (v : Int) : BitVec 64)).toNat : Int) := by unfold Go.bits; rfl
  have z : (BitVec.ofInt 64 (w : Int) &&& ~~~ BitVec.ofInt 64 (v : Int) : BitVec 64) = 0#64 := by
    rw [BitVec.ofInt_natCast, BitVec.ofInt_natCast]
    apply BitVec.eq_of_getLsbD_eq
    intro i hi
    simp only [BitVec.getLsbD_and, BitVec.getLsbD_not, BitVec.getLsbD_ofNat, hi, decide_true, Bool.true_and]
    have := h i
    cases hwi : w.testBit i with
    | false => simp
    | true => simp [this hwi]
  rw [e, z]
  rfl
theorem bit_word {l : List Int} {i j : Nat} (hj : j < 16) : bitN l (16 * i + j) = (l.getD i 0).toNat.testBit j := by
  unfold bitN
  rw [show (16 * i + j) / 16 = i from by omega, show (16 * i + j) % 16 = j from by omega]
theorem andN_word {l l' : List Int} (hl : okW l) (hl' : okW l') (h : ∀ q, bitN l q = true → bitN l' q = true) {i : Nat} (hi : i < l.length) (hi' : i < l'.length) : Go.bits .andNot .i64 (rd l (i : Int)) (rd l' (i : Int)) = 0 := by
  obtain ⟨w, hw, hw2⟩ := okW_get hl hi
  obtain ⟨v, hv, _⟩ := okW_get hl' hi'
  have r1 : rd l (i : Int) = (w : Int) := by rw [← hw]; rfl
  have r2 : rd l' (i : Int) = (v : Int) := by rw [← hv]; rfl
  rw [r1, r2]
  refine andN0 fun j hj => ?_
  by_cases c : j < 16
  · have := h (16 * i + j)
    rw [bit_word c, bit_word c, hw, hv] at this
    exact this hj
  · have : w.testBit j = false := Nat.testBit_lt_two_pow (Nat.lt_of_lt_of_le hw2 (by rw [show 65536 = 2 ^ 16 from rfl]; exact Nat.pow_le_pow_right (by omega) (by omega)))
    rw [this] at hj; cases hj
def inW (l : List Int) (ps : List Int) : Prop := ∀ p ∈ ps, 0 ≤ p ∧ p / 16 < (l.length : Int)
theorem atV_int {l : List Int} (hl : okW l) {p : Int} (h0 : 0 ≤ p) (h1 : p / 16 < (l.length : Int)) : atV l p = bitN l p.toNat := by
  have := atV_bit hl (p := p.toNat) (by omega)
  rwa [Int.toNat_of_nonneg h0] at this
theorem addP_ok : ∀ (ps l : List Int), okW l → inW l ps → okW (addP l ps) ∧ ∀ q, bitN (addP l ps) q = (bitN l q || ps.any fun p => decide (p.toNat = q))
  | [], l, h, _ => ⟨h, fun q => by simp [addP]⟩
  | p :: ps, l, h, hp => by
    obtain ⟨p0, p1⟩ := hp p (by simp)
    have e : setV l p = setV l ((p.toNat : Nat) : Int) := by rw [Int.toNat_of_nonneg p0]
    have h1 : okW (setV l p) := by rw [e]; exact okW_setV h (by omega)
    obtain ⟨g1, g2⟩ := addP_ok ps (setV l p) h1 (fun x hx => by rw [setV_len]; exact hp x (by simp [hx]))
    refine ⟨g1, fun q => ?_⟩
    change bitN (addP (setV l p) ps) q = _
    rw [g2, e, bit_setV h (by omega), List.any_cons]
    cases decide (p.toNat = q) <;> simp
theorem setV_on {l : List Int} (hl : okW l) {p : Int} (h0 : 0 ≤ p) (h1 : p / 16 < (l.length : Int)) (hb : atV l p = true) : setV l p = l := by
  obtain ⟨w, hw, hg, e⟩ := setV_get hl (p := p.toNat) (by omega)
  rw [Int.toNat_of_nonneg h0] at e
  rw [atV_int hl h0 h1] at hb
  unfold bitN at hb
  rw [hg, Int.toNat_natCast] at hb
  have : w ||| 2 ^ (p.toNat % 16) = w := by
    apply Nat.eq_of_testBit_eq
    intro j
    rw [Nat.testBit_or, Nat.testBit_two_pow]
    by_cases c : p.toNat % 16 = j
    · subst c; simp [hb]
    · simp [c]
  rw [e, this, ← hg]
  apply List.ext_getElem?
  intro i
  by_cases c : p.toNat / 16 = i
  · subst c
    rw [List.getElem?_set_self (by omega), List.getD_eq_getElem?_getD, List.getElem?_eq_getElem (by omega)]
    rfl
  · rw [List.getElem?_set_ne c]
theorem addP_on : ∀ (ps l : List Int), okW l → inW l ps → ps.all (atV l) = true → addP l ps = l
  | [], l, _, _, _ => rfl
  | p :: ps, l, h, hp, ha => by
    simp only [List.all_cons, Bool.and_eq_true] at ha
    obtain ⟨p0, p1⟩ := hp p (by simp)
    change addP (setV l p) ps = l
    rw [setV_on h p0 p1 ha.1]
    exact addP_on ps l h (fun x hx => hp x (by simp [hx])) ha.2
theorem addP_all {ps l : List Int} (h : okW l) (hp : inW l ps) : ps.all (atV (addP l ps)) = true := by
  obtain ⟨g1, g2⟩ := addP_ok ps l h hp
  rw [List.all_eq_true]
  intro p hm
  obtain ⟨p0, p1⟩ := hp p hm
  rw [atV_int g1 p0 (by rw [addP_len]; exact p1), g2]
  simp only [Bool.or_eq_true, List.any_eq_true, decide_eq_true_eq]
  exact .inr ⟨p, hm, rfl⟩
theorem addP_same {ps l : List Int} (h : okW l) (hp : inW l ps) : decide (l = addP l ps) = ps.all (atV l) := by
  rw [Bool.eq_iff_iff, decide_eq_true_eq]
  constructor
  · intro e
    have := addP_all h hp
    rwa [← e] at this
  · intro e
    exact (addP_on ps l h hp e).symm
theorem bitsB_setV {n : Int} {l : List Int} (h : bitsB n l = true) {p : Int} (h0 : 0 ≤ p) (h1 : p < n) : bitsB n (setV l p) = true := by
  obtain ⟨n0, n1, hlen⟩ := bitsB_len h
  have hl : okW l := by
    simp only [bitsB, Bool.and_eq_true] at h
    exact all16_ok.1 h.2.2.1
  have hp16 : p.toNat / 16 < l.length := by omega
  have e : setV l p = setV l ((p.toNat : Nat) : Int) := by rw [Int.toNat_of_nonneg h0]
  have hl2 : okW (setV l p) := by rw [e]; exact okW_setV hl hp16
  simp only [bitsB, Bool.and_eq_true, decide_eq_true_eq, Bool.or_eq_true, beq_iff_eq] at h ⊢
  refine ⟨h.1, by rw [setV_len]; exact h.2.1, all16_ok.2 hl2, ?_⟩
  rcases h.2.2.2 with c | c
  · exact .inl c
  · by_cases cm : n % 16 = 0
    · exact .inl cm
    right
    rw [setV_len]
    obtain ⟨w, hw, hg, e2⟩ := setV_get hl hp16
    rw [← e] at e2
    obtain ⟨k, hk⟩ : ∃ k : Nat, (l.length : Int) - 1 = (k : Int) := ⟨l.length - 1, by omega⟩
    have hkl : k < l.length := by omega
    obtain ⟨v, hv, _⟩ := okW_get hl hkl
    have hm : n % 16 = (((n % 16).toNat : Nat) : Int) := by omega
    have rv : rd l (k : Int) = (v : Int) := by rw [← hv]; rfl
    rw [hk, hm] at c ⊢
    rw [rv, shrN (by omega)] at c
    rw [e2]
    by_cases ck : p.toNat / 16 = k
    · subst ck
      have hwv : w = v := by rw [hg] at hv; exact Int.ofNat.inj hv
      subst hwv
      have r : rd (l.set (p.toNat / 16) ((w ||| 2 ^ (p.toNat % 16) : Nat) : Int)) ((p.toNat / 16 : Nat) : Int) = ((w ||| 2 ^ (p.toNat % 16) : Nat) : Int) := rd_set hkl
      rw [r, shrN (by omega)]
      have hlt : w < 2 ^ (n % 16).toNat := by
        have hz : w / 2 ^ (n % 16).toNat = 0 := by omega
        rcases (Nat.div_eq_zero_iff).1 hz with hz | hz
        · have := Nat.two_pow_pos (n % 16).toNat
          omega
        · exact hz
      have hpm : p.toNat % 16 < (n % 16).toNat := by omega
      have hlt2 : 2 ^ (p.toNat % 16) < 2 ^ (n % 16).toNat := Nat.pow_lt_pow_right (by decide) hpm
      have := Nat.or_lt_two_pow hlt hlt2
      rw [Nat.div_eq_of_lt this]
      rfl
    · have r : rd (l.set (p.toNat / 16) ((w ||| 2 ^ (p.toNat % 16) : Nat) : Int)) (k : Int) = rd l (k : Int) := by
        simp [rd, List.getElem?_set_ne ck]
      rw [r, rv, shrN (by omega)]
      exact c
theorem bitsB_addP {n : Int} : ∀ (ps : List Int) {l : List Int}, bitsB n l = true → (∀ p ∈ ps, 0 ≤ p ∧ p < n) → bitsB n (addP l ps) = true
  | [], _, h, _ => h
  | p :: ps, l, h, hp => bitsB_addP ps (bitsB_setV h (hp p (by simp)).1 (hp p (by simp)).2) (fun x hx => hp x (by simp [hx]))
end Go.Proofs.YtpkpjikkfikejaaQ
namespace Go.Proofs.Ytpkpjikkfikejaa.Pure
open Go Go.RowKit Go.Proofs.YtpkpjikkfikejaaW.PrintWords Go.Proofs.YtpkpjikkfikejaaW.PrintMore Go.Proofs.YtpkpjikkfikejaaGp Go.Proofs.Ytpkpjikkfikejaa.PA Go.Proofs.YtpkpjikkfikejaaQ

theorem same_l0 (x0 y0 : List Int) (hl : (x0.length : Int) ≤ 9223372036854775806) (hy : y0.length = x0.length) : ∀ (t pre u pru : List Int), x0 = pre ++ t → y0 = pru ++ u → pru.length = pre.length →
    Ev (fun k => laws_pSameInts.l0 k x0 y0 (x0.length : Int) (pre.length : Int)) (decide (t = u)) := by
  intro t
  induction t with
  | nil =>
    intro pre u pru h h2 hp
    have : u = [] := by
      have e1 : y0.length = pru.length + u.length := by rw [h2]; simp
      have e2 : x0.length = pre.length := by rw [h]; simp
      exact List.length_eq_zero_iff.1 (by omega)
    subst this
    refine ev_succ ?_
    simp only [laws_pSameInts.l0]
    exact ev_neg (by rw [h]; exact not_lt_end) (ev_some (by simp))
  | cons x t ih =>
    intro pre u pru h h2 hp
    have hm : ((pre.length : Nat) : Int) < (x0.length : Int) := by rw [h]; exact lt_mid
    have hg : rd x0 (pre.length : Int) = x := by rw [h]; exact rd_mid
    cases u with
    | nil =>
      have e1 : y0.length = pru.length := by rw [h2]; simp
      omega
    | cons y u =>
      have hg2 : rd y0 (pre.length : Int) = y := by rw [h2, ← hp]; exact rd_mid
      refine ev_succ ?_
      simp only [laws_pSameInts.l0, hg, hg2]
      by_cases c : x = y
      · subst c
        have := ih (pre ++ [x]) u (pru ++ [x]) (by rw [h]; simp) (by rw [h2]; simp) (by simp [hp])
        rw [len_one] at this
        rw [show decide (x :: t = x :: u) = decide (t = u) from by simp, winc (by omega)]
        exact ev_pos hm (ev_pos (by omega) (ev_pos hm (ev_pos (by omega) (ev_pos rfl this))))
      · rw [decide_eq_false (fun e => c (List.cons.inj e).1)]
        exact ev_pos hm (ev_pos (by omega) (ev_pos hm (ev_pos (by omega) (ev_neg c (Ev.now _)))))
theorem same_f (l l' : List Int) (hl : (l.length : Int) ≤ 9223372036854775806) (h : l'.length = l.length) : Ev (fun k => laws_pSameInts.f k l l') (decide (l = l')) := by
  unfold laws_pSameInts.f
  exact ev_pos (by omega) (same_l0 l l' hl h l [] l' [] rfl rfl rfl)
theorem rSame_f (a b n : Int) (l l' : List Int) (hl : (l.length : Int) ≤ 9223372036854775806) (h : l'.length = l.length) : Ev (fun k => laws_rSameBloom.f k a b n l a b n l') (decide (l = l')) := by
  unfold laws_rSameBloom.f laws_pSameBits.f
  exact ev_pos rfl (ev_pos rfl (ev_bind _ (ev_pos rfl (ev_bind _ (same_f l l' hl h) (Ev.now _))) (Ev.now _)))
def hasV (a0 a1 a2 : Int) (l : List Int) (s : ByteArray) : Bool × Bool := if (isBloomB a0 a1 a2 l && isKeyB s) = true then (saysV a0 a1 a2 l s, true) else (false, false)
theorem impl_BloomHas_f (a0 a1 a2 : Int) (l : List Int) (s : ByteArray) (hz : (s.size : Int) ≤ 9223372036854775806) : Ev (fun k => impl_BloomHas.f k a0 a1 a2 l s) (hasV a0 a1 a2 l s) := by
  unfold impl_BloomHas.f
  refine ev_bind _ (impl_IsBloom_f a0 a1 a2 l) ?_
  by_cases c : isBloomB a0 a1 a2 l = true
  · obtain ⟨⟨p0, p1⟩, ⟨p2, p3⟩, ⟨p4, p5⟩, p6⟩ := isBloomB_ok c
    refine ev_pos c (ev_bind _ (impl_IsKey_f s hz) ?_)
    by_cases c2 : isKeyB s = true
    · exact ev_pos c2 (ev_bind _ (impl_says_f a0 a1 a2 l s hz p0 (by omega) (by omega) (by omega) p4 (by omega) (by omega)) (ev_some (by simp [hasV, c, c2])))
    · exact ev_neg c2 (ev_some (by simp [hasV, c2]))
  · exact ev_neg c (ev_some (by simp [hasV, c]))
theorem spec_BloomHas_f (a0 a1 a2 : Int) (l : List Int) (s : ByteArray) (hl : (l.length : Int) ≤ 9223372036854775806) (hz : (s.size : Int) ≤ 9223372036854775806) : Ev (fun k => spec_BloomHas.f k a0 a1 a2 l s) (hasV a0 a1 a2 l s) := by
  unfold spec_BloomHas.f
  refine ev_bind _ (spec_fiGood_f a0 a1 a2 l hl) ?_
  by_cases c : isBloomB a0 a1 a2 l = true
  · obtain ⟨⟨p0, p1⟩, ⟨p2, p3⟩, ⟨p4, p5⟩, p6⟩ := isBloomB_ok c
    refine ev_pos c (ev_bind _ (spec_IsKey_f s hz) ?_)
    by_cases c2 : isKeyB s = true
    · exact ev_pos c2 (ev_bind _ (spec_fiHas_f a0 a1 a2 l s hz p0 (by omega) (by omega) (by omega) p4 (by omega) (by omega)) (ev_some (by simp [hasV, c, c2])))
    · exact ev_neg c2 (ev_some (by simp [hasV, c2]))
  · exact ev_neg c (ev_some (by simp [hasV, c]))
theorem bitsB_of {a0 a1 a2 : Int} {l : List Int} (h : isBloomB a0 a1 a2 l = true) : bitsB a2 l = true := by
  rw [isBloomB, Bool.and_eq_true] at h; exact h.2
theorem sizesB_of {a0 a1 a2 : Int} {l : List Int} (h : isBloomB a0 a1 a2 l = true) : sizesB a0 a1 a2 = true := by
  rw [isBloomB, Bool.and_eq_true] at h; exact h.1
theorem okW_of {a0 a1 a2 : Int} {l : List Int} (h : isBloomB a0 a1 a2 l = true) : okW l := by
  have := bitsB_of h
  simp only [bitsB, Bool.and_eq_true] at this
  exact all16_ok.1 this.2.2.1
theorem covers_l0 {x14 l' : List Int} (a0 a1 a2 : Int) (hl : okW x14) (hl' : okW l') (hb : ∀ q, bitN x14 q = true → bitN l' q = true) (hlen : l'.length = x14.length) (h9 : (x14.length : Int) ≤ 9223372036854775806) : ∀ (d i : Nat), i + d = x14.length →
    Ev (fun k => impl_CoversBloom.l0 k x14 (x14.length : Int) (i : Int) a0 a1 a2 l') (true, true) := by
  intro d
  induction d with
  | zero =>
    intro i h
    refine ev_succ ?_
    simp only [impl_CoversBloom.l0]
    exact ev_neg (by omega) (Ev.now _)
  | succ d ih =>
    intro i h
    refine ev_succ ?_
    simp only [impl_CoversBloom.l0]
    rw [andN_word hl hl' hb (i := i) (by omega) (by omega), winc (by omega)]
    exact ev_pos (by omega) (ev_pos (by omega) (ev_pos (by omega) (ev_pos (by omega) (ev_pos rfl (ih (i + 1) (by omega))))))
theorem covers_f {a0 a1 a2 : Int} {l l' : List Int} (hB : isBloomB a0 a1 a2 l = true) (hB' : isBloomB a0 a1 a2 l' = true) (hb : ∀ q, bitN l q = true → bitN l' q = true) : Ev (fun k => impl_CoversBloom.f k a0 a1 a2 l' a0 a1 a2 l) (true, true) := by
  obtain ⟨_, _, _, p6⟩ := isBloomB_ok hB
  obtain ⟨_, _, ⟨p4, p5⟩, p7⟩ := isBloomB_ok hB'
  unfold impl_CoversBloom.f impl_alike.f
  have e1 := impl_IsBloom_f a0 a1 a2 l'
  have e2 := impl_IsBloom_f a0 a1 a2 l
  rw [hB'] at e1
  rw [hB] at e2
  refine ev_bind true (ev_bind _ e1 (ev_pos rfl (ev_bind _ e2 (ev_pos rfl (ev_pos rfl (ev_pos rfl (ev_some (by simp)))))))) (ev_pos rfl ?_)
  exact covers_l0 a0 a1 a2 (okW_of hB) (okW_of hB') hb (by omega) (by omega) l.length 0 (by omega)
theorem probesOf_f {a0 a1 a2 : Int} {s : ByteArray} (hs : sizesB a0 a1 a2 = true) (hk : isKeyB s = true) (hz : (s.size : Int) ≤ 9223372036854775806) : Ev (fun k => impl_ProbesOf.f k a0 a1 a2 s) (probesL a0 s a2 a1.toNat 0, true) := by
  obtain ⟨⟨p0, p1⟩, ⟨p2, p3⟩, p4, p5⟩ := sizesB_ok hs
  unfold impl_ProbesOf.f
  rw [impl_sizesOk_f, hs]
  have e := impl_IsKey_f s hz
  rw [hk] at e
  exact ev_bind _ (Ev.now _) (ev_pos rfl (ev_bind _ e (ev_pos rfl (ev_bind _ (impl_probesOf_f a0 a1 a2 s hz p0 (by omega) (by omega) (by omega)) (Ev.now _)))))
theorem bitAt_f {n : Int} {l : List Int} (h : bitsB n l = true) {p : Int} (h0 : 0 ≤ p) (h1 : p < n) : Ev (fun k => impl_BitAt.f k n l p) (atV l p, true) := by
  obtain ⟨n0, n1, hlen⟩ := bitsB_len h
  unfold impl_BitAt.f
  have e := impl_IsBits_f n l
  rw [h] at e
  refine ev_bind _ e (ev_pos rfl ?_)
  rw [impl_in, w64 (by omega) (by omega), decide_eq_true (show 0 ≤ p ∧ p ≤ n - 1 by omega)]
  refine ev_bind _ (Ev.now _) (ev_pos rfl ?_)
  rw [impl_Bits_at_f n l h0 (by omega) (by omega)]
  exact ev_bind _ (Ev.now _) (Ev.now _)
theorem placeOf_f {a0 i n : Int} {s : ByteArray} (h0 : 0 ≤ a0) (h0' : a0 ≤ 9999) (i0 : 0 ≤ i) (i1 : i ≤ 9) (hn : 1 ≤ n) (hn' : n ≤ 4096) (hk : isKeyB s = true) (hz : (s.size : Int) ≤ 9223372036854775806) : Ev (fun k => impl_PlaceOf.f k a0 i s n) (placeV a0 i s n, true) := by
  unfold impl_PlaceOf.f
  have e := impl_IsKey_f s hz
  rw [hk] at e
  rw [impl_isSeed_f, impl_in, impl_in, decide_eq_true (show 0 ≤ a0 ∧ a0 ≤ 9999 by omega), decide_eq_true (show 0 ≤ i ∧ i ≤ 9 by omega), decide_eq_true (show 1 ≤ n ∧ n ≤ 4096 by omega)]
  exact ev_bind _ (Ev.now _) (ev_pos rfl (ev_bind _ (Ev.now _) (ev_pos rfl (ev_bind _ e (ev_pos rfl (ev_bind _ (Ev.now _) (ev_pos rfl (ev_bind _ (impl_place_f a0 i s n hz h0 (by omega) i0 (by omega)) (Ev.now _)))))))))
theorem law_l0 {a0 a1 a2 : Int} {l l' : List Int} {s : ByteArray} {is : Bool} (hB : isBloomB a0 a1 a2 l = true) (hk : isKeyB s = true) (hz : (s.size : Int) ≤ 9223372036854775806)
    (x107 : List Int) (hx : (x107.length : Int) = a1) (H : Ev (fun k => laws_FnBloomAnswers.l0 k s is (x107.all (atV l)) x107 (x107.length : Int) (x107.length : Int) a0 a1 a2 l a0 a1 a2 l') true) : ∀ (m i : Nat) (pre : List Int) (q : Bool), x107 = pre ++ probesL a0 s a2 m i → pre.length = i → q = pre.all (atV l) →
    Ev (fun k => laws_FnBloomAnswers.l0 k s is q x107 (x107.length : Int) (i : Int) a0 a1 a2 l a0 a1 a2 l') true := by
  obtain ⟨⟨p0, p1⟩, ⟨p2, p3⟩, ⟨p4, p5⟩, p6⟩ := isBloomB_ok hB
  intro m
  induction m with
  | zero =>
    intro i pre q h hp hq
    have e : x107 = pre := by rw [h]; simp [probesL]
    subst e
    rw [hq, ← hp]
    exact H
  | succ m ih =>
    intro i pre q h hp hq
    obtain ⟨r0, r1⟩ := placeV_range a0 (i : Int) s (n := a2) p4 (by omega)
    simp only [probesL] at h
    have hm : ((i : Nat) : Int) < (x107.length : Int) := by rw [h, ← hp]; exact lt_mid
    have hg : rd x107 (i : Int) = placeV a0 (i : Int) s a2 := by
      have := rd_mid (pre := pre) (t := probesL a0 s a2 m (i + 1)) (s := placeV a0 (i : Int) s a2)
      rw [hp] at this
      rw [h]; exact this
    have next := ih (i + 1) (pre ++ [placeV a0 (i : Int) s a2]) (q && atV l (placeV a0 (i : Int) s a2)) (by rw [h]; simp) (by simp [hp]) (by rw [hq]; simp)
    refine ev_succ ?_
    simp only [laws_FnBloomAnswers.l0, hg]
    rw [winc (by omega)]
    refine ev_pos hm (ev_pos (by omega) (ev_pos hm (ev_bind _ (bitAt_f (bitsB_of hB) r0 r1) (ev_bind _ (placeOf_f p0 (by omega) (by omega) (by omega) p4 (by omega) hk hz) (ev_pos rfl (ev_pos rfl (ev_pos rfl ?_)))))))
    cases q with
    | true => exact ev_pos rfl (by simpa using next)
    | false => exact ev_neg (by simp) (by simpa using next)
theorem FnBloomAnswers : laws_FnBloomAnswers.Pure := by
  intro l0 l1 h0 _ hw0 h1 _ _
  refine Ev.rounds (r := true) ?_
  unfold laws_FnBloomAnswers.f
  obtain ⟨b, eb, hb⟩ := big_f h0 h1
  rw [eb]
  refine ev_bind _ (Ev.now _) ?_
  by_cases c : b = true
  · exact ev_pos c (Ev.now _)
  obtain ⟨g0, _⟩ := hb (by simpa using c)
  have hs := bys g0 hw0
  obtain ⟨a0, a1, a2, l, p1, sd1, e1, hl, q0, q1⟩ := bloom_ok hs 0 (p := 0) (by omega) (by omega)
  obtain ⟨s, p2, sd2, e2, hz, _, _⟩ := text_ok hs sd1 q0 (by omega)
  have hz9 : (s.size : Int) ≤ 9223372036854775806 := by omega
  have hl9 : (l.length : Int) ≤ 9223372036854775806 := by omega
  have ed : Ev (fun k => spec_DrawBloomAdd.f k l0) (a0, a1, a2, l, s) := by
    unfold spec_DrawBloomAdd.f
    exact ev_bind _ e1 (ev_bind _ e2 (Ev.now _))
  refine ev_neg c (ev_bind _ ed (ev_bind _ (impl_BloomAdd_f a0 a1 a2 l s hz9) (ev_bind _ (spec_BloomAdd_f a0 a1 a2 l s hl9 hz9) (ev_bind _ (impl_BloomHas_f a0 a1 a2 l s hz9) (ev_bind _ (spec_BloomHas_f a0 a1 a2 l s hl9 hz9) (ev_neg (by simp) ?_))))))
  have hal := addV_len a0 a1 a2 l s
  refine ev_bind _ (rSame_f _ _ _ _ _ (by omega) rfl) (ev_pos (by simp) (ev_neg (by simp) (ev_neg (by simp) ?_)))
  by_cases g : (isBloomB a0 a1 a2 l && isKeyB s) = true
  · have hv : addV a0 a1 a2 l s = (a0, a1, a2, addP l (probesL a0 s a2 a1.toNat 0), true) := if_pos g
    have hh : hasV a0 a1 a2 l s = (saysV a0 a1 a2 l s, true) := if_pos g
    rw [Bool.and_eq_true] at g
    obtain ⟨hB, hk⟩ := g
    obtain ⟨⟨p0, p1⟩, ⟨p2, p3⟩, ⟨p4, p5⟩, p6⟩ := isBloomB_ok hB
    have hrange := probesL_range a0 s (n := a2) p4 (by omega) a1.toNat 0
    have hin : inW l (probesL a0 s a2 a1.toNat 0) := fun p hp => by
      obtain ⟨x, y⟩ := hrange p hp
      exact ⟨x, by omega⟩
    have hW := okW_of hB
    obtain ⟨_, hbits⟩ := addP_ok (probesL a0 s a2 a1.toNat 0) l hW hin
    have hB' : isBloomB a0 a1 a2 (addP l (probesL a0 s a2 a1.toNat 0)) = true := by
      rw [isBloomB, sizesB_of hB, Bool.true_and]
      exact bitsB_addP _ (bitsB_of hB) hrange
    have hpl : (probesL a0 s a2 a1.toNat 0).length = a1.toNat := probesL_len _ _ _ _ _
    have hsay : saysV a0 a1 a2 (addP l (probesL a0 s a2 a1.toNat 0)) s = true := addP_all hW hin
    have hh' := impl_BloomHas_f a0 a1 a2 (addP l (probesL a0 s a2 a1.toNat 0)) s hz9
    rw [show hasV a0 a1 a2 (addP l (probesL a0 s a2 a1.toNat 0)) s = (true, true) from by unfold hasV; rw [hB', hk, hsay]; rfl] at hh'
    rw [hv, hh]
    refine ev_succ ?_
    simp only [laws_FnBloomAnswers.j0]
    refine ev_neg (by simp) (ev_pos trivial (ev_bind _ (probesOf_f (sizesB_of hB) hk hz9) (ev_pos rfl (ev_succ ?_))))
    simp only [laws_FnBloomAnswers.j1]
    refine ev_neg (by simp only [bne_iff_ne, ne_eq, Decidable.not_not]; omega) ?_
    refine law_l0 hB hk hz9 _ (by omega) ?_ a1.toNat 0 [] true rfl rfl rfl
    refine ev_succ ?_
    simp only [laws_FnBloomAnswers.l0]
    refine ev_neg (by omega) (ev_bind _ hh' (ev_bind _ (covers_f hB hB' (fun q hq => by rw [hbits, hq]; rfl)) (ev_pos ?_ (ev_pos rfl (ev_pos rfl (ev_pos rfl (ev_pos rfl (ev_bind _ (rSame_f a0 a1 a2 l _ hl9 (addP_len _ _)) (ev_some ?_)))))))))
    · exact beq_self_eq_true (saysV a0 a1 a2 l s)
    · rw [addP_same hW hin]
      exact beq_self_eq_true (saysV a0 a1 a2 l s)
  · have hv : addV a0 a1 a2 l s = (0, 0, 0, [], false) := if_neg g
    have hh : hasV a0 a1 a2 l s = (false, false) := if_neg g
    rw [hv, hh]
    refine ev_succ ?_
    simp only [laws_FnBloomAnswers.j0]
    exact ev_neg (by simp) (ev_neg (by simp) (Ev.now _))
end Go.Proofs.Ytpkpjikkfikejaa.Pure
