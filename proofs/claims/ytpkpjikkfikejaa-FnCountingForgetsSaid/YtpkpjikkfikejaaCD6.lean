import Derived.Test.YtpkpjikkfikejaaCD1
import Derived.Test.YtpkpjikkfikejaaCD2
import Derived.Test.YtpkpjikkfikejaaCD4
import Derived.Test.YtpkpjikkfikejaaCD5
import Derived.Test.YtpkpjikkfikejaaCD0
import Derived.Lib.Bytes
import Derived.Laws.BitsLemmas
-- printed by a program of this session (wip/gp) out of the translation; Lean checks it
namespace Go.Proofs.Ytpkpjikkfikejaa.PD
open Go.RowKit Go.Proofs.YtpkpjikkfikejaaW.PrintWords Go.Proofs.YtpkpjikkfikejaaW.PrintLast Go.Proofs.YtpkpjikkfikejaaW.PrintMore Go.Proofs.YtpkpjikkfikejaaSq
attribute [local go_sem] max2_int min2_int max_two min_two max_three min_three max_four min_four   -- for this text's walks alone
attribute [local go_sem] Go.Proofs.YtpkpjikkfikejaaGp.str_geq Go.Proofs.YtpkpjikkfikejaaGp.str_gtr Go.Proofs.YtpkpjikkfikejaaGp.str_leq
set_option linter.unusedVariables false
set_option linter.unusedSimpArgs false

set_option maxHeartbeats 8000000
set_option maxRecDepth 100000
mutual
def laws_FnCountingForgets.j0 : Nat → List Int → ByteArray → Bool → Bool → Int → Int → List Int → Int → Int → List Int → Option (Bool)
 | 0, _, _, _, _, _, _, _, _, _, _ => none
 | k + 1, x1, x6, x8, x68, x678000, x678001, x678002, x685000, x685001, x685002 => if x68 = true then (some false) else (if x8 = true then (laws_FnCountingForgets.l0 k x1 x6 false x685002 (x685002.length : Int) 0 x678000 x678001 x678002 x685000 x685001 x685002) else (laws_FnCountingForgets.j3 k x1))
def laws_FnCountingForgets.j3 : Nat → List Int → Option (Bool)
 | 0, _ => none
 | k + 1, x1 => (spec_DrawCountingRemove.f k x1).bind fun bt727 => ((impl_CountingRemove.f k bt727.1 bt727.2.1 bt727.2.2.1 bt727.2.2.2).bind fun bt734 => ((spec_CountingRemove.f k bt727.1 bt727.2.1 bt727.2.2.1 bt727.2.2.2).bind fun bt741 => (if (bt734.2.2.2 != bt741.2.2.2) = true then (laws_FnCountingForgets.j4 k x1 true) else ((laws_rSameCounting.f k bt734.1 bt734.2.1 bt734.2.2.1 bt741.1 bt741.2.1 bt741.2.2.1).bind fun t748 => (laws_FnCountingForgets.j4 k x1 (!t748))))))
def laws_FnCountingForgets.j4 : Nat → List Int → Bool → Option (Bool)
 | 0, _, _ => none
 | k + 1, x1, x158 => if x158 = true then (some false) else ((spec_DrawCountingOf.f k x1).bind fun bt749 => ((impl_CountingOf.f k bt749.1 bt749.2.1 bt749.2.2.1 bt749.2.2.2).bind fun bt755 => ((spec_CountingOf.f k bt749.1 bt749.2.1 bt749.2.2.1 bt749.2.2.2).bind fun bt762 => (if (bt755.2.2.2 != bt762.2.2.2) = true then (laws_FnCountingForgets.j5 k bt749.1 bt749.2.1 bt749.2.2.1 bt749.2.2.2 bt755.2.2.2 true bt755.1 bt755.2.1 bt755.2.2.1) else ((laws_rSameCounting.f k bt755.1 bt755.2.1 bt755.2.2.1 bt762.1 bt762.2.1 bt762.2.2.1).bind fun t769 => (laws_FnCountingForgets.j5 k bt749.1 bt749.2.1 bt749.2.2.1 bt749.2.2.2 bt755.2.2.2 (!t769) bt755.1 bt755.2.1 bt755.2.2.1))))))
def laws_FnCountingForgets.j5 : Nat → Int → Int → Int → List ByteArray → Bool → Bool → Int → Int → List Int → Option (Bool)
 | 0, _, _, _, _, _, _, _, _, _ => none
 | k + 1, x28, x29, x30, x31, x33, x190, x762000, x762001, x762002 => if x190 = true then (some false) else (if x33 = true then ((impl_BloomOfCounting.f k x762000 x762001 x762002).bind fun bt770 => ((impl_BloomOf.f k x28 x29 x30 x31).bind fun bt778 => (if bt770.2.2.2.2 = true then (if bt778.2.2.2.2 = true then ((laws_rSameBloom.f k bt770.1 bt770.2.1 bt770.2.2.1 bt770.2.2.2.1 bt778.1 bt778.2.1 bt778.2.2.1 bt778.2.2.2.1).bind fun t786 => (if t786 = true then ((impl_IsCounting.f k x762000 x762001 x762002).bind fun t787 => (some t787)) else (some false))) else (some false)) else (some false)))) else (some true))
def laws_FnCountingForgets.l0 : Nat → List Int → ByteArray → Bool → List Int → Int → Int → Int → Int → List Int → Int → Int → List Int → Option (Bool)
 | 0, _, _, _, _, _, _, _, _, _, _, _, _ => none
 | k + 1, x1, x6, x11, x71, x72, x73, x678000, x678001, x678002, x685000, x685001, x685002 => if x73 < x72 then (if 0 ≤ x73 then (if x73 < (x71.length : Int) then (if x11 = true then (laws_FnCountingForgets.l0 k x1 x6 true x71 x72 (wrap64 (x73 + 1)) x678000 x678001 x678002 x685000 x685001 x685002) else (laws_FnCountingForgets.l0 k x1 x6 ((rd x71 x73) == 15) x71 x72 (wrap64 (x73 + 1)) x678000 x678001 x678002 x685000 x685001 x685002)) else (none)) else (none)) else ((impl_CountingRemove.f k x685000 x685001 x685002 x6).bind fun bt694 => (if bt694.2.2.2 = true then (if x11 = true then (laws_FnCountingForgets.j2 k x1 x6 false x678000 x678001 x678002 x685000 x685001 x685002) else ((laws_rSameCounting.f k bt694.1 bt694.2.1 bt694.2.2.1 x678000 x678001 x678002).bind fun t701 => (laws_FnCountingForgets.j2 k x1 x6 (!t701) x678000 x678001 x678002 x685000 x685001 x685002))) else (laws_FnCountingForgets.j2 k x1 x6 true x678000 x678001 x678002 x685000 x685001 x685002)))
def laws_FnCountingForgets.j2 : Nat → List Int → ByteArray → Bool → Int → Int → List Int → Int → Int → List Int → Option (Bool)
 | 0, _, _, _, _, _, _, _, _, _ => none
 | k + 1, x1, x6, x100, x678000, x678001, x678002, x685000, x685001, x685002 => if x100 = true then (some false) else ((impl_BloomOfCounting.f k x678000 x678001 x678002).bind fun bt702 => ((impl_BloomOfCounting.f k x685000 x685001 x685002).bind fun bt710 => ((impl_BloomAdd.f k bt702.1 bt702.2.1 bt702.2.2.1 bt702.2.2.2.1 x6).bind fun bt718 => (if bt702.2.2.2.2 = true then (if bt710.2.2.2.2 = true then (if bt718.2.2.2.2 = true then ((laws_rSameBloom.f k bt710.1 bt710.2.1 bt710.2.2.1 bt710.2.2.2.1 bt718.1 bt718.2.1 bt718.2.2.1 bt718.2.2.2.1).bind fun t726 => (if t726 = true then (laws_FnCountingForgets.j3 k x1) else (some false))) else (some false)) else (some false)) else (some false)))))
end
def laws_FnCountingForgets.f (k : Nat) (l0 : List Int) (l1 : List Int) : Option (Bool) := (laws_big.f l0 l1).bind fun t670 => (if t670 = true then (some true) else ((spec_DrawCountingAdd.f k l0).bind fun bt671 => ((impl_CountingAdd.f k bt671.1 bt671.2.1 bt671.2.2.1 bt671.2.2.2).bind fun bt678 => ((spec_CountingAdd.f k bt671.1 bt671.2.1 bt671.2.2.1 bt671.2.2.2).bind fun bt685 => (if (bt678.2.2.2 != bt685.2.2.2) = true then (laws_FnCountingForgets.j0 k l1 bt671.2.2.2 bt678.2.2.2 true bt671.1 bt671.2.1 bt671.2.2.1 bt678.1 bt678.2.1 bt678.2.2.1) else ((laws_rSameCounting.f k bt678.1 bt678.2.1 bt678.2.2.1 bt685.1 bt685.2.1 bt685.2.2.1).bind fun t692 => (laws_FnCountingForgets.j0 k l1 bt671.2.2.2 bt678.2.2.2 (!t692) bt671.1 bt671.2.1 bt671.2.2.1 bt678.1 bt678.2.1 bt678.2.2.1)))))))
theorem laws_FnCountingForgets.j0.dead (k : Nat) (y0 : List Int) (y1 : ByteArray) (y2 : Bool) (y4 : Int) (y5 : Int) (y6 : List Int) (y7 : Int) (y8 : Int) (y9 : List Int) : laws_FnCountingForgets.j0 k y0 y1 y2 true y4 y5 y6 y7 y8 y9 ≠ some true := by cases k <;> simp [laws_FnCountingForgets.j0]
theorem laws_FnCountingForgets.j4.dead (k : Nat) (y0 : List Int) : laws_FnCountingForgets.j4 k y0 true ≠ some true := by cases k <;> simp [laws_FnCountingForgets.j4]
theorem laws_FnCountingForgets.j5.dead (k : Nat) (y0 : Int) (y1 : Int) (y2 : Int) (y3 : List ByteArray) (y4 : Bool) (y6 : Int) (y7 : Int) (y8 : List Int) : laws_FnCountingForgets.j5 k y0 y1 y2 y3 y4 true y6 y7 y8 ≠ some true := by cases k <;> simp [laws_FnCountingForgets.j5]
theorem laws_FnCountingForgets.j2.dead (k : Nat) (y0 : List Int) (y1 : ByteArray) (y3 : Int) (y4 : Int) (y5 : List Int) (y6 : Int) (y7 : Int) (y8 : List Int) : laws_FnCountingForgets.j2 k y0 y1 true y3 y4 y5 y6 y7 y8 ≠ some true := by cases k <;> simp [laws_FnCountingForgets.j2]
theorem laws_FnCountingForgets.calls (k : Nat) (A0 : Option Addr) (c0 : Nat) (l0 : List Int) (A1 : Option Addr) (c1 : Nat) (l1 : List Int) (r : Bool) (w : World) (hr0 : Kd.C (Kd.int .u8) w A0 l0.length l0) (hc0 : l0.length ≤ c0) (hr1 : Kd.C (Kd.int .u8) w A1 l1.length l1) (hc1 : l1.length ≤ c1) (h : laws_FnCountingForgets.f k l0 l1 = some r) (hT_ : r = true) :
  Calls Try.prog 11 #[.slice A0 l0.length c0, .slice A1 l1.length c1] w fun e w' => e = .returned (.bool r) ∧ Below w.heap.size w w' := by
 have hu49 := Try.underlying49; have hu28 := Try.underlying28; have HR0 := am hr0; have HC0 := am hc0; clear hr0 hc0; have HR1 := am hr1; have HC1 := am hc1; clear hr1 hc1; have HB := am (Below.refl w.heap.size w); have H : ((laws_big.f l0 l1).bind fun t670 => (if t670 = true then (some true) else ((spec_DrawCountingAdd.f k l0).bind fun bt671 => ((impl_CountingAdd.f k bt671.1 bt671.2.1 bt671.2.2.1 bt671.2.2.2).bind fun bt678 => ((spec_CountingAdd.f k bt671.1 bt671.2.1 bt671.2.2.1 bt671.2.2.2).bind fun bt685 => (if (bt678.2.2.2 != bt685.2.2.2) = true then (laws_FnCountingForgets.j0 k l1 bt671.2.2.2 bt678.2.2.2 true bt671.1 bt671.2.1 bt671.2.2.1 bt678.1 bt678.2.1 bt678.2.2.1) else ((laws_rSameCounting.f k bt678.1 bt678.2.1 bt678.2.2.1 bt685.1 bt685.2.1 bt685.2.2.1).bind fun t692 => (laws_FnCountingForgets.j0 k l1 bt671.2.2.2 bt678.2.2.2 (!t692) bt671.1 bt671.2.1 bt671.2.2.1 bt678.1 bt678.2.1 bt678.2.2.1)))))))) = some r := h; clear h; have HT_ := am hT_; clear hT_; obtain ⟨t670, A3, H⟩ := ob H; (try dsimp -simprocs only at H)
 by_cases c4 : t670 = true
 ·subst c4
  rw [if_pos rfl] at H; obtain rfl := Option.some.inj H
  go_enter Try.func11, Try.ntmps11
  go_wp2_with (first | ((with_reducible refine gate_callee (f := 49) rfl ?_); refine gL (some 42) Try.func49 #[.slice A0 l0.length c0, .slice A1 l1.length c1] ?_; (with_reducible refine (laws_big.calls _ _ l0 _ _ l1 true _ ?side1 ?side2 ?side3 ?side4 A3.out).mono ?_); (case side1 => exact Cz HR0.out); (case side2 => exact HC0.out); (case side3 => exact Cz HR1.out); (case side4 => exact HC1.out); rintro e w' ⟨rfl, ⟨nd, rfl⟩⟩; refine ⟨_, rfl, ?_⟩))
  go_ret
  exact ⟨eZ, Bz HB.out⟩
 ·replace c4 := Bool.eq_false_iff.mpr c4
  subst c4
  rw [if_neg (show ¬ (false = true) by decide)] at H; obtain ⟨⟨t671, t672, t673, t676⟩, A5, H⟩ := ob H; (try dsimp -simprocs only at H); obtain ⟨⟨t678, t679, t680, t683⟩, A6, H⟩ := ob H; (try dsimp -simprocs only at H); obtain ⟨⟨t685, t686, t687, t690⟩, A7, H⟩ := ob H; (try dsimp -simprocs only at H); have HC8 := am H; clear H
  go_enter Try.func11, Try.ntmps11
  go_upto_region 6 with (first | ((with_reducible refine gate_callee (f := 49) rfl ?_); refine gL (some 42) Try.func49 #[.slice A0 l0.length c0, .slice A1 l1.length c1] ?_; (with_reducible refine (laws_big.calls _ _ l0 _ _ l1 false _ ?side1 ?side2 ?side3 ?side4 A3.out).mono ?_); (case side1 => exact Cz HR0.out); (case side2 => exact HC0.out); (case side3 => exact Cz HR1.out); (case side4 => exact HC1.out); rintro e w' ⟨rfl, ⟨nd, rfl⟩⟩; refine ⟨_, rfl, ?_⟩) | ((with_reducible refine gate_callee (f := 58) rfl ?_); refine gL (some 45) Try.func58 #[.slice A0 l0.length c0] ?_; (with_reducible refine (spec_DrawCountingAdd.calls k _ _ l0 t671 t672 t673 t676 _ ?side1 ?side2 A5.out).mono ?_); (case side1 => exact Cz HR0.out); (case side2 => exact HC0.out); rintro e w9 ⟨v674, rfl, ho0, hb⟩; refine ⟨_, rfl, ?_⟩; have n0_ := Rl ho0 HB; have n1_ := Bb HB hb; clear HB; revert n0_ n1_; intro HO675 HB; (try clear hb); (try clear hb2); (try clear hk); (try clear hi); (try clear ho0)) | ((with_reducible refine gate_dst (N := 5) rfl ?_); refine bE 5 #[.int .i64 0, .int .i64 0, .slice none 0 0] 49 ?_; intro gb677 hg w10 hbox hb; have n0_ := Rb HO675 hb; have n1_ := Bb HB hb; have n2_ := am (hbox); have n3_ := Gl HB hg; have n4_ := Gl HB hg; clear HO675 HB; revert n0_ n1_ n2_ n3_ n4_; intro HO675 HB BK677 GW677 GE677; clear hb hbox hg; obtain ⟨hcz11_0, hcz11_1, hcz11_2, hfz11_0, hfz11_1, hfz11_2⟩ := cf3 (w := w10) BK677; obtain ⟨Ao12, co12, eo12⟩ := Kd.R_slice HO675.out; subst eo12) | ((with_reducible refine gate_callee (f := 59) rfl ?_); refine gL (some 51) Try.func59 #[.agg #[.int .i64 t671, .int .i64 t672, .slice Ao12 t673.length co12], .string t676] ?_; (with_reducible refine (impl_CountingAdd.calls k t671 t672 _ _ t673 t676 t678 t679 t680 t683 _ ?side1 ?side2 A6.out).mono ?_); (case side1 => refine (Kd.R_reads' (e := 3) (base := w.heap.size) (ok := fun k_ => True) (n := t673.length) (c := co12) ?_).2.2; exact (Rz (Kd.R_mono (Kd.R_far (p := ⟨gb677, 2, none⟩) (Kd.R_far (p := ⟨gb677, 1, none⟩) (Kd.R_far (p := ⟨gb677, 0, none⟩) (Kd.R_types HO675.out BK677.out (by decide)) (fun _ hk => hk.2) (.int .i64 t671)) (fun _ hk => hk.2) (.int .i64 t672)) (fun _ hk => hk.2) (.slice Ao12 t673.length co12)) (fun _ h_ => h_.1)))); (case side2 => exact (Kd.R_reads' HO675.out).2.1); rintro e w13 ⟨v681, rfl, ho0, hb⟩; refine ⟨_, rfl, ?_⟩; have n0_ := am (Kd.R_elder' (Rz (Kd.R_mono (Kd.R_far (p := ⟨gb677, 2, none⟩) (Kd.R_far (p := ⟨gb677, 1, none⟩) (Kd.R_far (p := ⟨gb677, 0, none⟩) (Kd.R_types HO675.out BK677.out (by decide)) (fun _ hk => hk.2) (.int .i64 t671)) (fun _ hk => hk.2) (.int .i64 t672)) (fun _ hk => hk.2) (.slice Ao12 t673.length co12)) (fun _ h_ => h_.1))) (Kd.R_base ho0) hb); have n1_ := am (Kd.R_lower (Kd.R_new' ho0 (Kd.R_lt (Rz (Kd.R_mono (Kd.R_far (p := ⟨gb677, 2, none⟩) (Kd.R_far (p := ⟨gb677, 1, none⟩) (Kd.R_far (p := ⟨gb677, 0, none⟩) (Kd.R_types HO675.out BK677.out (by decide)) (fun _ hk => hk.2) (.int .i64 t671)) (fun _ hk => hk.2) (.int .i64 t672)) (fun _ hk => hk.2) (.slice Ao12 t673.length co12)) (fun _ h_ => h_.1))))) (below_size (w := w) (Bq))); have n2_ := am (blk_below (g := gb677) (o := .cells #[.int .i64 t671, .int .i64 t672, .slice Ao12 t673.length co12] 49 (0, 0)) (by refine bp ?_; refine blk_put (cs := #[.int .i64 t671, .int .i64 t672, .slice none 0 0]) ?_ 2 _ rfl; refine bp ?_; refine blk_put (cs := #[.int .i64 t671, .int .i64 0, .slice none 0 0]) ?_ 1 _ rfl; refine bp ?_; refine blk_put (cs := #[.int .i64 0, .int .i64 0, .slice none 0 0]) ?_ 0 _ rfl; exact Kz BK677.out) hb); have n3_ := Bc HB hb; clear HO675 BK677 HB; revert n0_ n1_ n2_ n3_; intro HO675 HO682 BK677 HB; (try clear hb); (try clear hb2); (try clear hk); (try clear hi); (try clear ho0)) | ((with_reducible refine gate_dst (N := 7) rfl ?_); refine bE 7 #[.int .i64 0, .int .i64 0, .slice none 0 0] 49 ?_; intro gb684 hg w14 hbox hb; have n0_ := Rb HO675 hb; have n1_ := Rb HO682 hb; have n2_ := Kb BK677 hb; have n3_ := Bc HB hb; have n4_ := am (hbox); have n5_ := Gm HB hg; have n6_ := Gm HB hg; have n7_ := Nl BK677 hg; have n8_ := Ng BK677 hg; clear HO675 HO682 BK677 HB; revert n0_ n1_ n2_ n3_ n4_ n5_ n6_ n7_ n8_; intro HO675 HO682 BK677 HB BK684 GW684 GE684 NB677_684 NB684_677; clear hb hbox hg; have hnb15 := NB684_677.out; have hnc15 := NB677_684.out; obtain ⟨hcz16_0, hcz16_1, hcz16_2, hfz16_0, hfz16_1, hfz16_2⟩ := cf3 (w := w14) BK684; obtain ⟨Ao17, co17, eo17⟩ := Kd.R_slice HO682.out; subst eo17; obtain ⟨hcz18_0, hcz18_1, hcz18_2, hfz18_0, hfz18_1, hfz18_2⟩ := cf3 (w := w14) BK677) | ((with_reducible refine gate_callee (f := 60) rfl ?_); refine gL (some 57) Try.func60 #[.agg #[.int .i64 t671, .int .i64 t672, .slice Ao12 t673.length co12], .string t676] ?_; (with_reducible refine (spec_CountingAdd.calls k t671 t672 _ _ t673 t676 t685 t686 t687 t690 _ ?side1 ?side2 A7.out).mono ?_); (case side1 => refine (Kd.R_reads' (e := 3) (base := w.heap.size) (ok := fun k_ => (True ∧ some k_ ≠ (.slice Ao17 t680.length co17 : Value).ownBlock)) (n := t673.length) (c := co12) ?_).2.2; exact (Rz (Kd.R_mono (Kd.R_far (p := ⟨gb684, 2, none⟩) (Kd.R_far (p := ⟨gb684, 1, none⟩) (Kd.R_far (p := ⟨gb684, 0, none⟩) (Kd.R_types HO675.out BK684.out (by decide)) (fun _ hk => hk.2) (.int .i64 t678)) (fun _ hk => hk.2) (.int .i64 t679)) (fun _ hk => hk.2) (.slice Ao17 t680.length co17)) (fun _ h_ => h_.1)))); (case side2 => exact (Kd.R_reads' HO675.out).2.1); rintro e w19 ⟨v688, rfl, ho0, hb⟩; refine ⟨_, rfl, ?_⟩; have n0_ := am (Kd.R_elder' (Rz (Kd.R_mono (Kd.R_far (p := ⟨gb684, 2, none⟩) (Kd.R_far (p := ⟨gb684, 1, none⟩) (Kd.R_far (p := ⟨gb684, 0, none⟩) (Kd.R_types HO675.out BK684.out (by decide)) (fun _ hk => hk.2) (.int .i64 t678)) (fun _ hk => hk.2) (.int .i64 t679)) (fun _ hk => hk.2) (.slice Ao17 t680.length co17)) (fun _ h_ => h_.1))) (Kd.R_base ho0) hb); have n1_ := am (Kd.R_elder' (Rz (Kd.R_mono (Kd.R_far (p := ⟨gb684, 2, none⟩) (Kd.R_far (p := ⟨gb684, 1, none⟩) (Kd.R_far (p := ⟨gb684, 0, none⟩) (Kd.R_types HO682.out BK684.out (by decide)) (fun _ hk => hk.2) (.int .i64 t678)) (fun _ hk => hk.2) (.int .i64 t679)) (fun _ hk => hk.2) (.slice Ao17 t680.length co17)) (fun _ h_ => h_.1))) (Kd.R_base ho0) hb); have n2_ := am (Kd.R_lower (Kd.R_new' (Kd.R_new' ho0 (Kd.R_lt (Rz (Kd.R_mono (Kd.R_far (p := ⟨gb684, 2, none⟩) (Kd.R_far (p := ⟨gb684, 1, none⟩) (Kd.R_far (p := ⟨gb684, 0, none⟩) (Kd.R_types HO675.out BK684.out (by decide)) (fun _ hk => hk.2) (.int .i64 t678)) (fun _ hk => hk.2) (.int .i64 t679)) (fun _ hk => hk.2) (.slice Ao17 t680.length co17)) (fun _ h_ => h_.1))))) (Kd.R_lt (Rz (Kd.R_mono (Kd.R_far (p := ⟨gb684, 2, none⟩) (Kd.R_far (p := ⟨gb684, 1, none⟩) (Kd.R_far (p := ⟨gb684, 0, none⟩) (Kd.R_types HO682.out BK684.out (by decide)) (fun _ hk => hk.2) (.int .i64 t678)) (fun _ hk => hk.2) (.int .i64 t679)) (fun _ hk => hk.2) (.slice Ao17 t680.length co17)) (fun _ h_ => h_.1))))) (below_size (w := w) (Bq))); have n3_ := am (blk_below (g := gb677) (o := .cells #[.int .i64 t671, .int .i64 t672, .slice Ao12 t673.length co12] 49 (0, 0)) (by refine bp ?_; refine blk_far ?_ NB677_684.out _; refine bp ?_; refine blk_far ?_ NB677_684.out _; refine bp ?_; refine blk_far ?_ NB677_684.out _; exact Kz BK677.out) hb); have n4_ := am (blk_below (g := gb684) (o := .cells #[.int .i64 t678, .int .i64 t679, .slice Ao17 t680.length co17] 49 (0, 0)) (by refine bp ?_; refine blk_put (cs := #[.int .i64 t678, .int .i64 t679, .slice none 0 0]) ?_ 2 _ rfl; refine bp ?_; refine blk_put (cs := #[.int .i64 t678, .int .i64 0, .slice none 0 0]) ?_ 1 _ rfl; refine bp ?_; refine blk_put (cs := #[.int .i64 0, .int .i64 0, .slice none 0 0]) ?_ 0 _ rfl; exact Kz BK684.out) hb); have n5_ := Bc HB hb; clear HO675 HO682 BK677 BK684 HB; revert n0_ n1_ n2_ n3_ n4_ n5_; intro HO675 HO682 HO689 BK677 BK684 HB; (try clear hb); (try clear hb2); (try clear hk); (try clear hi); (try clear ho0)) | ((with_reducible refine gate_dst (N := 9) rfl ?_); refine bE 9 #[.int .i64 0, .int .i64 0, .slice none 0 0] 49 ?_; intro gb691 hg w20 hbox hb; have n0_ := Rb HO675 hb; have n1_ := Rb HO682 hb; have n2_ := Rb HO689 hb; have n3_ := Kb BK677 hb; have n4_ := Kb BK684 hb; have n5_ := Bc HB hb; have n6_ := am (hbox); have n7_ := Gm HB hg; have n8_ := Gm HB hg; have n9_ := Nl BK677 hg; have n10_ := Ng BK677 hg; have n11_ := Nl BK684 hg; have n12_ := Ng BK684 hg; clear HO675 HO682 HO689 BK677 BK684 HB; revert n0_ n1_ n2_ n3_ n4_ n5_ n6_ n7_ n8_ n9_ n10_ n11_ n12_; intro HO675 HO682 HO689 BK677 BK684 HB BK691 GW691 GE691 NB677_691 NB691_677 NB684_691 NB691_684; clear hb hbox hg; have hnb21 := NB691_677.out; have hnc21 := NB677_691.out; have hnb22 := NB691_684.out; have hnc22 := NB684_691.out; obtain ⟨hcz23_0, hcz23_1, hcz23_2, hfz23_0, hfz23_1, hfz23_2⟩ := cf3 (w := w20) BK691; obtain ⟨Ao24, co24, eo24⟩ := Kd.R_slice HO689.out; subst eo24))
  (try simp only [aP])
  go_cut [68] (fun v68 wc => ∃ (kq : Nat) (x68_7 : Bool), v68 = .bool x68_7 ∧ Aside0 (laws_FnCountingForgets.j0 kq l1 t676 t683 x68_7 t671 t672 t673 t678 t679 t680 = some r) ∧ Aside0 (kq ≤ k) ∧ Aside0 (Kd.R (Kd.int .i64) 3 wc w.heap.size (fun k_ => some k_ ≠ ((.slice Ao17 t680.length co17) : Value).ownBlock ∧ some k_ ≠ ((.slice Ao24 t687.length co24) : Value).ownBlock) (.slice Ao12 t673.length co12) t673) ∧ Aside0 (Kd.R (Kd.int .i64) 3 wc w.heap.size (fun k_ => some k_ ≠ ((.slice Ao12 t673.length co12) : Value).ownBlock ∧ some k_ ≠ ((.slice Ao24 t687.length co24) : Value).ownBlock) (.slice Ao17 t680.length co17) t680) ∧ Aside0 (Kd.R (Kd.int .i64) 3 wc w.heap.size (fun k_ => some k_ ≠ ((.slice Ao12 t673.length co12) : Value).ownBlock ∧ some k_ ≠ ((.slice Ao17 t680.length co17) : Value).ownBlock) (.slice Ao24 t687.length co24) t687) ∧ Aside0 (wc.heap[gb677]? = some (.cells #[.int .i64 t671, .int .i64 t672, (.slice Ao12 t673.length co12)] 49 (0, 0))) ∧ Aside0 (wc.heap[gb684]? = some (.cells #[.int .i64 t678, .int .i64 t679, (.slice Ao17 t680.length co17)] 49 (0, 0))) ∧ Aside0 (wc.heap[gb691]? = some (.cells #[.int .i64 t685, .int .i64 t686, (.slice Ao24 t687.length co24)] 49 (0, 0))) ∧ Aside0 (Below w.heap.size w wc))
  case first =>
   have H := HC8.out; clear HC8
   by_cases c25 : (t683 != t690) = true
   ·rw [if_pos c25] at H
    have c25b0 : (t683 != t690) = true := c25
    (try (have c25b1 : decide (t683 = t690) = false := by simpa using c25))
    (try (have c25b2 : (t683 == t690) = false := by simpa using c25))
    (try (have c25b3 : ¬ (t683 = t690) := by simpa using c25))
    (try (have c25b4 : (!(t683 == t690)) = true := c25b0))
    clear c25
    (first | rw [c25b0] | (simp only [i64_w, i32_w]; rw [c25b0]) | skip)
    exact absurd (H.trans (congrArg some HT_.out)) (laws_FnCountingForgets.j0.dead _ _ _ _ _ _ _ _ _ _)
   ·rw [if_neg c25] at H
    have c25b0 : (t683 != t690) = false := by simpa using c25
    (try (have c25b1 : decide (t683 = t690) = true := by simpa using c25))
    (try (have c25b2 : (t683 == t690) = true := by simpa using c25))
    (try (have c25b3 : (!(t683 == t690)) = false := c25b0))
    clear c25
    (first | rw [c25b0] | (simp only [i64_w, i32_w]; rw [c25b0]) | skip)
    obtain ⟨t692, A26, H⟩ := ob H; (try dsimp -simprocs only at H); have H' := am H; clear H; have hnb27 := NB684_677.out; have hnc27 := NB677_684.out; have hnb28 := NB684_691.out; have hnc28 := NB691_684.out; obtain ⟨hcz29_0, hcz29_1, hcz29_2, hfz29_0, hfz29_1, hfz29_2⟩ := cf3 (w := w20) BK684; have hnb30 := NB691_677.out; have hnc30 := NB677_691.out; obtain ⟨hcz31_0, hcz31_1, hcz31_2, hfz31_0, hfz31_1, hfz31_2⟩ := cf3 (w := w20) BK691
    go_wp2_with (first | (go_at_call 61; (with_reducible refine (laws_rSameCounting.calls k t678 t679 _ _ t680 t685 t686 _ _ t687 t692 _ ?side1 ?side2 ?side3 ?side4 A26.out).mono ?_); (case side1 => refine (Kd.R_reads' (e := 3) (base := w.heap.size) (ok := fun k_ => ((True ∧ some k_ ≠ (.slice Ao12 t673.length co12 : Value).ownBlock) ∧ some k_ ≠ (.slice Ao24 t687.length co24 : Value).ownBlock)) (n := t680.length) (c := co17) ?_).2.2; exact (Rz (Kd.R_mono (Kd.R_far (p := ⟨gb691, 2, none⟩) (Kd.R_far (p := ⟨gb691, 1, none⟩) (Kd.R_far (p := ⟨gb691, 0, none⟩) (Kd.R_types HO682.out BK691.out (by decide)) (fun _ hk => hk.2) (.int .i64 t685)) (fun _ hk => hk.2) (.int .i64 t686)) (fun _ hk => hk.2) (.slice Ao24 t687.length co24)) (fun _ h_ => h_.1)))); (case side2 => exact (Kd.R_reads' HO682.out).2.1); (case side3 => refine (Kd.R_reads' (e := 3) (base := w.heap.size) (ok := fun k_ => ((True ∧ some k_ ≠ (.slice Ao12 t673.length co12 : Value).ownBlock) ∧ some k_ ≠ (.slice Ao17 t680.length co17 : Value).ownBlock)) (n := t687.length) (c := co24) ?_).2.2; exact (Rz (Kd.R_mono (Kd.R_far (p := ⟨gb691, 2, none⟩) (Kd.R_far (p := ⟨gb691, 1, none⟩) (Kd.R_far (p := ⟨gb691, 0, none⟩) (Kd.R_types HO689.out BK691.out (by decide)) (fun _ hk => hk.2) (.int .i64 t685)) (fun _ hk => hk.2) (.int .i64 t686)) (fun _ hk => hk.2) (.slice Ao24 t687.length co24)) (fun _ h_ => h_.1)))); (case side4 => exact (Kd.R_reads' HO689.out).2.1); rintro e w32 ⟨rfl, hb⟩; have n0_ := am (Kd.R_below (Rz (Kd.R_mono (Kd.R_far (p := ⟨gb691, 2, none⟩) (Kd.R_far (p := ⟨gb691, 1, none⟩) (Kd.R_far (p := ⟨gb691, 0, none⟩) (Kd.R_types HO675.out BK691.out (by decide)) (fun _ hk => hk.2) (.int .i64 t685)) (fun _ hk => hk.2) (.int .i64 t686)) (fun _ hk => hk.2) (.slice Ao24 t687.length co24)) (fun _ h_ => h_.1))) hb); have n1_ := am (Kd.R_below (Rz (Kd.R_mono (Kd.R_far (p := ⟨gb691, 2, none⟩) (Kd.R_far (p := ⟨gb691, 1, none⟩) (Kd.R_far (p := ⟨gb691, 0, none⟩) (Kd.R_types HO682.out BK691.out (by decide)) (fun _ hk => hk.2) (.int .i64 t685)) (fun _ hk => hk.2) (.int .i64 t686)) (fun _ hk => hk.2) (.slice Ao24 t687.length co24)) (fun _ h_ => h_.1))) hb); have n2_ := am (Kd.R_below (Rz (Kd.R_mono (Kd.R_far (p := ⟨gb691, 2, none⟩) (Kd.R_far (p := ⟨gb691, 1, none⟩) (Kd.R_far (p := ⟨gb691, 0, none⟩) (Kd.R_types HO689.out BK691.out (by decide)) (fun _ hk => hk.2) (.int .i64 t685)) (fun _ hk => hk.2) (.int .i64 t686)) (fun _ hk => hk.2) (.slice Ao24 t687.length co24)) (fun _ h_ => h_.1))) hb); have n3_ := am (blk_below (g := gb677) (o := .cells #[.int .i64 t671, .int .i64 t672, .slice Ao12 t673.length co12] 49 (0, 0)) (by refine bp ?_; refine blk_far ?_ NB677_691.out _; refine bp ?_; refine blk_far ?_ NB677_691.out _; refine bp ?_; refine blk_far ?_ NB677_691.out _; exact Kz BK677.out) hb); have n4_ := am (blk_below (g := gb684) (o := .cells #[.int .i64 t678, .int .i64 t679, .slice Ao17 t680.length co17] 49 (0, 0)) (by refine bp ?_; refine blk_far ?_ NB684_691.out _; refine bp ?_; refine blk_far ?_ NB684_691.out _; refine bp ?_; refine blk_far ?_ NB684_691.out _; exact Kz BK684.out) hb); have n5_ := am (blk_below (g := gb691) (o := .cells #[.int .i64 t685, .int .i64 t686, .slice Ao24 t687.length co24] 49 (0, 0)) (by refine bp ?_; refine blk_put (cs := #[.int .i64 t685, .int .i64 t686, .slice none 0 0]) ?_ 2 _ rfl; refine bp ?_; refine blk_put (cs := #[.int .i64 t685, .int .i64 0, .slice none 0 0]) ?_ 1 _ rfl; refine bp ?_; refine blk_put (cs := #[.int .i64 0, .int .i64 0, .slice none 0 0]) ?_ 0 _ rfl; exact Kz BK691.out) hb); have n6_ := Bc HB hb; clear HO675 HO682 HO689 BK677 BK684 BK691 HB; revert n0_ n1_ n2_ n3_ n4_ n5_ n6_; intro HO675 HO682 HO689 BK677 BK684 BK691 HB; (try clear hb); (try clear hb2); (try clear hk); (try clear hi)))
    go_meet
    case rel => exact ⟨_, (!t692), wZ, H', ⟨by first | omega | exact Nat.le_refl _⟩, ⟨Rz (Kd.R_mono HO675.out (fun _ hk => ⟨hk.1.2, hk.2⟩))⟩, ⟨Rz (Kd.R_mono HO682.out (fun _ hk => ⟨hk.1.2, hk.2⟩))⟩, ⟨Rz (Kd.R_mono HO689.out (fun _ hk => ⟨hk.1.2, hk.2⟩))⟩, ⟨Kz BK677.out⟩, ⟨Kz BK684.out⟩, ⟨Kz BK691.out⟩, ⟨Bq⟩⟩
  case rest =>
   refine Nonempty.elim ?_ id
   refine (letI hh_ : Nonempty (_ : Prop) := ?apart1; (?close1 : type_of% hh_))
   case apart1 =>
    refine Nonempty.intro ?_
    clear HC8
    try clear c1
    try clear c2
    try clear p2
    try clear c3
    try clear c4
    try clear c5
    try clear c6
    try clear c11
    try clear c15
    try clear c21
    try clear c22
    try clear c25
    try clear c25b0
    try clear c25b1
    try clear c25b2
    try clear c27
    try clear c28
    try clear c30
    obtain ⟨kq, x68_7, rfl, HA, HJ7, HO_678002, HO_685002, HO_692002, BK677, BK684, BK691, HB⟩ := hcut; cases kq with
    | zero => exact absurd HA.out (by simp [laws_FnCountingForgets.j0])
    | succ kj7 =>
     have H := HA.out; clear HA
     simp only [laws_FnCountingForgets.j0] at H
     by_cases c33 : x68_7 = true
     ·subst c33
      rw [if_pos rfl] at H; exact absurd (Option.some.inj H) (by rw [HT_.out]; decide)
     ·replace c33 := Bool.eq_false_iff.mpr c33
      subst c33
      rw [if_neg (show ¬ (false = true) by decide)] at H; have HC34 := am H; clear H
      go_upto_if 69 with (fail)
      go_cut [] (fun wc => ∃ (kq : Nat), Aside0 (laws_FnCountingForgets.j3 kq l1 = some r) ∧ Aside0 (kq ≤ kj7) ∧ Aside0 (Kd.R (Kd.int .i64) 3 wc w.heap.size (fun k_ => some k_ ≠ ((.slice Ao17 t680.length co17) : Value).ownBlock ∧ some k_ ≠ ((.slice Ao24 t687.length co24) : Value).ownBlock) (.slice Ao12 t673.length co12) t673) ∧ Aside0 (Kd.R (Kd.int .i64) 3 wc w.heap.size (fun k_ => some k_ ≠ ((.slice Ao12 t673.length co12) : Value).ownBlock ∧ some k_ ≠ ((.slice Ao24 t687.length co24) : Value).ownBlock) (.slice Ao17 t680.length co17) t680) ∧ Aside0 (Kd.R (Kd.int .i64) 3 wc w.heap.size (fun k_ => some k_ ≠ ((.slice Ao12 t673.length co12) : Value).ownBlock ∧ some k_ ≠ ((.slice Ao17 t680.length co17) : Value).ownBlock) (.slice Ao24 t687.length co24) t687) ∧ Aside0 (wc.heap[gb677]? = some (.cells #[.int .i64 t671, .int .i64 t672, (.slice Ao12 t673.length co12)] 49 (0, 0))) ∧ Aside0 (wc.heap[gb684]? = some (.cells #[.int .i64 t678, .int .i64 t679, (.slice Ao17 t680.length co17)] 49 (0, 0))) ∧ Aside0 (wc.heap[gb691]? = some (.cells #[.int .i64 t685, .int .i64 t686, (.slice Ao24 t687.length co24)] 49 (0, 0))) ∧ Aside0 (Below w.heap.size w wc))
      case first =>
       have H := HC34.out; clear HC34
       by_cases c35 : t683 = true
       ·subst c35
        rw [if_pos rfl] at H; have H' := am H; clear H; have hnb36 := NB684_677.out; have hnc36 := NB677_684.out; have hnb37 := NB684_691.out; have hnc37 := NB691_684.out; obtain ⟨hcz38_0, hcz38_1, hcz38_2, hfz38_0, hfz38_1, hfz38_2⟩ := cf3 (w := wc) BK684
        go_wp2
        go_loopg [11, 73] kj7 (fun kq v11 v73 w' => ∃ (x11_2 : Bool) (x73_2 : Int), v11 = .bool x11_2 ∧ v73 = .int .i64 x73_2 ∧ Aside0 (laws_FnCountingForgets.l0 kq l1 t676 x11_2 t680 (t680.length : Int) x73_2 t671 t672 t673 t678 t679 t680 = some r) ∧ Aside0 (kq ≤ kj7) ∧ Aside0 (Kd.R (Kd.int .i64) 3 w' w.heap.size (fun k_ => some k_ ≠ ((.slice Ao12 t673.length co12) : Value).ownBlock ∧ some k_ ≠ ((.slice Ao24 t687.length co24) : Value).ownBlock) (.slice Ao17 t680.length co17) t680) ∧ Aside0 (Kd.R (Kd.int .i64) 3 w' w.heap.size (fun k_ => some k_ ≠ ((.slice Ao17 t680.length co17) : Value).ownBlock ∧ some k_ ≠ ((.slice Ao17 t680.length co17) : Value).ownBlock ∧ some k_ ≠ ((.slice Ao24 t687.length co24) : Value).ownBlock) (.slice Ao12 t673.length co12) t673) ∧ Aside0 (Kd.R (Kd.int .i64) 3 w' w.heap.size (fun k_ => some k_ ≠ ((.slice Ao12 t673.length co12) : Value).ownBlock ∧ some k_ ≠ ((.slice Ao24 t687.length co24) : Value).ownBlock) (.slice Ao17 t680.length co17) t680) ∧ Aside0 (Kd.R (Kd.int .i64) 3 w' w.heap.size (fun k_ => some k_ ≠ ((.slice Ao17 t680.length co17) : Value).ownBlock ∧ some k_ ≠ ((.slice Ao12 t673.length co12) : Value).ownBlock ∧ some k_ ≠ ((.slice Ao17 t680.length co17) : Value).ownBlock) (.slice Ao24 t687.length co24) t687) ∧ Aside0 (w'.heap[gb677]? = some (.cells #[.int .i64 t671, .int .i64 t672, (.slice Ao12 t673.length co12)] 49 (0, 0))) ∧ Aside0 (w'.heap[gb684]? = some (.cells #[.int .i64 t678, .int .i64 t679, (.slice Ao17 t680.length co17)] 49 (0, 0))) ∧ Aside0 (w'.heap[gb691]? = some (.cells #[.int .i64 t685, .int .i64 t686, (.slice Ao24 t687.length co24)] 49 (0, 0))) ∧ Aside0 (Below w.heap.size w w'))
        case atStart => exact ⟨(false), (0), wZ, wZ, H', ⟨Nat.le_refl _⟩, ⟨Rz HO_685002.out⟩, ⟨Rz (Kd.R_mono HO_678002.out (fun _ hk => ⟨hk.1, ⟨hk.1, hk.2⟩⟩))⟩, ⟨Rz HO_685002.out⟩, ⟨Rz (Kd.R_mono HO_692002.out (fun _ hk => ⟨hk.2, ⟨hk.1, hk.2⟩⟩))⟩, ⟨Kz BK677.out⟩, ⟨Kz BK684.out⟩, ⟨Kz BK691.out⟩, ⟨Bq⟩⟩
        case round =>
         clear H'
         try clear c1
         try clear c2
         try clear p2
         try clear c3
         try clear c4
         try clear c5
         try clear c6
         try clear c11
         try clear c15
         try clear c21
         try clear c22
         try clear c25
         try clear c25b0
         try clear c25b1
         try clear c25b2
         try clear c27
         try clear c28
         try clear c30
         try clear c33
         try clear c35
         try clear c36
         try clear c37
         try clear p2
         obtain ⟨x11_2, x73_2, rfl, rfl, HA, HK2, HO_71, HO_678002, HO_685002, HO_692002, BK677, BK684, BK691, HB⟩ := hrel; cases gk with
         | zero => exact absurd HA.out (by simp [laws_FnCountingForgets.l0])
         | succ k2 =>
          have H := HA.out; clear HA
          simp only [laws_FnCountingForgets.l0] at H
          by_cases c39 : x73_2 < (t680.length : Int)
          ·rw [if_pos c39] at H
           have c39b0 : decide (x73_2 < (t680.length : Int)) = true := decide_eq_true c39; clear c39
           (first | rw [c39b0] | (simp only [i64_w, i32_w]; rw [c39b0]) | skip)
           by_cases c40 : 0 ≤ x73_2
           ·rw [if_pos c40] at H
            have c40b0 : decide (0 ≤ x73_2) = true := decide_eq_true c40; clear c40
            by_cases c41 : x73_2 < (t680.length : Int)
            ·rw [if_pos c41] at H
             have c41b0 : decide (x73_2 < (t680.length : Int)) = true := decide_eq_true c41; clear c41
             by_cases c42 : x11_2 = true
             ·subst c42
              rw [if_pos rfl] at H; have H' := am H; clear H; obtain ⟨ad693, e693, hx693_0⟩ := Kd.at_int (Kd.R_reads' HO_71.out).2.2 x73_2 dT dT; cases e693; have p693 := eT (0 ≤ (x73_2 : Int)); have q693 := eT (x73_2 < (t680.length : Int))
              go_wp2
              go_roundg k2
              case measure => have := HJ7.out; have := HK2.out; omega
              case rel => exact ⟨(true), (wrap64 (x73_2 + 1)), wZ, wZ, H', ⟨by have := HJ7.out; have := HK2.out; omega⟩, ⟨Rz HO_71.out⟩, ⟨Rz HO_678002.out⟩, ⟨Rz HO_685002.out⟩, ⟨Rz HO_692002.out⟩, ⟨Kz BK677.out⟩, ⟨Kz BK684.out⟩, ⟨Kz BK691.out⟩, ⟨Bq⟩⟩
             ·replace c42 := Bool.eq_false_iff.mpr c42
              subst c42
              rw [if_neg (show ¬ (false = true) by decide)] at H; have H' := am H; clear H; obtain ⟨ad693, e693, hx693_0⟩ := Kd.at_int (Kd.R_reads' HO_71.out).2.2 x73_2 dT dT; cases e693; have p693 := eT (0 ≤ (x73_2 : Int)); have q693 := eT (x73_2 < (t680.length : Int))
              go_wp2
              go_roundg k2
              case measure => have := HJ7.out; have := HK2.out; omega
              case rel => exact ⟨(((rd t680 x73_2) == 15)), (wrap64 (x73_2 + 1)), wZ, wZ, H', ⟨by have := HJ7.out; have := HK2.out; omega⟩, ⟨Rz HO_71.out⟩, ⟨Rz HO_678002.out⟩, ⟨Rz HO_685002.out⟩, ⟨Rz HO_692002.out⟩, ⟨Kz BK677.out⟩, ⟨Kz BK684.out⟩, ⟨Kz BK691.out⟩, ⟨Bq⟩⟩
            ·rw [if_neg c41] at H
             exact absurd H (by simp)
           ·rw [if_neg c40] at H
            exact absurd H (by simp)
          ·rw [if_neg c39] at H
           have c39b0 : decide (x73_2 < (t680.length : Int)) = false := decide_eq_false c39; clear c39
           (first | rw [c39b0] | (simp only [i64_w, i32_w]; rw [c39b0]) | skip)
           obtain ⟨⟨t694, t695, t696, t699⟩, A43, H⟩ := ob H; (try dsimp -simprocs only at H); have HC44 := am H; clear H; have hnb45 := NB684_677.out; have hnc45 := NB677_684.out; have hnb46 := NB684_691.out; have hnc46 := NB691_684.out; obtain ⟨hcz47_0, hcz47_1, hcz47_2, hfz47_0, hfz47_1, hfz47_2⟩ := cf3 (w := wr) BK684
           go_upto_region 16 with (first | ((with_reducible refine gate_callee (f := 32) rfl ?_); refine gL (some 86) Try.func32 #[.agg #[.int .i64 t678, .int .i64 t679, .slice Ao17 t680.length co17], .string t676] ?_; (with_reducible refine (impl_CountingRemove.calls k2 t678 t679 _ _ t680 t676 t694 t695 t696 t699 _ ?side1 ?side2 A43.out).mono ?_); (case side1 => exact Cz ((Kd.R_reads' HO_685002.out).2.2)); (case side2 => exact (Kd.R_reads' HO_685002.out).2.1); rintro e w48 ⟨v697, rfl, ho0, hb⟩; refine ⟨_, rfl, ?_⟩; have n0_ := Re HO_71 (Kd.R_base ho0) hb; have n1_ := Re HO_678002 (Kd.R_base ho0) hb; have n2_ := Re HO_685002 (Kd.R_base ho0) hb; have n3_ := Re HO_692002 (Kd.R_base ho0) hb; have n4_ := am (Kd.R_lower (Kd.R_new' (Kd.R_new' (Kd.R_new' (Kd.R_new' ho0 (Kd.R_lt (Rz HO_71.out))) (Kd.R_lt (Rz HO_678002.out))) (Kd.R_lt (Rz HO_685002.out))) (Kd.R_lt (Rz HO_692002.out))) (below_size (w := w) (Bq))); have n5_ := Kb BK677 hb; have n6_ := Kb BK684 hb; have n7_ := Kb BK691 hb; have n8_ := Bc HB hb; clear HO_71 HO_678002 HO_685002 HO_692002 BK677 BK684 BK691 HB; revert n0_ n1_ n2_ n3_ n4_ n5_ n6_ n7_ n8_; intro HO_71 HO_678002 HO_685002 HO_692002 HO698 BK677 BK684 BK691 HB; (try clear hb); (try clear hb2); (try clear hk); (try clear hi); (try clear ho0)) | ((with_reducible refine gate_dst (N := 14) rfl ?_); refine bE 14 #[.int .i64 0, .int .i64 0, .slice none 0 0] 49 ?_; intro gb700 hg w49 hbox hb; have n0_ := Rb HO_71 hb; have n1_ := Rb HO_678002 hb; have n2_ := Rb HO_685002 hb; have n3_ := Rb HO_692002 hb; have n4_ := Rb HO698 hb; have n5_ := Kb BK677 hb; have n6_ := Kb BK684 hb; have n7_ := Kb BK691 hb; have n8_ := Bc HB hb; have n9_ := am (hbox); have n10_ := Gm HB hg; have n11_ := Gm HB hg; have n12_ := Nl BK677 hg; have n13_ := Ng BK677 hg; have n14_ := Nl BK684 hg; have n15_ := Ng BK684 hg; have n16_ := Nl BK691 hg; have n17_ := Ng BK691 hg; clear HO_71 HO_678002 HO_685002 HO_692002 HO698 BK677 BK684 BK691 HB; revert n0_ n1_ n2_ n3_ n4_ n5_ n6_ n7_ n8_ n9_ n10_ n11_ n12_ n13_ n14_ n15_ n16_ n17_; intro HO_71 HO_678002 HO_685002 HO_692002 HO698 BK677 BK684 BK691 HB BK700 GW700 GE700 NB677_700 NB700_677 NB684_700 NB700_684 NB691_700 NB700_691; clear hb hbox hg; have hnb50 := NB700_677.out; have hnc50 := NB677_700.out; have hnb51 := NB700_684.out; have hnc51 := NB684_700.out; have hnb52 := NB700_691.out; have hnc52 := NB691_700.out; obtain ⟨hcz53_0, hcz53_1, hcz53_2, hfz53_0, hfz53_1, hfz53_2⟩ := cf3 (w := w49) BK700; obtain ⟨Ao54, co54, eo54⟩ := Kd.R_slice HO698.out; subst eo54))
           (try simp only [aP])
           go_cut [100] (fun v100 wc => ∃ (kq : Nat) (x100_43 : Bool), v100 = .bool x100_43 ∧ Aside0 (laws_FnCountingForgets.j2 kq l1 t676 x100_43 t671 t672 t673 t678 t679 t680 = some r) ∧ Aside0 (kq ≤ k2) ∧ Aside0 (Kd.R (Kd.int .i64) 3 wc w.heap.size (fun k_ => some k_ ≠ ((.slice Ao17 t680.length co17) : Value).ownBlock ∧ some k_ ≠ ((.slice Ao24 t687.length co24) : Value).ownBlock ∧ some k_ ≠ ((.slice Ao54 t696.length co54) : Value).ownBlock) (.slice Ao12 t673.length co12) t673) ∧ Aside0 (Kd.R (Kd.int .i64) 3 wc w.heap.size (fun k_ => some k_ ≠ ((.slice Ao12 t673.length co12) : Value).ownBlock ∧ some k_ ≠ ((.slice Ao24 t687.length co24) : Value).ownBlock ∧ some k_ ≠ ((.slice Ao54 t696.length co54) : Value).ownBlock) (.slice Ao17 t680.length co17) t680) ∧ Aside0 (Kd.R (Kd.int .i64) 3 wc w.heap.size (fun k_ => some k_ ≠ ((.slice Ao12 t673.length co12) : Value).ownBlock ∧ some k_ ≠ ((.slice Ao17 t680.length co17) : Value).ownBlock ∧ some k_ ≠ ((.slice Ao54 t696.length co54) : Value).ownBlock) (.slice Ao24 t687.length co24) t687) ∧ Aside0 (Kd.R (Kd.int .i64) 3 wc w.heap.size (fun k_ => some k_ ≠ ((.slice Ao12 t673.length co12) : Value).ownBlock ∧ some k_ ≠ ((.slice Ao17 t680.length co17) : Value).ownBlock ∧ some k_ ≠ ((.slice Ao24 t687.length co24) : Value).ownBlock) (.slice Ao54 t696.length co54) t696) ∧ Aside0 (wc.heap[gb677]? = some (.cells #[.int .i64 t671, .int .i64 t672, (.slice Ao12 t673.length co12)] 49 (0, 0))) ∧ Aside0 (wc.heap[gb684]? = some (.cells #[.int .i64 t678, .int .i64 t679, (.slice Ao17 t680.length co17)] 49 (0, 0))) ∧ Aside0 (wc.heap[gb691]? = some (.cells #[.int .i64 t685, .int .i64 t686, (.slice Ao24 t687.length co24)] 49 (0, 0))) ∧ Aside0 (wc.heap[gb700]? = some (.cells #[.int .i64 t694, .int .i64 t695, (.slice Ao54 t696.length co54)] 49 (0, 0))) ∧ Aside0 (Below w.heap.size w wc))
           case first =>
            have H := HC44.out; clear HC44
            by_cases c55 : t699 = true
            ·subst c55
             rw [if_pos rfl] at H
             by_cases c56 : x11_2 = true
             ·subst c56
              rw [if_pos rfl] at H; have H' := am H; clear H
              go_wp2
              go_meet
              case rel => exact ⟨_, (false), wZ, H', ⟨by have := HJ7.out; have := HK2.out; first | omega | exact Nat.le_refl _⟩, ⟨Rz (Kd.R_mono (Kd.R_far (p := ⟨gb700, 2, none⟩) (Kd.R_far (p := ⟨gb700, 1, none⟩) (Kd.R_far (p := ⟨gb700, 0, none⟩) (Kd.R_types HO_678002.out BK700.out (by decide)) (fun _ hk => hk.2) (.int .i64 t694)) (fun _ hk => hk.2) (.int .i64 t695)) (fun _ hk => hk.2) (.slice Ao54 t696.length co54)) (fun _ hk => ⟨hk.1.1.2.1, ⟨hk.1.1.2.2, hk.1.2⟩⟩))⟩, ⟨Rz (Kd.R_mono (Kd.R_far (p := ⟨gb700, 2, none⟩) (Kd.R_far (p := ⟨gb700, 1, none⟩) (Kd.R_far (p := ⟨gb700, 0, none⟩) (Kd.R_types HO_685002.out BK700.out (by decide)) (fun _ hk => hk.2) (.int .i64 t694)) (fun _ hk => hk.2) (.int .i64 t695)) (fun _ hk => hk.2) (.slice Ao54 t696.length co54)) (fun _ hk => ⟨hk.1.1.1, ⟨hk.1.1.2, hk.1.2⟩⟩))⟩, ⟨Rz (Kd.R_mono (Kd.R_far (p := ⟨gb700, 2, none⟩) (Kd.R_far (p := ⟨gb700, 1, none⟩) (Kd.R_far (p := ⟨gb700, 0, none⟩) (Kd.R_types HO_692002.out BK700.out (by decide)) (fun _ hk => hk.2) (.int .i64 t694)) (fun _ hk => hk.2) (.int .i64 t695)) (fun _ hk => hk.2) (.slice Ao54 t696.length co54)) (fun _ hk => ⟨hk.1.1.2.1, ⟨hk.1.1.2.2, hk.1.2⟩⟩))⟩, ⟨Rz (Kd.R_mono (Kd.R_far (p := ⟨gb700, 2, none⟩) (Kd.R_far (p := ⟨gb700, 1, none⟩) (Kd.R_far (p := ⟨gb700, 0, none⟩) (Kd.R_types HO698.out BK700.out (by decide)) (fun _ hk => hk.2) (.int .i64 t694)) (fun _ hk => hk.2) (.int .i64 t695)) (fun _ hk => hk.2) (.slice Ao54 t696.length co54)) (fun _ hk => ⟨hk.1.1.1.2, ⟨hk.1.1.2, hk.1.2⟩⟩))⟩, ⟨by refine bp ?_; refine blk_far ?_ NB677_700.out _; refine bp ?_; refine blk_far ?_ NB677_700.out _; refine bp ?_; refine blk_far ?_ NB677_700.out _; refine bp ?_; exact BK677.out⟩, ⟨by refine bp ?_; refine blk_far ?_ NB684_700.out _; refine bp ?_; refine blk_far ?_ NB684_700.out _; refine bp ?_; refine blk_far ?_ NB684_700.out _; refine bp ?_; exact BK684.out⟩, ⟨by refine bp ?_; refine blk_far ?_ NB691_700.out _; refine bp ?_; refine blk_far ?_ NB691_700.out _; refine bp ?_; refine blk_far ?_ NB691_700.out _; refine bp ?_; exact BK691.out⟩, ⟨by refine bp ?_; refine blk_put (cs := #[.int .i64 t694, .int .i64 t695, .slice none 0 0]) ?_ 2 _ rfl; refine bp ?_; refine blk_put (cs := #[.int .i64 t694, .int .i64 0, .slice none 0 0]) ?_ 1 _ rfl; refine bp ?_; refine blk_put (cs := #[.int .i64 0, .int .i64 0, .slice none 0 0]) ?_ 0 _ rfl; refine bp ?_; exact BK700.out⟩, ⟨Bq⟩⟩
             ·replace c56 := Bool.eq_false_iff.mpr c56
              subst c56
              rw [if_neg (show ¬ (false = true) by decide)] at H; obtain ⟨t701, A57, H⟩ := ob H; (try dsimp -simprocs only at H); have H' := am H; clear H; have hnb58 := NB700_677.out; have hnc58 := NB677_700.out; have hnb59 := NB700_684.out; have hnc59 := NB684_700.out; have hnb60 := NB700_691.out; have hnc60 := NB691_700.out; obtain ⟨hcz61_0, hcz61_1, hcz61_2, hfz61_0, hfz61_1, hfz61_2⟩ := cf3 (w := w49) BK700; have hnb62 := NB677_684.out; have hnc62 := NB684_677.out; have hnb63 := NB677_691.out; have hnc63 := NB691_677.out; obtain ⟨hcz64_0, hcz64_1, hcz64_2, hfz64_0, hfz64_1, hfz64_2⟩ := cf3 (w := w49) BK677
              go_wp2_with (first | (go_at_call 61; (with_reducible refine (laws_rSameCounting.calls k2 t694 t695 _ _ t696 t671 t672 _ _ t673 t701 _ ?side1 ?side2 ?side3 ?side4 A57.out).mono ?_); (case side1 => refine (Kd.R_reads' (e := 3) (base := w.heap.size) (ok := fun k_ => ((((True ∧ some k_ ≠ (.slice Ao17 t680.length co17 : Value).ownBlock) ∧ some k_ ≠ (.slice Ao12 t673.length co12 : Value).ownBlock) ∧ some k_ ≠ (.slice Ao17 t680.length co17 : Value).ownBlock) ∧ some k_ ≠ (.slice Ao24 t687.length co24 : Value).ownBlock)) (n := t696.length) (c := co54) ?_).2.2; exact (Rz (Kd.R_mono (Kd.R_far (p := ⟨gb700, 2, none⟩) (Kd.R_far (p := ⟨gb700, 1, none⟩) (Kd.R_far (p := ⟨gb700, 0, none⟩) (Kd.R_types HO698.out BK700.out (by decide)) (fun _ hk => hk.2) (.int .i64 t694)) (fun _ hk => hk.2) (.int .i64 t695)) (fun _ hk => hk.2) (.slice Ao54 t696.length co54)) (fun _ h_ => h_.1)))); (case side2 => exact (Kd.R_reads' HO698.out).2.1); (case side3 => refine (Kd.R_reads' (e := 3) (base := w.heap.size) (ok := fun k_ => ((some k_ ≠ (.slice Ao17 t680.length co17 : Value).ownBlock ∧ (some k_ ≠ (.slice Ao17 t680.length co17 : Value).ownBlock ∧ some k_ ≠ (.slice Ao24 t687.length co24 : Value).ownBlock)) ∧ some k_ ≠ (.slice Ao54 t696.length co54 : Value).ownBlock)) (n := t673.length) (c := co12) ?_).2.2; exact (Rz (Kd.R_mono (Kd.R_far (p := ⟨gb700, 2, none⟩) (Kd.R_far (p := ⟨gb700, 1, none⟩) (Kd.R_far (p := ⟨gb700, 0, none⟩) (Kd.R_types HO_678002.out BK700.out (by decide)) (fun _ hk => hk.2) (.int .i64 t694)) (fun _ hk => hk.2) (.int .i64 t695)) (fun _ hk => hk.2) (.slice Ao54 t696.length co54)) (fun _ h_ => h_.1)))); (case side4 => exact (Kd.R_reads' HO_678002.out).2.1); rintro e w65 ⟨rfl, hb⟩; have n0_ := am (Kd.R_below (Rz (Kd.R_mono (Kd.R_far (p := ⟨gb700, 2, none⟩) (Kd.R_far (p := ⟨gb700, 1, none⟩) (Kd.R_far (p := ⟨gb700, 0, none⟩) (Kd.R_types HO_71.out BK700.out (by decide)) (fun _ hk => hk.2) (.int .i64 t694)) (fun _ hk => hk.2) (.int .i64 t695)) (fun _ hk => hk.2) (.slice Ao54 t696.length co54)) (fun _ h_ => h_.1))) hb); have n1_ := am (Kd.R_below (Rz (Kd.R_mono (Kd.R_far (p := ⟨gb700, 2, none⟩) (Kd.R_far (p := ⟨gb700, 1, none⟩) (Kd.R_far (p := ⟨gb700, 0, none⟩) (Kd.R_types HO_678002.out BK700.out (by decide)) (fun _ hk => hk.2) (.int .i64 t694)) (fun _ hk => hk.2) (.int .i64 t695)) (fun _ hk => hk.2) (.slice Ao54 t696.length co54)) (fun _ h_ => h_.1))) hb); have n2_ := am (Kd.R_below (Rz (Kd.R_mono (Kd.R_far (p := ⟨gb700, 2, none⟩) (Kd.R_far (p := ⟨gb700, 1, none⟩) (Kd.R_far (p := ⟨gb700, 0, none⟩) (Kd.R_types HO_685002.out BK700.out (by decide)) (fun _ hk => hk.2) (.int .i64 t694)) (fun _ hk => hk.2) (.int .i64 t695)) (fun _ hk => hk.2) (.slice Ao54 t696.length co54)) (fun _ h_ => h_.1))) hb); have n3_ := am (Kd.R_below (Rz (Kd.R_mono (Kd.R_far (p := ⟨gb700, 2, none⟩) (Kd.R_far (p := ⟨gb700, 1, none⟩) (Kd.R_far (p := ⟨gb700, 0, none⟩) (Kd.R_types HO_692002.out BK700.out (by decide)) (fun _ hk => hk.2) (.int .i64 t694)) (fun _ hk => hk.2) (.int .i64 t695)) (fun _ hk => hk.2) (.slice Ao54 t696.length co54)) (fun _ h_ => h_.1))) hb); have n4_ := am (Kd.R_below (Rz (Kd.R_mono (Kd.R_far (p := ⟨gb700, 2, none⟩) (Kd.R_far (p := ⟨gb700, 1, none⟩) (Kd.R_far (p := ⟨gb700, 0, none⟩) (Kd.R_types HO698.out BK700.out (by decide)) (fun _ hk => hk.2) (.int .i64 t694)) (fun _ hk => hk.2) (.int .i64 t695)) (fun _ hk => hk.2) (.slice Ao54 t696.length co54)) (fun _ h_ => h_.1))) hb); have n5_ := am (blk_below (g := gb677) (o := .cells #[.int .i64 t671, .int .i64 t672, .slice Ao12 t673.length co12] 49 (0, 0)) (by refine bp ?_; refine blk_far ?_ NB677_700.out _; refine bp ?_; refine blk_far ?_ NB677_700.out _; refine bp ?_; refine blk_far ?_ NB677_700.out _; exact Kz BK677.out) hb); have n6_ := am (blk_below (g := gb684) (o := .cells #[.int .i64 t678, .int .i64 t679, .slice Ao17 t680.length co17] 49 (0, 0)) (by refine bp ?_; refine blk_far ?_ NB684_700.out _; refine bp ?_; refine blk_far ?_ NB684_700.out _; refine bp ?_; refine blk_far ?_ NB684_700.out _; exact Kz BK684.out) hb); have n7_ := am (blk_below (g := gb691) (o := .cells #[.int .i64 t685, .int .i64 t686, .slice Ao24 t687.length co24] 49 (0, 0)) (by refine bp ?_; refine blk_far ?_ NB691_700.out _; refine bp ?_; refine blk_far ?_ NB691_700.out _; refine bp ?_; refine blk_far ?_ NB691_700.out _; exact Kz BK691.out) hb); have n8_ := am (blk_below (g := gb700) (o := .cells #[.int .i64 t694, .int .i64 t695, .slice Ao54 t696.length co54] 49 (0, 0)) (by refine bp ?_; refine blk_put (cs := #[.int .i64 t694, .int .i64 t695, .slice none 0 0]) ?_ 2 _ rfl; refine bp ?_; refine blk_put (cs := #[.int .i64 t694, .int .i64 0, .slice none 0 0]) ?_ 1 _ rfl; refine bp ?_; refine blk_put (cs := #[.int .i64 0, .int .i64 0, .slice none 0 0]) ?_ 0 _ rfl; exact Kz BK700.out) hb); have n9_ := Bc HB hb; clear HO_71 HO_678002 HO_685002 HO_692002 HO698 BK677 BK684 BK691 BK700 HB; revert n0_ n1_ n2_ n3_ n4_ n5_ n6_ n7_ n8_ n9_; intro HO_71 HO_678002 HO_685002 HO_692002 HO698 BK677 BK684 BK691 BK700 HB; (try clear hb); (try clear hb2); (try clear hk); (try clear hi)))
              go_meet
              case rel => exact ⟨_, (!t701), wZ, H', ⟨by have := HJ7.out; have := HK2.out; first | omega | exact Nat.le_refl _⟩, ⟨Rz (Kd.R_mono HO_678002.out (fun _ hk => ⟨hk.1.2.1, ⟨hk.1.2.2, hk.2⟩⟩))⟩, ⟨Rz (Kd.R_mono HO_685002.out (fun _ hk => ⟨hk.1.1, ⟨hk.1.2, hk.2⟩⟩))⟩, ⟨Rz (Kd.R_mono HO_692002.out (fun _ hk => ⟨hk.1.2.1, ⟨hk.1.2.2, hk.2⟩⟩))⟩, ⟨Rz (Kd.R_mono HO698.out (fun _ hk => ⟨hk.1.1.2, ⟨hk.1.2, hk.2⟩⟩))⟩, ⟨Kz BK677.out⟩, ⟨Kz BK684.out⟩, ⟨Kz BK691.out⟩, ⟨Kz BK700.out⟩, ⟨Bq⟩⟩
            ·replace c55 := Bool.eq_false_iff.mpr c55
             subst c55
             rw [if_neg (show ¬ (false = true) by decide)] at H; exact absurd (H.trans (congrArg some HT_.out)) (laws_FnCountingForgets.j2.dead _ _ _ _ _ _ _ _ _)
           case rest =>
            refine Nonempty.elim ?_ id
            refine (letI hh_ : Nonempty (_ : Prop) := ?apart2; (?close2 : type_of% hh_))
            case apart2 =>
             refine Nonempty.intro ?_
             clear HC44
             try clear c1
             try clear c2
             try clear p2
             try clear c3
             try clear c4
             try clear c5
             try clear c6
             try clear p6
             try clear q6
             try clear hx6
             try clear c11
             try clear c15
             try clear c21
             try clear c22
             try clear c25
             try clear c25b0
             try clear c25b1
             try clear c25b2
             try clear c27
             try clear c28
             try clear c30
             try clear c32
             try clear c33
             try clear c35
             try clear c36
             try clear c37
             try clear c39
             try clear c39b0
             try clear c40
             try clear c40b0
             try clear c41
             try clear c41b0
             try clear c42
             try clear c45
             try clear c46
             try clear c49
             try clear c50
             try clear c51
             try clear c52
             try clear c55
             try clear c56
             try clear c58
             try clear c59
             try clear c60
             try clear c62
             try clear c63
             try clear p64
             try clear hx693_0
             try clear p2
             try clear p693
             try clear q693
             obtain ⟨kq, x100_43, rfl, HA, HJ43, HO_678002, HO_685002, HO_692002, HO_701002, BK677, BK684, BK691, BK700, HB⟩ := hcut; cases kq with
             | zero => exact absurd HA.out (by simp [laws_FnCountingForgets.j2])
             | succ kj43 =>
              have H := HA.out; clear HA
              simp only [laws_FnCountingForgets.j2] at H
              by_cases c66 : x100_43 = true
              ·subst c66
               rw [if_pos rfl] at H; exact absurd (Option.some.inj H) (by rw [HT_.out]; decide)
              ·replace c66 := Bool.eq_false_iff.mpr c66
               subst c66
               rw [if_neg (show ¬ (false = true) by decide)] at H; obtain ⟨⟨t702, t703, t704, t705, t708⟩, A67, H⟩ := ob H; (try dsimp -simprocs only at H); obtain ⟨⟨t710, t711, t712, t713, t716⟩, A68, H⟩ := ob H; (try dsimp -simprocs only at H); obtain ⟨⟨t718, t719, t720, t721, t724⟩, A69, H⟩ := ob H; (try dsimp -simprocs only at H)
               by_cases c70 : t708 = true
               ·subst c70
                rw [if_pos rfl] at H
                by_cases c71 : t716 = true
                ·subst c71
                 rw [if_pos rfl] at H
                 by_cases c72 : t724 = true
                 ·subst c72
                  rw [if_pos rfl] at H; obtain ⟨t726, A73, H⟩ := ob H; (try dsimp -simprocs only at H)
                  by_cases c74 : t726 = true
                  ·subst c74
                   rw [if_pos rfl] at H; have H' := am H; clear H; have hnb75 := NB677_684.out; have hnc75 := NB684_677.out; have hnb76 := NB677_691.out; have hnc76 := NB691_677.out; have hnb77 := NB677_700.out; have hnc77 := NB700_677.out; obtain ⟨hcz78_0, hcz78_1, hcz78_2, hfz78_0, hfz78_1, hfz78_2⟩ := cf3 (w := wc) BK677
                   go_wp2_with (first | ((with_reducible refine gate_callee (f := 62) rfl ?_); refine gL (some 103) Try.func62 #[.agg #[.int .i64 t671, .int .i64 t672, .slice Ao12 t673.length co12]] ?_; (with_reducible refine (impl_BloomOfCounting.calls kj43 t671 t672 _ _ t673 t702 t703 t704 t705 true _ ?side1 ?side2 A67.out).mono ?_); (case side1 => exact Cz ((Kd.R_reads' HO_678002.out).2.2)); (case side2 => exact (Kd.R_reads' HO_678002.out).2.1); rintro e w79 ⟨v706, rfl, ho0, hb⟩; refine ⟨_, rfl, ?_⟩; have n0_ := Re HO_678002 (Kd.R_base ho0) hb; have n1_ := Re HO_685002 (Kd.R_base ho0) hb; have n2_ := Re HO_692002 (Kd.R_base ho0) hb; have n3_ := Re HO_701002 (Kd.R_base ho0) hb; have n4_ := am (Kd.R_lower (Kd.R_new' (Kd.R_new' (Kd.R_new' (Kd.R_new' ho0 (Kd.R_lt (Rz HO_678002.out))) (Kd.R_lt (Rz HO_685002.out))) (Kd.R_lt (Rz HO_692002.out))) (Kd.R_lt (Rz HO_701002.out))) (below_size (w := w) (Bq))); have n5_ := Kb BK677 hb; have n6_ := Kb BK684 hb; have n7_ := Kb BK691 hb; have n8_ := Kb BK700 hb; have n9_ := Bc HB hb; clear HO_678002 HO_685002 HO_692002 HO_701002 BK677 BK684 BK691 BK700 HB; revert n0_ n1_ n2_ n3_ n4_ n5_ n6_ n7_ n8_ n9_; intro HO_678002 HO_685002 HO_692002 HO_701002 HO707 BK677 BK684 BK691 BK700 HB; (try clear hb); (try clear hb2); (try clear hk); (try clear hi); (try clear ho0)) | ((with_reducible refine gate_dst (N := 16) rfl ?_); refine bE 16 #[.int .i64 0, .int .i64 0, .int .i64 0, .slice none 0 0] 28 ?_; intro gb709 hg w80 hbox hb; have n0_ := Rb HO_678002 hb; have n1_ := Rb HO_685002 hb; have n2_ := Rb HO_692002 hb; have n3_ := Rb HO_701002 hb; have n4_ := Rb HO707 hb; have n5_ := Kb BK677 hb; have n6_ := Kb BK684 hb; have n7_ := Kb BK691 hb; have n8_ := Kb BK700 hb; have n9_ := Bc HB hb; have n10_ := am (hbox); have n11_ := Gm HB hg; have n12_ := Gm HB hg; have n13_ := Nl BK677 hg; have n14_ := Ng BK677 hg; have n15_ := Nl BK684 hg; have n16_ := Ng BK684 hg; have n17_ := Nl BK691 hg; have n18_ := Ng BK691 hg; have n19_ := Nl BK700 hg; have n20_ := Ng BK700 hg; clear HO_678002 HO_685002 HO_692002 HO_701002 HO707 BK677 BK684 BK691 BK700 HB; revert n0_ n1_ n2_ n3_ n4_ n5_ n6_ n7_ n8_ n9_ n10_ n11_ n12_ n13_ n14_ n15_ n16_ n17_ n18_ n19_ n20_; intro HO_678002 HO_685002 HO_692002 HO_701002 HO707 BK677 BK684 BK691 BK700 HB BK709 GW709 GE709 NB677_709 NB709_677 NB684_709 NB709_684 NB691_709 NB709_691 NB700_709 NB709_700; clear hb hbox hg; have hnb81 := NB709_677.out; have hnc81 := NB677_709.out; have hnb82 := NB709_684.out; have hnc82 := NB684_709.out; have hnb83 := NB709_691.out; have hnc83 := NB691_709.out; have hnb84 := NB709_700.out; have hnc84 := NB700_709.out; obtain ⟨hcz85_0, hcz85_1, hcz85_2, hcz85_3, hfz85_0, hfz85_1, hfz85_2, hfz85_3⟩ := cf4 (w := w80) BK709; obtain ⟨Ao86, co86, eo86⟩ := Kd.R_slice HO707.out; subst eo86; have hnb87 := NB684_691.out; have hnc87 := NB691_684.out; have hnb88 := NB684_700.out; have hnc88 := NB700_684.out; obtain ⟨hcz89_0, hcz89_1, hcz89_2, hfz89_0, hfz89_1, hfz89_2⟩ := cf3 (w := w80) BK684) | ((with_reducible refine gate_callee (f := 62) rfl ?_); refine gL (some 108) Try.func62 #[.agg #[.int .i64 t678, .int .i64 t679, .slice Ao17 t680.length co17]] ?_; (with_reducible refine (impl_BloomOfCounting.calls kj43 t678 t679 _ _ t680 t710 t711 t712 t713 true _ ?side1 ?side2 A68.out).mono ?_); (case side1 => refine (Kd.R_reads' (e := 3) (base := w.heap.size) (ok := fun k_ => ((some k_ ≠ (.slice Ao12 t673.length co12 : Value).ownBlock ∧ (some k_ ≠ (.slice Ao24 t687.length co24 : Value).ownBlock ∧ some k_ ≠ (.slice Ao54 t696.length co54 : Value).ownBlock)) ∧ some k_ ≠ (.slice Ao86 t705.length co86 : Value).ownBlock)) (n := t680.length) (c := co17) ?_).2.2; exact (Rz (Kd.R_mono (Kd.R_far (p := ⟨gb709, 3, none⟩) (Kd.R_far (p := ⟨gb709, 2, none⟩) (Kd.R_far (p := ⟨gb709, 1, none⟩) (Kd.R_far (p := ⟨gb709, 0, none⟩) (Kd.R_types HO_685002.out BK709.out (by decide)) (fun _ hk => hk.2) (.int .i64 t702)) (fun _ hk => hk.2) (.int .i64 t703)) (fun _ hk => hk.2) (.int .i64 t704)) (fun _ hk => hk.2) (.slice Ao86 t705.length co86)) (fun _ h_ => h_.1)))); (case side2 => exact (Kd.R_reads' HO_685002.out).2.1); rintro e w90 ⟨v714, rfl, ho0, hb⟩; refine ⟨_, rfl, ?_⟩; have n0_ := am (Kd.R_elder' (Rz (Kd.R_mono (Kd.R_far (p := ⟨gb709, 3, none⟩) (Kd.R_far (p := ⟨gb709, 2, none⟩) (Kd.R_far (p := ⟨gb709, 1, none⟩) (Kd.R_far (p := ⟨gb709, 0, none⟩) (Kd.R_types HO_678002.out BK709.out (by decide)) (fun _ hk => hk.2) (.int .i64 t702)) (fun _ hk => hk.2) (.int .i64 t703)) (fun _ hk => hk.2) (.int .i64 t704)) (fun _ hk => hk.2) (.slice Ao86 t705.length co86)) (fun _ h_ => h_.1))) (Kd.R_base ho0) hb); have n1_ := am (Kd.R_elder' (Rz (Kd.R_mono (Kd.R_far (p := ⟨gb709, 3, none⟩) (Kd.R_far (p := ⟨gb709, 2, none⟩) (Kd.R_far (p := ⟨gb709, 1, none⟩) (Kd.R_far (p := ⟨gb709, 0, none⟩) (Kd.R_types HO_685002.out BK709.out (by decide)) (fun _ hk => hk.2) (.int .i64 t702)) (fun _ hk => hk.2) (.int .i64 t703)) (fun _ hk => hk.2) (.int .i64 t704)) (fun _ hk => hk.2) (.slice Ao86 t705.length co86)) (fun _ h_ => h_.1))) (Kd.R_base ho0) hb); have n2_ := am (Kd.R_elder' (Rz (Kd.R_mono (Kd.R_far (p := ⟨gb709, 3, none⟩) (Kd.R_far (p := ⟨gb709, 2, none⟩) (Kd.R_far (p := ⟨gb709, 1, none⟩) (Kd.R_far (p := ⟨gb709, 0, none⟩) (Kd.R_types HO_692002.out BK709.out (by decide)) (fun _ hk => hk.2) (.int .i64 t702)) (fun _ hk => hk.2) (.int .i64 t703)) (fun _ hk => hk.2) (.int .i64 t704)) (fun _ hk => hk.2) (.slice Ao86 t705.length co86)) (fun _ h_ => h_.1))) (Kd.R_base ho0) hb); have n3_ := am (Kd.R_elder' (Rz (Kd.R_mono (Kd.R_far (p := ⟨gb709, 3, none⟩) (Kd.R_far (p := ⟨gb709, 2, none⟩) (Kd.R_far (p := ⟨gb709, 1, none⟩) (Kd.R_far (p := ⟨gb709, 0, none⟩) (Kd.R_types HO_701002.out BK709.out (by decide)) (fun _ hk => hk.2) (.int .i64 t702)) (fun _ hk => hk.2) (.int .i64 t703)) (fun _ hk => hk.2) (.int .i64 t704)) (fun _ hk => hk.2) (.slice Ao86 t705.length co86)) (fun _ h_ => h_.1))) (Kd.R_base ho0) hb); have n4_ := am (Kd.R_elder' (Rz (Kd.R_mono (Kd.R_far (p := ⟨gb709, 3, none⟩) (Kd.R_far (p := ⟨gb709, 2, none⟩) (Kd.R_far (p := ⟨gb709, 1, none⟩) (Kd.R_far (p := ⟨gb709, 0, none⟩) (Kd.R_types HO707.out BK709.out (by decide)) (fun _ hk => hk.2) (.int .i64 t702)) (fun _ hk => hk.2) (.int .i64 t703)) (fun _ hk => hk.2) (.int .i64 t704)) (fun _ hk => hk.2) (.slice Ao86 t705.length co86)) (fun _ h_ => h_.1))) (Kd.R_base ho0) hb); have n5_ := am (Kd.R_lower (Kd.R_new' (Kd.R_new' (Kd.R_new' (Kd.R_new' (Kd.R_new' ho0 (Kd.R_lt (Rz (Kd.R_mono (Kd.R_far (p := ⟨gb709, 3, none⟩) (Kd.R_far (p := ⟨gb709, 2, none⟩) (Kd.R_far (p := ⟨gb709, 1, none⟩) (Kd.R_far (p := ⟨gb709, 0, none⟩) (Kd.R_types HO_678002.out BK709.out (by decide)) (fun _ hk => hk.2) (.int .i64 t702)) (fun _ hk => hk.2) (.int .i64 t703)) (fun _ hk => hk.2) (.int .i64 t704)) (fun _ hk => hk.2) (.slice Ao86 t705.length co86)) (fun _ h_ => h_.1))))) (Kd.R_lt (Rz (Kd.R_mono (Kd.R_far (p := ⟨gb709, 3, none⟩) (Kd.R_far (p := ⟨gb709, 2, none⟩) (Kd.R_far (p := ⟨gb709, 1, none⟩) (Kd.R_far (p := ⟨gb709, 0, none⟩) (Kd.R_types HO_685002.out BK709.out (by decide)) (fun _ hk => hk.2) (.int .i64 t702)) (fun _ hk => hk.2) (.int .i64 t703)) (fun _ hk => hk.2) (.int .i64 t704)) (fun _ hk => hk.2) (.slice Ao86 t705.length co86)) (fun _ h_ => h_.1))))) (Kd.R_lt (Rz (Kd.R_mono (Kd.R_far (p := ⟨gb709, 3, none⟩) (Kd.R_far (p := ⟨gb709, 2, none⟩) (Kd.R_far (p := ⟨gb709, 1, none⟩) (Kd.R_far (p := ⟨gb709, 0, none⟩) (Kd.R_types HO_692002.out BK709.out (by decide)) (fun _ hk => hk.2) (.int .i64 t702)) (fun _ hk => hk.2) (.int .i64 t703)) (fun _ hk => hk.2) (.int .i64 t704)) (fun _ hk => hk.2) (.slice Ao86 t705.length co86)) (fun _ h_ => h_.1))))) (Kd.R_lt (Rz (Kd.R_mono (Kd.R_far (p := ⟨gb709, 3, none⟩) (Kd.R_far (p := ⟨gb709, 2, none⟩) (Kd.R_far (p := ⟨gb709, 1, none⟩) (Kd.R_far (p := ⟨gb709, 0, none⟩) (Kd.R_types HO_701002.out BK709.out (by decide)) (fun _ hk => hk.2) (.int .i64 t702)) (fun _ hk => hk.2) (.int .i64 t703)) (fun _ hk => hk.2) (.int .i64 t704)) (fun _ hk => hk.2) (.slice Ao86 t705.length co86)) (fun _ h_ => h_.1))))) (Kd.R_lt (Rz (Kd.R_mono (Kd.R_far (p := ⟨gb709, 3, none⟩) (Kd.R_far (p := ⟨gb709, 2, none⟩) (Kd.R_far (p := ⟨gb709, 1, none⟩) (Kd.R_far (p := ⟨gb709, 0, none⟩) (Kd.R_types HO707.out BK709.out (by decide)) (fun _ hk => hk.2) (.int .i64 t702)) (fun _ hk => hk.2) (.int .i64 t703)) (fun _ hk => hk.2) (.int .i64 t704)) (fun _ hk => hk.2) (.slice Ao86 t705.length co86)) (fun _ h_ => h_.1))))) (below_size (w := w) (Bq))); have n6_ := am (blk_below (g := gb677) (o := .cells #[.int .i64 t671, .int .i64 t672, .slice Ao12 t673.length co12] 49 (0, 0)) (by refine bp ?_; refine blk_far ?_ NB677_709.out _; refine bp ?_; refine blk_far ?_ NB677_709.out _; refine bp ?_; refine blk_far ?_ NB677_709.out _; refine bp ?_; refine blk_far ?_ NB677_709.out _; exact Kz BK677.out) hb); have n7_ := am (blk_below (g := gb684) (o := .cells #[.int .i64 t678, .int .i64 t679, .slice Ao17 t680.length co17] 49 (0, 0)) (by refine bp ?_; refine blk_far ?_ NB684_709.out _; refine bp ?_; refine blk_far ?_ NB684_709.out _; refine bp ?_; refine blk_far ?_ NB684_709.out _; refine bp ?_; refine blk_far ?_ NB684_709.out _; exact Kz BK684.out) hb); have n8_ := am (blk_below (g := gb691) (o := .cells #[.int .i64 t685, .int .i64 t686, .slice Ao24 t687.length co24] 49 (0, 0)) (by refine bp ?_; refine blk_far ?_ NB691_709.out _; refine bp ?_; refine blk_far ?_ NB691_709.out _; refine bp ?_; refine blk_far ?_ NB691_709.out _; refine bp ?_; refine blk_far ?_ NB691_709.out _; exact Kz BK691.out) hb); have n9_ := am (blk_below (g := gb700) (o := .cells #[.int .i64 t694, .int .i64 t695, .slice Ao54 t696.length co54] 49 (0, 0)) (by refine bp ?_; refine blk_far ?_ NB700_709.out _; refine bp ?_; refine blk_far ?_ NB700_709.out _; refine bp ?_; refine blk_far ?_ NB700_709.out _; refine bp ?_; refine blk_far ?_ NB700_709.out _; exact Kz BK700.out) hb); have n10_ := am (blk_below (g := gb709) (o := .cells #[.int .i64 t702, .int .i64 t703, .int .i64 t704, .slice Ao86 t705.length co86] 28 (0, 0)) (by refine bp ?_; refine blk_put (cs := #[.int .i64 t702, .int .i64 t703, .int .i64 t704, .slice none 0 0]) ?_ 3 _ rfl; refine bp ?_; refine blk_put (cs := #[.int .i64 t702, .int .i64 t703, .int .i64 0, .slice none 0 0]) ?_ 2 _ rfl; refine bp ?_; refine blk_put (cs := #[.int .i64 t702, .int .i64 0, .int .i64 0, .slice none 0 0]) ?_ 1 _ rfl; refine bp ?_; refine blk_put (cs := #[.int .i64 0, .int .i64 0, .int .i64 0, .slice none 0 0]) ?_ 0 _ rfl; exact Kz BK709.out) hb); have n11_ := Bc HB hb; clear HO_678002 HO_685002 HO_692002 HO_701002 HO707 BK677 BK684 BK691 BK700 BK709 HB; revert n0_ n1_ n2_ n3_ n4_ n5_ n6_ n7_ n8_ n9_ n10_ n11_; intro HO_678002 HO_685002 HO_692002 HO_701002 HO707 HO715 BK677 BK684 BK691 BK700 BK709 HB; (try clear hb); (try clear hb2); (try clear hk); (try clear hi); (try clear ho0)) | ((with_reducible refine gate_dst (N := 18) rfl ?_); refine bE 18 #[.int .i64 0, .int .i64 0, .int .i64 0, .slice none 0 0] 28 ?_; intro gb717 hg w91 hbox hb; have n0_ := Rb HO_678002 hb; have n1_ := Rb HO_685002 hb; have n2_ := Rb HO_692002 hb; have n3_ := Rb HO_701002 hb; have n4_ := Rb HO707 hb; have n5_ := Rb HO715 hb; have n6_ := Kb BK677 hb; have n7_ := Kb BK684 hb; have n8_ := Kb BK691 hb; have n9_ := Kb BK700 hb; have n10_ := Kb BK709 hb; have n11_ := Bc HB hb; have n12_ := am (hbox); have n13_ := Gm HB hg; have n14_ := Gm HB hg; have n15_ := Nl BK677 hg; have n16_ := Ng BK677 hg; have n17_ := Nl BK684 hg; have n18_ := Ng BK684 hg; have n19_ := Nl BK691 hg; have n20_ := Ng BK691 hg; have n21_ := Nl BK700 hg; have n22_ := Ng BK700 hg; have n23_ := Nl BK709 hg; have n24_ := Ng BK709 hg; clear HO_678002 HO_685002 HO_692002 HO_701002 HO707 HO715 BK677 BK684 BK691 BK700 BK709 HB; revert n0_ n1_ n2_ n3_ n4_ n5_ n6_ n7_ n8_ n9_ n10_ n11_ n12_ n13_ n14_ n15_ n16_ n17_ n18_ n19_ n20_ n21_ n22_ n23_ n24_; intro HO_678002 HO_685002 HO_692002 HO_701002 HO707 HO715 BK677 BK684 BK691 BK700 BK709 HB BK717 GW717 GE717 NB677_717 NB717_677 NB684_717 NB717_684 NB691_717 NB717_691 NB700_717 NB717_700 NB709_717 NB717_709; clear hb hbox hg; have hnb92 := NB717_677.out; have hnc92 := NB677_717.out; have hnb93 := NB717_684.out; have hnc93 := NB684_717.out; have hnb94 := NB717_691.out; have hnc94 := NB691_717.out; have hnb95 := NB717_700.out; have hnc95 := NB700_717.out; have hnb96 := NB717_709.out; have hnc96 := NB709_717.out; obtain ⟨hcz97_0, hcz97_1, hcz97_2, hcz97_3, hfz97_0, hfz97_1, hfz97_2, hfz97_3⟩ := cf4 (w := w91) BK717; obtain ⟨Ao98, co98, eo98⟩ := Kd.R_slice HO715.out; subst eo98; obtain ⟨hcz99_0, hcz99_1, hcz99_2, hcz99_3, hfz99_0, hfz99_1, hfz99_2, hfz99_3⟩ := cf4 (w := w91) BK709) | ((with_reducible refine gate_callee (f := 26) rfl ?_); refine gL (some 114) Try.func26 #[.agg #[.int .i64 t702, .int .i64 t703, .int .i64 t704, .slice Ao86 t705.length co86], .string t676] ?_; (with_reducible refine (impl_BloomAdd.calls kj43 t702 t703 t704 _ _ t705 t676 t718 t719 t720 t721 true _ ?side1 ?side2 A69.out).mono ?_); (case side1 => refine (Kd.R_reads' (e := 3) (base := w.heap.size) (ok := fun k_ => (((((True ∧ some k_ ≠ (.slice Ao12 t673.length co12 : Value).ownBlock) ∧ some k_ ≠ (.slice Ao17 t680.length co17 : Value).ownBlock) ∧ some k_ ≠ (.slice Ao24 t687.length co24 : Value).ownBlock) ∧ some k_ ≠ (.slice Ao54 t696.length co54 : Value).ownBlock) ∧ some k_ ≠ (.slice Ao98 t713.length co98 : Value).ownBlock)) (n := t705.length) (c := co86) ?_).2.2; exact (Rz (Kd.R_mono (Kd.R_far (p := ⟨gb717, 3, none⟩) (Kd.R_far (p := ⟨gb717, 2, none⟩) (Kd.R_far (p := ⟨gb717, 1, none⟩) (Kd.R_far (p := ⟨gb717, 0, none⟩) (Kd.R_types HO707.out BK717.out (by decide)) (fun _ hk => hk.2) (.int .i64 t710)) (fun _ hk => hk.2) (.int .i64 t711)) (fun _ hk => hk.2) (.int .i64 t712)) (fun _ hk => hk.2) (.slice Ao98 t713.length co98)) (fun _ h_ => h_.1)))); (case side2 => exact (Kd.R_reads' HO707.out).2.1); rintro e w100 ⟨v722, rfl, ho0, hb⟩; refine ⟨_, rfl, ?_⟩; have n0_ := am (Kd.R_elder' (Rz (Kd.R_mono (Kd.R_far (p := ⟨gb717, 3, none⟩) (Kd.R_far (p := ⟨gb717, 2, none⟩) (Kd.R_far (p := ⟨gb717, 1, none⟩) (Kd.R_far (p := ⟨gb717, 0, none⟩) (Kd.R_types HO_678002.out BK717.out (by decide)) (fun _ hk => hk.2) (.int .i64 t710)) (fun _ hk => hk.2) (.int .i64 t711)) (fun _ hk => hk.2) (.int .i64 t712)) (fun _ hk => hk.2) (.slice Ao98 t713.length co98)) (fun _ h_ => h_.1))) (Kd.R_base ho0) hb); have n1_ := am (Kd.R_elder' (Rz (Kd.R_mono (Kd.R_far (p := ⟨gb717, 3, none⟩) (Kd.R_far (p := ⟨gb717, 2, none⟩) (Kd.R_far (p := ⟨gb717, 1, none⟩) (Kd.R_far (p := ⟨gb717, 0, none⟩) (Kd.R_types HO_685002.out BK717.out (by decide)) (fun _ hk => hk.2) (.int .i64 t710)) (fun _ hk => hk.2) (.int .i64 t711)) (fun _ hk => hk.2) (.int .i64 t712)) (fun _ hk => hk.2) (.slice Ao98 t713.length co98)) (fun _ h_ => h_.1))) (Kd.R_base ho0) hb); have n2_ := am (Kd.R_elder' (Rz (Kd.R_mono (Kd.R_far (p := ⟨gb717, 3, none⟩) (Kd.R_far (p := ⟨gb717, 2, none⟩) (Kd.R_far (p := ⟨gb717, 1, none⟩) (Kd.R_far (p := ⟨gb717, 0, none⟩) (Kd.R_types HO_692002.out BK717.out (by decide)) (fun _ hk => hk.2) (.int .i64 t710)) (fun _ hk => hk.2) (.int .i64 t711)) (fun _ hk => hk.2) (.int .i64 t712)) (fun _ hk => hk.2) (.slice Ao98 t713.length co98)) (fun _ h_ => h_.1))) (Kd.R_base ho0) hb); have n3_ := am (Kd.R_elder' (Rz (Kd.R_mono (Kd.R_far (p := ⟨gb717, 3, none⟩) (Kd.R_far (p := ⟨gb717, 2, none⟩) (Kd.R_far (p := ⟨gb717, 1, none⟩) (Kd.R_far (p := ⟨gb717, 0, none⟩) (Kd.R_types HO_701002.out BK717.out (by decide)) (fun _ hk => hk.2) (.int .i64 t710)) (fun _ hk => hk.2) (.int .i64 t711)) (fun _ hk => hk.2) (.int .i64 t712)) (fun _ hk => hk.2) (.slice Ao98 t713.length co98)) (fun _ h_ => h_.1))) (Kd.R_base ho0) hb); have n4_ := am (Kd.R_elder' (Rz (Kd.R_mono (Kd.R_far (p := ⟨gb717, 3, none⟩) (Kd.R_far (p := ⟨gb717, 2, none⟩) (Kd.R_far (p := ⟨gb717, 1, none⟩) (Kd.R_far (p := ⟨gb717, 0, none⟩) (Kd.R_types HO707.out BK717.out (by decide)) (fun _ hk => hk.2) (.int .i64 t710)) (fun _ hk => hk.2) (.int .i64 t711)) (fun _ hk => hk.2) (.int .i64 t712)) (fun _ hk => hk.2) (.slice Ao98 t713.length co98)) (fun _ h_ => h_.1))) (Kd.R_base ho0) hb); have n5_ := am (Kd.R_elder' (Rz (Kd.R_mono (Kd.R_far (p := ⟨gb717, 3, none⟩) (Kd.R_far (p := ⟨gb717, 2, none⟩) (Kd.R_far (p := ⟨gb717, 1, none⟩) (Kd.R_far (p := ⟨gb717, 0, none⟩) (Kd.R_types HO715.out BK717.out (by decide)) (fun _ hk => hk.2) (.int .i64 t710)) (fun _ hk => hk.2) (.int .i64 t711)) (fun _ hk => hk.2) (.int .i64 t712)) (fun _ hk => hk.2) (.slice Ao98 t713.length co98)) (fun _ h_ => h_.1))) (Kd.R_base ho0) hb); have n6_ := am (Kd.R_lower (Kd.R_new' (Kd.R_new' (Kd.R_new' (Kd.R_new' (Kd.R_new' (Kd.R_new' ho0 (Kd.R_lt (Rz (Kd.R_mono (Kd.R_far (p := ⟨gb717, 3, none⟩) (Kd.R_far (p := ⟨gb717, 2, none⟩) (Kd.R_far (p := ⟨gb717, 1, none⟩) (Kd.R_far (p := ⟨gb717, 0, none⟩) (Kd.R_types HO_678002.out BK717.out (by decide)) (fun _ hk => hk.2) (.int .i64 t710)) (fun _ hk => hk.2) (.int .i64 t711)) (fun _ hk => hk.2) (.int .i64 t712)) (fun _ hk => hk.2) (.slice Ao98 t713.length co98)) (fun _ h_ => h_.1))))) (Kd.R_lt (Rz (Kd.R_mono (Kd.R_far (p := ⟨gb717, 3, none⟩) (Kd.R_far (p := ⟨gb717, 2, none⟩) (Kd.R_far (p := ⟨gb717, 1, none⟩) (Kd.R_far (p := ⟨gb717, 0, none⟩) (Kd.R_types HO_685002.out BK717.out (by decide)) (fun _ hk => hk.2) (.int .i64 t710)) (fun _ hk => hk.2) (.int .i64 t711)) (fun _ hk => hk.2) (.int .i64 t712)) (fun _ hk => hk.2) (.slice Ao98 t713.length co98)) (fun _ h_ => h_.1))))) (Kd.R_lt (Rz (Kd.R_mono (Kd.R_far (p := ⟨gb717, 3, none⟩) (Kd.R_far (p := ⟨gb717, 2, none⟩) (Kd.R_far (p := ⟨gb717, 1, none⟩) (Kd.R_far (p := ⟨gb717, 0, none⟩) (Kd.R_types HO_692002.out BK717.out (by decide)) (fun _ hk => hk.2) (.int .i64 t710)) (fun _ hk => hk.2) (.int .i64 t711)) (fun _ hk => hk.2) (.int .i64 t712)) (fun _ hk => hk.2) (.slice Ao98 t713.length co98)) (fun _ h_ => h_.1))))) (Kd.R_lt (Rz (Kd.R_mono (Kd.R_far (p := ⟨gb717, 3, none⟩) (Kd.R_far (p := ⟨gb717, 2, none⟩) (Kd.R_far (p := ⟨gb717, 1, none⟩) (Kd.R_far (p := ⟨gb717, 0, none⟩) (Kd.R_types HO_701002.out BK717.out (by decide)) (fun _ hk => hk.2) (.int .i64 t710)) (fun _ hk => hk.2) (.int .i64 t711)) (fun _ hk => hk.2) (.int .i64 t712)) (fun _ hk => hk.2) (.slice Ao98 t713.length co98)) (fun _ h_ => h_.1))))) (Kd.R_lt (Rz (Kd.R_mono (Kd.R_far (p := ⟨gb717, 3, none⟩) (Kd.R_far (p := ⟨gb717, 2, none⟩) (Kd.R_far (p := ⟨gb717, 1, none⟩) (Kd.R_far (p := ⟨gb717, 0, none⟩) (Kd.R_types HO707.out BK717.out (by decide)) (fun _ hk => hk.2) (.int .i64 t710)) (fun _ hk => hk.2) (.int .i64 t711)) (fun _ hk => hk.2) (.int .i64 t712)) (fun _ hk => hk.2) (.slice Ao98 t713.length co98)) (fun _ h_ => h_.1))))) (Kd.R_lt (Rz (Kd.R_mono (Kd.R_far (p := ⟨gb717, 3, none⟩) (Kd.R_far (p := ⟨gb717, 2, none⟩) (Kd.R_far (p := ⟨gb717, 1, none⟩) (Kd.R_far (p := ⟨gb717, 0, none⟩) (Kd.R_types HO715.out BK717.out (by decide)) (fun _ hk => hk.2) (.int .i64 t710)) (fun _ hk => hk.2) (.int .i64 t711)) (fun _ hk => hk.2) (.int .i64 t712)) (fun _ hk => hk.2) (.slice Ao98 t713.length co98)) (fun _ h_ => h_.1))))) (below_size (w := w) (Bq))); have n7_ := am (blk_below (g := gb677) (o := .cells #[.int .i64 t671, .int .i64 t672, .slice Ao12 t673.length co12] 49 (0, 0)) (by refine bp ?_; refine blk_far ?_ NB677_717.out _; refine bp ?_; refine blk_far ?_ NB677_717.out _; refine bp ?_; refine blk_far ?_ NB677_717.out _; refine bp ?_; refine blk_far ?_ NB677_717.out _; exact Kz BK677.out) hb); have n8_ := am (blk_below (g := gb684) (o := .cells #[.int .i64 t678, .int .i64 t679, .slice Ao17 t680.length co17] 49 (0, 0)) (by refine bp ?_; refine blk_far ?_ NB684_717.out _; refine bp ?_; refine blk_far ?_ NB684_717.out _; refine bp ?_; refine blk_far ?_ NB684_717.out _; refine bp ?_; refine blk_far ?_ NB684_717.out _; exact Kz BK684.out) hb); have n9_ := am (blk_below (g := gb691) (o := .cells #[.int .i64 t685, .int .i64 t686, .slice Ao24 t687.length co24] 49 (0, 0)) (by refine bp ?_; refine blk_far ?_ NB691_717.out _; refine bp ?_; refine blk_far ?_ NB691_717.out _; refine bp ?_; refine blk_far ?_ NB691_717.out _; refine bp ?_; refine blk_far ?_ NB691_717.out _; exact Kz BK691.out) hb); have n10_ := am (blk_below (g := gb700) (o := .cells #[.int .i64 t694, .int .i64 t695, .slice Ao54 t696.length co54] 49 (0, 0)) (by refine bp ?_; refine blk_far ?_ NB700_717.out _; refine bp ?_; refine blk_far ?_ NB700_717.out _; refine bp ?_; refine blk_far ?_ NB700_717.out _; refine bp ?_; refine blk_far ?_ NB700_717.out _; exact Kz BK700.out) hb); have n11_ := am (blk_below (g := gb709) (o := .cells #[.int .i64 t702, .int .i64 t703, .int .i64 t704, .slice Ao86 t705.length co86] 28 (0, 0)) (by refine bp ?_; refine blk_far ?_ NB709_717.out _; refine bp ?_; refine blk_far ?_ NB709_717.out _; refine bp ?_; refine blk_far ?_ NB709_717.out _; refine bp ?_; refine blk_far ?_ NB709_717.out _; exact Kz BK709.out) hb); have n12_ := am (blk_below (g := gb717) (o := .cells #[.int .i64 t710, .int .i64 t711, .int .i64 t712, .slice Ao98 t713.length co98] 28 (0, 0)) (by refine bp ?_; refine blk_put (cs := #[.int .i64 t710, .int .i64 t711, .int .i64 t712, .slice none 0 0]) ?_ 3 _ rfl; refine bp ?_; refine blk_put (cs := #[.int .i64 t710, .int .i64 t711, .int .i64 0, .slice none 0 0]) ?_ 2 _ rfl; refine bp ?_; refine blk_put (cs := #[.int .i64 t710, .int .i64 0, .int .i64 0, .slice none 0 0]) ?_ 1 _ rfl; refine bp ?_; refine blk_put (cs := #[.int .i64 0, .int .i64 0, .int .i64 0, .slice none 0 0]) ?_ 0 _ rfl; exact Kz BK717.out) hb); have n13_ := Bc HB hb; clear HO_678002 HO_685002 HO_692002 HO_701002 HO707 HO715 BK677 BK684 BK691 BK700 BK709 BK717 HB; revert n0_ n1_ n2_ n3_ n4_ n5_ n6_ n7_ n8_ n9_ n10_ n11_ n12_ n13_; intro HO_678002 HO_685002 HO_692002 HO_701002 HO707 HO715 HO723 BK677 BK684 BK691 BK700 BK709 BK717 HB; (try clear hb); (try clear hb2); (try clear hk); (try clear hi); (try clear ho0)) | ((with_reducible refine gate_dst (N := 20) rfl ?_); refine bE 20 #[.int .i64 0, .int .i64 0, .int .i64 0, .slice none 0 0] 28 ?_; intro gb725 hg w101 hbox hb; have n0_ := Rb HO_678002 hb; have n1_ := Rb HO_685002 hb; have n2_ := Rb HO_692002 hb; have n3_ := Rb HO_701002 hb; have n4_ := Rb HO707 hb; have n5_ := Rb HO715 hb; have n6_ := Rb HO723 hb; have n7_ := Kb BK677 hb; have n8_ := Kb BK684 hb; have n9_ := Kb BK691 hb; have n10_ := Kb BK700 hb; have n11_ := Kb BK709 hb; have n12_ := Kb BK717 hb; have n13_ := Bc HB hb; have n14_ := am (hbox); have n15_ := Gm HB hg; have n16_ := Gm HB hg; have n17_ := Nl BK677 hg; have n18_ := Ng BK677 hg; have n19_ := Nl BK684 hg; have n20_ := Ng BK684 hg; have n21_ := Nl BK691 hg; have n22_ := Ng BK691 hg; have n23_ := Nl BK700 hg; have n24_ := Ng BK700 hg; have n25_ := Nl BK709 hg; have n26_ := Ng BK709 hg; have n27_ := Nl BK717 hg; have n28_ := Ng BK717 hg; clear HO_678002 HO_685002 HO_692002 HO_701002 HO707 HO715 HO723 BK677 BK684 BK691 BK700 BK709 BK717 HB; revert n0_ n1_ n2_ n3_ n4_ n5_ n6_ n7_ n8_ n9_ n10_ n11_ n12_ n13_ n14_ n15_ n16_ n17_ n18_ n19_ n20_ n21_ n22_ n23_ n24_ n25_ n26_ n27_ n28_; intro HO_678002 HO_685002 HO_692002 HO_701002 HO707 HO715 HO723 BK677 BK684 BK691 BK700 BK709 BK717 HB BK725 GW725 GE725 NB677_725 NB725_677 NB684_725 NB725_684 NB691_725 NB725_691 NB700_725 NB725_700 NB709_725 NB725_709 NB717_725 NB725_717; clear hb hbox hg; have hnb102 := NB725_677.out; have hnc102 := NB677_725.out; have hnb103 := NB725_684.out; have hnc103 := NB684_725.out; have hnb104 := NB725_691.out; have hnc104 := NB691_725.out; have hnb105 := NB725_700.out; have hnc105 := NB700_725.out; have hnb106 := NB725_709.out; have hnc106 := NB709_725.out; have hnb107 := NB725_717.out; have hnc107 := NB717_725.out; obtain ⟨hcz108_0, hcz108_1, hcz108_2, hcz108_3, hfz108_0, hfz108_1, hfz108_2, hfz108_3⟩ := cf4 (w := w101) BK725; obtain ⟨Ao109, co109, eo109⟩ := Kd.R_slice HO723.out; subst eo109; obtain ⟨hcz110_0, hcz110_1, hcz110_2, hcz110_3, hfz110_0, hfz110_1, hfz110_2, hfz110_3⟩ := cf4 (w := w101) BK717) | (go_at_call 53; (with_reducible refine (laws_rSameBloom.calls kj43 t710 t711 t712 _ _ t713 t718 t719 t720 _ _ t721 true _ ?side1 ?side2 ?side3 ?side4 A73.out).mono ?_); (case side1 => refine (Kd.R_reads' (e := 3) (base := w.heap.size) (ok := fun k_ => ((((((True ∧ some k_ ≠ (.slice Ao12 t673.length co12 : Value).ownBlock) ∧ some k_ ≠ (.slice Ao17 t680.length co17 : Value).ownBlock) ∧ some k_ ≠ (.slice Ao24 t687.length co24 : Value).ownBlock) ∧ some k_ ≠ (.slice Ao54 t696.length co54 : Value).ownBlock) ∧ some k_ ≠ (.slice Ao86 t705.length co86 : Value).ownBlock) ∧ some k_ ≠ (.slice Ao109 t721.length co109 : Value).ownBlock)) (n := t713.length) (c := co98) ?_).2.2; exact (Rz (Kd.R_mono (Kd.R_far (p := ⟨gb725, 3, none⟩) (Kd.R_far (p := ⟨gb725, 2, none⟩) (Kd.R_far (p := ⟨gb725, 1, none⟩) (Kd.R_far (p := ⟨gb725, 0, none⟩) (Kd.R_types HO715.out BK725.out (by decide)) (fun _ hk => hk.2) (.int .i64 t718)) (fun _ hk => hk.2) (.int .i64 t719)) (fun _ hk => hk.2) (.int .i64 t720)) (fun _ hk => hk.2) (.slice Ao109 t721.length co109)) (fun _ h_ => h_.1)))); (case side2 => exact (Kd.R_reads' HO715.out).2.1); (case side3 => refine (Kd.R_reads' (e := 3) (base := w.heap.size) (ok := fun k_ => ((((((True ∧ some k_ ≠ (.slice Ao12 t673.length co12 : Value).ownBlock) ∧ some k_ ≠ (.slice Ao17 t680.length co17 : Value).ownBlock) ∧ some k_ ≠ (.slice Ao24 t687.length co24 : Value).ownBlock) ∧ some k_ ≠ (.slice Ao54 t696.length co54 : Value).ownBlock) ∧ some k_ ≠ (.slice Ao86 t705.length co86 : Value).ownBlock) ∧ some k_ ≠ (.slice Ao98 t713.length co98 : Value).ownBlock)) (n := t721.length) (c := co109) ?_).2.2; exact (Rz (Kd.R_mono (Kd.R_far (p := ⟨gb725, 3, none⟩) (Kd.R_far (p := ⟨gb725, 2, none⟩) (Kd.R_far (p := ⟨gb725, 1, none⟩) (Kd.R_far (p := ⟨gb725, 0, none⟩) (Kd.R_types HO723.out BK725.out (by decide)) (fun _ hk => hk.2) (.int .i64 t718)) (fun _ hk => hk.2) (.int .i64 t719)) (fun _ hk => hk.2) (.int .i64 t720)) (fun _ hk => hk.2) (.slice Ao109 t721.length co109)) (fun _ h_ => h_.1)))); (case side4 => exact (Kd.R_reads' HO723.out).2.1); rintro e w111 ⟨rfl, hb⟩; have n0_ := am (Kd.R_below (Rz (Kd.R_mono (Kd.R_far (p := ⟨gb725, 3, none⟩) (Kd.R_far (p := ⟨gb725, 2, none⟩) (Kd.R_far (p := ⟨gb725, 1, none⟩) (Kd.R_far (p := ⟨gb725, 0, none⟩) (Kd.R_types HO_678002.out BK725.out (by decide)) (fun _ hk => hk.2) (.int .i64 t718)) (fun _ hk => hk.2) (.int .i64 t719)) (fun _ hk => hk.2) (.int .i64 t720)) (fun _ hk => hk.2) (.slice Ao109 t721.length co109)) (fun _ h_ => h_.1))) hb); have n1_ := am (Kd.R_below (Rz (Kd.R_mono (Kd.R_far (p := ⟨gb725, 3, none⟩) (Kd.R_far (p := ⟨gb725, 2, none⟩) (Kd.R_far (p := ⟨gb725, 1, none⟩) (Kd.R_far (p := ⟨gb725, 0, none⟩) (Kd.R_types HO_685002.out BK725.out (by decide)) (fun _ hk => hk.2) (.int .i64 t718)) (fun _ hk => hk.2) (.int .i64 t719)) (fun _ hk => hk.2) (.int .i64 t720)) (fun _ hk => hk.2) (.slice Ao109 t721.length co109)) (fun _ h_ => h_.1))) hb); have n2_ := am (Kd.R_below (Rz (Kd.R_mono (Kd.R_far (p := ⟨gb725, 3, none⟩) (Kd.R_far (p := ⟨gb725, 2, none⟩) (Kd.R_far (p := ⟨gb725, 1, none⟩) (Kd.R_far (p := ⟨gb725, 0, none⟩) (Kd.R_types HO_692002.out BK725.out (by decide)) (fun _ hk => hk.2) (.int .i64 t718)) (fun _ hk => hk.2) (.int .i64 t719)) (fun _ hk => hk.2) (.int .i64 t720)) (fun _ hk => hk.2) (.slice Ao109 t721.length co109)) (fun _ h_ => h_.1))) hb); have n3_ := am (Kd.R_below (Rz (Kd.R_mono (Kd.R_far (p := ⟨gb725, 3, none⟩) (Kd.R_far (p := ⟨gb725, 2, none⟩) (Kd.R_far (p := ⟨gb725, 1, none⟩) (Kd.R_far (p := ⟨gb725, 0, none⟩) (Kd.R_types HO_701002.out BK725.out (by decide)) (fun _ hk => hk.2) (.int .i64 t718)) (fun _ hk => hk.2) (.int .i64 t719)) (fun _ hk => hk.2) (.int .i64 t720)) (fun _ hk => hk.2) (.slice Ao109 t721.length co109)) (fun _ h_ => h_.1))) hb); have n4_ := am (Kd.R_below (Rz (Kd.R_mono (Kd.R_far (p := ⟨gb725, 3, none⟩) (Kd.R_far (p := ⟨gb725, 2, none⟩) (Kd.R_far (p := ⟨gb725, 1, none⟩) (Kd.R_far (p := ⟨gb725, 0, none⟩) (Kd.R_types HO707.out BK725.out (by decide)) (fun _ hk => hk.2) (.int .i64 t718)) (fun _ hk => hk.2) (.int .i64 t719)) (fun _ hk => hk.2) (.int .i64 t720)) (fun _ hk => hk.2) (.slice Ao109 t721.length co109)) (fun _ h_ => h_.1))) hb); have n5_ := am (Kd.R_below (Rz (Kd.R_mono (Kd.R_far (p := ⟨gb725, 3, none⟩) (Kd.R_far (p := ⟨gb725, 2, none⟩) (Kd.R_far (p := ⟨gb725, 1, none⟩) (Kd.R_far (p := ⟨gb725, 0, none⟩) (Kd.R_types HO715.out BK725.out (by decide)) (fun _ hk => hk.2) (.int .i64 t718)) (fun _ hk => hk.2) (.int .i64 t719)) (fun _ hk => hk.2) (.int .i64 t720)) (fun _ hk => hk.2) (.slice Ao109 t721.length co109)) (fun _ h_ => h_.1))) hb); have n6_ := am (Kd.R_below (Rz (Kd.R_mono (Kd.R_far (p := ⟨gb725, 3, none⟩) (Kd.R_far (p := ⟨gb725, 2, none⟩) (Kd.R_far (p := ⟨gb725, 1, none⟩) (Kd.R_far (p := ⟨gb725, 0, none⟩) (Kd.R_types HO723.out BK725.out (by decide)) (fun _ hk => hk.2) (.int .i64 t718)) (fun _ hk => hk.2) (.int .i64 t719)) (fun _ hk => hk.2) (.int .i64 t720)) (fun _ hk => hk.2) (.slice Ao109 t721.length co109)) (fun _ h_ => h_.1))) hb); have n7_ := am (blk_below (g := gb677) (o := .cells #[.int .i64 t671, .int .i64 t672, .slice Ao12 t673.length co12] 49 (0, 0)) (by refine bp ?_; refine blk_far ?_ NB677_725.out _; refine bp ?_; refine blk_far ?_ NB677_725.out _; refine bp ?_; refine blk_far ?_ NB677_725.out _; refine bp ?_; refine blk_far ?_ NB677_725.out _; exact Kz BK677.out) hb); have n8_ := am (blk_below (g := gb684) (o := .cells #[.int .i64 t678, .int .i64 t679, .slice Ao17 t680.length co17] 49 (0, 0)) (by refine bp ?_; refine blk_far ?_ NB684_725.out _; refine bp ?_; refine blk_far ?_ NB684_725.out _; refine bp ?_; refine blk_far ?_ NB684_725.out _; refine bp ?_; refine blk_far ?_ NB684_725.out _; exact Kz BK684.out) hb); have n9_ := am (blk_below (g := gb691) (o := .cells #[.int .i64 t685, .int .i64 t686, .slice Ao24 t687.length co24] 49 (0, 0)) (by refine bp ?_; refine blk_far ?_ NB691_725.out _; refine bp ?_; refine blk_far ?_ NB691_725.out _; refine bp ?_; refine blk_far ?_ NB691_725.out _; refine bp ?_; refine blk_far ?_ NB691_725.out _; exact Kz BK691.out) hb); have n10_ := am (blk_below (g := gb700) (o := .cells #[.int .i64 t694, .int .i64 t695, .slice Ao54 t696.length co54] 49 (0, 0)) (by refine bp ?_; refine blk_far ?_ NB700_725.out _; refine bp ?_; refine blk_far ?_ NB700_725.out _; refine bp ?_; refine blk_far ?_ NB700_725.out _; refine bp ?_; refine blk_far ?_ NB700_725.out _; exact Kz BK700.out) hb); have n11_ := am (blk_below (g := gb709) (o := .cells #[.int .i64 t702, .int .i64 t703, .int .i64 t704, .slice Ao86 t705.length co86] 28 (0, 0)) (by refine bp ?_; refine blk_far ?_ NB709_725.out _; refine bp ?_; refine blk_far ?_ NB709_725.out _; refine bp ?_; refine blk_far ?_ NB709_725.out _; refine bp ?_; refine blk_far ?_ NB709_725.out _; exact Kz BK709.out) hb); have n12_ := am (blk_below (g := gb717) (o := .cells #[.int .i64 t710, .int .i64 t711, .int .i64 t712, .slice Ao98 t713.length co98] 28 (0, 0)) (by refine bp ?_; refine blk_far ?_ NB717_725.out _; refine bp ?_; refine blk_far ?_ NB717_725.out _; refine bp ?_; refine blk_far ?_ NB717_725.out _; refine bp ?_; refine blk_far ?_ NB717_725.out _; exact Kz BK717.out) hb); have n13_ := am (blk_below (g := gb725) (o := .cells #[.int .i64 t718, .int .i64 t719, .int .i64 t720, .slice Ao109 t721.length co109] 28 (0, 0)) (by refine bp ?_; refine blk_put (cs := #[.int .i64 t718, .int .i64 t719, .int .i64 t720, .slice none 0 0]) ?_ 3 _ rfl; refine bp ?_; refine blk_put (cs := #[.int .i64 t718, .int .i64 t719, .int .i64 0, .slice none 0 0]) ?_ 2 _ rfl; refine bp ?_; refine blk_put (cs := #[.int .i64 t718, .int .i64 0, .int .i64 0, .slice none 0 0]) ?_ 1 _ rfl; refine bp ?_; refine blk_put (cs := #[.int .i64 0, .int .i64 0, .int .i64 0, .slice none 0 0]) ?_ 0 _ rfl; exact Kz BK725.out) hb); have n14_ := Bc HB hb; clear HO_678002 HO_685002 HO_692002 HO_701002 HO707 HO715 HO723 BK677 BK684 BK691 BK700 BK709 BK717 BK725 HB; revert n0_ n1_ n2_ n3_ n4_ n5_ n6_ n7_ n8_ n9_ n10_ n11_ n12_ n13_ n14_; intro HO_678002 HO_685002 HO_692002 HO_701002 HO707 HO715 HO723 BK677 BK684 BK691 BK700 BK709 BK717 BK725 HB; (try clear hb); (try clear hb2); (try clear hk); (try clear hi)))
                   go_meet
                   case rel => exact ⟨_, H', ⟨by have := HJ7.out; have := HK2.out; have := HJ43.out; first | omega | exact Nat.le_refl _⟩, ⟨Rz (Kd.R_mono HO_678002.out (fun _ hk => ⟨hk.1.1.1.1, hk.1.1.1.2.1⟩))⟩, ⟨Rz (Kd.R_mono HO_685002.out (fun _ hk => ⟨hk.1.1.1.1, hk.1.1.1.2.1⟩))⟩, ⟨Rz (Kd.R_mono HO_692002.out (fun _ hk => ⟨hk.1.1.1.1, hk.1.1.1.2.1⟩))⟩, ⟨Kz BK677.out⟩, ⟨Kz BK684.out⟩, ⟨Kz BK691.out⟩, ⟨Bq⟩⟩
                  ·replace c74 := Bool.eq_false_iff.mpr c74
                   subst c74
                   rw [if_neg (show ¬ (false = true) by decide)] at H; exact absurd (Option.some.inj H) (by rw [HT_.out]; decide)
                 ·replace c72 := Bool.eq_false_iff.mpr c72
                  subst c72
                  rw [if_neg (show ¬ (false = true) by decide)] at H; exact absurd (Option.some.inj H) (by rw [HT_.out]; decide)
                ·replace c71 := Bool.eq_false_iff.mpr c71
                 subst c71
                 rw [if_neg (show ¬ (false = true) by decide)] at H; exact absurd (Option.some.inj H) (by rw [HT_.out]; decide)
               ·replace c70 := Bool.eq_false_iff.mpr c70
                subst c70
                rw [if_neg (show ¬ (false = true) by decide)] at H; exact absurd (Option.some.inj H) (by rw [HT_.out]; decide)
            case close2 => exact inferInstanceAs _
       ·replace c35 := Bool.eq_false_iff.mpr c35
        subst c35
        rw [if_neg (show ¬ (false = true) by decide)] at H; have H' := am H; clear H
        go_wp2
        go_meet
        case rel => exact ⟨_, H', ⟨by have := HJ7.out; first | omega | exact Nat.le_refl _⟩, ⟨Rz HO_678002.out⟩, ⟨Rz HO_685002.out⟩, ⟨Rz HO_692002.out⟩, ⟨Kz BK677.out⟩, ⟨Kz BK684.out⟩, ⟨Kz BK691.out⟩, ⟨Bq⟩⟩
      case rest =>
       refine Nonempty.elim ?_ id
       refine (letI hh_ : Nonempty (_ : Prop) := ?apart3; (?close3 : type_of% hh_))
       case apart3 =>
        refine Nonempty.intro ?_
        clear HC34
        try clear c1
        try clear c2
        try clear p2
        try clear c3
        try clear c4
        try clear c5
        try clear c6
        try clear p6
        try clear q6
        try clear hx6
        try clear c7
        try clear c8
        try clear c9
        try clear c10
        try clear c11
        try clear c15
        try clear c21
        try clear c22
        try clear c25
        try clear c25b0
        try clear c25b1
        try clear c25b2
        try clear c26
        try clear c27
        try clear c28
        try clear c30
        try clear c32
        try clear c33
        try clear c35
        try clear c36
        try clear c37
        try clear c39
        try clear c39b0
        try clear c40
        try clear c40b0
        try clear c41
        try clear c41b0
        try clear c42
        try clear c45
        try clear c46
        try clear c49
        try clear c50
        try clear c51
        try clear c52
        try clear c55
        try clear c56
        try clear c58
        try clear c59
        try clear c60
        try clear c62
        try clear c63
        try clear p64
        try clear c66
        try clear p69
        try clear q69
        try clear hx69
        try clear c70
        try clear c71
        try clear c72
        try clear c74
        try clear c75
        try clear c76
        try clear c77
        try clear c81
        try clear c82
        try clear c83
        try clear c84
        try clear c87
        try clear c88
        try clear c92
        try clear c93
        try clear c94
        try clear c95
        try clear c96
        try clear c102
        try clear c103
        try clear c104
        try clear c105
        try clear c106
        try clear c107
        try clear hx693_0
        try clear p2
        try clear p6
        try clear p64
        try clear p693
        try clear q6
        try clear q693
        obtain ⟨kq, HA, HJ33, HO_678002, HO_685002, HO_692002, BK677, BK684, BK691, HB⟩ := hcut; cases kq with
        | zero => exact absurd HA.out (by simp [laws_FnCountingForgets.j3])
        | succ kj33 =>
         have H := HA.out; clear HA
         simp only [laws_FnCountingForgets.j3] at H
         obtain ⟨⟨t727, t728, t729, t732⟩, A112, H⟩ := ob H; (try dsimp -simprocs only at H); obtain ⟨⟨t734, t735, t736, t739⟩, A113, H⟩ := ob H; (try dsimp -simprocs only at H); obtain ⟨⟨t741, t742, t743, t746⟩, A114, H⟩ := ob H; (try dsimp -simprocs only at H); have HC115 := am H; clear H
         go_upto_region 26 with (first | ((with_reducible refine gate_callee (f := 63) rfl ?_); refine gL (some 135) Try.func63 #[.slice A1 l1.length c1] ?_; (with_reducible refine (spec_DrawCountingRemove.calls kj33 _ _ l1 t727 t728 t729 t732 _ ?side1 ?side2 A112.out).mono ?_); (case side1 => exact Cz (Kd.C_below HR1.out HB.out)); (case side2 => exact HC1.out); rintro e w116 ⟨v730, rfl, ho0, hb⟩; refine ⟨_, rfl, ?_⟩; have n0_ := Re HO_678002 (Kd.R_base ho0) hb; have n1_ := Re HO_685002 (Kd.R_base ho0) hb; have n2_ := Re HO_692002 (Kd.R_base ho0) hb; have n3_ := am (Kd.R_lower (Kd.R_new' (Kd.R_new' (Kd.R_new' ho0 (Kd.R_lt (Rz HO_678002.out))) (Kd.R_lt (Rz HO_685002.out))) (Kd.R_lt (Rz HO_692002.out))) (below_size (w := w) (Bq))); have n4_ := Kb BK677 hb; have n5_ := Kb BK684 hb; have n6_ := Kb BK691 hb; have n7_ := Bc HB hb; clear HO_678002 HO_685002 HO_692002 BK677 BK684 BK691 HB; revert n0_ n1_ n2_ n3_ n4_ n5_ n6_ n7_; intro HO_678002 HO_685002 HO_692002 HO731 BK677 BK684 BK691 HB; (try clear hb); (try clear hb2); (try clear hk); (try clear hi); (try clear ho0)) | ((with_reducible refine gate_dst (N := 22) rfl ?_); refine bE 22 #[.int .i64 0, .int .i64 0, .slice none 0 0] 49 ?_; intro gb733 hg w117 hbox hb; have n0_ := Rb HO_678002 hb; have n1_ := Rb HO_685002 hb; have n2_ := Rb HO_692002 hb; have n3_ := Rb HO731 hb; have n4_ := Kb BK677 hb; have n5_ := Kb BK684 hb; have n6_ := Kb BK691 hb; have n7_ := Bc HB hb; have n8_ := am (hbox); have n9_ := Gm HB hg; have n10_ := Gm HB hg; have n11_ := Nl BK677 hg; have n12_ := Ng BK677 hg; have n13_ := Nl BK684 hg; have n14_ := Ng BK684 hg; have n15_ := Nl BK691 hg; have n16_ := Ng BK691 hg; clear HO_678002 HO_685002 HO_692002 HO731 BK677 BK684 BK691 HB; revert n0_ n1_ n2_ n3_ n4_ n5_ n6_ n7_ n8_ n9_ n10_ n11_ n12_ n13_ n14_ n15_ n16_; intro HO_678002 HO_685002 HO_692002 HO731 BK677 BK684 BK691 HB BK733 GW733 GE733 NB677_733 NB733_677 NB684_733 NB733_684 NB691_733 NB733_691; clear hb hbox hg; have hnb118 := NB733_677.out; have hnc118 := NB677_733.out; have hnb119 := NB733_684.out; have hnc119 := NB684_733.out; have hnb120 := NB733_691.out; have hnc120 := NB691_733.out; obtain ⟨hcz121_0, hcz121_1, hcz121_2, hfz121_0, hfz121_1, hfz121_2⟩ := cf3 (w := w117) BK733; obtain ⟨Ao122, co122, eo122⟩ := Kd.R_slice HO731.out; subst eo122) | ((with_reducible refine gate_callee (f := 32) rfl ?_); refine gL (some 141) Try.func32 #[.agg #[.int .i64 t727, .int .i64 t728, .slice Ao122 t729.length co122], .string t732] ?_; (with_reducible refine (impl_CountingRemove.calls kj33 t727 t728 _ _ t729 t732 t734 t735 t736 t739 _ ?side1 ?side2 A113.out).mono ?_); (case side1 => refine (Kd.R_reads' (e := 3) (base := w.heap.size) (ok := fun k_ => (((True ∧ some k_ ≠ (.slice Ao12 t673.length co12 : Value).ownBlock) ∧ some k_ ≠ (.slice Ao17 t680.length co17 : Value).ownBlock) ∧ some k_ ≠ (.slice Ao24 t687.length co24 : Value).ownBlock)) (n := t729.length) (c := co122) ?_).2.2; exact (Rz (Kd.R_mono (Kd.R_far (p := ⟨gb733, 2, none⟩) (Kd.R_far (p := ⟨gb733, 1, none⟩) (Kd.R_far (p := ⟨gb733, 0, none⟩) (Kd.R_types HO731.out BK733.out (by decide)) (fun _ hk => hk.2) (.int .i64 t727)) (fun _ hk => hk.2) (.int .i64 t728)) (fun _ hk => hk.2) (.slice Ao122 t729.length co122)) (fun _ h_ => h_.1)))); (case side2 => exact (Kd.R_reads' HO731.out).2.1); rintro e w123 ⟨v737, rfl, ho0, hb⟩; refine ⟨_, rfl, ?_⟩; have n0_ := am (Kd.R_elder' (Rz (Kd.R_mono (Kd.R_far (p := ⟨gb733, 2, none⟩) (Kd.R_far (p := ⟨gb733, 1, none⟩) (Kd.R_far (p := ⟨gb733, 0, none⟩) (Kd.R_types HO_678002.out BK733.out (by decide)) (fun _ hk => hk.2) (.int .i64 t727)) (fun _ hk => hk.2) (.int .i64 t728)) (fun _ hk => hk.2) (.slice Ao122 t729.length co122)) (fun _ h_ => h_.1))) (Kd.R_base ho0) hb); have n1_ := am (Kd.R_elder' (Rz (Kd.R_mono (Kd.R_far (p := ⟨gb733, 2, none⟩) (Kd.R_far (p := ⟨gb733, 1, none⟩) (Kd.R_far (p := ⟨gb733, 0, none⟩) (Kd.R_types HO_685002.out BK733.out (by decide)) (fun _ hk => hk.2) (.int .i64 t727)) (fun _ hk => hk.2) (.int .i64 t728)) (fun _ hk => hk.2) (.slice Ao122 t729.length co122)) (fun _ h_ => h_.1))) (Kd.R_base ho0) hb); have n2_ := am (Kd.R_elder' (Rz (Kd.R_mono (Kd.R_far (p := ⟨gb733, 2, none⟩) (Kd.R_far (p := ⟨gb733, 1, none⟩) (Kd.R_far (p := ⟨gb733, 0, none⟩) (Kd.R_types HO_692002.out BK733.out (by decide)) (fun _ hk => hk.2) (.int .i64 t727)) (fun _ hk => hk.2) (.int .i64 t728)) (fun _ hk => hk.2) (.slice Ao122 t729.length co122)) (fun _ h_ => h_.1))) (Kd.R_base ho0) hb); have n3_ := am (Kd.R_elder' (Rz (Kd.R_mono (Kd.R_far (p := ⟨gb733, 2, none⟩) (Kd.R_far (p := ⟨gb733, 1, none⟩) (Kd.R_far (p := ⟨gb733, 0, none⟩) (Kd.R_types HO731.out BK733.out (by decide)) (fun _ hk => hk.2) (.int .i64 t727)) (fun _ hk => hk.2) (.int .i64 t728)) (fun _ hk => hk.2) (.slice Ao122 t729.length co122)) (fun _ h_ => h_.1))) (Kd.R_base ho0) hb); have n4_ := am (Kd.R_lower (Kd.R_new' (Kd.R_new' (Kd.R_new' (Kd.R_new' ho0 (Kd.R_lt (Rz (Kd.R_mono (Kd.R_far (p := ⟨gb733, 2, none⟩) (Kd.R_far (p := ⟨gb733, 1, none⟩) (Kd.R_far (p := ⟨gb733, 0, none⟩) (Kd.R_types HO_678002.out BK733.out (by decide)) (fun _ hk => hk.2) (.int .i64 t727)) (fun _ hk => hk.2) (.int .i64 t728)) (fun _ hk => hk.2) (.slice Ao122 t729.length co122)) (fun _ h_ => h_.1))))) (Kd.R_lt (Rz (Kd.R_mono (Kd.R_far (p := ⟨gb733, 2, none⟩) (Kd.R_far (p := ⟨gb733, 1, none⟩) (Kd.R_far (p := ⟨gb733, 0, none⟩) (Kd.R_types HO_685002.out BK733.out (by decide)) (fun _ hk => hk.2) (.int .i64 t727)) (fun _ hk => hk.2) (.int .i64 t728)) (fun _ hk => hk.2) (.slice Ao122 t729.length co122)) (fun _ h_ => h_.1))))) (Kd.R_lt (Rz (Kd.R_mono (Kd.R_far (p := ⟨gb733, 2, none⟩) (Kd.R_far (p := ⟨gb733, 1, none⟩) (Kd.R_far (p := ⟨gb733, 0, none⟩) (Kd.R_types HO_692002.out BK733.out (by decide)) (fun _ hk => hk.2) (.int .i64 t727)) (fun _ hk => hk.2) (.int .i64 t728)) (fun _ hk => hk.2) (.slice Ao122 t729.length co122)) (fun _ h_ => h_.1))))) (Kd.R_lt (Rz (Kd.R_mono (Kd.R_far (p := ⟨gb733, 2, none⟩) (Kd.R_far (p := ⟨gb733, 1, none⟩) (Kd.R_far (p := ⟨gb733, 0, none⟩) (Kd.R_types HO731.out BK733.out (by decide)) (fun _ hk => hk.2) (.int .i64 t727)) (fun _ hk => hk.2) (.int .i64 t728)) (fun _ hk => hk.2) (.slice Ao122 t729.length co122)) (fun _ h_ => h_.1))))) (below_size (w := w) (Bq))); have n5_ := am (blk_below (g := gb677) (o := .cells #[.int .i64 t671, .int .i64 t672, .slice Ao12 t673.length co12] 49 (0, 0)) (by refine bp ?_; refine blk_far ?_ NB677_733.out _; refine bp ?_; refine blk_far ?_ NB677_733.out _; refine bp ?_; refine blk_far ?_ NB677_733.out _; exact Kz BK677.out) hb); have n6_ := am (blk_below (g := gb684) (o := .cells #[.int .i64 t678, .int .i64 t679, .slice Ao17 t680.length co17] 49 (0, 0)) (by refine bp ?_; refine blk_far ?_ NB684_733.out _; refine bp ?_; refine blk_far ?_ NB684_733.out _; refine bp ?_; refine blk_far ?_ NB684_733.out _; exact Kz BK684.out) hb); have n7_ := am (blk_below (g := gb691) (o := .cells #[.int .i64 t685, .int .i64 t686, .slice Ao24 t687.length co24] 49 (0, 0)) (by refine bp ?_; refine blk_far ?_ NB691_733.out _; refine bp ?_; refine blk_far ?_ NB691_733.out _; refine bp ?_; refine blk_far ?_ NB691_733.out _; exact Kz BK691.out) hb); have n8_ := am (blk_below (g := gb733) (o := .cells #[.int .i64 t727, .int .i64 t728, .slice Ao122 t729.length co122] 49 (0, 0)) (by refine bp ?_; refine blk_put (cs := #[.int .i64 t727, .int .i64 t728, .slice none 0 0]) ?_ 2 _ rfl; refine bp ?_; refine blk_put (cs := #[.int .i64 t727, .int .i64 0, .slice none 0 0]) ?_ 1 _ rfl; refine bp ?_; refine blk_put (cs := #[.int .i64 0, .int .i64 0, .slice none 0 0]) ?_ 0 _ rfl; exact Kz BK733.out) hb); have n9_ := Bc HB hb; clear HO_678002 HO_685002 HO_692002 HO731 BK677 BK684 BK691 BK733 HB; revert n0_ n1_ n2_ n3_ n4_ n5_ n6_ n7_ n8_ n9_; intro HO_678002 HO_685002 HO_692002 HO731 HO738 BK677 BK684 BK691 BK733 HB; (try clear hb); (try clear hb2); (try clear hk); (try clear hi); (try clear ho0)) | ((with_reducible refine gate_dst (N := 24) rfl ?_); refine bE 24 #[.int .i64 0, .int .i64 0, .slice none 0 0] 49 ?_; intro gb740 hg w124 hbox hb; have n0_ := Rb HO_678002 hb; have n1_ := Rb HO_685002 hb; have n2_ := Rb HO_692002 hb; have n3_ := Rb HO731 hb; have n4_ := Rb HO738 hb; have n5_ := Kb BK677 hb; have n6_ := Kb BK684 hb; have n7_ := Kb BK691 hb; have n8_ := Kb BK733 hb; have n9_ := Bc HB hb; have n10_ := am (hbox); have n11_ := Gm HB hg; have n12_ := Gm HB hg; have n13_ := Nl BK677 hg; have n14_ := Ng BK677 hg; have n15_ := Nl BK684 hg; have n16_ := Ng BK684 hg; have n17_ := Nl BK691 hg; have n18_ := Ng BK691 hg; have n19_ := Nl BK733 hg; have n20_ := Ng BK733 hg; clear HO_678002 HO_685002 HO_692002 HO731 HO738 BK677 BK684 BK691 BK733 HB; revert n0_ n1_ n2_ n3_ n4_ n5_ n6_ n7_ n8_ n9_ n10_ n11_ n12_ n13_ n14_ n15_ n16_ n17_ n18_ n19_ n20_; intro HO_678002 HO_685002 HO_692002 HO731 HO738 BK677 BK684 BK691 BK733 HB BK740 GW740 GE740 NB677_740 NB740_677 NB684_740 NB740_684 NB691_740 NB740_691 NB733_740 NB740_733; clear hb hbox hg; have hnb125 := NB740_677.out; have hnc125 := NB677_740.out; have hnb126 := NB740_684.out; have hnc126 := NB684_740.out; have hnb127 := NB740_691.out; have hnc127 := NB691_740.out; have hnb128 := NB740_733.out; have hnc128 := NB733_740.out; obtain ⟨hcz129_0, hcz129_1, hcz129_2, hfz129_0, hfz129_1, hfz129_2⟩ := cf3 (w := w124) BK740; obtain ⟨Ao130, co130, eo130⟩ := Kd.R_slice HO738.out; subst eo130; obtain ⟨hcz131_0, hcz131_1, hcz131_2, hfz131_0, hfz131_1, hfz131_2⟩ := cf3 (w := w124) BK733) | ((with_reducible refine gate_callee (f := 30) rfl ?_); refine gL (some 147) Try.func30 #[.agg #[.int .i64 t727, .int .i64 t728, .slice Ao122 t729.length co122], .string t732] ?_; (with_reducible refine (spec_CountingRemove.calls kj33 t727 t728 _ _ t729 t732 t741 t742 t743 t746 _ ?side1 ?side2 A114.out).mono ?_); (case side1 => refine (Kd.R_reads' (e := 3) (base := w.heap.size) (ok := fun k_ => ((((True ∧ some k_ ≠ (.slice Ao12 t673.length co12 : Value).ownBlock) ∧ some k_ ≠ (.slice Ao17 t680.length co17 : Value).ownBlock) ∧ some k_ ≠ (.slice Ao24 t687.length co24 : Value).ownBlock) ∧ some k_ ≠ (.slice Ao130 t736.length co130 : Value).ownBlock)) (n := t729.length) (c := co122) ?_).2.2; exact (Rz (Kd.R_mono (Kd.R_far (p := ⟨gb740, 2, none⟩) (Kd.R_far (p := ⟨gb740, 1, none⟩) (Kd.R_far (p := ⟨gb740, 0, none⟩) (Kd.R_types HO731.out BK740.out (by decide)) (fun _ hk => hk.2) (.int .i64 t734)) (fun _ hk => hk.2) (.int .i64 t735)) (fun _ hk => hk.2) (.slice Ao130 t736.length co130)) (fun _ h_ => h_.1)))); (case side2 => exact (Kd.R_reads' HO731.out).2.1); rintro e w132 ⟨v744, rfl, ho0, hb⟩; refine ⟨_, rfl, ?_⟩; have n0_ := am (Kd.R_elder' (Rz (Kd.R_mono (Kd.R_far (p := ⟨gb740, 2, none⟩) (Kd.R_far (p := ⟨gb740, 1, none⟩) (Kd.R_far (p := ⟨gb740, 0, none⟩) (Kd.R_types HO_678002.out BK740.out (by decide)) (fun _ hk => hk.2) (.int .i64 t734)) (fun _ hk => hk.2) (.int .i64 t735)) (fun _ hk => hk.2) (.slice Ao130 t736.length co130)) (fun _ h_ => h_.1))) (Kd.R_base ho0) hb); have n1_ := am (Kd.R_elder' (Rz (Kd.R_mono (Kd.R_far (p := ⟨gb740, 2, none⟩) (Kd.R_far (p := ⟨gb740, 1, none⟩) (Kd.R_far (p := ⟨gb740, 0, none⟩) (Kd.R_types HO_685002.out BK740.out (by decide)) (fun _ hk => hk.2) (.int .i64 t734)) (fun _ hk => hk.2) (.int .i64 t735)) (fun _ hk => hk.2) (.slice Ao130 t736.length co130)) (fun _ h_ => h_.1))) (Kd.R_base ho0) hb); have n2_ := am (Kd.R_elder' (Rz (Kd.R_mono (Kd.R_far (p := ⟨gb740, 2, none⟩) (Kd.R_far (p := ⟨gb740, 1, none⟩) (Kd.R_far (p := ⟨gb740, 0, none⟩) (Kd.R_types HO_692002.out BK740.out (by decide)) (fun _ hk => hk.2) (.int .i64 t734)) (fun _ hk => hk.2) (.int .i64 t735)) (fun _ hk => hk.2) (.slice Ao130 t736.length co130)) (fun _ h_ => h_.1))) (Kd.R_base ho0) hb); have n3_ := am (Kd.R_elder' (Rz (Kd.R_mono (Kd.R_far (p := ⟨gb740, 2, none⟩) (Kd.R_far (p := ⟨gb740, 1, none⟩) (Kd.R_far (p := ⟨gb740, 0, none⟩) (Kd.R_types HO731.out BK740.out (by decide)) (fun _ hk => hk.2) (.int .i64 t734)) (fun _ hk => hk.2) (.int .i64 t735)) (fun _ hk => hk.2) (.slice Ao130 t736.length co130)) (fun _ h_ => h_.1))) (Kd.R_base ho0) hb); have n4_ := am (Kd.R_elder' (Rz (Kd.R_mono (Kd.R_far (p := ⟨gb740, 2, none⟩) (Kd.R_far (p := ⟨gb740, 1, none⟩) (Kd.R_far (p := ⟨gb740, 0, none⟩) (Kd.R_types HO738.out BK740.out (by decide)) (fun _ hk => hk.2) (.int .i64 t734)) (fun _ hk => hk.2) (.int .i64 t735)) (fun _ hk => hk.2) (.slice Ao130 t736.length co130)) (fun _ h_ => h_.1))) (Kd.R_base ho0) hb); have n5_ := am (Kd.R_lower (Kd.R_new' (Kd.R_new' (Kd.R_new' (Kd.R_new' (Kd.R_new' ho0 (Kd.R_lt (Rz (Kd.R_mono (Kd.R_far (p := ⟨gb740, 2, none⟩) (Kd.R_far (p := ⟨gb740, 1, none⟩) (Kd.R_far (p := ⟨gb740, 0, none⟩) (Kd.R_types HO_678002.out BK740.out (by decide)) (fun _ hk => hk.2) (.int .i64 t734)) (fun _ hk => hk.2) (.int .i64 t735)) (fun _ hk => hk.2) (.slice Ao130 t736.length co130)) (fun _ h_ => h_.1))))) (Kd.R_lt (Rz (Kd.R_mono (Kd.R_far (p := ⟨gb740, 2, none⟩) (Kd.R_far (p := ⟨gb740, 1, none⟩) (Kd.R_far (p := ⟨gb740, 0, none⟩) (Kd.R_types HO_685002.out BK740.out (by decide)) (fun _ hk => hk.2) (.int .i64 t734)) (fun _ hk => hk.2) (.int .i64 t735)) (fun _ hk => hk.2) (.slice Ao130 t736.length co130)) (fun _ h_ => h_.1))))) (Kd.R_lt (Rz (Kd.R_mono (Kd.R_far (p := ⟨gb740, 2, none⟩) (Kd.R_far (p := ⟨gb740, 1, none⟩) (Kd.R_far (p := ⟨gb740, 0, none⟩) (Kd.R_types HO_692002.out BK740.out (by decide)) (fun _ hk => hk.2) (.int .i64 t734)) (fun _ hk => hk.2) (.int .i64 t735)) (fun _ hk => hk.2) (.slice Ao130 t736.length co130)) (fun _ h_ => h_.1))))) (Kd.R_lt (Rz (Kd.R_mono (Kd.R_far (p := ⟨gb740, 2, none⟩) (Kd.R_far (p := ⟨gb740, 1, none⟩) (Kd.R_far (p := ⟨gb740, 0, none⟩) (Kd.R_types HO731.out BK740.out (by decide)) (fun _ hk => hk.2) (.int .i64 t734)) (fun _ hk => hk.2) (.int .i64 t735)) (fun _ hk => hk.2) (.slice Ao130 t736.length co130)) (fun _ h_ => h_.1))))) (Kd.R_lt (Rz (Kd.R_mono (Kd.R_far (p := ⟨gb740, 2, none⟩) (Kd.R_far (p := ⟨gb740, 1, none⟩) (Kd.R_far (p := ⟨gb740, 0, none⟩) (Kd.R_types HO738.out BK740.out (by decide)) (fun _ hk => hk.2) (.int .i64 t734)) (fun _ hk => hk.2) (.int .i64 t735)) (fun _ hk => hk.2) (.slice Ao130 t736.length co130)) (fun _ h_ => h_.1))))) (below_size (w := w) (Bq))); have n6_ := am (blk_below (g := gb677) (o := .cells #[.int .i64 t671, .int .i64 t672, .slice Ao12 t673.length co12] 49 (0, 0)) (by refine bp ?_; refine blk_far ?_ NB677_740.out _; refine bp ?_; refine blk_far ?_ NB677_740.out _; refine bp ?_; refine blk_far ?_ NB677_740.out _; exact Kz BK677.out) hb); have n7_ := am (blk_below (g := gb684) (o := .cells #[.int .i64 t678, .int .i64 t679, .slice Ao17 t680.length co17] 49 (0, 0)) (by refine bp ?_; refine blk_far ?_ NB684_740.out _; refine bp ?_; refine blk_far ?_ NB684_740.out _; refine bp ?_; refine blk_far ?_ NB684_740.out _; exact Kz BK684.out) hb); have n8_ := am (blk_below (g := gb691) (o := .cells #[.int .i64 t685, .int .i64 t686, .slice Ao24 t687.length co24] 49 (0, 0)) (by refine bp ?_; refine blk_far ?_ NB691_740.out _; refine bp ?_; refine blk_far ?_ NB691_740.out _; refine bp ?_; refine blk_far ?_ NB691_740.out _; exact Kz BK691.out) hb); have n9_ := am (blk_below (g := gb733) (o := .cells #[.int .i64 t727, .int .i64 t728, .slice Ao122 t729.length co122] 49 (0, 0)) (by refine bp ?_; refine blk_far ?_ NB733_740.out _; refine bp ?_; refine blk_far ?_ NB733_740.out _; refine bp ?_; refine blk_far ?_ NB733_740.out _; exact Kz BK733.out) hb); have n10_ := am (blk_below (g := gb740) (o := .cells #[.int .i64 t734, .int .i64 t735, .slice Ao130 t736.length co130] 49 (0, 0)) (by refine bp ?_; refine blk_put (cs := #[.int .i64 t734, .int .i64 t735, .slice none 0 0]) ?_ 2 _ rfl; refine bp ?_; refine blk_put (cs := #[.int .i64 t734, .int .i64 0, .slice none 0 0]) ?_ 1 _ rfl; refine bp ?_; refine blk_put (cs := #[.int .i64 0, .int .i64 0, .slice none 0 0]) ?_ 0 _ rfl; exact Kz BK740.out) hb); have n11_ := Bc HB hb; clear HO_678002 HO_685002 HO_692002 HO731 HO738 BK677 BK684 BK691 BK733 BK740 HB; revert n0_ n1_ n2_ n3_ n4_ n5_ n6_ n7_ n8_ n9_ n10_ n11_; intro HO_678002 HO_685002 HO_692002 HO731 HO738 HO745 BK677 BK684 BK691 BK733 BK740 HB; (try clear hb); (try clear hb2); (try clear hk); (try clear hi); (try clear ho0)) | ((with_reducible refine gate_dst (N := 26) rfl ?_); refine bE 26 #[.int .i64 0, .int .i64 0, .slice none 0 0] 49 ?_; intro gb747 hg w133 hbox hb; have n0_ := Rb HO_678002 hb; have n1_ := Rb HO_685002 hb; have n2_ := Rb HO_692002 hb; have n3_ := Rb HO731 hb; have n4_ := Rb HO738 hb; have n5_ := Rb HO745 hb; have n6_ := Kb BK677 hb; have n7_ := Kb BK684 hb; have n8_ := Kb BK691 hb; have n9_ := Kb BK733 hb; have n10_ := Kb BK740 hb; have n11_ := Bc HB hb; have n12_ := am (hbox); have n13_ := Gm HB hg; have n14_ := Gm HB hg; have n15_ := Nl BK677 hg; have n16_ := Ng BK677 hg; have n17_ := Nl BK684 hg; have n18_ := Ng BK684 hg; have n19_ := Nl BK691 hg; have n20_ := Ng BK691 hg; have n21_ := Nl BK733 hg; have n22_ := Ng BK733 hg; have n23_ := Nl BK740 hg; have n24_ := Ng BK740 hg; clear HO_678002 HO_685002 HO_692002 HO731 HO738 HO745 BK677 BK684 BK691 BK733 BK740 HB; revert n0_ n1_ n2_ n3_ n4_ n5_ n6_ n7_ n8_ n9_ n10_ n11_ n12_ n13_ n14_ n15_ n16_ n17_ n18_ n19_ n20_ n21_ n22_ n23_ n24_; intro HO_678002 HO_685002 HO_692002 HO731 HO738 HO745 BK677 BK684 BK691 BK733 BK740 HB BK747 GW747 GE747 NB677_747 NB747_677 NB684_747 NB747_684 NB691_747 NB747_691 NB733_747 NB747_733 NB740_747 NB747_740; clear hb hbox hg; have hnb134 := NB747_677.out; have hnc134 := NB677_747.out; have hnb135 := NB747_684.out; have hnc135 := NB684_747.out; have hnb136 := NB747_691.out; have hnc136 := NB691_747.out; have hnb137 := NB747_733.out; have hnc137 := NB733_747.out; have hnb138 := NB747_740.out; have hnc138 := NB740_747.out; obtain ⟨hcz139_0, hcz139_1, hcz139_2, hfz139_0, hfz139_1, hfz139_2⟩ := cf3 (w := w133) BK747; obtain ⟨Ao140, co140, eo140⟩ := Kd.R_slice HO745.out; subst eo140))
         (try simp only [aP])
         go_cut [158] (fun v158 wc => ∃ (kq : Nat) (x158_114 : Bool), v158 = .bool x158_114 ∧ Aside0 (laws_FnCountingForgets.j4 kq l1 x158_114 = some r) ∧ Aside0 (kq ≤ kj33) ∧ Aside0 (Kd.R (Kd.int .i64) 3 wc w.heap.size (fun k_ => some k_ ≠ ((.slice Ao17 t680.length co17) : Value).ownBlock ∧ some k_ ≠ ((.slice Ao24 t687.length co24) : Value).ownBlock ∧ some k_ ≠ ((.slice Ao122 t729.length co122) : Value).ownBlock ∧ some k_ ≠ ((.slice Ao130 t736.length co130) : Value).ownBlock ∧ some k_ ≠ ((.slice Ao140 t743.length co140) : Value).ownBlock) (.slice Ao12 t673.length co12) t673) ∧ Aside0 (Kd.R (Kd.int .i64) 3 wc w.heap.size (fun k_ => some k_ ≠ ((.slice Ao12 t673.length co12) : Value).ownBlock ∧ some k_ ≠ ((.slice Ao24 t687.length co24) : Value).ownBlock ∧ some k_ ≠ ((.slice Ao122 t729.length co122) : Value).ownBlock ∧ some k_ ≠ ((.slice Ao130 t736.length co130) : Value).ownBlock ∧ some k_ ≠ ((.slice Ao140 t743.length co140) : Value).ownBlock) (.slice Ao17 t680.length co17) t680) ∧ Aside0 (Kd.R (Kd.int .i64) 3 wc w.heap.size (fun k_ => some k_ ≠ ((.slice Ao12 t673.length co12) : Value).ownBlock ∧ some k_ ≠ ((.slice Ao17 t680.length co17) : Value).ownBlock ∧ some k_ ≠ ((.slice Ao122 t729.length co122) : Value).ownBlock ∧ some k_ ≠ ((.slice Ao130 t736.length co130) : Value).ownBlock ∧ some k_ ≠ ((.slice Ao140 t743.length co140) : Value).ownBlock) (.slice Ao24 t687.length co24) t687) ∧ Aside0 (Kd.R (Kd.int .i64) 3 wc w.heap.size (fun k_ => some k_ ≠ ((.slice Ao12 t673.length co12) : Value).ownBlock ∧ some k_ ≠ ((.slice Ao17 t680.length co17) : Value).ownBlock ∧ some k_ ≠ ((.slice Ao24 t687.length co24) : Value).ownBlock ∧ some k_ ≠ ((.slice Ao130 t736.length co130) : Value).ownBlock ∧ some k_ ≠ ((.slice Ao140 t743.length co140) : Value).ownBlock) (.slice Ao122 t729.length co122) t729) ∧ Aside0 (Kd.R (Kd.int .i64) 3 wc w.heap.size (fun k_ => some k_ ≠ ((.slice Ao12 t673.length co12) : Value).ownBlock ∧ some k_ ≠ ((.slice Ao17 t680.length co17) : Value).ownBlock ∧ some k_ ≠ ((.slice Ao24 t687.length co24) : Value).ownBlock ∧ some k_ ≠ ((.slice Ao122 t729.length co122) : Value).ownBlock ∧ some k_ ≠ ((.slice Ao140 t743.length co140) : Value).ownBlock) (.slice Ao130 t736.length co130) t736) ∧ Aside0 (Kd.R (Kd.int .i64) 3 wc w.heap.size (fun k_ => some k_ ≠ ((.slice Ao12 t673.length co12) : Value).ownBlock ∧ some k_ ≠ ((.slice Ao17 t680.length co17) : Value).ownBlock ∧ some k_ ≠ ((.slice Ao24 t687.length co24) : Value).ownBlock ∧ some k_ ≠ ((.slice Ao122 t729.length co122) : Value).ownBlock ∧ some k_ ≠ ((.slice Ao130 t736.length co130) : Value).ownBlock) (.slice Ao140 t743.length co140) t743) ∧ Aside0 (wc.heap[gb677]? = some (.cells #[.int .i64 t671, .int .i64 t672, (.slice Ao12 t673.length co12)] 49 (0, 0))) ∧ Aside0 (wc.heap[gb684]? = some (.cells #[.int .i64 t678, .int .i64 t679, (.slice Ao17 t680.length co17)] 49 (0, 0))) ∧ Aside0 (wc.heap[gb691]? = some (.cells #[.int .i64 t685, .int .i64 t686, (.slice Ao24 t687.length co24)] 49 (0, 0))) ∧ Aside0 (wc.heap[gb733]? = some (.cells #[.int .i64 t727, .int .i64 t728, (.slice Ao122 t729.length co122)] 49 (0, 0))) ∧ Aside0 (wc.heap[gb740]? = some (.cells #[.int .i64 t734, .int .i64 t735, (.slice Ao130 t736.length co130)] 49 (0, 0))) ∧ Aside0 (wc.heap[gb747]? = some (.cells #[.int .i64 t741, .int .i64 t742, (.slice Ao140 t743.length co140)] 49 (0, 0))) ∧ Aside0 (Below w.heap.size w wc))
         case first =>
          have H := HC115.out; clear HC115
          by_cases c141 : (t739 != t746) = true
          ·rw [if_pos c141] at H
           have c141b0 : (t739 != t746) = true := c141
           (try (have c141b1 : decide (t739 = t746) = false := by simpa using c141))
           (try (have c141b2 : (t739 == t746) = false := by simpa using c141))
           (try (have c141b3 : ¬ (t739 = t746) := by simpa using c141))
           (try (have c141b4 : (!(t739 == t746)) = true := c141b0))
           clear c141
           (first | rw [c141b0] | (simp only [i64_w, i32_w]; rw [c141b0]) | skip)
           exact absurd (H.trans (congrArg some HT_.out)) (laws_FnCountingForgets.j4.dead _ _)
          ·rw [if_neg c141] at H
           have c141b0 : (t739 != t746) = false := by simpa using c141
           (try (have c141b1 : decide (t739 = t746) = true := by simpa using c141))
           (try (have c141b2 : (t739 == t746) = true := by simpa using c141))
           (try (have c141b3 : (!(t739 == t746)) = false := c141b0))
           clear c141
           (first | rw [c141b0] | (simp only [i64_w, i32_w]; rw [c141b0]) | skip)
           obtain ⟨t748, A142, H⟩ := ob H; (try dsimp -simprocs only at H); have H' := am H; clear H; have hnb143 := NB740_677.out; have hnc143 := NB677_740.out; have hnb144 := NB740_684.out; have hnc144 := NB684_740.out; have hnb145 := NB740_691.out; have hnc145 := NB691_740.out; have hnb146 := NB740_733.out; have hnc146 := NB733_740.out; have hnb147 := NB740_747.out; have hnc147 := NB747_740.out; obtain ⟨hcz148_0, hcz148_1, hcz148_2, hfz148_0, hfz148_1, hfz148_2⟩ := cf3 (w := w133) BK740; have hnb149 := NB747_677.out; have hnc149 := NB677_747.out; have hnb150 := NB747_684.out; have hnc150 := NB684_747.out; have hnb151 := NB747_691.out; have hnc151 := NB691_747.out; have hnb152 := NB747_733.out; have hnc152 := NB733_747.out; obtain ⟨hcz153_0, hcz153_1, hcz153_2, hfz153_0, hfz153_1, hfz153_2⟩ := cf3 (w := w133) BK747
           go_wp2_with (first | (go_at_call 61; (with_reducible refine (laws_rSameCounting.calls kj33 t734 t735 _ _ t736 t741 t742 _ _ t743 t748 _ ?side1 ?side2 ?side3 ?side4 A142.out).mono ?_); (case side1 => refine (Kd.R_reads' (e := 3) (base := w.heap.size) (ok := fun k_ => (((((True ∧ some k_ ≠ (.slice Ao12 t673.length co12 : Value).ownBlock) ∧ some k_ ≠ (.slice Ao17 t680.length co17 : Value).ownBlock) ∧ some k_ ≠ (.slice Ao24 t687.length co24 : Value).ownBlock) ∧ some k_ ≠ (.slice Ao122 t729.length co122 : Value).ownBlock) ∧ some k_ ≠ (.slice Ao140 t743.length co140 : Value).ownBlock)) (n := t736.length) (c := co130) ?_).2.2; exact (Rz (Kd.R_mono (Kd.R_far (p := ⟨gb747, 2, none⟩) (Kd.R_far (p := ⟨gb747, 1, none⟩) (Kd.R_far (p := ⟨gb747, 0, none⟩) (Kd.R_types HO738.out BK747.out (by decide)) (fun _ hk => hk.2) (.int .i64 t741)) (fun _ hk => hk.2) (.int .i64 t742)) (fun _ hk => hk.2) (.slice Ao140 t743.length co140)) (fun _ h_ => h_.1)))); (case side2 => exact (Kd.R_reads' HO738.out).2.1); (case side3 => refine (Kd.R_reads' (e := 3) (base := w.heap.size) (ok := fun k_ => (((((True ∧ some k_ ≠ (.slice Ao12 t673.length co12 : Value).ownBlock) ∧ some k_ ≠ (.slice Ao17 t680.length co17 : Value).ownBlock) ∧ some k_ ≠ (.slice Ao24 t687.length co24 : Value).ownBlock) ∧ some k_ ≠ (.slice Ao122 t729.length co122 : Value).ownBlock) ∧ some k_ ≠ (.slice Ao130 t736.length co130 : Value).ownBlock)) (n := t743.length) (c := co140) ?_).2.2; exact (Rz (Kd.R_mono (Kd.R_far (p := ⟨gb747, 2, none⟩) (Kd.R_far (p := ⟨gb747, 1, none⟩) (Kd.R_far (p := ⟨gb747, 0, none⟩) (Kd.R_types HO745.out BK747.out (by decide)) (fun _ hk => hk.2) (.int .i64 t741)) (fun _ hk => hk.2) (.int .i64 t742)) (fun _ hk => hk.2) (.slice Ao140 t743.length co140)) (fun _ h_ => h_.1)))); (case side4 => exact (Kd.R_reads' HO745.out).2.1); rintro e w154 ⟨rfl, hb⟩; have n0_ := am (Kd.R_below (Rz (Kd.R_mono (Kd.R_far (p := ⟨gb747, 2, none⟩) (Kd.R_far (p := ⟨gb747, 1, none⟩) (Kd.R_far (p := ⟨gb747, 0, none⟩) (Kd.R_types HO_678002.out BK747.out (by decide)) (fun _ hk => hk.2) (.int .i64 t741)) (fun _ hk => hk.2) (.int .i64 t742)) (fun _ hk => hk.2) (.slice Ao140 t743.length co140)) (fun _ h_ => h_.1))) hb); have n1_ := am (Kd.R_below (Rz (Kd.R_mono (Kd.R_far (p := ⟨gb747, 2, none⟩) (Kd.R_far (p := ⟨gb747, 1, none⟩) (Kd.R_far (p := ⟨gb747, 0, none⟩) (Kd.R_types HO_685002.out BK747.out (by decide)) (fun _ hk => hk.2) (.int .i64 t741)) (fun _ hk => hk.2) (.int .i64 t742)) (fun _ hk => hk.2) (.slice Ao140 t743.length co140)) (fun _ h_ => h_.1))) hb); have n2_ := am (Kd.R_below (Rz (Kd.R_mono (Kd.R_far (p := ⟨gb747, 2, none⟩) (Kd.R_far (p := ⟨gb747, 1, none⟩) (Kd.R_far (p := ⟨gb747, 0, none⟩) (Kd.R_types HO_692002.out BK747.out (by decide)) (fun _ hk => hk.2) (.int .i64 t741)) (fun _ hk => hk.2) (.int .i64 t742)) (fun _ hk => hk.2) (.slice Ao140 t743.length co140)) (fun _ h_ => h_.1))) hb); have n3_ := am (Kd.R_below (Rz (Kd.R_mono (Kd.R_far (p := ⟨gb747, 2, none⟩) (Kd.R_far (p := ⟨gb747, 1, none⟩) (Kd.R_far (p := ⟨gb747, 0, none⟩) (Kd.R_types HO731.out BK747.out (by decide)) (fun _ hk => hk.2) (.int .i64 t741)) (fun _ hk => hk.2) (.int .i64 t742)) (fun _ hk => hk.2) (.slice Ao140 t743.length co140)) (fun _ h_ => h_.1))) hb); have n4_ := am (Kd.R_below (Rz (Kd.R_mono (Kd.R_far (p := ⟨gb747, 2, none⟩) (Kd.R_far (p := ⟨gb747, 1, none⟩) (Kd.R_far (p := ⟨gb747, 0, none⟩) (Kd.R_types HO738.out BK747.out (by decide)) (fun _ hk => hk.2) (.int .i64 t741)) (fun _ hk => hk.2) (.int .i64 t742)) (fun _ hk => hk.2) (.slice Ao140 t743.length co140)) (fun _ h_ => h_.1))) hb); have n5_ := am (Kd.R_below (Rz (Kd.R_mono (Kd.R_far (p := ⟨gb747, 2, none⟩) (Kd.R_far (p := ⟨gb747, 1, none⟩) (Kd.R_far (p := ⟨gb747, 0, none⟩) (Kd.R_types HO745.out BK747.out (by decide)) (fun _ hk => hk.2) (.int .i64 t741)) (fun _ hk => hk.2) (.int .i64 t742)) (fun _ hk => hk.2) (.slice Ao140 t743.length co140)) (fun _ h_ => h_.1))) hb); have n6_ := am (blk_below (g := gb677) (o := .cells #[.int .i64 t671, .int .i64 t672, .slice Ao12 t673.length co12] 49 (0, 0)) (by refine bp ?_; refine blk_far ?_ NB677_747.out _; refine bp ?_; refine blk_far ?_ NB677_747.out _; refine bp ?_; refine blk_far ?_ NB677_747.out _; exact Kz BK677.out) hb); have n7_ := am (blk_below (g := gb684) (o := .cells #[.int .i64 t678, .int .i64 t679, .slice Ao17 t680.length co17] 49 (0, 0)) (by refine bp ?_; refine blk_far ?_ NB684_747.out _; refine bp ?_; refine blk_far ?_ NB684_747.out _; refine bp ?_; refine blk_far ?_ NB684_747.out _; exact Kz BK684.out) hb); have n8_ := am (blk_below (g := gb691) (o := .cells #[.int .i64 t685, .int .i64 t686, .slice Ao24 t687.length co24] 49 (0, 0)) (by refine bp ?_; refine blk_far ?_ NB691_747.out _; refine bp ?_; refine blk_far ?_ NB691_747.out _; refine bp ?_; refine blk_far ?_ NB691_747.out _; exact Kz BK691.out) hb); have n9_ := am (blk_below (g := gb733) (o := .cells #[.int .i64 t727, .int .i64 t728, .slice Ao122 t729.length co122] 49 (0, 0)) (by refine bp ?_; refine blk_far ?_ NB733_747.out _; refine bp ?_; refine blk_far ?_ NB733_747.out _; refine bp ?_; refine blk_far ?_ NB733_747.out _; exact Kz BK733.out) hb); have n10_ := am (blk_below (g := gb740) (o := .cells #[.int .i64 t734, .int .i64 t735, .slice Ao130 t736.length co130] 49 (0, 0)) (by refine bp ?_; refine blk_far ?_ NB740_747.out _; refine bp ?_; refine blk_far ?_ NB740_747.out _; refine bp ?_; refine blk_far ?_ NB740_747.out _; exact Kz BK740.out) hb); have n11_ := am (blk_below (g := gb747) (o := .cells #[.int .i64 t741, .int .i64 t742, .slice Ao140 t743.length co140] 49 (0, 0)) (by refine bp ?_; refine blk_put (cs := #[.int .i64 t741, .int .i64 t742, .slice none 0 0]) ?_ 2 _ rfl; refine bp ?_; refine blk_put (cs := #[.int .i64 t741, .int .i64 0, .slice none 0 0]) ?_ 1 _ rfl; refine bp ?_; refine blk_put (cs := #[.int .i64 0, .int .i64 0, .slice none 0 0]) ?_ 0 _ rfl; exact Kz BK747.out) hb); have n12_ := Bc HB hb; clear HO_678002 HO_685002 HO_692002 HO731 HO738 HO745 BK677 BK684 BK691 BK733 BK740 BK747 HB; revert n0_ n1_ n2_ n3_ n4_ n5_ n6_ n7_ n8_ n9_ n10_ n11_ n12_; intro HO_678002 HO_685002 HO_692002 HO731 HO738 HO745 BK677 BK684 BK691 BK733 BK740 BK747 HB; (try clear hb); (try clear hb2); (try clear hk); (try clear hi)))
           go_meet
           case rel => exact ⟨_, (!t748), wZ, H', ⟨by have := HJ7.out; have := HJ33.out; first | omega | exact Nat.le_refl _⟩, ⟨Rz (Kd.R_mono HO_678002.out (fun _ hk => ⟨hk.1.1.1.1, ⟨hk.1.1.1.2, ⟨hk.1.1.2, ⟨hk.1.2, hk.2⟩⟩⟩⟩))⟩, ⟨Rz (Kd.R_mono HO_685002.out (fun _ hk => ⟨hk.1.1.1.1, ⟨hk.1.1.1.2, ⟨hk.1.1.2, ⟨hk.1.2, hk.2⟩⟩⟩⟩))⟩, ⟨Rz (Kd.R_mono HO_692002.out (fun _ hk => ⟨hk.1.1.1.1, ⟨hk.1.1.1.2, ⟨hk.1.1.2, ⟨hk.1.2, hk.2⟩⟩⟩⟩))⟩, ⟨Rz (Kd.R_mono HO731.out (fun _ hk => ⟨hk.1.1.1.1.2, ⟨hk.1.1.1.2, ⟨hk.1.1.2, ⟨hk.1.2, hk.2⟩⟩⟩⟩))⟩, ⟨Rz (Kd.R_mono HO738.out (fun _ hk => ⟨hk.1.1.1.1.2, ⟨hk.1.1.1.2, ⟨hk.1.1.2, ⟨hk.1.2, hk.2⟩⟩⟩⟩))⟩, ⟨Rz (Kd.R_mono HO745.out (fun _ hk => ⟨hk.1.1.1.1.2, ⟨hk.1.1.1.2, ⟨hk.1.1.2, ⟨hk.1.2, hk.2⟩⟩⟩⟩))⟩, ⟨Kz BK677.out⟩, ⟨Kz BK684.out⟩, ⟨Kz BK691.out⟩, ⟨Kz BK733.out⟩, ⟨Kz BK740.out⟩, ⟨Kz BK747.out⟩, ⟨Bq⟩⟩
         case rest =>
          refine Nonempty.elim ?_ id
          refine (letI hh_ : Nonempty (_ : Prop) := ?apart4; (?close4 : type_of% hh_))
          case apart4 =>
           refine Nonempty.intro ?_
           clear HC115
           try clear c1
           try clear c2
           try clear p2
           try clear c3
           try clear c4
           try clear c5
           try clear c6
           try clear p6
           try clear q6
           try clear hx6
           try clear c7
           try clear c8
           try clear c9
           try clear c10
           try clear c11
           try clear c12
           try clear c13
           try clear c14
           try clear c15
           try clear c21
           try clear c22
           try clear c25
           try clear c25b0
           try clear c25b1
           try clear c25b2
           try clear c26
           try clear c27
           try clear c28
           try clear c30
           try clear c32
           try clear c33
           try clear c35
           try clear c36
           try clear c37
           try clear c39
           try clear c39b0
           try clear c40
           try clear c40b0
           try clear c41
           try clear c41b0
           try clear c42
           try clear c45
           try clear c46
           try clear c49
           try clear c50
           try clear c51
           try clear c52
           try clear c55
           try clear c56
           try clear c58
           try clear c59
           try clear c60
           try clear c62
           try clear c63
           try clear p64
           try clear c66
           try clear p69
           try clear q69
           try clear hx69
           try clear c70
           try clear c71
           try clear c72
           try clear c74
           try clear c75
           try clear c76
           try clear c77
           try clear c81
           try clear c82
           try clear c83
           try clear c84
           try clear c87
           try clear c88
           try clear c92
           try clear c93
           try clear c94
           try clear c95
           try clear c96
           try clear c102
           try clear c103
           try clear c104
           try clear c105
           try clear c106
           try clear c107
           try clear c118
           try clear c119
           try clear c120
           try clear c125
           try clear c126
           try clear c127
           try clear c128
           try clear c134
           try clear c135
           try clear c136
           try clear c137
           try clear c138
           try clear c141
           try clear c141b0
           try clear c141b1
           try clear c141b2
           try clear c143
           try clear c144
           try clear c145
           try clear c146
           try clear c147
           try clear c149
           try clear c150
           try clear c151
           try clear c152
           try clear hx693_0
           try clear p2
           try clear p6
           try clear p64
           try clear p69
           try clear p693
           try clear q6
           try clear q69
           try clear q693
           obtain ⟨kq, x158_114, rfl, HA, HJ114, HO_678002, HO_685002, HO_692002, HO_734002, HO_741002, HO_748002, BK677, BK684, BK691, BK733, BK740, BK747, HB⟩ := hcut; cases kq with
           | zero => exact absurd HA.out (by simp [laws_FnCountingForgets.j4])
           | succ kj114 =>
            have H := HA.out; clear HA
            simp only [laws_FnCountingForgets.j4] at H
            by_cases c155 : x158_114 = true
            ·subst c155
             rw [if_pos rfl] at H; exact absurd (Option.some.inj H) (by rw [HT_.out]; decide)
            ·replace c155 := Bool.eq_false_iff.mpr c155
             subst c155
             rw [if_neg (show ¬ (false = true) by decide)] at H; obtain ⟨⟨t749, t750, t751, t752⟩, A156, H⟩ := ob H; (try dsimp -simprocs only at H); obtain ⟨⟨t755, t756, t757, t760⟩, A157, H⟩ := ob H; (try dsimp -simprocs only at H); obtain ⟨⟨t762, t763, t764, t767⟩, A158, H⟩ := ob H; (try dsimp -simprocs only at H); have HC159 := am H; clear H
             go_upto_region 31 with (first | ((with_reducible refine gate_callee (f := 64) rfl ?_); refine gL (some 161) Try.func64 #[.slice A1 l1.length c1] ?_; (with_reducible refine (spec_DrawCountingOf.calls kj114 _ _ l1 t749 t750 t751 t752 _ ?side1 ?side2 A156.out).mono ?_); (case side1 => exact Cz (Kd.C_below HR1.out HB.out)); (case side2 => exact HC1.out); rintro e w160 ⟨v753, rfl, ho0, hb⟩; refine ⟨_, rfl, ?_⟩; have n0_ := Rb HO_678002 hb; have n1_ := Rb HO_685002 hb; have n2_ := Rb HO_692002 hb; have n3_ := Rb HO_734002 hb; have n4_ := Rb HO_741002 hb; have n5_ := Rb HO_748002 hb; have n6_ := Rm ho0 HB; have n7_ := Kb BK677 hb; have n8_ := Kb BK684 hb; have n9_ := Kb BK691 hb; have n10_ := Kb BK733 hb; have n11_ := Kb BK740 hb; have n12_ := Kb BK747 hb; have n13_ := Bc HB hb; clear HO_678002 HO_685002 HO_692002 HO_734002 HO_741002 HO_748002 BK677 BK684 BK691 BK733 BK740 BK747 HB; revert n0_ n1_ n2_ n3_ n4_ n5_ n6_ n7_ n8_ n9_ n10_ n11_ n12_ n13_; intro HO_678002 HO_685002 HO_692002 HO_734002 HO_741002 HO_748002 HO754 BK677 BK684 BK691 BK733 BK740 BK747 HB; (try clear hb); (try clear hb2); (try clear hk); (try clear hi); (try clear ho0); obtain ⟨Ao161, co161, eo161⟩ := Kd.R_slice HO754.out; subst eo161) | ((with_reducible refine gate_callee (f := 65) rfl ?_); refine gL (some 171) Try.func65 #[.int .i64 t749, .int .i64 t750, .int .i64 t751, .slice Ao161 t752.length co161] ?_; (with_reducible refine (impl_CountingOf.calls kj114 t749 t750 t751 _ _ t752 t755 t756 t757 t760 _ ?side1 ?side2 A157.out).mono ?_); (case side1 => exact Cz ((Kd.R_reads' HO754.out).2.2)); (case side2 => exact (Kd.R_reads' HO754.out).2.1); rintro e w162 ⟨v758, rfl, ho0, hb⟩; refine ⟨_, rfl, ?_⟩; have n0_ := Re HO_678002 (Kd.R_base ho0) hb; have n1_ := Re HO_685002 (Kd.R_base ho0) hb; have n2_ := Re HO_692002 (Kd.R_base ho0) hb; have n3_ := Re HO_734002 (Kd.R_base ho0) hb; have n4_ := Re HO_741002 (Kd.R_base ho0) hb; have n5_ := Re HO_748002 (Kd.R_base ho0) hb; have n6_ := Rb HO754 hb; have n7_ := am (Kd.R_lower (Kd.R_new' (Kd.R_new' (Kd.R_new' (Kd.R_new' (Kd.R_new' (Kd.R_new' ho0 (Kd.R_lt (Rz HO_678002.out))) (Kd.R_lt (Rz HO_685002.out))) (Kd.R_lt (Rz HO_692002.out))) (Kd.R_lt (Rz HO_734002.out))) (Kd.R_lt (Rz HO_741002.out))) (Kd.R_lt (Rz HO_748002.out))) (below_size (w := w) (Bq))); have n8_ := Kb BK677 hb; have n9_ := Kb BK684 hb; have n10_ := Kb BK691 hb; have n11_ := Kb BK733 hb; have n12_ := Kb BK740 hb; have n13_ := Kb BK747 hb; have n14_ := Bc HB hb; clear HO_678002 HO_685002 HO_692002 HO_734002 HO_741002 HO_748002 HO754 BK677 BK684 BK691 BK733 BK740 BK747 HB; revert n0_ n1_ n2_ n3_ n4_ n5_ n6_ n7_ n8_ n9_ n10_ n11_ n12_ n13_ n14_; intro HO_678002 HO_685002 HO_692002 HO_734002 HO_741002 HO_748002 HO754 HO759 BK677 BK684 BK691 BK733 BK740 BK747 HB; (try clear hb); (try clear hb2); (try clear hk); (try clear hi); (try clear ho0)) | ((with_reducible refine gate_dst (N := 32) rfl ?_); refine bE 32 #[.int .i64 0, .int .i64 0, .slice none 0 0] 49 ?_; intro gb761 hg w163 hbox hb; have n0_ := Rb HO_678002 hb; have n1_ := Rb HO_685002 hb; have n2_ := Rb HO_692002 hb; have n3_ := Rb HO_734002 hb; have n4_ := Rb HO_741002 hb; have n5_ := Rb HO_748002 hb; have n6_ := Rb HO754 hb; have n7_ := Rb HO759 hb; have n8_ := Kb BK677 hb; have n9_ := Kb BK684 hb; have n10_ := Kb BK691 hb; have n11_ := Kb BK733 hb; have n12_ := Kb BK740 hb; have n13_ := Kb BK747 hb; have n14_ := Bc HB hb; have n15_ := am (hbox); have n16_ := Gm HB hg; have n17_ := Gm HB hg; have n18_ := Nl BK677 hg; have n19_ := Ng BK677 hg; have n20_ := Nl BK684 hg; have n21_ := Ng BK684 hg; have n22_ := Nl BK691 hg; have n23_ := Ng BK691 hg; have n24_ := Nl BK733 hg; have n25_ := Ng BK733 hg; have n26_ := Nl BK740 hg; have n27_ := Ng BK740 hg; have n28_ := Nl BK747 hg; have n29_ := Ng BK747 hg; clear HO_678002 HO_685002 HO_692002 HO_734002 HO_741002 HO_748002 HO754 HO759 BK677 BK684 BK691 BK733 BK740 BK747 HB; revert n0_ n1_ n2_ n3_ n4_ n5_ n6_ n7_ n8_ n9_ n10_ n11_ n12_ n13_ n14_ n15_ n16_ n17_ n18_ n19_ n20_ n21_ n22_ n23_ n24_ n25_ n26_ n27_ n28_ n29_; intro HO_678002 HO_685002 HO_692002 HO_734002 HO_741002 HO_748002 HO754 HO759 BK677 BK684 BK691 BK733 BK740 BK747 HB BK761 GW761 GE761 NB677_761 NB761_677 NB684_761 NB761_684 NB691_761 NB761_691 NB733_761 NB761_733 NB740_761 NB761_740 NB747_761 NB761_747; clear hb hbox hg; have hnb164 := NB761_677.out; have hnc164 := NB677_761.out; have hnb165 := NB761_684.out; have hnc165 := NB684_761.out; have hnb166 := NB761_691.out; have hnc166 := NB691_761.out; have hnb167 := NB761_733.out; have hnc167 := NB733_761.out; have hnb168 := NB761_740.out; have hnc168 := NB740_761.out; have hnb169 := NB761_747.out; have hnc169 := NB747_761.out; obtain ⟨hcz170_0, hcz170_1, hcz170_2, hfz170_0, hfz170_1, hfz170_2⟩ := cf3 (w := w163) BK761; obtain ⟨Ao171, co171, eo171⟩ := Kd.R_slice HO759.out; subst eo171) | ((with_reducible refine gate_callee (f := 66) rfl ?_); refine gL (some 179) Try.func66 #[.int .i64 t749, .int .i64 t750, .int .i64 t751, .slice Ao161 t752.length co161] ?_; (with_reducible refine (spec_CountingOf.calls kj114 t749 t750 t751 _ _ t752 t762 t763 t764 t767 _ ?side1 ?side2 A158.out).mono ?_); (case side1 => refine (Kd.R_reads' (e := 9) (base := w.heap.size) (ok := fun k_ => True) (n := t752.length) (c := co161) ?_).2.2; exact (Rz (Kd.R_mono (Kd.R_far (p := ⟨gb761, 2, none⟩) (Kd.R_far (p := ⟨gb761, 1, none⟩) (Kd.R_far (p := ⟨gb761, 0, none⟩) (Kd.R_types HO754.out BK761.out (by decide)) (fun _ hk => hk.2) (.int .i64 t755)) (fun _ hk => hk.2) (.int .i64 t756)) (fun _ hk => hk.2) (.slice Ao171 t757.length co171)) (fun _ h_ => h_.1)))); (case side2 => exact (Kd.R_reads' HO754.out).2.1); rintro e w172 ⟨v765, rfl, ho0, hb⟩; refine ⟨_, rfl, ?_⟩; have n0_ := am (Kd.R_elder' (Rz (Kd.R_mono (Kd.R_far (p := ⟨gb761, 2, none⟩) (Kd.R_far (p := ⟨gb761, 1, none⟩) (Kd.R_far (p := ⟨gb761, 0, none⟩) (Kd.R_types HO_678002.out BK761.out (by decide)) (fun _ hk => hk.2) (.int .i64 t755)) (fun _ hk => hk.2) (.int .i64 t756)) (fun _ hk => hk.2) (.slice Ao171 t757.length co171)) (fun _ h_ => h_.1))) (Kd.R_base ho0) hb); have n1_ := am (Kd.R_elder' (Rz (Kd.R_mono (Kd.R_far (p := ⟨gb761, 2, none⟩) (Kd.R_far (p := ⟨gb761, 1, none⟩) (Kd.R_far (p := ⟨gb761, 0, none⟩) (Kd.R_types HO_685002.out BK761.out (by decide)) (fun _ hk => hk.2) (.int .i64 t755)) (fun _ hk => hk.2) (.int .i64 t756)) (fun _ hk => hk.2) (.slice Ao171 t757.length co171)) (fun _ h_ => h_.1))) (Kd.R_base ho0) hb); have n2_ := am (Kd.R_elder' (Rz (Kd.R_mono (Kd.R_far (p := ⟨gb761, 2, none⟩) (Kd.R_far (p := ⟨gb761, 1, none⟩) (Kd.R_far (p := ⟨gb761, 0, none⟩) (Kd.R_types HO_692002.out BK761.out (by decide)) (fun _ hk => hk.2) (.int .i64 t755)) (fun _ hk => hk.2) (.int .i64 t756)) (fun _ hk => hk.2) (.slice Ao171 t757.length co171)) (fun _ h_ => h_.1))) (Kd.R_base ho0) hb); have n3_ := am (Kd.R_elder' (Rz (Kd.R_mono (Kd.R_far (p := ⟨gb761, 2, none⟩) (Kd.R_far (p := ⟨gb761, 1, none⟩) (Kd.R_far (p := ⟨gb761, 0, none⟩) (Kd.R_types HO_734002.out BK761.out (by decide)) (fun _ hk => hk.2) (.int .i64 t755)) (fun _ hk => hk.2) (.int .i64 t756)) (fun _ hk => hk.2) (.slice Ao171 t757.length co171)) (fun _ h_ => h_.1))) (Kd.R_base ho0) hb); have n4_ := am (Kd.R_elder' (Rz (Kd.R_mono (Kd.R_far (p := ⟨gb761, 2, none⟩) (Kd.R_far (p := ⟨gb761, 1, none⟩) (Kd.R_far (p := ⟨gb761, 0, none⟩) (Kd.R_types HO_741002.out BK761.out (by decide)) (fun _ hk => hk.2) (.int .i64 t755)) (fun _ hk => hk.2) (.int .i64 t756)) (fun _ hk => hk.2) (.slice Ao171 t757.length co171)) (fun _ h_ => h_.1))) (Kd.R_base ho0) hb); have n5_ := am (Kd.R_elder' (Rz (Kd.R_mono (Kd.R_far (p := ⟨gb761, 2, none⟩) (Kd.R_far (p := ⟨gb761, 1, none⟩) (Kd.R_far (p := ⟨gb761, 0, none⟩) (Kd.R_types HO_748002.out BK761.out (by decide)) (fun _ hk => hk.2) (.int .i64 t755)) (fun _ hk => hk.2) (.int .i64 t756)) (fun _ hk => hk.2) (.slice Ao171 t757.length co171)) (fun _ h_ => h_.1))) (Kd.R_base ho0) hb); have n6_ := am (Kd.R_below (Rz (Kd.R_mono (Kd.R_far (p := ⟨gb761, 2, none⟩) (Kd.R_far (p := ⟨gb761, 1, none⟩) (Kd.R_far (p := ⟨gb761, 0, none⟩) (Kd.R_types HO754.out BK761.out (by decide)) (fun _ hk => hk.2) (.int .i64 t755)) (fun _ hk => hk.2) (.int .i64 t756)) (fun _ hk => hk.2) (.slice Ao171 t757.length co171)) (fun _ h_ => h_.1))) hb); have n7_ := am (Kd.R_elder' (Rz (Kd.R_mono (Kd.R_far (p := ⟨gb761, 2, none⟩) (Kd.R_far (p := ⟨gb761, 1, none⟩) (Kd.R_far (p := ⟨gb761, 0, none⟩) (Kd.R_types HO759.out BK761.out (by decide)) (fun _ hk => hk.2) (.int .i64 t755)) (fun _ hk => hk.2) (.int .i64 t756)) (fun _ hk => hk.2) (.slice Ao171 t757.length co171)) (fun _ h_ => h_.1))) (Kd.R_base ho0) hb); have n8_ := am (Kd.R_lower (Kd.R_new' (Kd.R_new' (Kd.R_new' (Kd.R_new' (Kd.R_new' (Kd.R_new' (Kd.R_new' ho0 (Kd.R_lt (Rz (Kd.R_mono (Kd.R_far (p := ⟨gb761, 2, none⟩) (Kd.R_far (p := ⟨gb761, 1, none⟩) (Kd.R_far (p := ⟨gb761, 0, none⟩) (Kd.R_types HO_678002.out BK761.out (by decide)) (fun _ hk => hk.2) (.int .i64 t755)) (fun _ hk => hk.2) (.int .i64 t756)) (fun _ hk => hk.2) (.slice Ao171 t757.length co171)) (fun _ h_ => h_.1))))) (Kd.R_lt (Rz (Kd.R_mono (Kd.R_far (p := ⟨gb761, 2, none⟩) (Kd.R_far (p := ⟨gb761, 1, none⟩) (Kd.R_far (p := ⟨gb761, 0, none⟩) (Kd.R_types HO_685002.out BK761.out (by decide)) (fun _ hk => hk.2) (.int .i64 t755)) (fun _ hk => hk.2) (.int .i64 t756)) (fun _ hk => hk.2) (.slice Ao171 t757.length co171)) (fun _ h_ => h_.1))))) (Kd.R_lt (Rz (Kd.R_mono (Kd.R_far (p := ⟨gb761, 2, none⟩) (Kd.R_far (p := ⟨gb761, 1, none⟩) (Kd.R_far (p := ⟨gb761, 0, none⟩) (Kd.R_types HO_692002.out BK761.out (by decide)) (fun _ hk => hk.2) (.int .i64 t755)) (fun _ hk => hk.2) (.int .i64 t756)) (fun _ hk => hk.2) (.slice Ao171 t757.length co171)) (fun _ h_ => h_.1))))) (Kd.R_lt (Rz (Kd.R_mono (Kd.R_far (p := ⟨gb761, 2, none⟩) (Kd.R_far (p := ⟨gb761, 1, none⟩) (Kd.R_far (p := ⟨gb761, 0, none⟩) (Kd.R_types HO_734002.out BK761.out (by decide)) (fun _ hk => hk.2) (.int .i64 t755)) (fun _ hk => hk.2) (.int .i64 t756)) (fun _ hk => hk.2) (.slice Ao171 t757.length co171)) (fun _ h_ => h_.1))))) (Kd.R_lt (Rz (Kd.R_mono (Kd.R_far (p := ⟨gb761, 2, none⟩) (Kd.R_far (p := ⟨gb761, 1, none⟩) (Kd.R_far (p := ⟨gb761, 0, none⟩) (Kd.R_types HO_741002.out BK761.out (by decide)) (fun _ hk => hk.2) (.int .i64 t755)) (fun _ hk => hk.2) (.int .i64 t756)) (fun _ hk => hk.2) (.slice Ao171 t757.length co171)) (fun _ h_ => h_.1))))) (Kd.R_lt (Rz (Kd.R_mono (Kd.R_far (p := ⟨gb761, 2, none⟩) (Kd.R_far (p := ⟨gb761, 1, none⟩) (Kd.R_far (p := ⟨gb761, 0, none⟩) (Kd.R_types HO_748002.out BK761.out (by decide)) (fun _ hk => hk.2) (.int .i64 t755)) (fun _ hk => hk.2) (.int .i64 t756)) (fun _ hk => hk.2) (.slice Ao171 t757.length co171)) (fun _ h_ => h_.1))))) (Kd.R_lt (Rz (Kd.R_mono (Kd.R_far (p := ⟨gb761, 2, none⟩) (Kd.R_far (p := ⟨gb761, 1, none⟩) (Kd.R_far (p := ⟨gb761, 0, none⟩) (Kd.R_types HO759.out BK761.out (by decide)) (fun _ hk => hk.2) (.int .i64 t755)) (fun _ hk => hk.2) (.int .i64 t756)) (fun _ hk => hk.2) (.slice Ao171 t757.length co171)) (fun _ h_ => h_.1))))) (below_size (w := w) (Bq))); have n9_ := am (blk_below (g := gb677) (o := .cells #[.int .i64 t671, .int .i64 t672, .slice Ao12 t673.length co12] 49 (0, 0)) (by refine bp ?_; refine blk_far ?_ NB677_761.out _; refine bp ?_; refine blk_far ?_ NB677_761.out _; refine bp ?_; refine blk_far ?_ NB677_761.out _; exact Kz BK677.out) hb); have n10_ := am (blk_below (g := gb684) (o := .cells #[.int .i64 t678, .int .i64 t679, .slice Ao17 t680.length co17] 49 (0, 0)) (by refine bp ?_; refine blk_far ?_ NB684_761.out _; refine bp ?_; refine blk_far ?_ NB684_761.out _; refine bp ?_; refine blk_far ?_ NB684_761.out _; exact Kz BK684.out) hb); have n11_ := am (blk_below (g := gb691) (o := .cells #[.int .i64 t685, .int .i64 t686, .slice Ao24 t687.length co24] 49 (0, 0)) (by refine bp ?_; refine blk_far ?_ NB691_761.out _; refine bp ?_; refine blk_far ?_ NB691_761.out _; refine bp ?_; refine blk_far ?_ NB691_761.out _; exact Kz BK691.out) hb); have n12_ := am (blk_below (g := gb733) (o := .cells #[.int .i64 t727, .int .i64 t728, .slice Ao122 t729.length co122] 49 (0, 0)) (by refine bp ?_; refine blk_far ?_ NB733_761.out _; refine bp ?_; refine blk_far ?_ NB733_761.out _; refine bp ?_; refine blk_far ?_ NB733_761.out _; exact Kz BK733.out) hb); have n13_ := am (blk_below (g := gb740) (o := .cells #[.int .i64 t734, .int .i64 t735, .slice Ao130 t736.length co130] 49 (0, 0)) (by refine bp ?_; refine blk_far ?_ NB740_761.out _; refine bp ?_; refine blk_far ?_ NB740_761.out _; refine bp ?_; refine blk_far ?_ NB740_761.out _; exact Kz BK740.out) hb); have n14_ := am (blk_below (g := gb747) (o := .cells #[.int .i64 t741, .int .i64 t742, .slice Ao140 t743.length co140] 49 (0, 0)) (by refine bp ?_; refine blk_far ?_ NB747_761.out _; refine bp ?_; refine blk_far ?_ NB747_761.out _; refine bp ?_; refine blk_far ?_ NB747_761.out _; exact Kz BK747.out) hb); have n15_ := am (blk_below (g := gb761) (o := .cells #[.int .i64 t755, .int .i64 t756, .slice Ao171 t757.length co171] 49 (0, 0)) (by refine bp ?_; refine blk_put (cs := #[.int .i64 t755, .int .i64 t756, .slice none 0 0]) ?_ 2 _ rfl; refine bp ?_; refine blk_put (cs := #[.int .i64 t755, .int .i64 0, .slice none 0 0]) ?_ 1 _ rfl; refine bp ?_; refine blk_put (cs := #[.int .i64 0, .int .i64 0, .slice none 0 0]) ?_ 0 _ rfl; exact Kz BK761.out) hb); have n16_ := Bc HB hb; clear HO_678002 HO_685002 HO_692002 HO_734002 HO_741002 HO_748002 HO754 HO759 BK677 BK684 BK691 BK733 BK740 BK747 BK761 HB; revert n0_ n1_ n2_ n3_ n4_ n5_ n6_ n7_ n8_ n9_ n10_ n11_ n12_ n13_ n14_ n15_ n16_; intro HO_678002 HO_685002 HO_692002 HO_734002 HO_741002 HO_748002 HO754 HO759 HO766 BK677 BK684 BK691 BK733 BK740 BK747 BK761 HB; (try clear hb); (try clear hb2); (try clear hk); (try clear hi); (try clear ho0)) | ((with_reducible refine gate_dst (N := 34) rfl ?_); refine bE 34 #[.int .i64 0, .int .i64 0, .slice none 0 0] 49 ?_; intro gb768 hg w173 hbox hb; have n0_ := Rb HO_678002 hb; have n1_ := Rb HO_685002 hb; have n2_ := Rb HO_692002 hb; have n3_ := Rb HO_734002 hb; have n4_ := Rb HO_741002 hb; have n5_ := Rb HO_748002 hb; have n6_ := Rb HO754 hb; have n7_ := Rb HO759 hb; have n8_ := Rb HO766 hb; have n9_ := Kb BK677 hb; have n10_ := Kb BK684 hb; have n11_ := Kb BK691 hb; have n12_ := Kb BK733 hb; have n13_ := Kb BK740 hb; have n14_ := Kb BK747 hb; have n15_ := Kb BK761 hb; have n16_ := Bc HB hb; have n17_ := am (hbox); have n18_ := Gm HB hg; have n19_ := Gm HB hg; have n20_ := Nl BK677 hg; have n21_ := Ng BK677 hg; have n22_ := Nl BK684 hg; have n23_ := Ng BK684 hg; have n24_ := Nl BK691 hg; have n25_ := Ng BK691 hg; have n26_ := Nl BK733 hg; have n27_ := Ng BK733 hg; have n28_ := Nl BK740 hg; have n29_ := Ng BK740 hg; have n30_ := Nl BK747 hg; have n31_ := Ng BK747 hg; have n32_ := Nl BK761 hg; have n33_ := Ng BK761 hg; clear HO_678002 HO_685002 HO_692002 HO_734002 HO_741002 HO_748002 HO754 HO759 HO766 BK677 BK684 BK691 BK733 BK740 BK747 BK761 HB; revert n0_ n1_ n2_ n3_ n4_ n5_ n6_ n7_ n8_ n9_ n10_ n11_ n12_ n13_ n14_ n15_ n16_ n17_ n18_ n19_ n20_ n21_ n22_ n23_ n24_ n25_ n26_ n27_ n28_ n29_ n30_ n31_ n32_ n33_; intro HO_678002 HO_685002 HO_692002 HO_734002 HO_741002 HO_748002 HO754 HO759 HO766 BK677 BK684 BK691 BK733 BK740 BK747 BK761 HB BK768 GW768 GE768 NB677_768 NB768_677 NB684_768 NB768_684 NB691_768 NB768_691 NB733_768 NB768_733 NB740_768 NB768_740 NB747_768 NB768_747 NB761_768 NB768_761; clear hb hbox hg; have hnb174 := NB768_677.out; have hnc174 := NB677_768.out; have hnb175 := NB768_684.out; have hnc175 := NB684_768.out; have hnb176 := NB768_691.out; have hnc176 := NB691_768.out; have hnb177 := NB768_733.out; have hnc177 := NB733_768.out; have hnb178 := NB768_740.out; have hnc178 := NB740_768.out; have hnb179 := NB768_747.out; have hnc179 := NB747_768.out; have hnb180 := NB768_761.out; have hnc180 := NB761_768.out; obtain ⟨hcz181_0, hcz181_1, hcz181_2, hfz181_0, hfz181_1, hfz181_2⟩ := cf3 (w := w173) BK768; obtain ⟨Ao182, co182, eo182⟩ := Kd.R_slice HO766.out; subst eo182))
             (try simp only [aP])
             go_cut [190] (fun v190 wc => ∃ (kq : Nat) (x190_158 : Bool), v190 = .bool x190_158 ∧ Aside0 (laws_FnCountingForgets.j5 kq t749 t750 t751 t752 t760 x190_158 t755 t756 t757 = some r) ∧ Aside0 (kq ≤ kj114) ∧ Aside0 (Kd.R Kd.string 9 wc w.heap.size (fun _ => True) (.slice Ao161 t752.length co161) t752) ∧ Aside0 (Kd.R (Kd.int .i64) 3 wc w.heap.size (fun k_ => some k_ ≠ ((.slice Ao17 t680.length co17) : Value).ownBlock ∧ some k_ ≠ ((.slice Ao24 t687.length co24) : Value).ownBlock ∧ some k_ ≠ ((.slice Ao122 t729.length co122) : Value).ownBlock ∧ some k_ ≠ ((.slice Ao130 t736.length co130) : Value).ownBlock ∧ some k_ ≠ ((.slice Ao140 t743.length co140) : Value).ownBlock ∧ some k_ ≠ ((.slice Ao171 t757.length co171) : Value).ownBlock ∧ some k_ ≠ ((.slice Ao182 t764.length co182) : Value).ownBlock) (.slice Ao12 t673.length co12) t673) ∧ Aside0 (Kd.R (Kd.int .i64) 3 wc w.heap.size (fun k_ => some k_ ≠ ((.slice Ao12 t673.length co12) : Value).ownBlock ∧ some k_ ≠ ((.slice Ao24 t687.length co24) : Value).ownBlock ∧ some k_ ≠ ((.slice Ao122 t729.length co122) : Value).ownBlock ∧ some k_ ≠ ((.slice Ao130 t736.length co130) : Value).ownBlock ∧ some k_ ≠ ((.slice Ao140 t743.length co140) : Value).ownBlock ∧ some k_ ≠ ((.slice Ao171 t757.length co171) : Value).ownBlock ∧ some k_ ≠ ((.slice Ao182 t764.length co182) : Value).ownBlock) (.slice Ao17 t680.length co17) t680) ∧ Aside0 (Kd.R (Kd.int .i64) 3 wc w.heap.size (fun k_ => some k_ ≠ ((.slice Ao12 t673.length co12) : Value).ownBlock ∧ some k_ ≠ ((.slice Ao17 t680.length co17) : Value).ownBlock ∧ some k_ ≠ ((.slice Ao122 t729.length co122) : Value).ownBlock ∧ some k_ ≠ ((.slice Ao130 t736.length co130) : Value).ownBlock ∧ some k_ ≠ ((.slice Ao140 t743.length co140) : Value).ownBlock ∧ some k_ ≠ ((.slice Ao171 t757.length co171) : Value).ownBlock ∧ some k_ ≠ ((.slice Ao182 t764.length co182) : Value).ownBlock) (.slice Ao24 t687.length co24) t687) ∧ Aside0 (Kd.R (Kd.int .i64) 3 wc w.heap.size (fun k_ => some k_ ≠ ((.slice Ao12 t673.length co12) : Value).ownBlock ∧ some k_ ≠ ((.slice Ao17 t680.length co17) : Value).ownBlock ∧ some k_ ≠ ((.slice Ao24 t687.length co24) : Value).ownBlock ∧ some k_ ≠ ((.slice Ao130 t736.length co130) : Value).ownBlock ∧ some k_ ≠ ((.slice Ao140 t743.length co140) : Value).ownBlock ∧ some k_ ≠ ((.slice Ao171 t757.length co171) : Value).ownBlock ∧ some k_ ≠ ((.slice Ao182 t764.length co182) : Value).ownBlock) (.slice Ao122 t729.length co122) t729) ∧ Aside0 (Kd.R (Kd.int .i64) 3 wc w.heap.size (fun k_ => some k_ ≠ ((.slice Ao12 t673.length co12) : Value).ownBlock ∧ some k_ ≠ ((.slice Ao17 t680.length co17) : Value).ownBlock ∧ some k_ ≠ ((.slice Ao24 t687.length co24) : Value).ownBlock ∧ some k_ ≠ ((.slice Ao122 t729.length co122) : Value).ownBlock ∧ some k_ ≠ ((.slice Ao140 t743.length co140) : Value).ownBlock ∧ some k_ ≠ ((.slice Ao171 t757.length co171) : Value).ownBlock ∧ some k_ ≠ ((.slice Ao182 t764.length co182) : Value).ownBlock) (.slice Ao130 t736.length co130) t736) ∧ Aside0 (Kd.R (Kd.int .i64) 3 wc w.heap.size (fun k_ => some k_ ≠ ((.slice Ao12 t673.length co12) : Value).ownBlock ∧ some k_ ≠ ((.slice Ao17 t680.length co17) : Value).ownBlock ∧ some k_ ≠ ((.slice Ao24 t687.length co24) : Value).ownBlock ∧ some k_ ≠ ((.slice Ao122 t729.length co122) : Value).ownBlock ∧ some k_ ≠ ((.slice Ao130 t736.length co130) : Value).ownBlock ∧ some k_ ≠ ((.slice Ao171 t757.length co171) : Value).ownBlock ∧ some k_ ≠ ((.slice Ao182 t764.length co182) : Value).ownBlock) (.slice Ao140 t743.length co140) t743) ∧ Aside0 (Kd.R (Kd.int .i64) 3 wc w.heap.size (fun k_ => some k_ ≠ ((.slice Ao12 t673.length co12) : Value).ownBlock ∧ some k_ ≠ ((.slice Ao17 t680.length co17) : Value).ownBlock ∧ some k_ ≠ ((.slice Ao24 t687.length co24) : Value).ownBlock ∧ some k_ ≠ ((.slice Ao122 t729.length co122) : Value).ownBlock ∧ some k_ ≠ ((.slice Ao130 t736.length co130) : Value).ownBlock ∧ some k_ ≠ ((.slice Ao140 t743.length co140) : Value).ownBlock ∧ some k_ ≠ ((.slice Ao182 t764.length co182) : Value).ownBlock) (.slice Ao171 t757.length co171) t757) ∧ Aside0 (Kd.R (Kd.int .i64) 3 wc w.heap.size (fun k_ => some k_ ≠ ((.slice Ao12 t673.length co12) : Value).ownBlock ∧ some k_ ≠ ((.slice Ao17 t680.length co17) : Value).ownBlock ∧ some k_ ≠ ((.slice Ao24 t687.length co24) : Value).ownBlock ∧ some k_ ≠ ((.slice Ao122 t729.length co122) : Value).ownBlock ∧ some k_ ≠ ((.slice Ao130 t736.length co130) : Value).ownBlock ∧ some k_ ≠ ((.slice Ao140 t743.length co140) : Value).ownBlock ∧ some k_ ≠ ((.slice Ao171 t757.length co171) : Value).ownBlock) (.slice Ao182 t764.length co182) t764) ∧ Aside0 (wc.heap[gb677]? = some (.cells #[.int .i64 t671, .int .i64 t672, (.slice Ao12 t673.length co12)] 49 (0, 0))) ∧ Aside0 (wc.heap[gb684]? = some (.cells #[.int .i64 t678, .int .i64 t679, (.slice Ao17 t680.length co17)] 49 (0, 0))) ∧ Aside0 (wc.heap[gb691]? = some (.cells #[.int .i64 t685, .int .i64 t686, (.slice Ao24 t687.length co24)] 49 (0, 0))) ∧ Aside0 (wc.heap[gb733]? = some (.cells #[.int .i64 t727, .int .i64 t728, (.slice Ao122 t729.length co122)] 49 (0, 0))) ∧ Aside0 (wc.heap[gb740]? = some (.cells #[.int .i64 t734, .int .i64 t735, (.slice Ao130 t736.length co130)] 49 (0, 0))) ∧ Aside0 (wc.heap[gb747]? = some (.cells #[.int .i64 t741, .int .i64 t742, (.slice Ao140 t743.length co140)] 49 (0, 0))) ∧ Aside0 (wc.heap[gb761]? = some (.cells #[.int .i64 t755, .int .i64 t756, (.slice Ao171 t757.length co171)] 49 (0, 0))) ∧ Aside0 (wc.heap[gb768]? = some (.cells #[.int .i64 t762, .int .i64 t763, (.slice Ao182 t764.length co182)] 49 (0, 0))) ∧ Aside0 (Below w.heap.size w wc))
             case first =>
              have H := HC159.out; clear HC159
              by_cases c183 : (t760 != t767) = true
              ·rw [if_pos c183] at H
               have c183b0 : (t760 != t767) = true := c183
               (try (have c183b1 : decide (t760 = t767) = false := by simpa using c183))
               (try (have c183b2 : (t760 == t767) = false := by simpa using c183))
               (try (have c183b3 : ¬ (t760 = t767) := by simpa using c183))
               (try (have c183b4 : (!(t760 == t767)) = true := c183b0))
               clear c183
               (first | rw [c183b0] | (simp only [i64_w, i32_w]; rw [c183b0]) | skip)
               exact absurd (H.trans (congrArg some HT_.out)) (laws_FnCountingForgets.j5.dead _ _ _ _ _ _ _ _ _)
              ·rw [if_neg c183] at H
               have c183b0 : (t760 != t767) = false := by simpa using c183
               (try (have c183b1 : decide (t760 = t767) = true := by simpa using c183))
               (try (have c183b2 : (t760 == t767) = true := by simpa using c183))
               (try (have c183b3 : (!(t760 == t767)) = false := c183b0))
               clear c183
               (first | rw [c183b0] | (simp only [i64_w, i32_w]; rw [c183b0]) | skip)
               obtain ⟨t769, A184, H⟩ := ob H; (try dsimp -simprocs only at H); have H' := am H; clear H; have hnb185 := NB761_677.out; have hnc185 := NB677_761.out; have hnb186 := NB761_684.out; have hnc186 := NB684_761.out; have hnb187 := NB761_691.out; have hnc187 := NB691_761.out; have hnb188 := NB761_733.out; have hnc188 := NB733_761.out; have hnb189 := NB761_740.out; have hnc189 := NB740_761.out; have hnb190 := NB761_747.out; have hnc190 := NB747_761.out; have hnb191 := NB761_768.out; have hnc191 := NB768_761.out; obtain ⟨hcz192_0, hcz192_1, hcz192_2, hfz192_0, hfz192_1, hfz192_2⟩ := cf3 (w := w173) BK761; have hnb193 := NB768_677.out; have hnc193 := NB677_768.out; have hnb194 := NB768_684.out; have hnc194 := NB684_768.out; have hnb195 := NB768_691.out; have hnc195 := NB691_768.out; have hnb196 := NB768_733.out; have hnc196 := NB733_768.out; have hnb197 := NB768_740.out; have hnc197 := NB740_768.out; have hnb198 := NB768_747.out; have hnc198 := NB747_768.out; obtain ⟨hcz199_0, hcz199_1, hcz199_2, hfz199_0, hfz199_1, hfz199_2⟩ := cf3 (w := w173) BK768
               go_wp2_with (first | (go_at_call 61; (with_reducible refine (laws_rSameCounting.calls kj114 t755 t756 _ _ t757 t762 t763 _ _ t764 t769 _ ?side1 ?side2 ?side3 ?side4 A184.out).mono ?_); (case side1 => refine (Kd.R_reads' (e := 3) (base := w.heap.size) (ok := fun k_ => (((((((True ∧ some k_ ≠ (.slice Ao12 t673.length co12 : Value).ownBlock) ∧ some k_ ≠ (.slice Ao17 t680.length co17 : Value).ownBlock) ∧ some k_ ≠ (.slice Ao24 t687.length co24 : Value).ownBlock) ∧ some k_ ≠ (.slice Ao122 t729.length co122 : Value).ownBlock) ∧ some k_ ≠ (.slice Ao130 t736.length co130 : Value).ownBlock) ∧ some k_ ≠ (.slice Ao140 t743.length co140 : Value).ownBlock) ∧ some k_ ≠ (.slice Ao182 t764.length co182 : Value).ownBlock)) (n := t757.length) (c := co171) ?_).2.2; exact (Rz (Kd.R_mono (Kd.R_far (p := ⟨gb768, 2, none⟩) (Kd.R_far (p := ⟨gb768, 1, none⟩) (Kd.R_far (p := ⟨gb768, 0, none⟩) (Kd.R_types HO759.out BK768.out (by decide)) (fun _ hk => hk.2) (.int .i64 t762)) (fun _ hk => hk.2) (.int .i64 t763)) (fun _ hk => hk.2) (.slice Ao182 t764.length co182)) (fun _ h_ => h_.1)))); (case side2 => exact (Kd.R_reads' HO759.out).2.1); (case side3 => refine (Kd.R_reads' (e := 3) (base := w.heap.size) (ok := fun k_ => (((((((True ∧ some k_ ≠ (.slice Ao12 t673.length co12 : Value).ownBlock) ∧ some k_ ≠ (.slice Ao17 t680.length co17 : Value).ownBlock) ∧ some k_ ≠ (.slice Ao24 t687.length co24 : Value).ownBlock) ∧ some k_ ≠ (.slice Ao122 t729.length co122 : Value).ownBlock) ∧ some k_ ≠ (.slice Ao130 t736.length co130 : Value).ownBlock) ∧ some k_ ≠ (.slice Ao140 t743.length co140 : Value).ownBlock) ∧ some k_ ≠ (.slice Ao171 t757.length co171 : Value).ownBlock)) (n := t764.length) (c := co182) ?_).2.2; exact (Rz (Kd.R_mono (Kd.R_far (p := ⟨gb768, 2, none⟩) (Kd.R_far (p := ⟨gb768, 1, none⟩) (Kd.R_far (p := ⟨gb768, 0, none⟩) (Kd.R_types HO766.out BK768.out (by decide)) (fun _ hk => hk.2) (.int .i64 t762)) (fun _ hk => hk.2) (.int .i64 t763)) (fun _ hk => hk.2) (.slice Ao182 t764.length co182)) (fun _ h_ => h_.1)))); (case side4 => exact (Kd.R_reads' HO766.out).2.1); rintro e w200 ⟨rfl, hb⟩; have n0_ := am (Kd.R_below (Rz (Kd.R_mono (Kd.R_far (p := ⟨gb768, 2, none⟩) (Kd.R_far (p := ⟨gb768, 1, none⟩) (Kd.R_far (p := ⟨gb768, 0, none⟩) (Kd.R_types HO_678002.out BK768.out (by decide)) (fun _ hk => hk.2) (.int .i64 t762)) (fun _ hk => hk.2) (.int .i64 t763)) (fun _ hk => hk.2) (.slice Ao182 t764.length co182)) (fun _ h_ => h_.1))) hb); have n1_ := am (Kd.R_below (Rz (Kd.R_mono (Kd.R_far (p := ⟨gb768, 2, none⟩) (Kd.R_far (p := ⟨gb768, 1, none⟩) (Kd.R_far (p := ⟨gb768, 0, none⟩) (Kd.R_types HO_685002.out BK768.out (by decide)) (fun _ hk => hk.2) (.int .i64 t762)) (fun _ hk => hk.2) (.int .i64 t763)) (fun _ hk => hk.2) (.slice Ao182 t764.length co182)) (fun _ h_ => h_.1))) hb); have n2_ := am (Kd.R_below (Rz (Kd.R_mono (Kd.R_far (p := ⟨gb768, 2, none⟩) (Kd.R_far (p := ⟨gb768, 1, none⟩) (Kd.R_far (p := ⟨gb768, 0, none⟩) (Kd.R_types HO_692002.out BK768.out (by decide)) (fun _ hk => hk.2) (.int .i64 t762)) (fun _ hk => hk.2) (.int .i64 t763)) (fun _ hk => hk.2) (.slice Ao182 t764.length co182)) (fun _ h_ => h_.1))) hb); have n3_ := am (Kd.R_below (Rz (Kd.R_mono (Kd.R_far (p := ⟨gb768, 2, none⟩) (Kd.R_far (p := ⟨gb768, 1, none⟩) (Kd.R_far (p := ⟨gb768, 0, none⟩) (Kd.R_types HO_734002.out BK768.out (by decide)) (fun _ hk => hk.2) (.int .i64 t762)) (fun _ hk => hk.2) (.int .i64 t763)) (fun _ hk => hk.2) (.slice Ao182 t764.length co182)) (fun _ h_ => h_.1))) hb); have n4_ := am (Kd.R_below (Rz (Kd.R_mono (Kd.R_far (p := ⟨gb768, 2, none⟩) (Kd.R_far (p := ⟨gb768, 1, none⟩) (Kd.R_far (p := ⟨gb768, 0, none⟩) (Kd.R_types HO_741002.out BK768.out (by decide)) (fun _ hk => hk.2) (.int .i64 t762)) (fun _ hk => hk.2) (.int .i64 t763)) (fun _ hk => hk.2) (.slice Ao182 t764.length co182)) (fun _ h_ => h_.1))) hb); have n5_ := am (Kd.R_below (Rz (Kd.R_mono (Kd.R_far (p := ⟨gb768, 2, none⟩) (Kd.R_far (p := ⟨gb768, 1, none⟩) (Kd.R_far (p := ⟨gb768, 0, none⟩) (Kd.R_types HO_748002.out BK768.out (by decide)) (fun _ hk => hk.2) (.int .i64 t762)) (fun _ hk => hk.2) (.int .i64 t763)) (fun _ hk => hk.2) (.slice Ao182 t764.length co182)) (fun _ h_ => h_.1))) hb); have n6_ := am (Kd.R_below (Rz (Kd.R_mono (Kd.R_far (p := ⟨gb768, 2, none⟩) (Kd.R_far (p := ⟨gb768, 1, none⟩) (Kd.R_far (p := ⟨gb768, 0, none⟩) (Kd.R_types HO754.out BK768.out (by decide)) (fun _ hk => hk.2) (.int .i64 t762)) (fun _ hk => hk.2) (.int .i64 t763)) (fun _ hk => hk.2) (.slice Ao182 t764.length co182)) (fun _ h_ => h_.1))) hb); have n7_ := am (Kd.R_below (Rz (Kd.R_mono (Kd.R_far (p := ⟨gb768, 2, none⟩) (Kd.R_far (p := ⟨gb768, 1, none⟩) (Kd.R_far (p := ⟨gb768, 0, none⟩) (Kd.R_types HO759.out BK768.out (by decide)) (fun _ hk => hk.2) (.int .i64 t762)) (fun _ hk => hk.2) (.int .i64 t763)) (fun _ hk => hk.2) (.slice Ao182 t764.length co182)) (fun _ h_ => h_.1))) hb); have n8_ := am (Kd.R_below (Rz (Kd.R_mono (Kd.R_far (p := ⟨gb768, 2, none⟩) (Kd.R_far (p := ⟨gb768, 1, none⟩) (Kd.R_far (p := ⟨gb768, 0, none⟩) (Kd.R_types HO766.out BK768.out (by decide)) (fun _ hk => hk.2) (.int .i64 t762)) (fun _ hk => hk.2) (.int .i64 t763)) (fun _ hk => hk.2) (.slice Ao182 t764.length co182)) (fun _ h_ => h_.1))) hb); have n9_ := am (blk_below (g := gb677) (o := .cells #[.int .i64 t671, .int .i64 t672, .slice Ao12 t673.length co12] 49 (0, 0)) (by refine bp ?_; refine blk_far ?_ NB677_768.out _; refine bp ?_; refine blk_far ?_ NB677_768.out _; refine bp ?_; refine blk_far ?_ NB677_768.out _; exact Kz BK677.out) hb); have n10_ := am (blk_below (g := gb684) (o := .cells #[.int .i64 t678, .int .i64 t679, .slice Ao17 t680.length co17] 49 (0, 0)) (by refine bp ?_; refine blk_far ?_ NB684_768.out _; refine bp ?_; refine blk_far ?_ NB684_768.out _; refine bp ?_; refine blk_far ?_ NB684_768.out _; exact Kz BK684.out) hb); have n11_ := am (blk_below (g := gb691) (o := .cells #[.int .i64 t685, .int .i64 t686, .slice Ao24 t687.length co24] 49 (0, 0)) (by refine bp ?_; refine blk_far ?_ NB691_768.out _; refine bp ?_; refine blk_far ?_ NB691_768.out _; refine bp ?_; refine blk_far ?_ NB691_768.out _; exact Kz BK691.out) hb); have n12_ := am (blk_below (g := gb733) (o := .cells #[.int .i64 t727, .int .i64 t728, .slice Ao122 t729.length co122] 49 (0, 0)) (by refine bp ?_; refine blk_far ?_ NB733_768.out _; refine bp ?_; refine blk_far ?_ NB733_768.out _; refine bp ?_; refine blk_far ?_ NB733_768.out _; exact Kz BK733.out) hb); have n13_ := am (blk_below (g := gb740) (o := .cells #[.int .i64 t734, .int .i64 t735, .slice Ao130 t736.length co130] 49 (0, 0)) (by refine bp ?_; refine blk_far ?_ NB740_768.out _; refine bp ?_; refine blk_far ?_ NB740_768.out _; refine bp ?_; refine blk_far ?_ NB740_768.out _; exact Kz BK740.out) hb); have n14_ := am (blk_below (g := gb747) (o := .cells #[.int .i64 t741, .int .i64 t742, .slice Ao140 t743.length co140] 49 (0, 0)) (by refine bp ?_; refine blk_far ?_ NB747_768.out _; refine bp ?_; refine blk_far ?_ NB747_768.out _; refine bp ?_; refine blk_far ?_ NB747_768.out _; exact Kz BK747.out) hb); have n15_ := am (blk_below (g := gb761) (o := .cells #[.int .i64 t755, .int .i64 t756, .slice Ao171 t757.length co171] 49 (0, 0)) (by refine bp ?_; refine blk_far ?_ NB761_768.out _; refine bp ?_; refine blk_far ?_ NB761_768.out _; refine bp ?_; refine blk_far ?_ NB761_768.out _; exact Kz BK761.out) hb); have n16_ := am (blk_below (g := gb768) (o := .cells #[.int .i64 t762, .int .i64 t763, .slice Ao182 t764.length co182] 49 (0, 0)) (by refine bp ?_; refine blk_put (cs := #[.int .i64 t762, .int .i64 t763, .slice none 0 0]) ?_ 2 _ rfl; refine bp ?_; refine blk_put (cs := #[.int .i64 t762, .int .i64 0, .slice none 0 0]) ?_ 1 _ rfl; refine bp ?_; refine blk_put (cs := #[.int .i64 0, .int .i64 0, .slice none 0 0]) ?_ 0 _ rfl; exact Kz BK768.out) hb); have n17_ := Bc HB hb; clear HO_678002 HO_685002 HO_692002 HO_734002 HO_741002 HO_748002 HO754 HO759 HO766 BK677 BK684 BK691 BK733 BK740 BK747 BK761 BK768 HB; revert n0_ n1_ n2_ n3_ n4_ n5_ n6_ n7_ n8_ n9_ n10_ n11_ n12_ n13_ n14_ n15_ n16_ n17_; intro HO_678002 HO_685002 HO_692002 HO_734002 HO_741002 HO_748002 HO754 HO759 HO766 BK677 BK684 BK691 BK733 BK740 BK747 BK761 BK768 HB; (try clear hb); (try clear hb2); (try clear hk); (try clear hi)))
               go_meet
               case rel => exact ⟨_, (!t769), wZ, H', ⟨by have := HJ7.out; have := HJ33.out; have := HJ114.out; first | omega | exact Nat.le_refl _⟩, ⟨Rz HO754.out⟩, ⟨Rz (Kd.R_mono HO_678002.out (fun _ hk => ⟨hk.1.1.1, ⟨hk.1.1.2.1, ⟨hk.1.1.2.2.1, ⟨hk.1.1.2.2.2.1, ⟨hk.1.1.2.2.2.2, ⟨hk.1.2, hk.2⟩⟩⟩⟩⟩⟩))⟩, ⟨Rz (Kd.R_mono HO_685002.out (fun _ hk => ⟨hk.1.1.1, ⟨hk.1.1.2.1, ⟨hk.1.1.2.2.1, ⟨hk.1.1.2.2.2.1, ⟨hk.1.1.2.2.2.2, ⟨hk.1.2, hk.2⟩⟩⟩⟩⟩⟩))⟩, ⟨Rz (Kd.R_mono HO_692002.out (fun _ hk => ⟨hk.1.1.1, ⟨hk.1.1.2.1, ⟨hk.1.1.2.2.1, ⟨hk.1.1.2.2.2.1, ⟨hk.1.1.2.2.2.2, ⟨hk.1.2, hk.2⟩⟩⟩⟩⟩⟩))⟩, ⟨Rz (Kd.R_mono HO_734002.out (fun _ hk => ⟨hk.1.1.1, ⟨hk.1.1.2.1, ⟨hk.1.1.2.2.1, ⟨hk.1.1.2.2.2.1, ⟨hk.1.1.2.2.2.2, ⟨hk.1.2, hk.2⟩⟩⟩⟩⟩⟩))⟩, ⟨Rz (Kd.R_mono HO_741002.out (fun _ hk => ⟨hk.1.1.1, ⟨hk.1.1.2.1, ⟨hk.1.1.2.2.1, ⟨hk.1.1.2.2.2.1, ⟨hk.1.1.2.2.2.2, ⟨hk.1.2, hk.2⟩⟩⟩⟩⟩⟩))⟩, ⟨Rz (Kd.R_mono HO_748002.out (fun _ hk => ⟨hk.1.1.1, ⟨hk.1.1.2.1, ⟨hk.1.1.2.2.1, ⟨hk.1.1.2.2.2.1, ⟨hk.1.1.2.2.2.2, ⟨hk.1.2, hk.2⟩⟩⟩⟩⟩⟩))⟩, ⟨Rz (Kd.R_mono HO759.out (fun _ hk => ⟨hk.1.1.1.1.1.1.2, ⟨hk.1.1.1.1.1.2, ⟨hk.1.1.1.1.2, ⟨hk.1.1.1.2, ⟨hk.1.1.2, ⟨hk.1.2, hk.2⟩⟩⟩⟩⟩⟩))⟩, ⟨Rz (Kd.R_mono HO766.out (fun _ hk => ⟨hk.1.1.1.1.1.1.2, ⟨hk.1.1.1.1.1.2, ⟨hk.1.1.1.1.2, ⟨hk.1.1.1.2, ⟨hk.1.1.2, ⟨hk.1.2, hk.2⟩⟩⟩⟩⟩⟩))⟩, ⟨Kz BK677.out⟩, ⟨Kz BK684.out⟩, ⟨Kz BK691.out⟩, ⟨Kz BK733.out⟩, ⟨Kz BK740.out⟩, ⟨Kz BK747.out⟩, ⟨Kz BK761.out⟩, ⟨Kz BK768.out⟩, ⟨Bq⟩⟩
             case rest =>
              refine Nonempty.elim ?_ id
              refine (letI hh_ : Nonempty (_ : Prop) := ?apart5; (?close5 : type_of% hh_))
              case apart5 =>
               refine Nonempty.intro ?_
               clear HC159
               try clear c1
               try clear c2
               try clear p2
               try clear c3
               try clear c4
               try clear c5
               try clear c6
               try clear p6
               try clear q6
               try clear hx6
               try clear c7
               try clear c8
               try clear c9
               try clear c10
               try clear c11
               try clear c12
               try clear c13
               try clear c14
               try clear c15
               try clear c16
               try clear c17
               try clear c18
               try clear c19
               try clear c21
               try clear c22
               try clear c25
               try clear c25b0
               try clear c25b1
               try clear c25b2
               try clear c26
               try clear c27
               try clear c28
               try clear c30
               try clear c32
               try clear c33
               try clear c35
               try clear c36
               try clear c37
               try clear c39
               try clear c39b0
               try clear c40
               try clear c40b0
               try clear c41
               try clear c41b0
               try clear c42
               try clear c45
               try clear c46
               try clear c49
               try clear c50
               try clear c51
               try clear c52
               try clear c55
               try clear c56
               try clear c58
               try clear c59
               try clear c60
               try clear c62
               try clear c63
               try clear c64
               try clear p64
               try clear c65
               try clear c66
               try clear p69
               try clear q69
               try clear hx69
               try clear c70
               try clear c71
               try clear c72
               try clear c74
               try clear c75
               try clear c76
               try clear c77
               try clear c81
               try clear c82
               try clear c83
               try clear c84
               try clear c87
               try clear c88
               try clear c92
               try clear c93
               try clear c94
               try clear c95
               try clear c96
               try clear c102
               try clear c103
               try clear c104
               try clear c105
               try clear c106
               try clear c107
               try clear c118
               try clear c119
               try clear c120
               try clear c125
               try clear c126
               try clear c127
               try clear c128
               try clear c134
               try clear c135
               try clear c136
               try clear c137
               try clear c138
               try clear c141
               try clear c141b0
               try clear c141b1
               try clear c141b2
               try clear c143
               try clear c144
               try clear c145
               try clear c146
               try clear c147
               try clear c149
               try clear c150
               try clear c151
               try clear c152
               try clear c155
               try clear c164
               try clear c165
               try clear c166
               try clear c167
               try clear c168
               try clear c169
               try clear c174
               try clear c175
               try clear c176
               try clear c177
               try clear c178
               try clear c179
               try clear c180
               try clear c183
               try clear c183b0
               try clear c183b1
               try clear c183b2
               try clear c185
               try clear c186
               try clear c187
               try clear c188
               try clear c189
               try clear c190
               try clear c191
               try clear c193
               try clear c194
               try clear c195
               try clear c196
               try clear c197
               try clear c198
               try clear hx693_0
               try clear p2
               try clear p6
               try clear p64
               try clear p69
               try clear p693
               try clear q6
               try clear q69
               try clear q693
               obtain ⟨kq, x190_158, rfl, HA, HJ158, HO_31, HO_678002, HO_685002, HO_692002, HO_734002, HO_741002, HO_748002, HO_762002, HO_769002, BK677, BK684, BK691, BK733, BK740, BK747, BK761, BK768, HB⟩ := hcut; cases kq with
               | zero => exact absurd HA.out (by simp [laws_FnCountingForgets.j5])
               | succ kj158 =>
                have H := HA.out; clear HA
                simp only [laws_FnCountingForgets.j5] at H
                by_cases c201 : x190_158 = true
                ·subst c201
                 rw [if_pos rfl] at H; exact absurd (Option.some.inj H) (by rw [HT_.out]; decide)
                ·replace c201 := Bool.eq_false_iff.mpr c201
                 subst c201
                 rw [if_neg (show ¬ (false = true) by decide)] at H
                 by_cases c202 : t760 = true
                 ·subst c202
                  rw [if_pos rfl] at H; obtain ⟨⟨t770, t771, t772, t773, t776⟩, A203, H⟩ := ob H; (try dsimp -simprocs only at H); obtain ⟨⟨t778, t779, t780, t781, t784⟩, A204, H⟩ := ob H; (try dsimp -simprocs only at H)
                  by_cases c205 : t776 = true
                  ·subst c205
                   rw [if_pos rfl] at H
                   by_cases c206 : t784 = true
                   ·subst c206
                    rw [if_pos rfl] at H; obtain ⟨t786, A207, H⟩ := ob H; (try dsimp -simprocs only at H)
                    by_cases c208 : t786 = true
                    ·subst c208
                     rw [if_pos rfl] at H; obtain ⟨t787, A209, H⟩ := ob H; (try dsimp -simprocs only at H); obtain rfl := Option.some.inj H; have hnb210 := NB761_677.out; have hnc210 := NB677_761.out; have hnb211 := NB761_684.out; have hnc211 := NB684_761.out; have hnb212 := NB761_691.out; have hnc212 := NB691_761.out; have hnb213 := NB761_733.out; have hnc213 := NB733_761.out; have hnb214 := NB761_740.out; have hnc214 := NB740_761.out; have hnb215 := NB761_747.out; have hnc215 := NB747_761.out; have hnb216 := NB761_768.out; have hnc216 := NB768_761.out; obtain ⟨hcz217_0, hcz217_1, hcz217_2, hfz217_0, hfz217_1, hfz217_2⟩ := cf3 (w := wc) BK761
                     go_wp2_with (first | ((with_reducible refine gate_callee (f := 62) rfl ?_); refine gL (some 194) Try.func62 #[.agg #[.int .i64 t755, .int .i64 t756, .slice Ao171 t757.length co171]] ?_; (with_reducible refine (impl_BloomOfCounting.calls kj158 t755 t756 _ _ t757 t770 t771 t772 t773 true _ ?side1 ?side2 A203.out).mono ?_); (case side1 => exact Cz ((Kd.R_reads' HO_762002.out).2.2)); (case side2 => exact (Kd.R_reads' HO_762002.out).2.1); rintro e w218 ⟨v774, rfl, ho0, hb⟩; refine ⟨_, rfl, ?_⟩; have n0_ := Rb HO_31 hb; have n1_ := Re HO_678002 (Kd.R_base ho0) hb; have n2_ := Re HO_685002 (Kd.R_base ho0) hb; have n3_ := Re HO_692002 (Kd.R_base ho0) hb; have n4_ := Re HO_734002 (Kd.R_base ho0) hb; have n5_ := Re HO_741002 (Kd.R_base ho0) hb; have n6_ := Re HO_748002 (Kd.R_base ho0) hb; have n7_ := Re HO_762002 (Kd.R_base ho0) hb; have n8_ := Re HO_769002 (Kd.R_base ho0) hb; have n9_ := am (Kd.R_lower (Kd.R_new' (Kd.R_new' (Kd.R_new' (Kd.R_new' (Kd.R_new' (Kd.R_new' (Kd.R_new' (Kd.R_new' ho0 (Kd.R_lt (Rz HO_678002.out))) (Kd.R_lt (Rz HO_685002.out))) (Kd.R_lt (Rz HO_692002.out))) (Kd.R_lt (Rz HO_734002.out))) (Kd.R_lt (Rz HO_741002.out))) (Kd.R_lt (Rz HO_748002.out))) (Kd.R_lt (Rz HO_762002.out))) (Kd.R_lt (Rz HO_769002.out))) (below_size (w := w) (Bq))); have n10_ := Kb BK677 hb; have n11_ := Kb BK684 hb; have n12_ := Kb BK691 hb; have n13_ := Kb BK733 hb; have n14_ := Kb BK740 hb; have n15_ := Kb BK747 hb; have n16_ := Kb BK761 hb; have n17_ := Kb BK768 hb; have n18_ := Bc HB hb; clear HO_31 HO_678002 HO_685002 HO_692002 HO_734002 HO_741002 HO_748002 HO_762002 HO_769002 BK677 BK684 BK691 BK733 BK740 BK747 BK761 BK768 HB; revert n0_ n1_ n2_ n3_ n4_ n5_ n6_ n7_ n8_ n9_ n10_ n11_ n12_ n13_ n14_ n15_ n16_ n17_ n18_; intro HO_31 HO_678002 HO_685002 HO_692002 HO_734002 HO_741002 HO_748002 HO_762002 HO_769002 HO775 BK677 BK684 BK691 BK733 BK740 BK747 BK761 BK768 HB; (try clear hb); (try clear hb2); (try clear hk); (try clear hi); (try clear ho0)) | ((with_reducible refine gate_dst (N := 36) rfl ?_); refine bE 36 #[.int .i64 0, .int .i64 0, .int .i64 0, .slice none 0 0] 28 ?_; intro gb777 hg w219 hbox hb; have n0_ := Rb HO_31 hb; have n1_ := Rb HO_678002 hb; have n2_ := Rb HO_685002 hb; have n3_ := Rb HO_692002 hb; have n4_ := Rb HO_734002 hb; have n5_ := Rb HO_741002 hb; have n6_ := Rb HO_748002 hb; have n7_ := Rb HO_762002 hb; have n8_ := Rb HO_769002 hb; have n9_ := Rb HO775 hb; have n10_ := Kb BK677 hb; have n11_ := Kb BK684 hb; have n12_ := Kb BK691 hb; have n13_ := Kb BK733 hb; have n14_ := Kb BK740 hb; have n15_ := Kb BK747 hb; have n16_ := Kb BK761 hb; have n17_ := Kb BK768 hb; have n18_ := Bc HB hb; have n19_ := am (hbox); have n20_ := Gm HB hg; have n21_ := Gm HB hg; have n22_ := Nl BK677 hg; have n23_ := Ng BK677 hg; have n24_ := Nl BK684 hg; have n25_ := Ng BK684 hg; have n26_ := Nl BK691 hg; have n27_ := Ng BK691 hg; have n28_ := Nl BK733 hg; have n29_ := Ng BK733 hg; have n30_ := Nl BK740 hg; have n31_ := Ng BK740 hg; have n32_ := Nl BK747 hg; have n33_ := Ng BK747 hg; have n34_ := Nl BK761 hg; have n35_ := Ng BK761 hg; have n36_ := Nl BK768 hg; have n37_ := Ng BK768 hg; clear HO_31 HO_678002 HO_685002 HO_692002 HO_734002 HO_741002 HO_748002 HO_762002 HO_769002 HO775 BK677 BK684 BK691 BK733 BK740 BK747 BK761 BK768 HB; revert n0_ n1_ n2_ n3_ n4_ n5_ n6_ n7_ n8_ n9_ n10_ n11_ n12_ n13_ n14_ n15_ n16_ n17_ n18_ n19_ n20_ n21_ n22_ n23_ n24_ n25_ n26_ n27_ n28_ n29_ n30_ n31_ n32_ n33_ n34_ n35_ n36_ n37_; intro HO_31 HO_678002 HO_685002 HO_692002 HO_734002 HO_741002 HO_748002 HO_762002 HO_769002 HO775 BK677 BK684 BK691 BK733 BK740 BK747 BK761 BK768 HB BK777 GW777 GE777 NB677_777 NB777_677 NB684_777 NB777_684 NB691_777 NB777_691 NB733_777 NB777_733 NB740_777 NB777_740 NB747_777 NB777_747 NB761_777 NB777_761 NB768_777 NB777_768; clear hb hbox hg; have hnb220 := NB777_677.out; have hnc220 := NB677_777.out; have hnb221 := NB777_684.out; have hnc221 := NB684_777.out; have hnb222 := NB777_691.out; have hnc222 := NB691_777.out; have hnb223 := NB777_733.out; have hnc223 := NB733_777.out; have hnb224 := NB777_740.out; have hnc224 := NB740_777.out; have hnb225 := NB777_747.out; have hnc225 := NB747_777.out; have hnb226 := NB777_761.out; have hnc226 := NB761_777.out; have hnb227 := NB777_768.out; have hnc227 := NB768_777.out; obtain ⟨hcz228_0, hcz228_1, hcz228_2, hcz228_3, hfz228_0, hfz228_1, hfz228_2, hfz228_3⟩ := cf4 (w := w219) BK777; obtain ⟨Ao229, co229, eo229⟩ := Kd.R_slice HO775.out; subst eo229) | ((with_reducible refine gate_callee (f := 17) rfl ?_); refine gL (some 202) Try.func17 #[.int .i64 t749, .int .i64 t750, .int .i64 t751, .slice Ao161 t752.length co161] ?_; (with_reducible refine (impl_BloomOf.calls kj158 t749 t750 t751 _ _ t752 t778 t779 t780 t781 true _ ?side1 ?side2 A204.out).mono ?_); (case side1 => refine (Kd.R_reads' (e := 9) (base := w.heap.size) (ok := fun k_ => True) (n := t752.length) (c := co161) ?_).2.2; exact (Rz (Kd.R_mono (Kd.R_far (p := ⟨gb777, 3, none⟩) (Kd.R_far (p := ⟨gb777, 2, none⟩) (Kd.R_far (p := ⟨gb777, 1, none⟩) (Kd.R_far (p := ⟨gb777, 0, none⟩) (Kd.R_types HO_31.out BK777.out (by decide)) (fun _ hk => hk.2) (.int .i64 t770)) (fun _ hk => hk.2) (.int .i64 t771)) (fun _ hk => hk.2) (.int .i64 t772)) (fun _ hk => hk.2) (.slice Ao229 t773.length co229)) (fun _ h_ => h_.1)))); (case side2 => exact (Kd.R_reads' HO_31.out).2.1); rintro e w230 ⟨v782, rfl, ho0, hb⟩; refine ⟨_, rfl, ?_⟩; have n0_ := am (Kd.R_below (Rz (Kd.R_mono (Kd.R_far (p := ⟨gb777, 3, none⟩) (Kd.R_far (p := ⟨gb777, 2, none⟩) (Kd.R_far (p := ⟨gb777, 1, none⟩) (Kd.R_far (p := ⟨gb777, 0, none⟩) (Kd.R_types HO_31.out BK777.out (by decide)) (fun _ hk => hk.2) (.int .i64 t770)) (fun _ hk => hk.2) (.int .i64 t771)) (fun _ hk => hk.2) (.int .i64 t772)) (fun _ hk => hk.2) (.slice Ao229 t773.length co229)) (fun _ h_ => h_.1))) hb); have n1_ := am (Kd.R_elder' (Rz (Kd.R_mono (Kd.R_far (p := ⟨gb777, 3, none⟩) (Kd.R_far (p := ⟨gb777, 2, none⟩) (Kd.R_far (p := ⟨gb777, 1, none⟩) (Kd.R_far (p := ⟨gb777, 0, none⟩) (Kd.R_types HO_678002.out BK777.out (by decide)) (fun _ hk => hk.2) (.int .i64 t770)) (fun _ hk => hk.2) (.int .i64 t771)) (fun _ hk => hk.2) (.int .i64 t772)) (fun _ hk => hk.2) (.slice Ao229 t773.length co229)) (fun _ h_ => h_.1))) (Kd.R_base ho0) hb); have n2_ := am (Kd.R_elder' (Rz (Kd.R_mono (Kd.R_far (p := ⟨gb777, 3, none⟩) (Kd.R_far (p := ⟨gb777, 2, none⟩) (Kd.R_far (p := ⟨gb777, 1, none⟩) (Kd.R_far (p := ⟨gb777, 0, none⟩) (Kd.R_types HO_685002.out BK777.out (by decide)) (fun _ hk => hk.2) (.int .i64 t770)) (fun _ hk => hk.2) (.int .i64 t771)) (fun _ hk => hk.2) (.int .i64 t772)) (fun _ hk => hk.2) (.slice Ao229 t773.length co229)) (fun _ h_ => h_.1))) (Kd.R_base ho0) hb); have n3_ := am (Kd.R_elder' (Rz (Kd.R_mono (Kd.R_far (p := ⟨gb777, 3, none⟩) (Kd.R_far (p := ⟨gb777, 2, none⟩) (Kd.R_far (p := ⟨gb777, 1, none⟩) (Kd.R_far (p := ⟨gb777, 0, none⟩) (Kd.R_types HO_692002.out BK777.out (by decide)) (fun _ hk => hk.2) (.int .i64 t770)) (fun _ hk => hk.2) (.int .i64 t771)) (fun _ hk => hk.2) (.int .i64 t772)) (fun _ hk => hk.2) (.slice Ao229 t773.length co229)) (fun _ h_ => h_.1))) (Kd.R_base ho0) hb); have n4_ := am (Kd.R_elder' (Rz (Kd.R_mono (Kd.R_far (p := ⟨gb777, 3, none⟩) (Kd.R_far (p := ⟨gb777, 2, none⟩) (Kd.R_far (p := ⟨gb777, 1, none⟩) (Kd.R_far (p := ⟨gb777, 0, none⟩) (Kd.R_types HO_734002.out BK777.out (by decide)) (fun _ hk => hk.2) (.int .i64 t770)) (fun _ hk => hk.2) (.int .i64 t771)) (fun _ hk => hk.2) (.int .i64 t772)) (fun _ hk => hk.2) (.slice Ao229 t773.length co229)) (fun _ h_ => h_.1))) (Kd.R_base ho0) hb); have n5_ := am (Kd.R_elder' (Rz (Kd.R_mono (Kd.R_far (p := ⟨gb777, 3, none⟩) (Kd.R_far (p := ⟨gb777, 2, none⟩) (Kd.R_far (p := ⟨gb777, 1, none⟩) (Kd.R_far (p := ⟨gb777, 0, none⟩) (Kd.R_types HO_741002.out BK777.out (by decide)) (fun _ hk => hk.2) (.int .i64 t770)) (fun _ hk => hk.2) (.int .i64 t771)) (fun _ hk => hk.2) (.int .i64 t772)) (fun _ hk => hk.2) (.slice Ao229 t773.length co229)) (fun _ h_ => h_.1))) (Kd.R_base ho0) hb); have n6_ := am (Kd.R_elder' (Rz (Kd.R_mono (Kd.R_far (p := ⟨gb777, 3, none⟩) (Kd.R_far (p := ⟨gb777, 2, none⟩) (Kd.R_far (p := ⟨gb777, 1, none⟩) (Kd.R_far (p := ⟨gb777, 0, none⟩) (Kd.R_types HO_748002.out BK777.out (by decide)) (fun _ hk => hk.2) (.int .i64 t770)) (fun _ hk => hk.2) (.int .i64 t771)) (fun _ hk => hk.2) (.int .i64 t772)) (fun _ hk => hk.2) (.slice Ao229 t773.length co229)) (fun _ h_ => h_.1))) (Kd.R_base ho0) hb); have n7_ := am (Kd.R_elder' (Rz (Kd.R_mono (Kd.R_far (p := ⟨gb777, 3, none⟩) (Kd.R_far (p := ⟨gb777, 2, none⟩) (Kd.R_far (p := ⟨gb777, 1, none⟩) (Kd.R_far (p := ⟨gb777, 0, none⟩) (Kd.R_types HO_762002.out BK777.out (by decide)) (fun _ hk => hk.2) (.int .i64 t770)) (fun _ hk => hk.2) (.int .i64 t771)) (fun _ hk => hk.2) (.int .i64 t772)) (fun _ hk => hk.2) (.slice Ao229 t773.length co229)) (fun _ h_ => h_.1))) (Kd.R_base ho0) hb); have n8_ := am (Kd.R_elder' (Rz (Kd.R_mono (Kd.R_far (p := ⟨gb777, 3, none⟩) (Kd.R_far (p := ⟨gb777, 2, none⟩) (Kd.R_far (p := ⟨gb777, 1, none⟩) (Kd.R_far (p := ⟨gb777, 0, none⟩) (Kd.R_types HO_769002.out BK777.out (by decide)) (fun _ hk => hk.2) (.int .i64 t770)) (fun _ hk => hk.2) (.int .i64 t771)) (fun _ hk => hk.2) (.int .i64 t772)) (fun _ hk => hk.2) (.slice Ao229 t773.length co229)) (fun _ h_ => h_.1))) (Kd.R_base ho0) hb); have n9_ := am (Kd.R_elder' (Rz (Kd.R_mono (Kd.R_far (p := ⟨gb777, 3, none⟩) (Kd.R_far (p := ⟨gb777, 2, none⟩) (Kd.R_far (p := ⟨gb777, 1, none⟩) (Kd.R_far (p := ⟨gb777, 0, none⟩) (Kd.R_types HO775.out BK777.out (by decide)) (fun _ hk => hk.2) (.int .i64 t770)) (fun _ hk => hk.2) (.int .i64 t771)) (fun _ hk => hk.2) (.int .i64 t772)) (fun _ hk => hk.2) (.slice Ao229 t773.length co229)) (fun _ h_ => h_.1))) (Kd.R_base ho0) hb); have n10_ := am (Kd.R_lower (Kd.R_new' (Kd.R_new' (Kd.R_new' (Kd.R_new' (Kd.R_new' (Kd.R_new' (Kd.R_new' (Kd.R_new' (Kd.R_new' ho0 (Kd.R_lt (Rz (Kd.R_mono (Kd.R_far (p := ⟨gb777, 3, none⟩) (Kd.R_far (p := ⟨gb777, 2, none⟩) (Kd.R_far (p := ⟨gb777, 1, none⟩) (Kd.R_far (p := ⟨gb777, 0, none⟩) (Kd.R_types HO_678002.out BK777.out (by decide)) (fun _ hk => hk.2) (.int .i64 t770)) (fun _ hk => hk.2) (.int .i64 t771)) (fun _ hk => hk.2) (.int .i64 t772)) (fun _ hk => hk.2) (.slice Ao229 t773.length co229)) (fun _ h_ => h_.1))))) (Kd.R_lt (Rz (Kd.R_mono (Kd.R_far (p := ⟨gb777, 3, none⟩) (Kd.R_far (p := ⟨gb777, 2, none⟩) (Kd.R_far (p := ⟨gb777, 1, none⟩) (Kd.R_far (p := ⟨gb777, 0, none⟩) (Kd.R_types HO_685002.out BK777.out (by decide)) (fun _ hk => hk.2) (.int .i64 t770)) (fun _ hk => hk.2) (.int .i64 t771)) (fun _ hk => hk.2) (.int .i64 t772)) (fun _ hk => hk.2) (.slice Ao229 t773.length co229)) (fun _ h_ => h_.1))))) (Kd.R_lt (Rz (Kd.R_mono (Kd.R_far (p := ⟨gb777, 3, none⟩) (Kd.R_far (p := ⟨gb777, 2, none⟩) (Kd.R_far (p := ⟨gb777, 1, none⟩) (Kd.R_far (p := ⟨gb777, 0, none⟩) (Kd.R_types HO_692002.out BK777.out (by decide)) (fun _ hk => hk.2) (.int .i64 t770)) (fun _ hk => hk.2) (.int .i64 t771)) (fun _ hk => hk.2) (.int .i64 t772)) (fun _ hk => hk.2) (.slice Ao229 t773.length co229)) (fun _ h_ => h_.1))))) (Kd.R_lt (Rz (Kd.R_mono (Kd.R_far (p := ⟨gb777, 3, none⟩) (Kd.R_far (p := ⟨gb777, 2, none⟩) (Kd.R_far (p := ⟨gb777, 1, none⟩) (Kd.R_far (p := ⟨gb777, 0, none⟩) (Kd.R_types HO_734002.out BK777.out (by decide)) (fun _ hk => hk.2) (.int .i64 t770)) (fun _ hk => hk.2) (.int .i64 t771)) (fun _ hk => hk.2) (.int .i64 t772)) (fun _ hk => hk.2) (.slice Ao229 t773.length co229)) (fun _ h_ => h_.1))))) (Kd.R_lt (Rz (Kd.R_mono (Kd.R_far (p := ⟨gb777, 3, none⟩) (Kd.R_far (p := ⟨gb777, 2, none⟩) (Kd.R_far (p := ⟨gb777, 1, none⟩) (Kd.R_far (p := ⟨gb777, 0, none⟩) (Kd.R_types HO_741002.out BK777.out (by decide)) (fun _ hk => hk.2) (.int .i64 t770)) (fun _ hk => hk.2) (.int .i64 t771)) (fun _ hk => hk.2) (.int .i64 t772)) (fun _ hk => hk.2) (.slice Ao229 t773.length co229)) (fun _ h_ => h_.1))))) (Kd.R_lt (Rz (Kd.R_mono (Kd.R_far (p := ⟨gb777, 3, none⟩) (Kd.R_far (p := ⟨gb777, 2, none⟩) (Kd.R_far (p := ⟨gb777, 1, none⟩) (Kd.R_far (p := ⟨gb777, 0, none⟩) (Kd.R_types HO_748002.out BK777.out (by decide)) (fun _ hk => hk.2) (.int .i64 t770)) (fun _ hk => hk.2) (.int .i64 t771)) (fun _ hk => hk.2) (.int .i64 t772)) (fun _ hk => hk.2) (.slice Ao229 t773.length co229)) (fun _ h_ => h_.1))))) (Kd.R_lt (Rz (Kd.R_mono (Kd.R_far (p := ⟨gb777, 3, none⟩) (Kd.R_far (p := ⟨gb777, 2, none⟩) (Kd.R_far (p := ⟨gb777, 1, none⟩) (Kd.R_far (p := ⟨gb777, 0, none⟩) (Kd.R_types HO_762002.out BK777.out (by decide)) (fun _ hk => hk.2) (.int .i64 t770)) (fun _ hk => hk.2) (.int .i64 t771)) (fun _ hk => hk.2) (.int .i64 t772)) (fun _ hk => hk.2) (.slice Ao229 t773.length co229)) (fun _ h_ => h_.1))))) (Kd.R_lt (Rz (Kd.R_mono (Kd.R_far (p := ⟨gb777, 3, none⟩) (Kd.R_far (p := ⟨gb777, 2, none⟩) (Kd.R_far (p := ⟨gb777, 1, none⟩) (Kd.R_far (p := ⟨gb777, 0, none⟩) (Kd.R_types HO_769002.out BK777.out (by decide)) (fun _ hk => hk.2) (.int .i64 t770)) (fun _ hk => hk.2) (.int .i64 t771)) (fun _ hk => hk.2) (.int .i64 t772)) (fun _ hk => hk.2) (.slice Ao229 t773.length co229)) (fun _ h_ => h_.1))))) (Kd.R_lt (Rz (Kd.R_mono (Kd.R_far (p := ⟨gb777, 3, none⟩) (Kd.R_far (p := ⟨gb777, 2, none⟩) (Kd.R_far (p := ⟨gb777, 1, none⟩) (Kd.R_far (p := ⟨gb777, 0, none⟩) (Kd.R_types HO775.out BK777.out (by decide)) (fun _ hk => hk.2) (.int .i64 t770)) (fun _ hk => hk.2) (.int .i64 t771)) (fun _ hk => hk.2) (.int .i64 t772)) (fun _ hk => hk.2) (.slice Ao229 t773.length co229)) (fun _ h_ => h_.1))))) (below_size (w := w) (Bq))); have n11_ := am (blk_below (g := gb677) (o := .cells #[.int .i64 t671, .int .i64 t672, .slice Ao12 t673.length co12] 49 (0, 0)) (by refine bp ?_; refine blk_far ?_ NB677_777.out _; refine bp ?_; refine blk_far ?_ NB677_777.out _; refine bp ?_; refine blk_far ?_ NB677_777.out _; refine bp ?_; refine blk_far ?_ NB677_777.out _; exact Kz BK677.out) hb); have n12_ := am (blk_below (g := gb684) (o := .cells #[.int .i64 t678, .int .i64 t679, .slice Ao17 t680.length co17] 49 (0, 0)) (by refine bp ?_; refine blk_far ?_ NB684_777.out _; refine bp ?_; refine blk_far ?_ NB684_777.out _; refine bp ?_; refine blk_far ?_ NB684_777.out _; refine bp ?_; refine blk_far ?_ NB684_777.out _; exact Kz BK684.out) hb); have n13_ := am (blk_below (g := gb691) (o := .cells #[.int .i64 t685, .int .i64 t686, .slice Ao24 t687.length co24] 49 (0, 0)) (by refine bp ?_; refine blk_far ?_ NB691_777.out _; refine bp ?_; refine blk_far ?_ NB691_777.out _; refine bp ?_; refine blk_far ?_ NB691_777.out _; refine bp ?_; refine blk_far ?_ NB691_777.out _; exact Kz BK691.out) hb); have n14_ := am (blk_below (g := gb733) (o := .cells #[.int .i64 t727, .int .i64 t728, .slice Ao122 t729.length co122] 49 (0, 0)) (by refine bp ?_; refine blk_far ?_ NB733_777.out _; refine bp ?_; refine blk_far ?_ NB733_777.out _; refine bp ?_; refine blk_far ?_ NB733_777.out _; refine bp ?_; refine blk_far ?_ NB733_777.out _; exact Kz BK733.out) hb); have n15_ := am (blk_below (g := gb740) (o := .cells #[.int .i64 t734, .int .i64 t735, .slice Ao130 t736.length co130] 49 (0, 0)) (by refine bp ?_; refine blk_far ?_ NB740_777.out _; refine bp ?_; refine blk_far ?_ NB740_777.out _; refine bp ?_; refine blk_far ?_ NB740_777.out _; refine bp ?_; refine blk_far ?_ NB740_777.out _; exact Kz BK740.out) hb); have n16_ := am (blk_below (g := gb747) (o := .cells #[.int .i64 t741, .int .i64 t742, .slice Ao140 t743.length co140] 49 (0, 0)) (by refine bp ?_; refine blk_far ?_ NB747_777.out _; refine bp ?_; refine blk_far ?_ NB747_777.out _; refine bp ?_; refine blk_far ?_ NB747_777.out _; refine bp ?_; refine blk_far ?_ NB747_777.out _; exact Kz BK747.out) hb); have n17_ := am (blk_below (g := gb761) (o := .cells #[.int .i64 t755, .int .i64 t756, .slice Ao171 t757.length co171] 49 (0, 0)) (by refine bp ?_; refine blk_far ?_ NB761_777.out _; refine bp ?_; refine blk_far ?_ NB761_777.out _; refine bp ?_; refine blk_far ?_ NB761_777.out _; refine bp ?_; refine blk_far ?_ NB761_777.out _; exact Kz BK761.out) hb); have n18_ := am (blk_below (g := gb768) (o := .cells #[.int .i64 t762, .int .i64 t763, .slice Ao182 t764.length co182] 49 (0, 0)) (by refine bp ?_; refine blk_far ?_ NB768_777.out _; refine bp ?_; refine blk_far ?_ NB768_777.out _; refine bp ?_; refine blk_far ?_ NB768_777.out _; refine bp ?_; refine blk_far ?_ NB768_777.out _; exact Kz BK768.out) hb); have n19_ := am (blk_below (g := gb777) (o := .cells #[.int .i64 t770, .int .i64 t771, .int .i64 t772, .slice Ao229 t773.length co229] 28 (0, 0)) (by refine bp ?_; refine blk_put (cs := #[.int .i64 t770, .int .i64 t771, .int .i64 t772, .slice none 0 0]) ?_ 3 _ rfl; refine bp ?_; refine blk_put (cs := #[.int .i64 t770, .int .i64 t771, .int .i64 0, .slice none 0 0]) ?_ 2 _ rfl; refine bp ?_; refine blk_put (cs := #[.int .i64 t770, .int .i64 0, .int .i64 0, .slice none 0 0]) ?_ 1 _ rfl; refine bp ?_; refine blk_put (cs := #[.int .i64 0, .int .i64 0, .int .i64 0, .slice none 0 0]) ?_ 0 _ rfl; exact Kz BK777.out) hb); have n20_ := Bc HB hb; clear HO_31 HO_678002 HO_685002 HO_692002 HO_734002 HO_741002 HO_748002 HO_762002 HO_769002 HO775 BK677 BK684 BK691 BK733 BK740 BK747 BK761 BK768 BK777 HB; revert n0_ n1_ n2_ n3_ n4_ n5_ n6_ n7_ n8_ n9_ n10_ n11_ n12_ n13_ n14_ n15_ n16_ n17_ n18_ n19_ n20_; intro HO_31 HO_678002 HO_685002 HO_692002 HO_734002 HO_741002 HO_748002 HO_762002 HO_769002 HO775 HO783 BK677 BK684 BK691 BK733 BK740 BK747 BK761 BK768 BK777 HB; (try clear hb); (try clear hb2); (try clear hk); (try clear hi); (try clear ho0)) | ((with_reducible refine gate_dst (N := 38) rfl ?_); refine bE 38 #[.int .i64 0, .int .i64 0, .int .i64 0, .slice none 0 0] 28 ?_; intro gb785 hg w231 hbox hb; have n0_ := Rb HO_31 hb; have n1_ := Rb HO_678002 hb; have n2_ := Rb HO_685002 hb; have n3_ := Rb HO_692002 hb; have n4_ := Rb HO_734002 hb; have n5_ := Rb HO_741002 hb; have n6_ := Rb HO_748002 hb; have n7_ := Rb HO_762002 hb; have n8_ := Rb HO_769002 hb; have n9_ := Rb HO775 hb; have n10_ := Rb HO783 hb; have n11_ := Kb BK677 hb; have n12_ := Kb BK684 hb; have n13_ := Kb BK691 hb; have n14_ := Kb BK733 hb; have n15_ := Kb BK740 hb; have n16_ := Kb BK747 hb; have n17_ := Kb BK761 hb; have n18_ := Kb BK768 hb; have n19_ := Kb BK777 hb; have n20_ := Bc HB hb; have n21_ := am (hbox); have n22_ := Gm HB hg; have n23_ := Gm HB hg; have n24_ := Nl BK677 hg; have n25_ := Ng BK677 hg; have n26_ := Nl BK684 hg; have n27_ := Ng BK684 hg; have n28_ := Nl BK691 hg; have n29_ := Ng BK691 hg; have n30_ := Nl BK733 hg; have n31_ := Ng BK733 hg; have n32_ := Nl BK740 hg; have n33_ := Ng BK740 hg; have n34_ := Nl BK747 hg; have n35_ := Ng BK747 hg; have n36_ := Nl BK761 hg; have n37_ := Ng BK761 hg; have n38_ := Nl BK768 hg; have n39_ := Ng BK768 hg; have n40_ := Nl BK777 hg; have n41_ := Ng BK777 hg; clear HO_31 HO_678002 HO_685002 HO_692002 HO_734002 HO_741002 HO_748002 HO_762002 HO_769002 HO775 HO783 BK677 BK684 BK691 BK733 BK740 BK747 BK761 BK768 BK777 HB; revert n0_ n1_ n2_ n3_ n4_ n5_ n6_ n7_ n8_ n9_ n10_ n11_ n12_ n13_ n14_ n15_ n16_ n17_ n18_ n19_ n20_ n21_ n22_ n23_ n24_ n25_ n26_ n27_ n28_ n29_ n30_ n31_ n32_ n33_ n34_ n35_ n36_ n37_ n38_ n39_ n40_ n41_; intro HO_31 HO_678002 HO_685002 HO_692002 HO_734002 HO_741002 HO_748002 HO_762002 HO_769002 HO775 HO783 BK677 BK684 BK691 BK733 BK740 BK747 BK761 BK768 BK777 HB BK785 GW785 GE785 NB677_785 NB785_677 NB684_785 NB785_684 NB691_785 NB785_691 NB733_785 NB785_733 NB740_785 NB785_740 NB747_785 NB785_747 NB761_785 NB785_761 NB768_785 NB785_768 NB777_785 NB785_777; clear hb hbox hg; have hnb232 := NB785_677.out; have hnc232 := NB677_785.out; have hnb233 := NB785_684.out; have hnc233 := NB684_785.out; have hnb234 := NB785_691.out; have hnc234 := NB691_785.out; have hnb235 := NB785_733.out; have hnc235 := NB733_785.out; have hnb236 := NB785_740.out; have hnc236 := NB740_785.out; have hnb237 := NB785_747.out; have hnc237 := NB747_785.out; have hnb238 := NB785_761.out; have hnc238 := NB761_785.out; have hnb239 := NB785_768.out; have hnc239 := NB768_785.out; have hnb240 := NB785_777.out; have hnc240 := NB777_785.out; obtain ⟨hcz241_0, hcz241_1, hcz241_2, hcz241_3, hfz241_0, hfz241_1, hfz241_2, hfz241_3⟩ := cf4 (w := w231) BK785; obtain ⟨Ao242, co242, eo242⟩ := Kd.R_slice HO783.out; subst eo242; obtain ⟨hcz243_0, hcz243_1, hcz243_2, hcz243_3, hfz243_0, hfz243_1, hfz243_2, hfz243_3⟩ := cf4 (w := w231) BK777) | (go_at_call 53; (with_reducible refine (laws_rSameBloom.calls kj158 t770 t771 t772 _ _ t773 t778 t779 t780 _ _ t781 true _ ?side1 ?side2 ?side3 ?side4 A207.out).mono ?_); (case side1 => refine (Kd.R_reads' (e := 3) (base := w.heap.size) (ok := fun k_ => (((((((((True ∧ some k_ ≠ (.slice Ao12 t673.length co12 : Value).ownBlock) ∧ some k_ ≠ (.slice Ao17 t680.length co17 : Value).ownBlock) ∧ some k_ ≠ (.slice Ao24 t687.length co24 : Value).ownBlock) ∧ some k_ ≠ (.slice Ao122 t729.length co122 : Value).ownBlock) ∧ some k_ ≠ (.slice Ao130 t736.length co130 : Value).ownBlock) ∧ some k_ ≠ (.slice Ao140 t743.length co140 : Value).ownBlock) ∧ some k_ ≠ (.slice Ao171 t757.length co171 : Value).ownBlock) ∧ some k_ ≠ (.slice Ao182 t764.length co182 : Value).ownBlock) ∧ some k_ ≠ (.slice Ao242 t781.length co242 : Value).ownBlock)) (n := t773.length) (c := co229) ?_).2.2; exact (Rz (Kd.R_mono (Kd.R_far (p := ⟨gb785, 3, none⟩) (Kd.R_far (p := ⟨gb785, 2, none⟩) (Kd.R_far (p := ⟨gb785, 1, none⟩) (Kd.R_far (p := ⟨gb785, 0, none⟩) (Kd.R_types HO775.out BK785.out (by decide)) (fun _ hk => hk.2) (.int .i64 t778)) (fun _ hk => hk.2) (.int .i64 t779)) (fun _ hk => hk.2) (.int .i64 t780)) (fun _ hk => hk.2) (.slice Ao242 t781.length co242)) (fun _ h_ => h_.1)))); (case side2 => exact (Kd.R_reads' HO775.out).2.1); (case side3 => refine (Kd.R_reads' (e := 3) (base := w.heap.size) (ok := fun k_ => (((((((((True ∧ some k_ ≠ (.slice Ao12 t673.length co12 : Value).ownBlock) ∧ some k_ ≠ (.slice Ao17 t680.length co17 : Value).ownBlock) ∧ some k_ ≠ (.slice Ao24 t687.length co24 : Value).ownBlock) ∧ some k_ ≠ (.slice Ao122 t729.length co122 : Value).ownBlock) ∧ some k_ ≠ (.slice Ao130 t736.length co130 : Value).ownBlock) ∧ some k_ ≠ (.slice Ao140 t743.length co140 : Value).ownBlock) ∧ some k_ ≠ (.slice Ao171 t757.length co171 : Value).ownBlock) ∧ some k_ ≠ (.slice Ao182 t764.length co182 : Value).ownBlock) ∧ some k_ ≠ (.slice Ao229 t773.length co229 : Value).ownBlock)) (n := t781.length) (c := co242) ?_).2.2; exact (Rz (Kd.R_mono (Kd.R_far (p := ⟨gb785, 3, none⟩) (Kd.R_far (p := ⟨gb785, 2, none⟩) (Kd.R_far (p := ⟨gb785, 1, none⟩) (Kd.R_far (p := ⟨gb785, 0, none⟩) (Kd.R_types HO783.out BK785.out (by decide)) (fun _ hk => hk.2) (.int .i64 t778)) (fun _ hk => hk.2) (.int .i64 t779)) (fun _ hk => hk.2) (.int .i64 t780)) (fun _ hk => hk.2) (.slice Ao242 t781.length co242)) (fun _ h_ => h_.1)))); (case side4 => exact (Kd.R_reads' HO783.out).2.1); rintro e w244 ⟨rfl, hb⟩; have n0_ := am (Kd.R_below (Rz (Kd.R_mono (Kd.R_far (p := ⟨gb785, 3, none⟩) (Kd.R_far (p := ⟨gb785, 2, none⟩) (Kd.R_far (p := ⟨gb785, 1, none⟩) (Kd.R_far (p := ⟨gb785, 0, none⟩) (Kd.R_types HO_31.out BK785.out (by decide)) (fun _ hk => hk.2) (.int .i64 t778)) (fun _ hk => hk.2) (.int .i64 t779)) (fun _ hk => hk.2) (.int .i64 t780)) (fun _ hk => hk.2) (.slice Ao242 t781.length co242)) (fun _ h_ => h_.1))) hb); have n1_ := am (Kd.R_below (Rz (Kd.R_mono (Kd.R_far (p := ⟨gb785, 3, none⟩) (Kd.R_far (p := ⟨gb785, 2, none⟩) (Kd.R_far (p := ⟨gb785, 1, none⟩) (Kd.R_far (p := ⟨gb785, 0, none⟩) (Kd.R_types HO_678002.out BK785.out (by decide)) (fun _ hk => hk.2) (.int .i64 t778)) (fun _ hk => hk.2) (.int .i64 t779)) (fun _ hk => hk.2) (.int .i64 t780)) (fun _ hk => hk.2) (.slice Ao242 t781.length co242)) (fun _ h_ => h_.1))) hb); have n2_ := am (Kd.R_below (Rz (Kd.R_mono (Kd.R_far (p := ⟨gb785, 3, none⟩) (Kd.R_far (p := ⟨gb785, 2, none⟩) (Kd.R_far (p := ⟨gb785, 1, none⟩) (Kd.R_far (p := ⟨gb785, 0, none⟩) (Kd.R_types HO_685002.out BK785.out (by decide)) (fun _ hk => hk.2) (.int .i64 t778)) (fun _ hk => hk.2) (.int .i64 t779)) (fun _ hk => hk.2) (.int .i64 t780)) (fun _ hk => hk.2) (.slice Ao242 t781.length co242)) (fun _ h_ => h_.1))) hb); have n3_ := am (Kd.R_below (Rz (Kd.R_mono (Kd.R_far (p := ⟨gb785, 3, none⟩) (Kd.R_far (p := ⟨gb785, 2, none⟩) (Kd.R_far (p := ⟨gb785, 1, none⟩) (Kd.R_far (p := ⟨gb785, 0, none⟩) (Kd.R_types HO_692002.out BK785.out (by decide)) (fun _ hk => hk.2) (.int .i64 t778)) (fun _ hk => hk.2) (.int .i64 t779)) (fun _ hk => hk.2) (.int .i64 t780)) (fun _ hk => hk.2) (.slice Ao242 t781.length co242)) (fun _ h_ => h_.1))) hb); have n4_ := am (Kd.R_below (Rz (Kd.R_mono (Kd.R_far (p := ⟨gb785, 3, none⟩) (Kd.R_far (p := ⟨gb785, 2, none⟩) (Kd.R_far (p := ⟨gb785, 1, none⟩) (Kd.R_far (p := ⟨gb785, 0, none⟩) (Kd.R_types HO_734002.out BK785.out (by decide)) (fun _ hk => hk.2) (.int .i64 t778)) (fun _ hk => hk.2) (.int .i64 t779)) (fun _ hk => hk.2) (.int .i64 t780)) (fun _ hk => hk.2) (.slice Ao242 t781.length co242)) (fun _ h_ => h_.1))) hb); have n5_ := am (Kd.R_below (Rz (Kd.R_mono (Kd.R_far (p := ⟨gb785, 3, none⟩) (Kd.R_far (p := ⟨gb785, 2, none⟩) (Kd.R_far (p := ⟨gb785, 1, none⟩) (Kd.R_far (p := ⟨gb785, 0, none⟩) (Kd.R_types HO_741002.out BK785.out (by decide)) (fun _ hk => hk.2) (.int .i64 t778)) (fun _ hk => hk.2) (.int .i64 t779)) (fun _ hk => hk.2) (.int .i64 t780)) (fun _ hk => hk.2) (.slice Ao242 t781.length co242)) (fun _ h_ => h_.1))) hb); have n6_ := am (Kd.R_below (Rz (Kd.R_mono (Kd.R_far (p := ⟨gb785, 3, none⟩) (Kd.R_far (p := ⟨gb785, 2, none⟩) (Kd.R_far (p := ⟨gb785, 1, none⟩) (Kd.R_far (p := ⟨gb785, 0, none⟩) (Kd.R_types HO_748002.out BK785.out (by decide)) (fun _ hk => hk.2) (.int .i64 t778)) (fun _ hk => hk.2) (.int .i64 t779)) (fun _ hk => hk.2) (.int .i64 t780)) (fun _ hk => hk.2) (.slice Ao242 t781.length co242)) (fun _ h_ => h_.1))) hb); have n7_ := am (Kd.R_below (Rz (Kd.R_mono (Kd.R_far (p := ⟨gb785, 3, none⟩) (Kd.R_far (p := ⟨gb785, 2, none⟩) (Kd.R_far (p := ⟨gb785, 1, none⟩) (Kd.R_far (p := ⟨gb785, 0, none⟩) (Kd.R_types HO_762002.out BK785.out (by decide)) (fun _ hk => hk.2) (.int .i64 t778)) (fun _ hk => hk.2) (.int .i64 t779)) (fun _ hk => hk.2) (.int .i64 t780)) (fun _ hk => hk.2) (.slice Ao242 t781.length co242)) (fun _ h_ => h_.1))) hb); have n8_ := am (Kd.R_below (Rz (Kd.R_mono (Kd.R_far (p := ⟨gb785, 3, none⟩) (Kd.R_far (p := ⟨gb785, 2, none⟩) (Kd.R_far (p := ⟨gb785, 1, none⟩) (Kd.R_far (p := ⟨gb785, 0, none⟩) (Kd.R_types HO_769002.out BK785.out (by decide)) (fun _ hk => hk.2) (.int .i64 t778)) (fun _ hk => hk.2) (.int .i64 t779)) (fun _ hk => hk.2) (.int .i64 t780)) (fun _ hk => hk.2) (.slice Ao242 t781.length co242)) (fun _ h_ => h_.1))) hb); have n9_ := am (Kd.R_below (Rz (Kd.R_mono (Kd.R_far (p := ⟨gb785, 3, none⟩) (Kd.R_far (p := ⟨gb785, 2, none⟩) (Kd.R_far (p := ⟨gb785, 1, none⟩) (Kd.R_far (p := ⟨gb785, 0, none⟩) (Kd.R_types HO775.out BK785.out (by decide)) (fun _ hk => hk.2) (.int .i64 t778)) (fun _ hk => hk.2) (.int .i64 t779)) (fun _ hk => hk.2) (.int .i64 t780)) (fun _ hk => hk.2) (.slice Ao242 t781.length co242)) (fun _ h_ => h_.1))) hb); have n10_ := am (Kd.R_below (Rz (Kd.R_mono (Kd.R_far (p := ⟨gb785, 3, none⟩) (Kd.R_far (p := ⟨gb785, 2, none⟩) (Kd.R_far (p := ⟨gb785, 1, none⟩) (Kd.R_far (p := ⟨gb785, 0, none⟩) (Kd.R_types HO783.out BK785.out (by decide)) (fun _ hk => hk.2) (.int .i64 t778)) (fun _ hk => hk.2) (.int .i64 t779)) (fun _ hk => hk.2) (.int .i64 t780)) (fun _ hk => hk.2) (.slice Ao242 t781.length co242)) (fun _ h_ => h_.1))) hb); have n11_ := am (blk_below (g := gb677) (o := .cells #[.int .i64 t671, .int .i64 t672, .slice Ao12 t673.length co12] 49 (0, 0)) (by refine bp ?_; refine blk_far ?_ NB677_785.out _; refine bp ?_; refine blk_far ?_ NB677_785.out _; refine bp ?_; refine blk_far ?_ NB677_785.out _; refine bp ?_; refine blk_far ?_ NB677_785.out _; exact Kz BK677.out) hb); have n12_ := am (blk_below (g := gb684) (o := .cells #[.int .i64 t678, .int .i64 t679, .slice Ao17 t680.length co17] 49 (0, 0)) (by refine bp ?_; refine blk_far ?_ NB684_785.out _; refine bp ?_; refine blk_far ?_ NB684_785.out _; refine bp ?_; refine blk_far ?_ NB684_785.out _; refine bp ?_; refine blk_far ?_ NB684_785.out _; exact Kz BK684.out) hb); have n13_ := am (blk_below (g := gb691) (o := .cells #[.int .i64 t685, .int .i64 t686, .slice Ao24 t687.length co24] 49 (0, 0)) (by refine bp ?_; refine blk_far ?_ NB691_785.out _; refine bp ?_; refine blk_far ?_ NB691_785.out _; refine bp ?_; refine blk_far ?_ NB691_785.out _; refine bp ?_; refine blk_far ?_ NB691_785.out _; exact Kz BK691.out) hb); have n14_ := am (blk_below (g := gb733) (o := .cells #[.int .i64 t727, .int .i64 t728, .slice Ao122 t729.length co122] 49 (0, 0)) (by refine bp ?_; refine blk_far ?_ NB733_785.out _; refine bp ?_; refine blk_far ?_ NB733_785.out _; refine bp ?_; refine blk_far ?_ NB733_785.out _; refine bp ?_; refine blk_far ?_ NB733_785.out _; exact Kz BK733.out) hb); have n15_ := am (blk_below (g := gb740) (o := .cells #[.int .i64 t734, .int .i64 t735, .slice Ao130 t736.length co130] 49 (0, 0)) (by refine bp ?_; refine blk_far ?_ NB740_785.out _; refine bp ?_; refine blk_far ?_ NB740_785.out _; refine bp ?_; refine blk_far ?_ NB740_785.out _; refine bp ?_; refine blk_far ?_ NB740_785.out _; exact Kz BK740.out) hb); have n16_ := am (blk_below (g := gb747) (o := .cells #[.int .i64 t741, .int .i64 t742, .slice Ao140 t743.length co140] 49 (0, 0)) (by refine bp ?_; refine blk_far ?_ NB747_785.out _; refine bp ?_; refine blk_far ?_ NB747_785.out _; refine bp ?_; refine blk_far ?_ NB747_785.out _; refine bp ?_; refine blk_far ?_ NB747_785.out _; exact Kz BK747.out) hb); have n17_ := am (blk_below (g := gb761) (o := .cells #[.int .i64 t755, .int .i64 t756, .slice Ao171 t757.length co171] 49 (0, 0)) (by refine bp ?_; refine blk_far ?_ NB761_785.out _; refine bp ?_; refine blk_far ?_ NB761_785.out _; refine bp ?_; refine blk_far ?_ NB761_785.out _; refine bp ?_; refine blk_far ?_ NB761_785.out _; exact Kz BK761.out) hb); have n18_ := am (blk_below (g := gb768) (o := .cells #[.int .i64 t762, .int .i64 t763, .slice Ao182 t764.length co182] 49 (0, 0)) (by refine bp ?_; refine blk_far ?_ NB768_785.out _; refine bp ?_; refine blk_far ?_ NB768_785.out _; refine bp ?_; refine blk_far ?_ NB768_785.out _; refine bp ?_; refine blk_far ?_ NB768_785.out _; exact Kz BK768.out) hb); have n19_ := am (blk_below (g := gb777) (o := .cells #[.int .i64 t770, .int .i64 t771, .int .i64 t772, .slice Ao229 t773.length co229] 28 (0, 0)) (by refine bp ?_; refine blk_far ?_ NB777_785.out _; refine bp ?_; refine blk_far ?_ NB777_785.out _; refine bp ?_; refine blk_far ?_ NB777_785.out _; refine bp ?_; refine blk_far ?_ NB777_785.out _; exact Kz BK777.out) hb); have n20_ := am (blk_below (g := gb785) (o := .cells #[.int .i64 t778, .int .i64 t779, .int .i64 t780, .slice Ao242 t781.length co242] 28 (0, 0)) (by refine bp ?_; refine blk_put (cs := #[.int .i64 t778, .int .i64 t779, .int .i64 t780, .slice none 0 0]) ?_ 3 _ rfl; refine bp ?_; refine blk_put (cs := #[.int .i64 t778, .int .i64 t779, .int .i64 0, .slice none 0 0]) ?_ 2 _ rfl; refine bp ?_; refine blk_put (cs := #[.int .i64 t778, .int .i64 0, .int .i64 0, .slice none 0 0]) ?_ 1 _ rfl; refine bp ?_; refine blk_put (cs := #[.int .i64 0, .int .i64 0, .int .i64 0, .slice none 0 0]) ?_ 0 _ rfl; exact Kz BK785.out) hb); have n21_ := Bc HB hb; clear HO_31 HO_678002 HO_685002 HO_692002 HO_734002 HO_741002 HO_748002 HO_762002 HO_769002 HO775 HO783 BK677 BK684 BK691 BK733 BK740 BK747 BK761 BK768 BK777 BK785 HB; revert n0_ n1_ n2_ n3_ n4_ n5_ n6_ n7_ n8_ n9_ n10_ n11_ n12_ n13_ n14_ n15_ n16_ n17_ n18_ n19_ n20_ n21_; intro HO_31 HO_678002 HO_685002 HO_692002 HO_734002 HO_741002 HO_748002 HO_762002 HO_769002 HO775 HO783 BK677 BK684 BK691 BK733 BK740 BK747 BK761 BK768 BK777 BK785 HB; (try clear hb); (try clear hb2); (try clear hk); (try clear hi); obtain ⟨hcz245_0, hcz245_1, hcz245_2, hfz245_0, hfz245_1, hfz245_2⟩ := cf3 (w := w244) BK761) | (go_at_call 67; (with_reducible refine (impl_IsCounting.calls kj158 t755 t756 _ _ t757 t787 _ ?side1 ?side2 A209.out).mono ?_); (case side1 => exact Cz ((Kd.R_reads' HO_762002.out).2.2)); (case side2 => exact (Kd.R_reads' HO_762002.out).2.1); rintro e w246 ⟨rfl, hb⟩; have n0_ := Rb HO_31 hb; have n1_ := Rb HO_678002 hb; have n2_ := Rb HO_685002 hb; have n3_ := Rb HO_692002 hb; have n4_ := Rb HO_734002 hb; have n5_ := Rb HO_741002 hb; have n6_ := Rb HO_748002 hb; have n7_ := Rb HO_762002 hb; have n8_ := Rb HO_769002 hb; have n9_ := Rb HO775 hb; have n10_ := Rb HO783 hb; have n11_ := Kb BK677 hb; have n12_ := Kb BK684 hb; have n13_ := Kb BK691 hb; have n14_ := Kb BK733 hb; have n15_ := Kb BK740 hb; have n16_ := Kb BK747 hb; have n17_ := Kb BK761 hb; have n18_ := Kb BK768 hb; have n19_ := Kb BK777 hb; have n20_ := Kb BK785 hb; have n21_ := Bc HB hb; clear HO_31 HO_678002 HO_685002 HO_692002 HO_734002 HO_741002 HO_748002 HO_762002 HO_769002 HO775 HO783 BK677 BK684 BK691 BK733 BK740 BK747 BK761 BK768 BK777 BK785 HB; revert n0_ n1_ n2_ n3_ n4_ n5_ n6_ n7_ n8_ n9_ n10_ n11_ n12_ n13_ n14_ n15_ n16_ n17_ n18_ n19_ n20_ n21_; intro HO_31 HO_678002 HO_685002 HO_692002 HO_734002 HO_741002 HO_748002 HO_762002 HO_769002 HO775 HO783 BK677 BK684 BK691 BK733 BK740 BK747 BK761 BK768 BK777 BK785 HB; (try clear hb); (try clear hb2); (try clear hk); (try clear hi)))
                     go_ret
                     exact ⟨eZ, Bq⟩
                    ·replace c208 := Bool.eq_false_iff.mpr c208
                     subst c208
                     rw [if_neg (show ¬ (false = true) by decide)] at H; exact absurd (Option.some.inj H) (by rw [HT_.out]; decide)
                   ·replace c206 := Bool.eq_false_iff.mpr c206
                    subst c206
                    rw [if_neg (show ¬ (false = true) by decide)] at H; exact absurd (Option.some.inj H) (by rw [HT_.out]; decide)
                  ·replace c205 := Bool.eq_false_iff.mpr c205
                   subst c205
                   rw [if_neg (show ¬ (false = true) by decide)] at H; exact absurd (Option.some.inj H) (by rw [HT_.out]; decide)
                 ·replace c202 := Bool.eq_false_iff.mpr c202
                  subst c202
                  rw [if_neg (show ¬ (false = true) by decide)] at H; obtain rfl := Option.some.inj H
                  go_wp2
                  go_ret
                  exact ⟨eZ, Bq⟩
              case close5 => exact inferInstanceAs _
          case close4 => exact inferInstanceAs _
       case close3 => exact inferInstanceAs _
   case close1 => exact inferInstanceAs _
def laws_FnCountingForgets.Pure : Prop := ∀ (l0 : List Int) (l1 : List Int), l0.length ≤ maxLen → l0.length * 1 ≤ 140737488351232 → (∀ x ∈ l0, (Lit.int .u8 x).wf = true) → l1.length ≤ maxLen → l1.length * 1 ≤ 140737488351232 → (∀ x ∈ l1, (Lit.int .u8 x).wf = true) → ∃ k, laws_FnCountingForgets.f k l0 l1 = some true
theorem laws_FnCountingForgets.walk (P : laws_FnCountingForgets.Pure) (a0 : Option Addr) (len0 cap0 : Nat) (z0 : List Int) (a1 : Option Addr) (len1 cap1 : Nat) (z1 : List Int) (w : World) (w0 : (a0 = none ∧ len0 = 0 ∧ cap0 = 0 ∧ z0 = []) ∨ ∃ x, a0 = some x ∧ len0 ≤ cap0 ∧ cap0 ≤ maxLen ∧ z0.length = cap0 ∧ (∀ i, i < z0.length → w.cell? (x.add i) = some (.int .u8 (z0.getD i 0))) ∧ ∀ n ∈ z0, (Lit.int .u8 n).wf = true) (y0 : len0 * 1 ≤ 140737488351232) (w1 : (a1 = none ∧ len1 = 0 ∧ cap1 = 0 ∧ z1 = []) ∨ ∃ x, a1 = some x ∧ len1 ≤ cap1 ∧ cap1 ≤ maxLen ∧ z1.length = cap1 ∧ (∀ i, i < z1.length → w.cell? (x.add i) = some (.int .u8 (z1.getD i 0))) ∧ ∀ n ∈ z1, (Lit.int .u8 n).wf = true) (y1 : len1 * 1 ≤ 140737488351232) :
  Calls Try.prog 11 #[.slice a0 len0 cap0, .slice a1 len1 cap1] w fun e w' => e = .returned (.bool true) ∧ Below w.heap.size w w' := by
 obtain ⟨l0, rfl, hr0, hm0, hw0, hc0⟩ := ReadsInt.ofRowC w0; obtain ⟨l1, rfl, hr1, hm1, hw1, hc1⟩ := ReadsInt.ofRowC w1; obtain ⟨k, h⟩ := P l0 l1 hm0 y0 hw0 hm1 y1 hw1; refine (laws_FnCountingForgets.calls k _ _ l0 _ _ l1 true w (Kd.C_of_reads (d := (0 : Int)) (h1 := fun _ => rfl) hr0) hc0 (Kd.C_of_reads (d := (0 : Int)) (h1 := fun _ => rfl) hr1) hc1 h rfl).mono ?_; rintro e w' ⟨rfl, hd⟩; exact ⟨rfl, hd⟩

end Go.Proofs.Ytpkpjikkfikejaa.PD
namespace Go.Proofs.YtpkpjikkfikejaaQ
open Go Go.RowKit Go.Proofs.YtpkpjikkfikejaaW.PrintWords Go.Proofs.YtpkpjikkfikejaaGp

theorem ev_succ {α : Type} {g : Nat → Option α} {r : α} (h : Ev (fun k => g (k + 1)) r) : Ev g r := Ev.step (f := fun k => g (k + 1)) (fun _ => rfl) h
theorem ev_some {α : Type} {a r : α} (h : a = r) : Ev (fun _ => some a) r := h ▸ Ev.now a
theorem ev_pos {α : Type} {c : Prop} [Decidable c] {f g : Nat → Option α} {r : α} (h : c) (k : Ev f r) : Ev (fun n => if c then f n else g n) r := by simpa only [if_pos h] using k
theorem ev_neg {α : Type} {c : Prop} [Decidable c] {f g : Nat → Option α} {r : α} (h : ¬ c) (k : Ev g r) : Ev (fun n => if c then f n else g n) r := by simpa only [if_neg h] using k
theorem ev_bind {α β : Type} {g : Nat → Option α} {f : Nat → α → Option β} {r : β} (a : α) (h : Ev g a) (k : Ev (fun n => f n a) r) : Ev (fun n => (g n).bind (f n)) r := Ev.bind h k
theorem w64 {x : Int} (h0 : -9223372036854775808 ≤ x) (h1 : x ≤ 9223372036854775807) : wrap64 x = x := by unfold wrap64; omega
theorem winc {i : Nat} (h : (i : Int) < 9223372036854775807) : wrap64 ((i : Int) + 1) = ((i + 1 : Nat) : Int) := by unfold wrap64; omega
theorem wdec {i : Nat} (h : (i : Int) < 9223372036854775807) : wrap64 (((i + 1 : Nat) : Int) - 1) = (i : Int) := by unfold wrap64; omega
theorem maxLen_eq : maxLen = 9223372036854775807 := by unfold maxLen; rfl
section
variable {α : Type} {d : α} {pre t : List α} {s : α}
theorem rdOf_mid : rdOf d (pre ++ s :: t) ((pre.length : Nat) : Int) = s := by simp [rdOf]
theorem rdOf_last {p : α} : rdOf d ((pre ++ [p]) ++ s :: t) ((pre.length : Nat) : Int) = p := by simp [rdOf]
theorem lt_mid : ((pre.length : Nat) : Int) < ((pre ++ s :: t).length : Int) := by simp; omega
theorem not_lt_end : ¬ ((pre.length : Nat) : Int) < ((pre ++ ([] : List α)).length : Int) := by simp
theorem len_one : ((pre ++ [s]).length : Int) = ((pre.length + 1 : Nat) : Int) := by simp
end
theorem rd_mid {pre t : List Int} {s : Int} : rd (pre ++ s :: t) ((pre.length : Nat) : Int) = s := by simp [rd]
theorem rd_get {xs : List Int} {i : Nat} (h : i < xs.length) : rd xs (i : Int) = xs[i] := by simp [rd, h]

theorem tl (s : ByteArray) : s.toList = s.data.toList := Lib.toList_data s
theorem tl_inj {x y : ByteArray} : x.toList = y.toList ↔ x = y := by
  rw [tl, tl]
  exact ⟨fun h => ByteArray.ext (Array.toList_inj.1 h), fun h => h ▸ rfl⟩
theorem size_len (s : ByteArray) : s.size = s.data.toList.length := (data_length s).symm
theorem bt_mid {s : ByteArray} {pre t : List UInt8} {c : UInt8} (h : s.data.toList = pre ++ c :: t) : bt s ((pre.length : Nat) : Int) = (c.toNat : Int) := by
  have hs : pre.length < s.size := by rw [size_len, h]; simp
  have hg : s[pre.length]'hs = c := by
    have : s.data.toList[pre.length]'(by rw [h]; simp) = c := by simp [h]
    rw [← this]; rfl
  unfold bt
  rw [dif_pos (by simpa using hs)]
  simp only [Int.toNat_natCast, hg]
theorem lt_size {s : ByteArray} {pre t : List UInt8} {c : UInt8} (h : s.data.toList = pre ++ c :: t) : ((pre.length : Nat) : Int) < (s.size : Int) := by rw [size_len, h]; simp; omega
theorem not_lt_size {s : ByteArray} {pre : List UInt8} (h : s.data.toList = pre ++ []) : ¬ ((pre.length : Nat) : Int) < (s.size : Int) := by rw [size_len, h]; simp
def lessS (a b : ByteArray) : Bool := Op.bytesLess a.toList b.toList
end Go.Proofs.YtpkpjikkfikejaaQ
namespace Go.Proofs.YtpkpjikkfikejaaQ
open Go Go.RowKit Go.Proofs.YtpkpjikkfikejaaW.PrintWords Go.Proofs.YtpkpjikkfikejaaGp Go.Proofs.Ytpkpjikkfikejaa.PD

def mm (x y : Int) : Int := Int.tmod (wrap64 (x * y)) 65521
theorem mul_range {x y : Int} (hx : 0 ≤ x) (hx1 : x ≤ 65520) (hy : 0 ≤ y) (hy1 : y ≤ 65520) : 0 ≤ x * y ∧ x * y ≤ 4292870400 :=
  ⟨Int.mul_nonneg hx hy, by have := Int.mul_le_mul hx1 hy1 hy (by omega); omega⟩
theorem emod_range (x : Int) : 0 ≤ x % 65521 ∧ x % 65521 ≤ 65520 := by omega
theorem mm_eq {x y : Int} (hx : 0 ≤ x) (hx1 : x ≤ 65520) (hy : 0 ≤ y) (hy1 : y ≤ 65520) : mm x y = x * y % 65521 := by
  obtain ⟨h0, h1⟩ := mul_range hx hx1 hy hy1
  unfold mm
  rw [w64 (by omega) (by omega)]
  exact Int.tmod_eq_emod_of_nonneg h0
theorem mm_mod (a b : Int) : mm (a % 65521) (b % 65521) = a * b % 65521 := by
  rw [mm_eq (emod_range a).1 (emod_range a).2 (emod_range b).1 (emod_range b).2]
  exact (Int.mul_emod a b 65521).symm
def pw (h : Int) : Nat → Int
  | 0 => 1
  | n + 1 => pw h n * h
theorem self_mod {h : Int} (h0 : 0 ≤ h) (h1 : h ≤ 65520) : h = h % 65521 := by omega
theorem mm11 {h : Int} (h0 : 0 ≤ h) (h1 : h ≤ 65520) : mm (mm (mm (mm (mm h h) (mm h h)) h) (mm (mm (mm h h) (mm h h)) h)) h = pw h 11 % 65521 := by
  have e := self_mod h0 h1
  have a2 : mm h h = h * h % 65521 := mm_eq h0 h1 h0 h1
  have a4 : mm (mm h h) (mm h h) = (h * h) * (h * h) % 65521 := by rw [a2, mm_mod]
  have a5 : mm (mm (mm h h) (mm h h)) h = (h * h) * (h * h) * h % 65521 := by
    rw [a4]; conv => lhs; arg 2; rw [e]
    rw [mm_mod]
  rw [a5, mm_mod]
  conv => lhs; arg 2; rw [e]
  rw [mm_mod]
  congr 1
  simp only [pw, Int.one_mul, Int.mul_assoc]
theorem mm_pw {h : Int} (h0 : 0 ≤ h) (h1 : h ≤ 65520) (n : Nat) : mm (pw h n % 65521) h = pw h (n + 1) % 65521 := by
  conv => lhs; arg 2; rw [self_mod h0 h1]
  rw [mm_mod]
  rfl

def hstep (h : Int) (c : UInt8) : Int := Int.tmod (wrap64 ((wrap64 (263 * h)) + (wrap64 (c.toNat : Int)))) 65521
def hfold (h : Int) (l : List UInt8) : Int := l.foldl hstep h
theorem hstep_range {h : Int} {c : UInt8} (h0 : 0 ≤ h) (h1 : h ≤ 65520) : 0 ≤ hstep h c ∧ hstep h c ≤ 65520 := by
  have hc : c.toNat < 256 := c.toNat_lt
  unfold hstep
  rw [w64 (x := 263 * h) (by omega) (by omega), w64 (x := (c.toNat : Int)) (by omega) (by omega), w64 (by omega) (by omega), Int.tmod_eq_emod_of_nonneg (by omega)]
  omega
def hstart (a0 a1 : Int) : Int := Int.tmod (wrap64 ((wrap64 ((wrap64 (31 * a0)) + (wrap64 (977 * a1)))) + 7)) 65521
theorem hstart_range {a0 a1 : Int} (h0 : 0 ≤ a0) (h0' : a0 ≤ 1000000) (h1 : 0 ≤ a1) (h1' : a1 ≤ 1000000) : 0 ≤ hstart a0 a1 ∧ hstart a0 a1 ≤ 65520 := by
  unfold hstart
  rw [w64 (x := 31 * a0) (by omega) (by omega), w64 (x := 977 * a1) (by omega) (by omega), w64 (x := 31 * a0 + 977 * a1) (by omega) (by omega), w64 (by omega) (by omega), Int.tmod_eq_emod_of_nonneg (by omega)]
  omega
def hashV (a0 a1 : Int) (s : ByteArray) : Int := pw (hfold (hstart a0 a1) s.data.toList) 11 % 65521
theorem hashV_range (a0 a1 : Int) (s : ByteArray) : 0 ≤ hashV a0 a1 s ∧ hashV a0 a1 s ≤ 65520 := emod_range _
theorem spec_biHash_l0 (x2 : ByteArray) (hz : (x2.size : Int) ≤ 9223372036854775806) : ∀ (t pre : List UInt8) (h : Int), x2.data.toList = pre ++ t → 0 ≤ h → h ≤ 65520 →
    Ev (fun k => spec_biHash.l0 k x2 h (pre.length : Int)) (pw (hfold h t) 11 % 65521) := by
  intro t
  induction t with
  | nil =>
    intro pre h e h0 h1
    refine ev_succ ?_
    simp only [spec_biHash.l0]
    refine ev_neg (not_lt_size e) (ev_some ?_)
    exact mm11 h0 h1
  | cons c t ih =>
    intro pre h e h0 h1
    have hm := lt_size e
    refine ev_succ ?_
    simp only [spec_biHash.l0, bt_mid e]
    refine ev_pos hm (ev_pos (by omega) ?_)
    rw [winc (by omega)]
    have := ih (pre ++ [c]) (hstep h c) (by rw [e]; simp) (hstep_range h0 h1).1 (hstep_range h0 h1).2
    rw [len_one] at this
    exact this
theorem spec_biHash_f (a0 a1 : Int) (s : ByteArray) (hz : (s.size : Int) ≤ 9223372036854775806) (h0 : 0 ≤ a0) (h0' : a0 ≤ 1000000) (h1 : 0 ≤ a1) (h1' : a1 ≤ 1000000) :
    Ev (fun k => spec_biHash.f k a0 a1 s) (hashV a0 a1 s) := by
  unfold spec_biHash.f
  exact spec_biHash_l0 s hz s.data.toList [] _ rfl (hstart_range h0 h0' h1 h1').1 (hstart_range h0 h0' h1 h1').2
theorem impl_hash_l1 {h : Int} (h0 : 0 ≤ h) (h1 : h ≤ 65520) : ∀ (m i : Nat), i + m = 11 → Ev (fun k => impl_hash.l1 k h (pw h i % 65521) (i : Int)) (pw h 11 % 65521) := by
  intro m
  induction m with
  | zero =>
    intro i e
    obtain rfl : i = 11 := by omega
    refine ev_succ ?_
    simp only [impl_hash.l1]
    exact ev_neg (by omega) (ev_some rfl)
  | succ m ih =>
    intro i e
    refine ev_succ ?_
    simp only [impl_hash.l1]
    refine ev_pos (by omega) ?_
    rw [winc (by omega)]
    have := ih (i + 1) (by omega)
    rw [← mm_pw h0 h1 i] at this
    exact this
theorem impl_hash_l0 (x2 : ByteArray) (hz : (x2.size : Int) ≤ 9223372036854775806) : ∀ (t pre : List UInt8) (h : Int), x2.data.toList = pre ++ t → 0 ≤ h → h ≤ 65520 →
    Ev (fun k => impl_hash.l0 k x2 h (x2.size : Int) (pre.length : Int)) (pw (hfold h t) 11 % 65521) := by
  intro t
  induction t with
  | nil =>
    intro pre h e h0 h1
    refine ev_succ ?_
    simp only [impl_hash.l0]
    exact ev_neg (not_lt_size e) (impl_hash_l1 h0 h1 11 0 rfl)
  | cons c t ih =>
    intro pre h e h0 h1
    have hm := lt_size e
    refine ev_succ ?_
    simp only [impl_hash.l0, bt_mid e]
    refine ev_pos hm (ev_pos (by omega) (ev_pos hm ?_))
    rw [winc (by omega)]
    have := ih (pre ++ [c]) (hstep h c) (by rw [e]; simp) (hstep_range h0 h1).1 (hstep_range h0 h1).2
    rw [len_one] at this
    exact this
theorem impl_hash_f (a0 a1 : Int) (s : ByteArray) (hz : (s.size : Int) ≤ 9223372036854775806) (h0 : 0 ≤ a0) (h0' : a0 ≤ 1000000) (h1 : 0 ≤ a1) (h1' : a1 ≤ 1000000) :
    Ev (fun k => impl_hash.f k a0 a1 s) (hashV a0 a1 s) := by
  unfold impl_hash.f
  exact impl_hash_l0 s hz s.data.toList [] _ rfl (hstart_range h0 h0' h1 h1').1 (hstart_range h0 h0' h1 h1').2

def placeV (a0 a1 : Int) (s : ByteArray) (n : Int) : Int := wrap64 (Int.tdiv (wrap64 (hashV a0 a1 s * n)) 65521)
theorem placeV_range (a0 a1 : Int) (s : ByteArray) {n : Int} (h0 : 1 ≤ n) (h1 : n ≤ 1000000) : 0 ≤ placeV a0 a1 s n ∧ placeV a0 a1 s n < n := by
  obtain ⟨a, b⟩ := hashV_range a0 a1 s
  have c := Int.mul_nonneg a (show (0 : Int) ≤ n by omega)
  have d := Int.mul_le_mul_of_nonneg_right b (show (0 : Int) ≤ n by omega)
  unfold placeV
  generalize hashV a0 a1 s * n = y at *
  rw [w64 (x := y) (by omega) (by omega), Int.tdiv_eq_ediv_of_nonneg (by omega), w64 (by omega) (by omega)]
  omega
theorem spec_biPlace_f (a0 a1 : Int) (s : ByteArray) (n : Int) (hz : (s.size : Int) ≤ 9223372036854775806) (h0 : 0 ≤ a0) (h0' : a0 ≤ 1000000) (h1 : 0 ≤ a1) (h1' : a1 ≤ 1000000) :
    Ev (fun k => spec_biPlace.f k a0 a1 s n) (placeV a0 a1 s n) := by
  unfold spec_biPlace.f
  exact ev_bind _ (spec_biHash_f a0 a1 s hz h0 h0' h1 h1') (Ev.now _)
theorem impl_place_f (a0 a1 : Int) (s : ByteArray) (n : Int) (hz : (s.size : Int) ≤ 9223372036854775806) (h0 : 0 ≤ a0) (h0' : a0 ≤ 1000000) (h1 : 0 ≤ a1) (h1' : a1 ≤ 1000000) :
    Ev (fun k => impl_place.f k a0 a1 s n) (placeV a0 a1 s n) := by
  unfold impl_place.f
  exact ev_bind _ (impl_hash_f a0 a1 s hz h0 h0' h1 h1') (Ev.now _)
end Go.Proofs.YtpkpjikkfikejaaQ
namespace Go.Proofs.YtpkpjikkfikejaaQ
open Go Go.RowKit Go.Proofs.YtpkpjikkfikejaaW.PrintWords Go.Proofs.YtpkpjikkfikejaaGp Go.Proofs.Ytpkpjikkfikejaa.PD

def probesL (a0 : Int) (s : ByteArray) (n : Int) : Nat → Nat → List Int
  | 0, _ => []
  | m + 1, i => placeV a0 (i : Int) s n :: probesL a0 s n m (i + 1)
theorem probesL_len (a0 : Int) (s : ByteArray) (n : Int) : ∀ m i, (probesL a0 s n m i).length = m
  | 0, _ => rfl
  | m + 1, i => by simp [probesL, probesL_len a0 s n m]
theorem probesL_range (a0 : Int) (s : ByteArray) {n : Int} (h0 : 1 ≤ n) (h1 : n ≤ 1000000) : ∀ m i, ∀ p ∈ probesL a0 s n m i, 0 ≤ p ∧ p < n
  | 0, _, p, h => by simp [probesL] at h
  | m + 1, i, p, h => by
    simp only [probesL, List.mem_cons] at h
    rcases h with rfl | h
    · exact placeV_range a0 _ s h0 h1
    · exact probesL_range a0 s h0 h1 m (i + 1) p h
theorem spec_fiProbes_l0 (a0 : Int) (n : Int) (s : ByteArray) (hz : (s.size : Int) ≤ 9223372036854775806) (h0 : 0 ≤ a0) (h0' : a0 ≤ 1000000) (x1 : Int) (hx : x1 ≤ 1000000) : ∀ (m i : Nat) (acc : List Int), ((i + m : Nat) : Int) = x1 → acc.length = i →
    Ev (fun k => spec_fiProbes.l0 k a0 x1 n s acc (i : Int)) (acc ++ probesL a0 s n m i) := by
  intro m
  induction m with
  | zero =>
    intro i acc e ha
    refine ev_succ ?_
    simp only [spec_fiProbes.l0, probesL]
    exact ev_neg (by omega) (ev_some (by simp))
  | succ m ih =>
    intro i acc e ha
    refine ev_succ ?_
    simp only [spec_fiProbes.l0, probesL]
    refine ev_pos (by omega) (ev_bind _ (spec_biPlace_f a0 (i : Int) s n hz h0 h0' (by omega) (by omega)) (ev_pos (by omega) ?_))
    rw [winc (by omega)]
    have := ih (i + 1) (acc ++ [placeV a0 (i : Int) s n]) (by omega) (by simp [ha])
    rw [List.append_assoc] at this
    exact this
theorem spec_fiProbes_f (a0 a1 n : Int) (s : ByteArray) (hz : (s.size : Int) ≤ 9223372036854775806) (h0 : 0 ≤ a0) (h0' : a0 ≤ 1000000) (h1 : 0 ≤ a1) (h1' : a1 ≤ 1000000) :
    Ev (fun k => spec_fiProbes.f k a0 a1 n s) (probesL a0 s n a1.toNat 0) := by
  unfold spec_fiProbes.f
  have := spec_fiProbes_l0 a0 n s hz h0 h0' a1 h1' a1.toNat 0 [] (by omega) rfl
  exact this
theorem impl_probesOf_l0 (a0 : Int) (n : Int) (s : ByteArray) (hz : (s.size : Int) ≤ 9223372036854775806) (h0 : 0 ≤ a0) (h0' : a0 ≤ 1000000) (x1 : Int) (hx : x1 ≤ 1000000) : ∀ (m i : Nat) (acc : List Int), ((i + m : Nat) : Int) = x1 → acc.length = i →
    Ev (fun k => impl_probesOf.l0 k a0 n s acc x1 (i : Int)) (acc ++ probesL a0 s n m i) := by
  intro m
  induction m with
  | zero =>
    intro i acc e ha
    refine ev_succ ?_
    simp only [impl_probesOf.l0, probesL]
    exact ev_neg (by omega) (ev_some (by simp))
  | succ m ih =>
    intro i acc e ha
    refine ev_succ ?_
    simp only [impl_probesOf.l0, probesL]
    refine ev_pos (by omega) (ev_bind _ (impl_place_f a0 (i : Int) s n hz h0 h0' (by omega) (by omega)) (ev_pos (by omega) ?_))
    rw [winc (by omega)]
    have := ih (i + 1) (acc ++ [placeV a0 (i : Int) s n]) (by omega) (by simp [ha])
    rw [List.append_assoc] at this
    exact this
theorem impl_probesOf_f (a0 a1 n : Int) (s : ByteArray) (hz : (s.size : Int) ≤ 9223372036854775806) (h0 : 0 ≤ a0) (h0' : a0 ≤ 1000000) (h1 : 0 ≤ a1) (h1' : a1 ≤ 1000000) :
    Ev (fun k => impl_probesOf.f k a0 a1 n s) (probesL a0 s n a1.toNat 0) := by
  unfold impl_probesOf.f
  have := impl_probesOf_l0 a0 n s hz h0 h0' a1 h1' a1.toNat 0 [] (by omega) rfl
  exact this
end Go.Proofs.YtpkpjikkfikejaaQ
namespace Go.Proofs.YtpkpjikkfikejaaQ
open Go Go.RowKit Go.Proofs.YtpkpjikkfikejaaW.PrintWords Go.Proofs.YtpkpjikkfikejaaGp Go.Proofs.Ytpkpjikkfikejaa.PD

theorem ofInt_wrap (a : BitVec 64) : BitVec.ofInt 64 (IntKind.i64.wrap (a.toNat : Int)) = a := by
  have h : a.toNat < 2 ^ 64 := a.isLt
  apply BitVec.eq_of_toNat_eq
  rw [BitVec.toNat_ofInt]
  show ((IntKind.i64.wrap (a.toNat : Int)) % ((2 ^ 64 : Nat) : Int)).toNat = a.toNat
  have e : IntKind.i64.wrap (a.toNat : Int) = if (a.toNat : Int) % 18446744073709551616 ≥ 9223372036854775808 then (a.toNat : Int) % 18446744073709551616 - 18446744073709551616 else (a.toNat : Int) % 18446744073709551616 := by
    unfold IntKind.wrap
    simp [IntKind.bits, IntKind.signed]
  rw [e]
  have h2 : (2 : Nat) ^ 64 = 18446744073709551616 := by decide
  rw [h2] at h ⊢
  split <;> omega
theorem or_andNot (x b : Int) : Go.bits .or .i64 (Go.bits .andNot .i64 x b) b = Go.bits .or .i64 x b := by
  have e : ∀ op y, Go.bits op .i64 y b = IntKind.i64.wrap (((match op with | .and => BitVec.ofInt 64 y &&& BitVec.ofInt 64 b | .or => BitVec.ofInt 64 y ||| BitVec.ofInt 64 b | .xor => BitVec.ofInt 64 y ^^^ BitVec.ofInt 64 b | _ => BitVec.ofInt 64 y &&& ~~~(BitVec.ofInt 64 b)) : BitVec 64).toNat : Int) := fun op y => by
    unfold Go.bits; cases op <;> rfl
  rw [e .or, e .or, e .andNot]
  simp only
  rw [ofInt_wrap]
  congr 2
  apply congrArg
  apply BitVec.eq_of_getLsbD_eq
  intro i hi
  simp only [BitVec.getLsbD_or, BitVec.getLsbD_and, BitVec.getLsbD_not, hi, decide_true, Bool.true_and]
  cases (BitVec.ofInt 64 x).getLsbD i <;> cases (BitVec.ofInt 64 b).getLsbD i <;> rfl

def setV (l : List Int) (p : Int) : List Int := l.set (p / 16).toNat (Go.bits .or .i64 (rd l (p / 16)) (shl .i64 1 (p % 16)))
theorem setV_len (l : List Int) (p : Int) : (setV l p).length = l.length := by simp [setV]
theorem div16 {p : Int} (h0 : 0 ≤ p) (h1 : p ≤ 1000000) : wrap64 (Int.tdiv p 16) = p / 16 ∧ Int.tmod p 16 = p % 16 := by
  rw [Int.tdiv_eq_ediv_of_nonneg h0, Int.tmod_eq_emod_of_nonneg h0, w64 (by omega) (by omega)]
  exact ⟨rfl, rfl⟩
theorem rd_set {l : List Int} {i : Nat} {v : Int} (h : i < l.length) : rd (l.set i v) (i : Int) = v := by simp [rd, h]
theorem spec_biSet_f (n : Int) (l : List Int) {p : Int} (h0 : 0 ≤ p) (h1 : p ≤ 1000000) (h2 : p / 16 < (l.length : Int)) : spec_biSet.f n l p = some (setV l p) := by
  unfold spec_biSet.f
  rw [(div16 h0 h1).1, (div16 h0 h1).2, if_pos (by omega), if_pos h2, if_pos (by omega)]
  rfl
theorem impl_Bits_set_f (n : Int) (l : List Int) {p : Int} (h0 : 0 ≤ p) (h1 : p ≤ 1000000) (h2 : p / 16 < (l.length : Int)) : impl_Bits_set.f n l p true = some (setV l p) := by
  unfold impl_Bits_set.f
  rw [(div16 h0 h1).1, (div16 h0 h1).2, if_pos (by omega), if_pos h2, if_pos (by omega)]
  simp only [Option.bind_some, if_true]
  obtain ⟨q, hq⟩ : ∃ q : Nat, p / 16 = (q : Int) := ⟨(p / 16).toNat, by omega⟩
  unfold setV
  rw [hq] at h2 ⊢
  simp only [Int.toNat_natCast]
  rw [rd_set (by omega), List.set_set, or_andNot]

def addP (l : List Int) (ps : List Int) : List Int := ps.foldl setV l
theorem addP_len : ∀ (ps l : List Int), (addP l ps).length = l.length
  | [], _ => rfl
  | p :: ps, l => (addP_len ps (setV l p)).trans (setV_len l p)
def addK (a0 : Int) (m : Nat) (n : Int) (l : List Int) (ks : List ByteArray) : List Int := ks.foldl (fun l s => addP l (probesL a0 s n m 0)) l
theorem addK_len (a0 : Int) (m : Nat) (n : Int) : ∀ (ks : List ByteArray) (l : List Int), (addK a0 m n l ks).length = l.length
  | [], _ => rfl
  | _ :: ks, l => (addK_len a0 m n ks _).trans (addP_len _ l)
theorem impl_put_l0 (a0 a1 n : Int) (x20 : List Int) (hl : (x20.length : Int) ≤ 9223372036854775806) : ∀ (t pre l : List Int), x20 = pre ++ t → (∀ p ∈ t, 0 ≤ p ∧ p ≤ 1000000 ∧ p / 16 < (l.length : Int)) →
    Ev (fun k => impl_Bloom_put.l0 k x20 (x20.length : Int) (pre.length : Int) a0 a1 n l) (addP l t) := by
  intro t
  induction t with
  | nil =>
    intro pre l e hp
    refine ev_succ ?_
    simp only [impl_Bloom_put.l0]
    exact ev_neg (by rw [e]; exact not_lt_end) (ev_some rfl)
  | cons s t ih =>
    intro pre l e hp
    have hm : ((pre.length : Nat) : Int) < (x20.length : Int) := by rw [e]; exact lt_mid
    have hg : rd x20 (pre.length : Int) = s := by rw [e]; exact rd_mid
    obtain ⟨p0, p1, p2⟩ := hp s (by simp)
    refine ev_succ ?_
    simp only [impl_Bloom_put.l0, hg]
    refine ev_pos hm (ev_pos (by omega) (ev_pos hm (ev_bind (setV l s) (by rw [impl_Bits_set_f n l p0 p1 p2]; exact Ev.now _) ?_)))
    rw [winc (by omega)]
    have := ih (pre ++ [s]) (setV l s) (by rw [e]; simp) (fun p h => by rw [setV_len]; exact hp p (by simp [h]))
    rw [len_one] at this
    exact this
theorem impl_put_f (a0 a1 n : Int) (l : List Int) (s : ByteArray) (hz : (s.size : Int) ≤ 9223372036854775806) (h0 : 0 ≤ a0) (h0' : a0 ≤ 1000000) (h1 : 0 ≤ a1) (h1' : a1 ≤ 1000000)
    (hn : 1 ≤ n) (hn' : n ≤ 1000000) (hl : (n + 15) / 16 ≤ (l.length : Int)) : Ev (fun k => impl_Bloom_put.f k a0 a1 n l s) (addP l (probesL a0 s n a1.toNat 0)) := by
  unfold impl_Bloom_put.f
  refine ev_bind _ (impl_probesOf_f a0 a1 n s hz h0 h0' h1 h1') ?_
  exact impl_put_l0 a0 a1 n _ (by rw [probesL_len]; omega) _ [] l rfl (fun p h => by
    obtain ⟨x, y⟩ := probesL_range a0 s hn hn' _ _ p h
    exact ⟨x, by omega, by omega⟩)
end Go.Proofs.YtpkpjikkfikejaaQ
namespace Go.Proofs.YtpkpjikkfikejaaQ
open Go Go.RowKit Go.Proofs.YtpkpjikkfikejaaW.PrintWords Go.Proofs.YtpkpjikkfikejaaGp Go.Proofs.Ytpkpjikkfikejaa.PD

def atV (l : List Int) (p : Int) : Bool := Go.bits .and .i64 (shr .i64 (rd l (p / 16)) (p % 16)) 1 == 1
theorem div16' {p : Int} (h0 : 0 ≤ p) (h1 : p ≤ 1000000) : wrap64 (Int.tdiv p 16) = p / 16 ∧ Int.tmod p 16 = p % 16 := by
  rw [Int.tdiv_eq_ediv_of_nonneg h0, Int.tmod_eq_emod_of_nonneg h0, w64 (by omega) (by omega)]
  exact ⟨rfl, rfl⟩
theorem spec_biAt_f (n : Int) (l : List Int) {p : Int} (h0 : 0 ≤ p) (h1 : p ≤ 1000000) (h2 : p / 16 < (l.length : Int)) : spec_biAt.f n l p = some (atV l p) := by
  unfold spec_biAt.f
  rw [(div16' h0 h1).1, (div16' h0 h1).2, if_pos (by omega), if_pos h2, if_pos (by omega)]
  rfl
theorem impl_Bits_at_f (n : Int) (l : List Int) {p : Int} (h0 : 0 ≤ p) (h1 : p ≤ 1000000) (h2 : p / 16 < (l.length : Int)) : impl_Bits_at.f n l p = some (atV l p) := by
  unfold impl_Bits_at.f
  rw [(div16' h0 h1).1, (div16' h0 h1).2, if_pos (by omega), if_pos h2, if_pos (by omega)]
  rfl
def saysV (a0 a1 n : Int) (l : List Int) (s : ByteArray) : Bool := (probesL a0 s n a1.toNat 0).all (atV l)
theorem spec_fiHas_l0 (a0 a1 n : Int) (l : List Int) (x20 : List Int) (hl : (x20.length : Int) ≤ 9223372036854775806) : ∀ (t pre : List Int), x20 = pre ++ t → (∀ p ∈ t, 0 ≤ p ∧ p ≤ 1000000 ∧ p / 16 < (l.length : Int)) →
    Ev (fun k => spec_fiHas.l0 k x20 (x20.length : Int) (pre.length : Int) a0 a1 n l) (t.all (atV l)) := by
  intro t
  induction t with
  | nil =>
    intro pre e hp
    refine ev_succ ?_
    simp only [spec_fiHas.l0]
    exact ev_neg (by rw [e]; exact not_lt_end) (ev_some rfl)
  | cons s t ih =>
    intro pre e hp
    have hm : ((pre.length : Nat) : Int) < (x20.length : Int) := by rw [e]; exact lt_mid
    have hg : rd x20 (pre.length : Int) = s := by rw [e]; exact rd_mid
    obtain ⟨p0, p1, p2⟩ := hp s (by simp)
    refine ev_succ ?_
    simp only [spec_fiHas.l0, hg]
    refine ev_pos hm (ev_pos (by omega) (ev_pos hm (ev_bind (atV l s) (by rw [spec_biAt_f n l p0 p1 p2]; exact Ev.now _) ?_)))
    by_cases c : atV l s = true
    · refine ev_pos c ?_
      rw [winc (by omega)]
      have := ih (pre ++ [s]) (by rw [e]; simp) (fun p h => hp p (by simp [h]))
      rw [len_one] at this
      simpa [c] using this
    · exact ev_neg c (ev_some (by simp [c]))
theorem spec_fiHas_f (a0 a1 n : Int) (l : List Int) (s : ByteArray) (hz : (s.size : Int) ≤ 9223372036854775806) (h0 : 0 ≤ a0) (h0' : a0 ≤ 1000000) (h1 : 0 ≤ a1) (h1' : a1 ≤ 1000000)
    (hn : 1 ≤ n) (hn' : n ≤ 1000000) (hl : (n + 15) / 16 ≤ (l.length : Int)) : Ev (fun k => spec_fiHas.f k a0 a1 n l s) (saysV a0 a1 n l s) := by
  unfold spec_fiHas.f
  refine ev_bind _ (spec_fiProbes_f a0 a1 n s hz h0 h0' h1 h1') ?_
  exact spec_fiHas_l0 a0 a1 n l _ (by rw [probesL_len]; omega) _ [] rfl (fun p h => by
    obtain ⟨x, y⟩ := probesL_range a0 s hn hn' _ _ p h
    exact ⟨x, by omega, by omega⟩)
theorem impl_says_l0 (a0 a1 n : Int) (l : List Int) (s : ByteArray) (hz : (s.size : Int) ≤ 9223372036854775806) (h0 : 0 ≤ a0) (h0' : a0 ≤ 1000000) (h1' : a1 ≤ 1000000)
    (hn : 1 ≤ n) (hn' : n ≤ 1000000) (hl : (n + 15) / 16 ≤ (l.length : Int)) : ∀ (m i : Nat), ((i + m : Nat) : Int) = a1 → Ev (fun k => impl_Bloom_says.l0 k s a1 (i : Int) a0 a1 n l) ((probesL a0 s n m i).all (atV l)) := by
  intro m
  induction m with
  | zero =>
    intro i e
    refine ev_succ ?_
    simp only [impl_Bloom_says.l0, probesL]
    exact ev_neg (by omega) (ev_some rfl)
  | succ m ih =>
    intro i e
    obtain ⟨p0, p1⟩ := placeV_range a0 (i : Int) s hn hn'
    refine ev_succ ?_
    simp only [impl_Bloom_says.l0, probesL]
    refine ev_pos (by omega) (ev_bind _ (impl_place_f a0 (i : Int) s n hz h0 h0' (by omega) (by omega)) (ev_bind (atV l (placeV a0 (i : Int) s n)) (by rw [impl_Bits_at_f n l p0 (by omega) (by omega)]; exact Ev.now _) ?_))
    by_cases c : atV l (placeV a0 (i : Int) s n) = true
    · refine ev_pos c ?_
      rw [winc (by omega)]
      have := ih (i + 1) (by omega)
      simpa [c] using this
    · exact ev_neg c (ev_some (by simp [c]))
theorem impl_says_f (a0 a1 n : Int) (l : List Int) (s : ByteArray) (hz : (s.size : Int) ≤ 9223372036854775806) (h0 : 0 ≤ a0) (h0' : a0 ≤ 1000000) (h1 : 0 ≤ a1) (h1' : a1 ≤ 1000000)
    (hn : 1 ≤ n) (hn' : n ≤ 1000000) (hl : (n + 15) / 16 ≤ (l.length : Int)) : Ev (fun k => impl_Bloom_says.f k a0 a1 n l s) (saysV a0 a1 n l s) := by
  unfold impl_Bloom_says.f
  have := impl_says_l0 a0 a1 n l s hz h0 h0' h1' hn hn' hl a1.toNat 0 (by omega)
  exact this
end Go.Proofs.YtpkpjikkfikejaaQ
namespace Go.Proofs.YtpkpjikkfikejaaQ
open Go Go.RowKit Go.Proofs.YtpkpjikkfikejaaW.PrintWords Go.Proofs.YtpkpjikkfikejaaW.PrintMore Go.Proofs.YtpkpjikkfikejaaGp

theorem wraps_i64 (n : Int) (h0 : 0 ≤ n) (h1 : n < 2 ^ 62) : IntKind.i64.wrap n = n := by
  rw [IntKind.wrap_i64]
  have : (2 : Int) ^ 62 = 4611686018427387904 := by decide
  omega
theorem bits64 (a b : Nat) (ha : a < 2 ^ 62) (hb : b < 2 ^ 62) : Go.bits .and .i64 a b = ((a &&& b : Nat) : Int) ∧ Go.bits .or .i64 a b = ((a ||| b : Nat) : Int) :=
  bits_nat .i64 62 (by decide) wraps_i64 a b ha hb
theorem two62 : (2 : Nat) ^ 62 = 4611686018427387904 := by decide
theorem two64 : (2 : Nat) ^ 64 = 18446744073709551616 := by decide
theorem pow16 {j : Nat} (h : j < 16) : 2 ^ j < 65536 := by
  have : 2 ^ j ≤ 2 ^ 15 := Nat.pow_le_pow_right (by decide) (by omega)
  have e : (2 : Nat) ^ 15 = 32768 := by decide
  omega
theorem shl1 {j : Nat} (h : j < 16) : shl .i64 1 (j : Int) = ((2 ^ j : Nat) : Int) := by
  unfold shl
  have hj : min (j : Int).toNat IntKind.i64.bits = j := by simp [IntKind.bits]; omega
  rw [hj, Int.one_mul, show ((2 : Int) ^ j) = ((2 ^ j : Nat) : Int) from by simp]
  have hp := pow16 h
  generalize 2 ^ j = z at hp ⊢
  refine wraps_i64 _ (by omega) ?_
  have : (2 : Int) ^ 62 = 4611686018427387904 := by decide
  omega
theorem shrN {w j : Nat} (h : j < 16) : shr .i64 (w : Int) (j : Int) = ((w / 2 ^ j : Nat) : Int) := by
  unfold shr
  have hj : min (j : Int).toNat IntKind.i64.bits = j := by simp [IntKind.bits]; omega
  rw [hj]
  simp
theorem and1 {w j : Nat} (hw : w < 65536) (h : j < 16) : (Go.bits .and .i64 (shr .i64 (w : Int) (j : Int)) 1 == 1) = w.testBit j := by
  have hd : w / 2 ^ j ≤ w := Nat.div_le_self _ _
  have e : Go.bits .and .i64 ((w / 2 ^ j : Nat) : Int) ((1 : Nat) : Int) = (((w / 2 ^ j) &&& 1 : Nat) : Int) := (bits64 _ _ (by rw [two62]; omega) (by rw [two62]; omega)).1
  rw [shrN h, show (1 : Int) = ((1 : Nat) : Int) from rfl, e, Nat.and_one_is_mod, Nat.testBit_eq_decide_div_mod_eq]
  rw [Bool.eq_iff_iff]
  simp only [beq_iff_eq, decide_eq_true_eq]
  omega
theorem or1 {w j : Nat} (hw : w < 65536) (h : j < 16) : Go.bits .or .i64 (w : Int) (shl .i64 1 (j : Int)) = ((w ||| 2 ^ j : Nat) : Int) := by
  have := pow16 h
  rw [shl1 h]
  exact (bits64 _ _ (by rw [two62]; omega) (by rw [two62]; omega)).2
theorem or1_lt {w j : Nat} (hw : w < 65536) (h : j < 16) : w ||| 2 ^ j < 65536 := by
  have e : (65536 : Nat) = 2 ^ 16 := by decide
  rw [e] at hw ⊢
  have := pow16 h
  exact Nat.or_lt_two_pow hw (by omega)
theorem clr1 {w j : Nat} (hw : w < 65536) (h : j < 16) (hz : w.testBit j = false) : Go.bits .andNot .i64 (w : Int) (shl .i64 1 (j : Int)) = (w : Int) := by
  rw [shl1 h]
  have e : Go.bits .andNot .i64 (w : Int) ((2 ^ j : Nat) : Int) = IntKind.i64.wrap (((BitVec.ofInt 64 (w : Int) &&& ~~~ BitVec.ofInt 64 ((2 ^ j : Nat) : Int) : BitVec 64)).toNat : Int) := by unfold Go.bits; rfl
  have z : (BitVec.ofInt 64 (w : Int) &&& ~~~ BitVec.ofInt 64 ((2 ^ j : Nat) : Int) : BitVec 64) = BitVec.ofInt 64 (w : Int) := by
    rw [BitVec.ofInt_natCast, BitVec.ofInt_natCast]
    apply BitVec.eq_of_getLsbD_eq
    intro i hi
    simp only [BitVec.getLsbD_and, BitVec.getLsbD_not, BitVec.getLsbD_ofNat, hi, decide_true, Bool.true_and, Nat.testBit_two_pow]
    by_cases c : j = i
    · subst c; simp [hz]
    · simp [c]
  rw [e, z, BitVec.ofInt_natCast, BitVec.toNat_ofNat, Nat.mod_eq_of_lt (by rw [two64]; omega)]
  refine wraps_i64 _ (by omega) ?_
  have : (2 : Int) ^ 62 = 4611686018427387904 := by decide
  omega

def okW (l : List Int) : Prop := ∀ w ∈ l, 0 ≤ w ∧ w ≤ 65535
def bitN (l : List Int) (p : Nat) : Bool := (l.getD (p / 16) 0).toNat.testBit (p % 16)
theorem rdN {l : List Int} {p : Nat} (h : p / 16 < l.length) : rd l ((p : Int) / 16) = l.getD (p / 16) 0 := by
  have : ((p : Int) / 16) = ((p / 16 : Nat) : Int) := by omega
  rw [this, rd_get h, List.getD_eq_getElem?_getD, List.getElem?_eq_getElem h]
  rfl
theorem okW_get {l : List Int} (hl : okW l) {i : Nat} (h : i < l.length) : ∃ w : Nat, l.getD i 0 = (w : Int) ∧ w < 65536 := by
  have hm := hl _ (List.getElem_mem h)
  rw [List.getD_eq_getElem?_getD, List.getElem?_eq_getElem h]
  exact ⟨l[i].toNat, by simp; omega, by omega⟩
theorem atV_bit {l : List Int} (hl : okW l) {p : Nat} (h : p / 16 < l.length) : atV l (p : Int) = bitN l p := by
  obtain ⟨w, hw, hw2⟩ := okW_get hl h
  unfold atV bitN
  rw [rdN h, hw, show ((p : Int) % 16) = ((p % 16 : Nat) : Int) from by omega, and1 hw2 (by omega)]
  simp
theorem setV_get {l : List Int} (hl : okW l) {p : Nat} (h : p / 16 < l.length) : ∃ w : Nat, w < 65536 ∧ l.getD (p / 16) 0 = (w : Int) ∧ setV l (p : Int) = l.set (p / 16) ((w ||| 2 ^ (p % 16) : Nat) : Int) := by
  obtain ⟨w, hw, hw2⟩ := okW_get hl h
  refine ⟨w, hw2, hw, ?_⟩
  unfold setV
  rw [rdN h, hw, show ((p : Int) % 16) = ((p % 16 : Nat) : Int) from by omega, or1 hw2 (by omega)]
  congr 1
theorem okW_setV {l : List Int} (hl : okW l) {p : Nat} (h : p / 16 < l.length) : okW (setV l (p : Int)) := by
  obtain ⟨w, hw, _, e⟩ := setV_get hl h
  rw [e]
  intro x hx
  rcases List.mem_or_eq_of_mem_set hx with hx | rfl
  · exact hl x hx
  · have := or1_lt hw (show p % 16 < 16 by omega)
    omega
theorem bit_setV {l : List Int} (hl : okW l) {p q : Nat} (h : p / 16 < l.length) : bitN (setV l (p : Int)) q = (decide (p = q) || bitN l q) := by
  obtain ⟨w, hw, hg, e⟩ := setV_get hl h
  rw [e]
  unfold bitN
  by_cases c : p / 16 = q / 16
  · rw [← c, List.getD_eq_getElem?_getD, List.getElem?_set_self (by simpa using h), hg]
    simp only [Option.getD_some, Int.toNat_natCast, Nat.testBit_or, Nat.testBit_two_pow]
    rw [show decide (p % 16 = q % 16) = decide (p = q) from by
      rw [Bool.eq_iff_iff]; simp; omega, Bool.or_comm]
  · rw [List.getD_eq_getElem?_getD, List.getElem?_set_ne c, ← List.getD_eq_getElem?_getD, decide_eq_false (by omega), Bool.false_or]
theorem clrV {l : List Int} (hl : okW l) {p : Nat} (h : p / 16 < l.length) (hz : bitN l p = false) : l.set ((p : Int) / 16).toNat (Go.bits .andNot .i64 (rd l ((p : Int) / 16)) (shl .i64 1 ((p : Int) % 16))) = l := by
  obtain ⟨w, hw, hw2⟩ := okW_get hl h
  unfold bitN at hz
  rw [hw] at hz
  rw [rdN h, hw, show ((p : Int) % 16) = ((p % 16 : Nat) : Int) from by omega, clr1 hw2 (by omega) (by simpa using hz), show ((p : Int) / 16).toNat = p / 16 from by omega, ← hw]
  apply List.ext_getElem?
  intro i
  by_cases c : p / 16 = i
  · subst c
    rw [List.getElem?_set_self (by simpa using h), List.getD_eq_getElem?_getD, List.getElem?_eq_getElem h]
    rfl
  · rw [List.getElem?_set_ne c]

end Go.Proofs.YtpkpjikkfikejaaQ
namespace Go.Proofs.YtpkpjikkfikejaaQ
open Go Go.RowKit Go.Proofs.YtpkpjikkfikejaaW.PrintWords Go.Proofs.YtpkpjikkfikejaaGp Go.Proofs.Ytpkpjikkfikejaa.PD

theorem spec_in (n a b : Int) : spec_l1In.f n a b = some (decide (a ≤ n ∧ n ≤ b)) := by
  unfold spec_l1In.f
  by_cases h : a ≤ n <;> by_cases h' : n ≤ b <;> simp [h, h']
theorem impl_in (n a b : Int) : impl_in.f n a b = some (decide (a ≤ n ∧ n ≤ b)) := by
  unfold impl_in.f
  by_cases h : a ≤ n <;> by_cases h' : n ≤ b <;> simp [h, h']

def byteOk (c : UInt8) : Bool := decide (33 ≤ (c.toNat : Int) ∧ (c.toNat : Int) ≤ 125)
def isKeyB (s : ByteArray) : Bool := s.data.toList.all byteOk && decide (1 ≤ (s.size : Int) ∧ (s.size : Int) ≤ 12)
theorem spec_IsKey_l0 (x0 : ByteArray) (hz : (x0.size : Int) ≤ 9223372036854775806) : ∀ (t pre : List UInt8), x0.data.toList = pre ++ t →
    Ev (fun k => spec_IsKey.l0 k x0 (pre.length : Int)) (t.all byteOk && decide (1 ≤ (x0.size : Int) ∧ (x0.size : Int) ≤ 12)) := by
  intro t
  induction t with
  | nil =>
    intro pre h
    refine ev_succ ?_
    simp only [spec_IsKey.l0, spec_in, Option.bind_some]
    exact ev_neg (not_lt_size h) (ev_some (by simp))
  | cons c t ih =>
    intro pre h
    have hm := lt_size h
    refine ev_succ ?_
    simp only [spec_IsKey.l0, bt_mid h]
    refine ev_pos hm (ev_pos (by omega) ?_)
    by_cases c1 : (c.toNat : Int) < 33
    · exact ev_pos c1 (ev_some (by simp [byteOk]; omega))
    · refine ev_neg c1 ?_
      by_cases c2 : (c.toNat : Int) > 125
      · exact ev_pos c2 (ev_some (by simp [byteOk]; omega))
      · refine ev_neg c2 ?_
        rw [winc (by omega)]
        have := ih (pre ++ [c]) (by rw [h]; simp)
        rw [len_one] at this
        have hb : byteOk c = true := by simp [byteOk]; omega
        simpa [hb] using this
theorem spec_IsKey_f (s : ByteArray) (hz : (s.size : Int) ≤ 9223372036854775806) : Ev (fun k => spec_IsKey.f k s) (isKeyB s) := by
  unfold spec_IsKey.f
  exact spec_IsKey_l0 s hz s.data.toList [] rfl
theorem impl_IsKey_l0 (x0 : ByteArray) (hz : (x0.size : Int) ≤ 9223372036854775806) : ∀ (t pre : List UInt8), x0.data.toList = pre ++ t →
    Ev (fun k => impl_IsKey.l0 k x0 (x0.size : Int) (pre.length : Int)) (t.all byteOk && decide (1 ≤ (x0.size : Int) ∧ (x0.size : Int) ≤ 12)) := by
  intro t
  induction t with
  | nil =>
    intro pre h
    refine ev_succ ?_
    simp only [impl_IsKey.l0, impl_in, Option.bind_some]
    exact ev_neg (not_lt_size h) (ev_some (by simp))
  | cons c t ih =>
    intro pre h
    have hm := lt_size h
    refine ev_succ ?_
    simp only [impl_IsKey.l0, bt_mid h]
    refine ev_pos hm (ev_pos (by omega) (ev_pos hm ?_))
    by_cases c1 : (c.toNat : Int) < 33
    · exact ev_pos c1 (ev_some (by simp [byteOk]; omega))
    · refine ev_neg c1 ?_
      by_cases c2 : (c.toNat : Int) > 125
      · exact ev_pos c2 (ev_some (by simp [byteOk]; omega))
      · refine ev_neg c2 ?_
        rw [winc (by omega)]
        have := ih (pre ++ [c]) (by rw [h]; simp)
        rw [len_one] at this
        have hb : byteOk c = true := by simp [byteOk]; omega
        simpa [hb] using this
theorem impl_IsKey_f (s : ByteArray) (hz : (s.size : Int) ≤ 9223372036854775806) : Ev (fun k => impl_IsKey.f k s) (isKeyB s) := by
  unfold impl_IsKey.f
  exact impl_IsKey_l0 s hz s.data.toList [] rfl
def keysFrom : Option ByteArray → List ByteArray → Bool
  | _, [] => true
  | p, s :: t => isKeyB s && (match p with | none => true | some q => lessS q s) && keysFrom (some s) t
def areKeysB (l : List ByteArray) : Bool := keysFrom none l && decide ((l.length : Int) ≤ 40)
def lastOf (pre : List ByteArray) : Option ByteArray := pre.getLast?
theorem lastOf_one (pre : List ByteArray) (s : ByteArray) : lastOf (pre ++ [s]) = some s := by simp [lastOf]
theorem lastOf_nil : lastOf [] = none := rfl
theorem last_split {pre : List ByteArray} (h : 0 < pre.length) : ∃ q p, pre = q ++ [p] := by
  obtain ⟨x, hx⟩ : ∃ x, pre.getLast? = some x := by
    cases hp : pre.getLast? with
    | none => rw [List.getLast?_eq_none_iff] at hp; subst hp; simp at h
    | some x => exact ⟨x, rfl⟩
  obtain ⟨q, hq⟩ := List.getLast?_eq_some_iff.1 hx
  exact ⟨q, x, hq⟩

theorem spec_biKeys_l0 (x0 : List ByteArray) (hl : (x0.length : Int) ≤ 9223372036854775806) : ∀ (t pre : List ByteArray), x0 = pre ++ t → (∀ s ∈ t, (s.size : Int) ≤ 9223372036854775806) →
    Ev (fun k => spec_biKeys.l0 k x0 x0 (x0.length : Int) (pre.length : Int)) (keysFrom (lastOf pre) t && decide ((x0.length : Int) ≤ 40)) := by
  intro t
  induction t with
  | nil =>
    intro pre h hs
    refine ev_succ ?_
    simp only [spec_biKeys.l0]
    exact ev_neg (by rw [h]; exact not_lt_end) (ev_some (by simp [keysFrom]))
  | cons s t ih =>
    intro pre h hs
    have hm : ((pre.length : Nat) : Int) < (x0.length : Int) := by rw [h]; exact lt_mid
    have hg : rdOf ByteArray.empty x0 (pre.length : Int) = s := by rw [h]; exact rdOf_mid
    have next := ih (pre ++ [s]) (by rw [h]; simp) (fun x hx => hs x (by simp [hx]))
    rw [len_one, lastOf_one] at next
    refine ev_succ ?_
    simp only [spec_biKeys.l0, hg]
    refine ev_pos hm (ev_pos (by omega) (ev_pos hm (ev_bind _ (spec_IsKey_f s (hs s (by simp))) ?_)))
    cases hk : isKeyB s with
    | false => exact ev_neg (by simp) (ev_some (by simp [keysFrom, hk]))
    | true =>
      refine ev_pos rfl ?_
      by_cases c : 0 < pre.length
      · obtain ⟨q, p, rfl⟩ := last_split c
        have hp : rdOf ByteArray.empty x0 ((q.length : Nat) : Int) = p := by rw [h]; exact rdOf_last
        have hw : wrap64 (((q ++ [p]).length : Int) - 1) = (q.length : Int) := by rw [len_one]; exact wdec (by simp at hm; omega)
        simp only [hw, hp, lastOf_one, keysFrom, hk, Bool.true_and]
        refine ev_pos (by omega) (ev_pos (by omega) (ev_pos (by simp at hm; omega) ?_))
        by_cases c2 : lessS p s = true
        · refine ev_pos c2 ?_
          rw [winc (by omega), c2, Bool.true_and]
          exact next
        · refine ev_neg c2 (ev_some ?_)
          simp only [Bool.not_eq_true] at c2
          simp [c2]
      · obtain rfl := List.length_eq_zero_iff.1 (show pre.length = 0 by omega)
        refine ev_neg (by simp) ?_
        rw [winc (by omega)]
        simp only [lastOf_nil, keysFrom, hk, Bool.true_and]
        exact next
theorem spec_biKeys_f (l : List ByteArray) (hl : (l.length : Int) ≤ 9223372036854775806) (hs : ∀ s ∈ l, (s.size : Int) ≤ 9223372036854775806) : Ev (fun k => spec_biKeys.f k l) (areKeysB l) := by
  unfold spec_biKeys.f
  exact spec_biKeys_l0 l hl l [] rfl hs
theorem impl_AreKeys_l0 (x0 : List ByteArray) (hl : (x0.length : Int) ≤ 9223372036854775806) : ∀ (t pre : List ByteArray), x0 = pre ++ t → (∀ s ∈ t, (s.size : Int) ≤ 9223372036854775806) →
    Ev (fun k => impl_AreKeys.l0 k x0 x0 (x0.length : Int) (pre.length : Int)) (keysFrom (lastOf pre) t && decide ((x0.length : Int) ≤ 40)) := by
  intro t
  induction t with
  | nil =>
    intro pre h hs
    refine ev_succ ?_
    simp only [impl_AreKeys.l0]
    exact ev_neg (by rw [h]; exact not_lt_end) (ev_some (by simp [keysFrom]))
  | cons s t ih =>
    intro pre h hs
    have hm : ((pre.length : Nat) : Int) < (x0.length : Int) := by rw [h]; exact lt_mid
    have hg : rdOf ByteArray.empty x0 (pre.length : Int) = s := by rw [h]; exact rdOf_mid
    have next := ih (pre ++ [s]) (by rw [h]; simp) (fun x hx => hs x (by simp [hx]))
    rw [len_one, lastOf_one] at next
    refine ev_succ ?_
    simp only [impl_AreKeys.l0, hg]
    refine ev_pos hm (ev_pos (by omega) (ev_pos hm (ev_bind _ (impl_IsKey_f s (hs s (by simp))) ?_)))
    cases hk : isKeyB s with
    | false => exact ev_neg (by simp) (ev_some (by simp [keysFrom, hk]))
    | true =>
      refine ev_pos rfl ?_
      by_cases c : 0 < pre.length
      · obtain ⟨q, p, rfl⟩ := last_split c
        have hp : rdOf ByteArray.empty x0 ((q.length : Nat) : Int) = p := by rw [h]; exact rdOf_last
        have hw : wrap64 (((q ++ [p]).length : Int) - 1) = (q.length : Int) := by rw [len_one]; exact wdec (by simp at hm; omega)
        simp only [hw, hp, lastOf_one, keysFrom, hk, Bool.true_and]
        refine ev_pos (by omega) (ev_pos (by omega) (ev_pos (by simp at hm; omega) ?_))
        by_cases c2 : lessS p s = true
        · refine ev_pos c2 ?_
          rw [winc (by omega), c2, Bool.true_and]
          exact next
        · refine ev_neg c2 (ev_some ?_)
          simp only [Bool.not_eq_true] at c2
          simp [c2]
      · obtain rfl := List.length_eq_zero_iff.1 (show pre.length = 0 by omega)
        refine ev_neg (by simp) ?_
        rw [winc (by omega)]
        simp only [lastOf_nil, keysFrom, hk, Bool.true_and]
        exact next
theorem impl_AreKeys_f (l : List ByteArray) (hl : (l.length : Int) ≤ 9223372036854775806) (hs : ∀ s ∈ l, (s.size : Int) ≤ 9223372036854775806) : Ev (fun k => impl_AreKeys.f k l) (areKeysB l) := by
  unfold impl_AreKeys.f
  exact impl_AreKeys_l0 l hl l [] rfl hs
end Go.Proofs.YtpkpjikkfikejaaQ
namespace Go.Proofs.YtpkpjikkfikejaaQ
open Go Go.RowKit Go.Proofs.YtpkpjikkfikejaaW.PrintWords Go.Proofs.YtpkpjikkfikejaaGp Go.Proofs.Ytpkpjikkfikejaa.PD

def sizesB (a0 a1 a2 : Int) : Bool := decide (0 ≤ a0 ∧ a0 ≤ 9999) && decide (1 ≤ a1 ∧ a1 ≤ 8) && decide (1 ≤ a2 ∧ a2 ≤ 512)
theorem sizesB_ok {a0 a1 a2 : Int} (h : sizesB a0 a1 a2 = true) : (0 ≤ a0 ∧ a0 ≤ 9999) ∧ (1 ≤ a1 ∧ a1 ≤ 8) ∧ 1 ≤ a2 ∧ a2 ≤ 512 := by
  simp only [sizesB, Bool.and_eq_true, decide_eq_true_eq] at h
  exact ⟨h.1.1, h.1.2, h.2⟩
def blankV (n : Int) : List Int := List.replicate ((n + 15) / 16).toNat 0
theorem blankV_len {n : Int} (h : 1 ≤ n) : ((blankV n).length : Int) = (n + 15) / 16 := by simp [blankV]; omega
theorem words15 {n : Int} (h0 : 1 ≤ n) (h1 : n ≤ 512) : wrap64 (Int.tdiv (wrap64 (n + 15)) 16) = (n + 15) / 16 := by
  rw [w64 (x := n + 15) (by omega) (by omega), Int.tdiv_eq_ediv_of_nonneg (by omega), w64 (by omega) (by omega)]
def bloomV (a0 a1 a2 : Int) (l : List ByteArray) : Int × Int × Int × List Int × Bool :=
  if (sizesB a0 a1 a2 && areKeysB l) = true then (a0, a1, a2, addK a0 a1.toNat a2 (blankV a2) l, true) else (0, 0, 0, [], false)
theorem spec_fiSize_f (a0 a1 a2 : Int) : spec_fiSize.f a0 a1 a2 = some (sizesB a0 a1 a2) := by
  unfold spec_fiSize.f sizesB
  simp only [spec_in, Option.bind_some]
  by_cases h0 : 0 ≤ a0 ∧ a0 ≤ 9999 <;> by_cases h1 : 1 ≤ a1 ∧ a1 ≤ 8 <;> by_cases h2 : 1 ≤ a2 ∧ a2 ≤ 512 <;> simp [h0, h1, h2]
end Go.Proofs.YtpkpjikkfikejaaQ
namespace Go.Proofs.YtpkpjikkfikejaaQ
open Go Go.RowKit Go.Proofs.YtpkpjikkfikejaaW.PrintWords Go.Proofs.YtpkpjikkfikejaaGp Go.Proofs.Ytpkpjikkfikejaa.PD

theorem impl_isSeed_f (a0 : Int) : impl_isSeed.f a0 = some (decide (0 ≤ a0 ∧ a0 ≤ 9999)) := by
  unfold impl_isSeed.f
  rw [impl_in]
  rfl
theorem impl_sizesOk_f (a0 a1 a2 : Int) : impl_sizesOk.f a0 a1 a2 = some (sizesB a0 a1 a2) := by
  unfold impl_sizesOk.f sizesB
  simp only [impl_isSeed_f, impl_in, Option.bind_some]
  by_cases h0 : 0 ≤ a0 ∧ a0 ≤ 9999 <;> by_cases h1 : 1 ≤ a1 ∧ a1 ≤ 8 <;> by_cases h2 : 1 ≤ a2 ∧ a2 ≤ 512 <;> simp [h0, h1, h2]
theorem impl_NewBloom_f (a0 a1 a2 : Int) : impl_NewBloom.f a0 a1 a2 = some (if sizesB a0 a1 a2 = true then (a0, a1, a2, blankV a2, true) else (0, 0, 0, [], false)) := by
  unfold impl_NewBloom.f
  rw [impl_sizesOk_f]
  simp only [Option.bind_some]
  by_cases hs : sizesB a0 a1 a2 = true
  · obtain ⟨_, _, p4, p5⟩ := sizesB_ok hs
    have hw : impl_words.f a2 = some ((a2 + 15) / 16) := by
      unfold impl_words.f
      rw [w64 (x := a2 + 16) (by omega) (by omega), w64 (x := a2 + 16 - 1) (by omega) (by omega), Int.tdiv_eq_ediv_of_nonneg (by omega), w64 (by omega) (by omega), show a2 + 16 - 1 = a2 + 15 from by omega]
    have hb : impl_blank.f a2 = some (a2, blankV a2) := by
      unfold impl_blank.f
      rw [hw]
      simp only [Option.bind_some]
      rw [if_pos (by omega), if_pos (by omega)]
      rfl
    rw [hb, if_pos hs, if_pos hs]
    rfl
  · rw [if_neg hs, if_neg hs]
theorem impl_BloomOf_l0 (x29 : List ByteArray) (a0 a1 n : Int) (hl : (x29.length : Int) ≤ 9223372036854775806) (h0 : 0 ≤ a0) (h0' : a0 ≤ 1000000) (h1 : 0 ≤ a1) (h1' : a1 ≤ 1000000) (hn : 1 ≤ n) (hn' : n ≤ 1000000) : ∀ (t pre : List ByteArray) (l : List Int), x29 = pre ++ t → (∀ s ∈ t, (s.size : Int) ≤ 9223372036854775806) → (n + 15) / 16 ≤ (l.length : Int) →
    Ev (fun k => impl_BloomOf.l0 k x29 (x29.length : Int) (pre.length : Int) a0 a1 n l) (a0, a1, n, addK a0 a1.toNat n l t, true) := by
  intro t
  induction t with
  | nil =>
    intro pre l e hz hb
    refine ev_succ ?_
    simp only [impl_BloomOf.l0]
    exact ev_neg (by rw [e]; exact not_lt_end) (ev_some rfl)
  | cons s t ih =>
    intro pre l e hz hb
    have hm : ((pre.length : Nat) : Int) < (x29.length : Int) := by rw [e]; exact lt_mid
    have hg : rdOf ByteArray.empty x29 (pre.length : Int) = s := by rw [e]; exact rdOf_mid
    refine ev_succ ?_
    simp only [impl_BloomOf.l0, hg]
    refine ev_pos hm (ev_pos (by omega) (ev_pos hm (ev_bind _ (impl_put_f a0 a1 n l s (hz s (by simp)) h0 h0' h1 h1' hn hn' hb) ?_)))
    rw [winc (by omega)]
    have := ih (pre ++ [s]) (addP l (probesL a0 s n a1.toNat 0)) (by rw [e]; simp) (fun s h => hz s (by simp [h])) (by rw [addP_len]; exact hb)
    rw [len_one] at this
    exact this
theorem impl_BloomOf_f (a0 a1 a2 : Int) (l : List ByteArray) (hl : (l.length : Int) ≤ 9223372036854775806) (hz : ∀ s ∈ l, (s.size : Int) ≤ 9223372036854775806) :
    Ev (fun k => impl_BloomOf.f k a0 a1 a2 l) (bloomV a0 a1 a2 l) := by
  unfold impl_BloomOf.f
  rw [impl_NewBloom_f]
  simp only [Option.bind_some]
  by_cases hs : sizesB a0 a1 a2 = true
  · obtain ⟨⟨p0, p1⟩, ⟨p2, p3⟩, p4, p5⟩ := sizesB_ok hs
    have hbl := blankV_len p4
    simp only [if_pos hs]
    refine ev_pos trivial (ev_bind _ (impl_AreKeys_f l hl hz) (ev_succ ?_))
    simp only [impl_BloomOf.j0]
    by_cases hk : areKeysB l = true
    · refine ev_neg (by simp [hk]) ?_
      have := impl_BloomOf_l0 l a0 a1 a2 hl p0 (by omega) (by omega) (by omega) p4 (by omega) l [] (blankV a2) rfl hz (by omega)
      simpa [bloomV, hs, hk] using this
    · exact ev_pos (by simp [hk]) (ev_some (by simp [bloomV, hk]))
  · simp only [if_neg hs]
    refine ev_neg (by simp) (ev_succ ?_)
    simp only [impl_BloomOf.j0]
    exact ev_pos trivial (ev_some (by simp [bloomV, hs]))
end Go.Proofs.YtpkpjikkfikejaaQ
namespace Go.Proofs.YtpkpjikkfikejaaQ
open Go Go.RowKit Go.Proofs.YtpkpjikkfikejaaW.PrintWords Go.Proofs.YtpkpjikkfikejaaGp Go.Proofs.Ytpkpjikkfikejaa.PD

def all16 (l : List Int) : Bool := l.all (fun x => decide (0 ≤ x ∧ x ≤ 65535))
def bitsB (n : Int) (l : List Int) : Bool :=
  decide (0 ≤ n ∧ n ≤ 4096) && (decide ((l.length : Int) = (n + 15) / 16) && (all16 l && (decide (n % 16 = 0) || (shr .i64 (rd l ((l.length : Int) - 1)) (n % 16) == 0))))
theorem bitsB_len {n : Int} {l : List Int} (h : bitsB n l = true) : 0 ≤ n ∧ n ≤ 4096 ∧ (l.length : Int) = (n + 15) / 16 := by
  simp only [bitsB, Bool.and_eq_true, decide_eq_true_eq] at h
  exact ⟨h.1.1, h.1.2, h.2.1⟩
theorem impl_IsBits_l0 (n : Int) (x20 : List Int) (c : 0 ≤ n ∧ n ≤ 4096) (c2 : (x20.length : Int) = (n + 15) / 16) : ∀ (t pre : List Int), x20 = pre ++ t →
    Ev (fun k => impl_IsBits.l0 k x20 (x20.length : Int) (pre.length : Int) n x20) (all16 t && (decide (n % 16 = 0) || (shr .i64 (rd x20 ((x20.length : Int) - 1)) (n % 16) == 0))) := by
  intro t
  induction t with
  | nil =>
    intro pre h
    refine ev_succ ?_
    simp only [impl_IsBits.l0]
    refine ev_neg (by rw [h]; exact not_lt_end) ?_
    rw [Int.tmod_eq_emod_of_nonneg c.1]
    by_cases c4 : n % 16 = 0
    · exact ev_pos c4 (ev_some (by simp [all16, c4]))
    · refine ev_neg c4 ?_
      rw [w64 (x := (x20.length : Int) - 1) (by omega) (by omega)]
      refine ev_pos (by omega) (ev_pos (by omega) (ev_pos (by omega) (ev_some ?_)))
      simp [all16, c4]
  | cons s t ih =>
    intro pre h
    have hm : ((pre.length : Nat) : Int) < (x20.length : Int) := by rw [h]; exact lt_mid
    have hg : rd x20 (pre.length : Int) = s := by rw [h]; exact rd_mid
    refine ev_succ ?_
    simp only [impl_IsBits.l0, hg, impl_in]
    refine ev_pos hm (ev_pos (by omega) (ev_pos hm (ev_bind _ (Ev.now _) ?_)))
    by_cases c5 : 0 ≤ s ∧ s ≤ 65535
    · refine ev_pos (by simpa using c5) ?_
      rw [winc (by omega)]
      have := ih (pre ++ [s]) (by rw [h]; simp)
      rw [len_one] at this
      rw [show all16 (s :: t) = all16 t from by simp [all16, c5]]
      exact this
    · refine ev_neg (by simpa using c5) (ev_some ?_)
      have : decide (0 ≤ s ∧ s ≤ 65535) = false := decide_eq_false c5
      simp only [all16, List.all_cons, this, Bool.false_and]
theorem impl_words_f {n : Int} (h0 : 0 ≤ n) (h1 : n ≤ 4096) : impl_words.f n = some ((n + 15) / 16) := by
  unfold impl_words.f
  rw [w64 (x := n + 16) (by omega) (by omega), w64 (x := n + 16 - 1) (by omega) (by omega), Int.tdiv_eq_ediv_of_nonneg (by omega), w64 (by omega) (by omega), show n + 16 - 1 = n + 15 from by omega]
theorem impl_IsBits_f (n : Int) (l : List Int) : Ev (fun k => impl_IsBits.f k n l) (bitsB n l) := by
  unfold impl_IsBits.f
  simp only [impl_in]
  refine ev_bind _ (Ev.now _) ?_
  by_cases c : 0 ≤ n ∧ n ≤ 4096
  · refine ev_pos (by simpa using c) ?_
    rw [impl_words_f c.1 c.2]
    simp only [Option.bind_some]
    refine ev_succ ?_
    simp only [impl_IsBits.j0]
    by_cases c2 : (l.length : Int) = (n + 15) / 16
    · refine ev_neg (by simp [c2]) ?_
      have := impl_IsBits_l0 n l c c2 l [] rfl
      rw [show bitsB n l = (all16 l && (decide (n % 16 = 0) || (shr .i64 (rd l ((l.length : Int) - 1)) (n % 16) == 0))) from by simp [bitsB, c, c2]]
      exact this
    · exact ev_pos (by simpa using c2) (ev_some (by simp [bitsB, c2]))
  · refine ev_neg (by simpa using c) (ev_succ ?_)
    simp only [impl_IsBits.j0]
    refine ev_pos (by trivial) (ev_some ?_)
    have : decide (0 ≤ n ∧ n ≤ 4096) = false := decide_eq_false c
    simp only [bitsB, this, Bool.false_and]
def isBloomB (a0 a1 a2 : Int) (l : List Int) : Bool := sizesB a0 a1 a2 && bitsB a2 l
theorem isBloomB_ok {a0 a1 a2 : Int} {l : List Int} (h : isBloomB a0 a1 a2 l = true) : (0 ≤ a0 ∧ a0 ≤ 9999) ∧ (1 ≤ a1 ∧ a1 ≤ 8) ∧ (1 ≤ a2 ∧ a2 ≤ 512) ∧ (l.length : Int) = (a2 + 15) / 16 := by
  rw [isBloomB, Bool.and_eq_true] at h
  obtain ⟨x, y, z⟩ := sizesB_ok h.1
  exact ⟨x, y, z, (bitsB_len h.2).2.2⟩
theorem impl_IsBloom_f (a0 a1 a2 : Int) (l : List Int) : Ev (fun k => impl_IsBloom.f k a0 a1 a2 l) (isBloomB a0 a1 a2 l) := by
  unfold impl_IsBloom.f
  rw [impl_sizesOk_f]
  simp only [Option.bind_some]
  by_cases c : sizesB a0 a1 a2 = true
  · exact ev_pos c (ev_bind _ (impl_IsBits_f a2 l) (ev_some (by simp [isBloomB, c])))
  · exact ev_neg c (ev_some (by simp [isBloomB, c]))
end Go.Proofs.YtpkpjikkfikejaaQ
namespace Go.Proofs.YtpkpjikkfikejaaQ
open Go Go.RowKit Go.Proofs.YtpkpjikkfikejaaW.PrintWords Go.Proofs.YtpkpjikkfikejaaW.PrintMore Go.Proofs.YtpkpjikkfikejaaGp

theorem all16_ok {l : List Int} : all16 l = true ↔ okW l := by
  unfold all16 okW
  rw [List.all_eq_true]
  simp
theorem bit_word {l : List Int} {i j : Nat} (hj : j < 16) : bitN l (16 * i + j) = (l.getD i 0).toNat.testBit j := by
  unfold bitN
  rw [show (16 * i + j) / 16 = i from by omega, show (16 * i + j) % 16 = j from by omega]
def inW (l : List Int) (ps : List Int) : Prop := ∀ p ∈ ps, 0 ≤ p ∧ p / 16 < (l.length : Int)
theorem atV_int {l : List Int} (hl : okW l) {p : Int} (h0 : 0 ≤ p) (h1 : p / 16 < (l.length : Int)) : atV l p = bitN l p.toNat := by
  have := atV_bit hl (p := p.toNat) (by omega)
  rwa [Int.toNat_of_nonneg h0] at this
theorem addP_ok : ∀ (ps l : List Int), okW l → inW l ps → okW (addP l ps) ∧ ∀ q, bitN (addP l ps) q = (bitN l q || ps.any fun p => decide (p.toNat = q))
  | [], l, h, _ => ⟨h, fun q => by simp [addP]⟩
  | p :: ps, l, h, hp => by
    obtain ⟨p0, p1⟩ := hp p (by simp)
    have e : setV l p = setV l ((p.toNat : Nat) : Int) := by rw [Int.toNat_of_nonneg p0]
    have h1 : okW (setV l p) := by rw [e]; exact okW_setV h (by omega)
    obtain ⟨g1, g2⟩ := addP_ok ps (setV l p) h1 (fun x hx => by rw [setV_len]; exact hp x (by simp [hx]))
    refine ⟨g1, fun q => ?_⟩
    change bitN (addP (setV l p) ps) q = _
    rw [g2, e, bit_setV h (by omega), List.any_cons]
    cases decide (p.toNat = q) <;> simp
theorem addP_all {ps l : List Int} (h : okW l) (hp : inW l ps) : ps.all (atV (addP l ps)) = true := by
  obtain ⟨g1, g2⟩ := addP_ok ps l h hp
  rw [List.all_eq_true]
  intro p hm
  obtain ⟨p0, p1⟩ := hp p hm
  rw [atV_int g1 p0 (by rw [addP_len]; exact p1), g2]
  simp only [Bool.or_eq_true, List.any_eq_true, decide_eq_true_eq]
  exact .inr ⟨p, hm, rfl⟩
theorem bitsB_setV {n : Int} {l : List Int} (h : bitsB n l = true) {p : Int} (h0 : 0 ≤ p) (h1 : p < n) : bitsB n (setV l p) = true := by
  obtain ⟨n0, n1, hlen⟩ := bitsB_len h
  have hl : okW l := by
    simp only [bitsB, Bool.and_eq_true] at h
    exact all16_ok.1 h.2.2.1
  have hp16 : p.toNat / 16 < l.length := by omega
  have e : setV l p = setV l ((p.toNat : Nat) : Int) := by rw [Int.toNat_of_nonneg h0]
  have hl2 : okW (setV l p) := by rw [e]; exact okW_setV hl hp16
  simp only [bitsB, Bool.and_eq_true, decide_eq_true_eq, Bool.or_eq_true, beq_iff_eq] at h ⊢
  refine ⟨h.1, by rw [setV_len]; exact h.2.1, all16_ok.2 hl2, ?_⟩
  rcases h.2.2.2 with c | c
  · exact .inl c
  · by_cases cm : n % 16 = 0
    · exact .inl cm
    right
    rw [setV_len]
    obtain ⟨w, hw, hg, e2⟩ := setV_get hl hp16
    rw [← e] at e2
    obtain ⟨k, hk⟩ : ∃ k : Nat, (l.length : Int) - 1 = (k : Int) := ⟨l.length - 1, by omega⟩
    have hkl : k < l.length := by omega
    obtain ⟨v, hv, _⟩ := okW_get hl hkl
    have hm : n % 16 = (((n % 16).toNat : Nat) : Int) := by omega
    have rv : rd l (k : Int) = (v : Int) := by rw [← hv]; rfl
    rw [hk, hm] at c ⊢
    rw [rv, shrN (by omega)] at c
    rw [e2]
    by_cases ck : p.toNat / 16 = k
    · subst ck
      have hwv : w = v := by rw [hg] at hv; exact Int.ofNat.inj hv
      subst hwv
      have r : rd (l.set (p.toNat / 16) ((w ||| 2 ^ (p.toNat % 16) : Nat) : Int)) ((p.toNat / 16 : Nat) : Int) = ((w ||| 2 ^ (p.toNat % 16) : Nat) : Int) := rd_set hkl
      rw [r, shrN (by omega)]
      have hlt : w < 2 ^ (n % 16).toNat := by
        have hz : w / 2 ^ (n % 16).toNat = 0 := by omega
        rcases (Nat.div_eq_zero_iff).1 hz with hz | hz
        · have := Nat.two_pow_pos (n % 16).toNat
          omega
        · exact hz
      have hpm : p.toNat % 16 < (n % 16).toNat := by omega
      have hlt2 : 2 ^ (p.toNat % 16) < 2 ^ (n % 16).toNat := Nat.pow_lt_pow_right (by decide) hpm
      have := Nat.or_lt_two_pow hlt hlt2
      rw [Nat.div_eq_of_lt this]
      rfl
    · have r : rd (l.set (p.toNat / 16) ((w ||| 2 ^ (p.toNat % 16) : Nat) : Int)) (k : Int) = rd l (k : Int) := by
        simp [rd, List.getElem?_set_ne ck]
      rw [r, rv, shrN (by omega)]
      exact c
end Go.Proofs.YtpkpjikkfikejaaQ
namespace Go.Proofs.YtpkpjikkfikejaaQ
open Go Go.RowKit Go.Proofs.YtpkpjikkfikejaaW.PrintWords Go.Proofs.YtpkpjikkfikejaaGp Go.Proofs.Ytpkpjikkfikejaa.PD

def addV (a0 a1 a2 : Int) (l : List Int) (s : ByteArray) : Int × Int × Int × List Int × Bool :=
  if (isBloomB a0 a1 a2 l && isKeyB s) = true then (a0, a1, a2, addP l (probesL a0 s a2 a1.toNat 0), true) else (0, 0, 0, [], false)
theorem impl_BloomAdd_f (a0 a1 a2 : Int) (l : List Int) (s : ByteArray) (hz : (s.size : Int) ≤ 9223372036854775806) : Ev (fun k => impl_BloomAdd.f k a0 a1 a2 l s) (addV a0 a1 a2 l s) := by
  unfold impl_BloomAdd.f
  refine ev_bind _ (impl_IsBloom_f a0 a1 a2 l) ?_
  by_cases c : isBloomB a0 a1 a2 l = true
  · obtain ⟨⟨p0, p1⟩, ⟨p2, p3⟩, ⟨p4, p5⟩, p6⟩ := isBloomB_ok c
    refine ev_pos c (ev_bind _ (impl_IsKey_f s hz) (ev_succ ?_))
    simp only [impl_BloomAdd.j0]
    by_cases c2 : isKeyB s = true
    · have hc : impl_cloneBits.f a2 l = some (a2, l) := by
        unfold impl_cloneBits.f slices_Clone_int_int.f
        simp only [Option.bind_some, List.length_nil, List.nil_append]
        rw [if_pos (by omega)]
        rfl
      rw [hc]
      refine ev_neg (by simp [c2]) ?_
      simp only [Option.bind_some]
      exact ev_bind _ (impl_put_f a0 a1 a2 l s hz p0 (by omega) (by omega) (by omega) p4 (by omega) (by omega)) (ev_some (by simp [addV, c, c2]))
    · exact ev_pos (by simp [c2]) (ev_some (by simp [addV, c2]))
  · refine ev_neg c (ev_succ ?_)
    simp only [impl_BloomAdd.j0]
    exact ev_pos (by trivial) (ev_some (by simp [addV, c]))
end Go.Proofs.YtpkpjikkfikejaaQ
