import Derived.Test.YtfedgkmklcialaaCF1
import Derived.Test.YtfedgkmklcialaaCF2
import Derived.Test.YtfedgkmklcialaaCF4
import Derived.Test.YtfedgkmklcialaaCF0
import Derived.Lib.Bytes
-- printed by a program of this session (wip/gp) out of the translation; Lean checks it
namespace Go.Proofs.Ytfedgkmklcialaa.PM
open Go.RowKit Go.Proofs.YtfedgkmklcialaaW.PrintWords Go.Proofs.YtfedgkmklcialaaW.PrintLast Go.Proofs.YtfedgkmklcialaaW.PrintMore Go.Proofs.YtfedgkmklcialaaSq
attribute [local go_sem] max2_int min2_int max_two min_two max_three min_three max_four min_four   -- for this text's walks alone
attribute [local go_sem] Go.Proofs.YtfedgkmklcialaaGp.str_geq Go.Proofs.YtfedgkmklcialaaGp.str_gtr Go.Proofs.YtfedgkmklcialaaGp.str_leq
set_option linter.unusedVariables false
set_option linter.unusedSimpArgs false

set_option maxHeartbeats 8000000
set_option maxRecDepth 100000
mutual
def laws_FnFrontsMerge.j0 : Nat → Bool → Bool → Int → List Int → List ByteArray → Int → List Int → List ByteArray → Int → List Int → List ByteArray → Option (Bool)
 | 0, _, _, _, _, _, _, _, _, _, _, _ => none
 | k + 1, x10, x79, x661000, x661001, x661002, x662000, x662001, x662002, x671000, x671001, x671002 => if x79 = true then (some false) else (if x10 = true then (laws_FnFrontsMerge.l0 k ([] : List ByteArray) 0 (x671001.length : Int) 0 x661000 x661001 x661002 x662000 x662001 x662002 x671000 x671001 x671002) else (some true))
def laws_FnFrontsMerge.l0 : Nat → List ByteArray → Int → Int → Int → Int → List Int → List ByteArray → Int → List Int → List ByteArray → Int → List Int → List ByteArray → Option (Bool)
 | 0, _, _, _, _, _, _, _, _, _, _, _, _, _ => none
 | k + 1, x11, x12, x84, x85, x661000, x661001, x661002, x662000, x662001, x662002, x671000, x671001, x671002 => if x85 < x84 then ((impl_FrontKey.f k x671000 x671001 x671002 x85).bind fun bt682 => ((impl_FrontHas.f k x661000 x661001 x661002 bt682.1).bind fun bt684 => ((impl_FrontHas.f k x662000 x662001 x662002 bt682.1).bind fun bt686 => (if bt682.2 = true then (if bt684.2 = true then (if bt686.2 = true then (if bt684.1 = true then (if x11.length < 8796093022208 then (laws_FnFrontsMerge.l0 k (x11 ++ [bt682.1]) (wrap64 (x12 + (wrap64 ((bt682.1.size : Int) + 1)))) x84 (wrap64 (x85 + 1)) x661000 x661001 x661002 x662000 x662001 x662002 x671000 x671001 x671002) else (none)) else (if bt686.1 = true then (if x11.length < 8796093022208 then (laws_FnFrontsMerge.l0 k (x11 ++ [bt682.1]) (wrap64 (x12 + (wrap64 ((bt682.1.size : Int) + 1)))) x84 (wrap64 (x85 + 1)) x661000 x661001 x661002 x662000 x662001 x662002 x671000 x671001 x671002) else (none)) else (some false))) else (some false)) else (some false)) else (some false))))) else ((impl_BuildFront.f k x11 x661000).bind fun bt694 => ((impl_FrontBytes.f k x671000 x671001 x671002).bind fun bt703 => (if bt694.2.2.2 = true then (if bt703.2 = true then (if bt703.1 > x12 then (laws_FnFrontsMerge.j2 k true x661000 x661001 x661002 x662000 x662001 x662002 x671000 x671001 x671002) else ((laws_pSameInts.f k bt694.2.1 x671001).bind fun t705 => (if t705 = true then ((laws_pSameTexts.f k bt694.2.2.1 x671002).bind fun t706 => (laws_FnFrontsMerge.j2 k (!t706) x661000 x661001 x661002 x662000 x662001 x662002 x671000 x671001 x671002)) else (laws_FnFrontsMerge.j2 k true x661000 x661001 x661002 x662000 x662001 x662002 x671000 x671001 x671002)))) else (laws_FnFrontsMerge.j2 k true x661000 x661001 x661002 x662000 x662001 x662002 x671000 x671001 x671002)) else (laws_FnFrontsMerge.j2 k true x661000 x661001 x661002 x662000 x662001 x662002 x671000 x671001 x671002))))
def laws_FnFrontsMerge.j2 : Nat → Bool → Int → List Int → List ByteArray → Int → List Int → List ByteArray → Int → List Int → List ByteArray → Option (Bool)
 | 0, _, _, _, _, _, _, _, _, _, _ => none
 | k + 1, x172, x661000, x661001, x661002, x662000, x662001, x662002, x671000, x671001, x671002 => if x172 = true then (some false) else (laws_FnFrontsMerge.l1 k (x661001.length : Int) 0 x661000 x661001 x661002 x662000 x662001 x662002 x671000 x671001 x671002)
def laws_FnFrontsMerge.l1 : Nat → Int → Int → Int → List Int → List ByteArray → Int → List Int → List ByteArray → Int → List Int → List ByteArray → Option (Bool)
 | 0, _, _, _, _, _, _, _, _, _, _, _ => none
 | k + 1, x175, x176, x661000, x661001, x661002, x662000, x662001, x662002, x671000, x671001, x671002 => if x176 < x175 then ((impl_FrontKey.f k x661000 x661001 x661002 x176).bind fun bt707 => ((impl_FrontHas.f k x671000 x671001 x671002 bt707.1).bind fun bt709 => (if bt707.2 = true then (if bt709.2 = true then (if bt709.1 = true then (laws_FnFrontsMerge.l1 k x175 (wrap64 (x176 + 1)) x661000 x661001 x661002 x662000 x662001 x662002 x671000 x671001 x671002) else (some false)) else (some false)) else (some false)))) else (laws_FnFrontsMerge.l2 k (x662001.length : Int) 0 x662000 x662001 x662002 x671000 x671001 x671002)
def laws_FnFrontsMerge.l2 : Nat → Int → Int → Int → List Int → List ByteArray → Int → List Int → List ByteArray → Option (Bool)
 | 0, _, _, _, _, _, _, _, _ => none
 | k + 1, x204, x205, x662000, x662001, x662002, x671000, x671001, x671002 => if x205 < x204 then ((impl_FrontKey.f k x662000 x662001 x662002 x205).bind fun bt711 => ((impl_FrontHas.f k x671000 x671001 x671002 bt711.1).bind fun bt713 => (if bt711.2 = true then (if bt713.2 = true then (if bt713.1 = true then (laws_FnFrontsMerge.l2 k x204 (wrap64 (x205 + 1)) x662000 x662001 x662002 x671000 x671001 x671002) else (some false)) else (some false)) else (some false)))) else (some true)
end
def laws_FnFrontsMerge.f (k : Nat) (l0 : List Int) (l1 : List Int) : Option (Bool) := (laws_big.f l0 l1).bind fun t645 => (if t645 = true then (some true) else ((spec_DrawMergeFronts.f k l0).bind fun bt646 => ((impl_MergeFronts.f k bt646.1 bt646.2.1 bt646.2.2.1 bt646.2.2.2.1 bt646.2.2.2.2.1 bt646.2.2.2.2.2).bind fun bt662 => ((spec_MergeFronts.f k bt646.1 bt646.2.1 bt646.2.2.1 bt646.2.2.2.1 bt646.2.2.2.2.1 bt646.2.2.2.2.2).bind fun bt671 => (if (bt662.2.2.2 != bt671.2.2.2) = true then (laws_FnFrontsMerge.j0 k bt671.2.2.2 true bt646.1 bt646.2.1 bt646.2.2.1 bt646.2.2.2.1 bt646.2.2.2.2.1 bt646.2.2.2.2.2 bt662.1 bt662.2.1 bt662.2.2.1) else (if bt662.1 = bt671.1 then ((laws_pSameInts.f k bt662.2.1 bt671.2.1).bind fun t680 => (if t680 = true then ((laws_pSameTexts.f k bt662.2.2.1 bt671.2.2.1).bind fun t681 => (laws_FnFrontsMerge.j0 k bt671.2.2.2 (!t681) bt646.1 bt646.2.1 bt646.2.2.1 bt646.2.2.2.1 bt646.2.2.2.2.1 bt646.2.2.2.2.2 bt662.1 bt662.2.1 bt662.2.2.1)) else (laws_FnFrontsMerge.j0 k bt671.2.2.2 true bt646.1 bt646.2.1 bt646.2.2.1 bt646.2.2.2.1 bt646.2.2.2.2.1 bt646.2.2.2.2.2 bt662.1 bt662.2.1 bt662.2.2.1))) else (laws_FnFrontsMerge.j0 k bt671.2.2.2 true bt646.1 bt646.2.1 bt646.2.2.1 bt646.2.2.2.1 bt646.2.2.2.2.1 bt646.2.2.2.2.2 bt662.1 bt662.2.1 bt662.2.2.1)))))))
theorem laws_FnFrontsMerge.j0.dead (k : Nat) (y0 : Bool) (y2 : Int) (y3 : List Int) (y4 : List ByteArray) (y5 : Int) (y6 : List Int) (y7 : List ByteArray) (y8 : Int) (y9 : List Int) (y10 : List ByteArray) : laws_FnFrontsMerge.j0 k y0 true y2 y3 y4 y5 y6 y7 y8 y9 y10 ≠ some true := by cases k <;> simp [laws_FnFrontsMerge.j0]
theorem laws_FnFrontsMerge.j2.dead (k : Nat) (y1 : Int) (y2 : List Int) (y3 : List ByteArray) (y4 : Int) (y5 : List Int) (y6 : List ByteArray) (y7 : Int) (y8 : List Int) (y9 : List ByteArray) : laws_FnFrontsMerge.j2 k true y1 y2 y3 y4 y5 y6 y7 y8 y9 ≠ some true := by cases k <;> simp [laws_FnFrontsMerge.j2]
theorem laws_FnFrontsMerge.calls (k : Nat) (A0 : Option Addr) (c0 : Nat) (l0 : List Int) (A1 : Option Addr) (c1 : Nat) (l1 : List Int) (r : Bool) (w : World) (hr0 : Kd.C (Kd.int .u8) w A0 l0.length l0) (hc0 : l0.length ≤ c0) (hr1 : Kd.C (Kd.int .u8) w A1 l1.length l1) (hc1 : l1.length ≤ c1) (h : laws_FnFrontsMerge.f k l0 l1 = some r) (hT_ : r = true) :
  Calls Try.prog 10 #[.slice A0 l0.length c0, .slice A1 l1.length c1] w fun e w' => e = .returned (.bool r) ∧ Below w.heap.size w w' := by
 have hu26 := Try.underlying26; have HR0 := am hr0; have HC0 := am hc0; clear hr0 hc0; have HR1 := am hr1; have HC1 := am hc1; clear hr1 hc1; have HB := am (Below.refl w.heap.size w); have H : ((laws_big.f l0 l1).bind fun t645 => (if t645 = true then (some true) else ((spec_DrawMergeFronts.f k l0).bind fun bt646 => ((impl_MergeFronts.f k bt646.1 bt646.2.1 bt646.2.2.1 bt646.2.2.2.1 bt646.2.2.2.2.1 bt646.2.2.2.2.2).bind fun bt662 => ((spec_MergeFronts.f k bt646.1 bt646.2.1 bt646.2.2.1 bt646.2.2.2.1 bt646.2.2.2.2.1 bt646.2.2.2.2.2).bind fun bt671 => (if (bt662.2.2.2 != bt671.2.2.2) = true then (laws_FnFrontsMerge.j0 k bt671.2.2.2 true bt646.1 bt646.2.1 bt646.2.2.1 bt646.2.2.2.1 bt646.2.2.2.2.1 bt646.2.2.2.2.2 bt662.1 bt662.2.1 bt662.2.2.1) else (if bt662.1 = bt671.1 then ((laws_pSameInts.f k bt662.2.1 bt671.2.1).bind fun t680 => (if t680 = true then ((laws_pSameTexts.f k bt662.2.2.1 bt671.2.2.1).bind fun t681 => (laws_FnFrontsMerge.j0 k bt671.2.2.2 (!t681) bt646.1 bt646.2.1 bt646.2.2.1 bt646.2.2.2.1 bt646.2.2.2.2.1 bt646.2.2.2.2.2 bt662.1 bt662.2.1 bt662.2.2.1)) else (laws_FnFrontsMerge.j0 k bt671.2.2.2 true bt646.1 bt646.2.1 bt646.2.2.1 bt646.2.2.2.1 bt646.2.2.2.2.1 bt646.2.2.2.2.2 bt662.1 bt662.2.1 bt662.2.2.1))) else (laws_FnFrontsMerge.j0 k bt671.2.2.2 true bt646.1 bt646.2.1 bt646.2.2.1 bt646.2.2.2.1 bt646.2.2.2.2.1 bt646.2.2.2.2.2 bt662.1 bt662.2.1 bt662.2.2.1)))))))) = some r := h; clear h; have HQT_ := am hT_; clear hT_; obtain ⟨t645, A3, H⟩ := ob H; (try dsimp -simprocs only at H)
 by_cases c4 : t645 = true
 ·subst c4
  rw [if_pos rfl] at H; obtain rfl := Option.some.inj H
  go_enter Try.func10, Try.ntmps10
  go_wp2_with (first | ((with_reducible refine gate_callee (f := 34) rfl ?_); refine gL (some 36) Try.func34 #[.slice A0 l0.length c0, .slice A1 l1.length c1] ?_; (with_reducible refine (laws_big.calls _ _ l0 _ _ l1 true _ ?side1 ?side2 ?side3 ?side4 A3.out).mono ?_); (case side1 => exact Cz HR0.out); (case side2 => exact HC0.out); (case side3 => exact Cz HR1.out); (case side4 => exact HC1.out); rintro e w' ⟨rfl, ⟨nd, rfl⟩⟩; refine ⟨_, rfl, ?_⟩))
  go_ret
  exact ⟨eZ, Bz HB.out⟩
 ·replace c4 := Bool.eq_false_iff.mpr c4
  subst c4
  rw [if_neg (show ¬ (false = true) by decide)] at H; obtain ⟨⟨t646, t647, t650, t653, t654, t657⟩, A5, H⟩ := ob H; (try dsimp -simprocs only at H); obtain ⟨⟨t662, t663, t666, t669⟩, A6, H⟩ := ob H; (try dsimp -simprocs only at H); obtain ⟨⟨t671, t672, t675, t678⟩, A7, H⟩ := ob H; (try dsimp -simprocs only at H); have HC8 := am H; clear H
  go_enter Try.func10, Try.ntmps10
  go_upto_region 6 with (first | ((with_reducible refine gate_callee (f := 34) rfl ?_); refine gL (some 36) Try.func34 #[.slice A0 l0.length c0, .slice A1 l1.length c1] ?_; (with_reducible refine (laws_big.calls _ _ l0 _ _ l1 false _ ?side1 ?side2 ?side3 ?side4 A3.out).mono ?_); (case side1 => exact Cz HR0.out); (case side2 => exact HC0.out); (case side3 => exact Cz HR1.out); (case side4 => exact HC1.out); rintro e w' ⟨rfl, ⟨nd, rfl⟩⟩; refine ⟨_, rfl, ?_⟩) | ((with_reducible refine gate_callee (f := 35) rfl ?_); refine gL (some 39) Try.func35 #[.slice A0 l0.length c0] ?_; (with_reducible refine (spec_DrawMergeFronts.calls k _ _ l0 t646 t647 t650 t653 t654 t657 _ ?side1 ?side2 A5.out).mono ?_); (case side1 => exact Cz HR0.out); (case side2 => exact HC0.out); rintro e w9 ⟨v648, v651, v655, v658, rfl, ho0, ho1, ho2, ho3, hb⟩; refine ⟨_, rfl, ?_⟩; have n0_ := Rl ho0 HB; have n1_ := Rl ho1 HB; have n2_ := Rl ho2 HB; have n3_ := Rl ho3 HB; have n4_ := Bb HB hb; clear HB; revert n0_ n1_ n2_ n3_ n4_; intro HO649 HO652 HO656 HO659 HB; (try clear hb); (try clear hb2); (try clear hk); (try clear hi); (try clear ho0); (try clear ho1); (try clear ho2); (try clear ho3)) | ((with_reducible refine gate_dst (N := 5) rfl ?_); refine bE 5 #[.int .i64 0, .slice none 0 0, .slice none 0 0] 26 ?_; intro gb660 hg w10 hbox hb; have n0_ := Rb HO649 hb; have n1_ := Rb HO652 hb; have n2_ := Rb HO656 hb; have n3_ := Rb HO659 hb; have n4_ := Bb HB hb; have n5_ := am (hbox); have n6_ := Gl HB hg; have n7_ := Gl HB hg; clear HO649 HO652 HO656 HO659 HB; revert n0_ n1_ n2_ n3_ n4_ n5_ n6_ n7_; intro HO649 HO652 HO656 HO659 HB BK660 GW660 GE660; clear hb hbox hg) | ((with_reducible refine gate_dst (N := 6) rfl ?_); refine bE 6 #[.int .i64 0, .slice none 0 0, .slice none 0 0] 26 ?_; intro gb661 hg w11 hbox hb; have n0_ := Rb HO649 hb; have n1_ := Rb HO652 hb; have n2_ := Rb HO656 hb; have n3_ := Rb HO659 hb; have n4_ := Kb BK660 hb; have n5_ := Bc HB hb; have n6_ := am (hbox); have n7_ := Gm HB hg; have n8_ := Gm HB hg; have n9_ := Nl BK660 hg; have n10_ := Ng BK660 hg; clear HO649 HO652 HO656 HO659 BK660 HB; revert n0_ n1_ n2_ n3_ n4_ n5_ n6_ n7_ n8_ n9_ n10_; intro HO649 HO652 HO656 HO659 BK660 HB BK661 GW661 GE661 NB660_661 NB661_660; clear hb hbox hg; have hnb12 := NB660_661.out; have hnc12 := NB661_660.out; obtain ⟨hcz13_0, hcz13_1, hcz13_2, hfz13_0, hfz13_1, hfz13_2⟩ := cf3 (w := w11) BK660; obtain ⟨Ao14, co14, eo14⟩ := Kd.R_slice HO649.out; subst eo14; obtain ⟨Ao15, co15, eo15⟩ := Kd.R_slice HO652.out; subst eo15; obtain ⟨hcz16_0, hcz16_1, hcz16_2, hfz16_0, hfz16_1, hfz16_2⟩ := cf3 (w := w11) BK661; obtain ⟨Ao17, co17, eo17⟩ := Kd.R_slice HO656.out; subst eo17; obtain ⟨Ao18, co18, eo18⟩ := Kd.R_slice HO659.out; subst eo18) | ((with_reducible refine gate_callee (f := 33) rfl ?_); refine gL (some 45) Try.func33 #[.agg #[.int .i64 t646, .slice Ao14 t647.length co14, .slice Ao15 t650.length co15], .agg #[.int .i64 t653, .slice Ao17 t654.length co17, .slice Ao18 t657.length co18]] ?_; (with_reducible refine (impl_MergeFronts.calls k t646 _ _ t647 _ _ t650 t653 _ _ t654 _ _ t657 t662 t663 t666 t669 _ ?side1 ?side2 ?side3 ?side4 ?side5 ?side6 ?side7 ?side8 A6.out).mono ?_); (case side1 => refine (Kd.R_reads' (e := 3) (base := w.heap.size) (ok := fun k_ => some k_ ≠ (.slice Ao17 t654.length co17 : Value).ownBlock) (n := t647.length) (c := co14) ?_).2.2; exact (Rz (Kd.R_mono (Kd.R_mono (Kd.R_far (p := ⟨gb661, 2, none⟩) (Kd.R_far (p := ⟨gb661, 1, none⟩) (Kd.R_far (p := ⟨gb661, 0, none⟩) (Kd.R_far (p := ⟨gb660, 2, none⟩) (Kd.R_far (p := ⟨gb660, 1, none⟩) (Kd.R_far (p := ⟨gb660, 0, none⟩) (Kd.R_types (Kd.R_types HO649.out BK660.out (by decide)) BK661.out (by decide)) (fun _ hk => hk.1.2) (.int .i64 t646)) (fun _ hk => hk.1.2) (.slice Ao14 t647.length co14)) (fun _ hk => hk.1.2) (.slice Ao15 t650.length co15)) (fun _ hk => hk.2) (.int .i64 t653)) (fun _ hk => hk.2) (.slice Ao17 t654.length co17)) (fun _ hk => hk.2) (.slice Ao18 t657.length co18)) (fun _ h_ => h_.1)) (fun _ h_ => h_.1)))); (case side2 => exact (Kd.R_reads' HO649.out).2.1); (case side3 => refine (Kd.R_reads' (e := 9) (base := w.heap.size) (ok := fun k_ => some k_ ≠ (.slice Ao18 t657.length co18 : Value).ownBlock) (n := t650.length) (c := co15) ?_).2.2; exact (Rz (Kd.R_mono (Kd.R_mono (Kd.R_far (p := ⟨gb661, 2, none⟩) (Kd.R_far (p := ⟨gb661, 1, none⟩) (Kd.R_far (p := ⟨gb661, 0, none⟩) (Kd.R_far (p := ⟨gb660, 2, none⟩) (Kd.R_far (p := ⟨gb660, 1, none⟩) (Kd.R_far (p := ⟨gb660, 0, none⟩) (Kd.R_types (Kd.R_types HO652.out BK660.out (by decide)) BK661.out (by decide)) (fun _ hk => hk.1.2) (.int .i64 t646)) (fun _ hk => hk.1.2) (.slice Ao14 t647.length co14)) (fun _ hk => hk.1.2) (.slice Ao15 t650.length co15)) (fun _ hk => hk.2) (.int .i64 t653)) (fun _ hk => hk.2) (.slice Ao17 t654.length co17)) (fun _ hk => hk.2) (.slice Ao18 t657.length co18)) (fun _ h_ => h_.1)) (fun _ h_ => h_.1)))); (case side4 => exact (Kd.R_reads' HO652.out).2.1); (case side5 => refine (Kd.R_reads' (e := 3) (base := w.heap.size) (ok := fun k_ => some k_ ≠ (.slice Ao14 t647.length co14 : Value).ownBlock) (n := t654.length) (c := co17) ?_).2.2; exact (Rz (Kd.R_mono (Kd.R_mono (Kd.R_far (p := ⟨gb661, 2, none⟩) (Kd.R_far (p := ⟨gb661, 1, none⟩) (Kd.R_far (p := ⟨gb661, 0, none⟩) (Kd.R_far (p := ⟨gb660, 2, none⟩) (Kd.R_far (p := ⟨gb660, 1, none⟩) (Kd.R_far (p := ⟨gb660, 0, none⟩) (Kd.R_types (Kd.R_types HO656.out BK660.out (by decide)) BK661.out (by decide)) (fun _ hk => hk.1.2) (.int .i64 t646)) (fun _ hk => hk.1.2) (.slice Ao14 t647.length co14)) (fun _ hk => hk.1.2) (.slice Ao15 t650.length co15)) (fun _ hk => hk.2) (.int .i64 t653)) (fun _ hk => hk.2) (.slice Ao17 t654.length co17)) (fun _ hk => hk.2) (.slice Ao18 t657.length co18)) (fun _ h_ => h_.1)) (fun _ h_ => h_.1)))); (case side6 => exact (Kd.R_reads' HO656.out).2.1); (case side7 => refine (Kd.R_reads' (e := 9) (base := w.heap.size) (ok := fun k_ => some k_ ≠ (.slice Ao15 t650.length co15 : Value).ownBlock) (n := t657.length) (c := co18) ?_).2.2; exact (Rz (Kd.R_mono (Kd.R_mono (Kd.R_far (p := ⟨gb661, 2, none⟩) (Kd.R_far (p := ⟨gb661, 1, none⟩) (Kd.R_far (p := ⟨gb661, 0, none⟩) (Kd.R_far (p := ⟨gb660, 2, none⟩) (Kd.R_far (p := ⟨gb660, 1, none⟩) (Kd.R_far (p := ⟨gb660, 0, none⟩) (Kd.R_types (Kd.R_types HO659.out BK660.out (by decide)) BK661.out (by decide)) (fun _ hk => hk.1.2) (.int .i64 t646)) (fun _ hk => hk.1.2) (.slice Ao14 t647.length co14)) (fun _ hk => hk.1.2) (.slice Ao15 t650.length co15)) (fun _ hk => hk.2) (.int .i64 t653)) (fun _ hk => hk.2) (.slice Ao17 t654.length co17)) (fun _ hk => hk.2) (.slice Ao18 t657.length co18)) (fun _ h_ => h_.1)) (fun _ h_ => h_.1)))); (case side8 => exact (Kd.R_reads' HO659.out).2.1); rintro e w19 ⟨v664, v667, rfl, ho0, ho1, hb⟩; refine ⟨_, rfl, ?_⟩; have n0_ := am (Kd.R_elder' (Rz (Kd.R_mono (Kd.R_mono (Kd.R_far (p := ⟨gb661, 2, none⟩) (Kd.R_far (p := ⟨gb661, 1, none⟩) (Kd.R_far (p := ⟨gb661, 0, none⟩) (Kd.R_far (p := ⟨gb660, 2, none⟩) (Kd.R_far (p := ⟨gb660, 1, none⟩) (Kd.R_far (p := ⟨gb660, 0, none⟩) (Kd.R_types (Kd.R_types HO649.out BK660.out (by decide)) BK661.out (by decide)) (fun _ hk => hk.1.2) (.int .i64 t646)) (fun _ hk => hk.1.2) (.slice Ao14 t647.length co14)) (fun _ hk => hk.1.2) (.slice Ao15 t650.length co15)) (fun _ hk => hk.2) (.int .i64 t653)) (fun _ hk => hk.2) (.slice Ao17 t654.length co17)) (fun _ hk => hk.2) (.slice Ao18 t657.length co18)) (fun _ h_ => h_.1)) (fun _ h_ => h_.1))) (Kd.R_base ho0) hb); have n1_ := am (Kd.R_elder' (Rz (Kd.R_mono (Kd.R_mono (Kd.R_far (p := ⟨gb661, 2, none⟩) (Kd.R_far (p := ⟨gb661, 1, none⟩) (Kd.R_far (p := ⟨gb661, 0, none⟩) (Kd.R_far (p := ⟨gb660, 2, none⟩) (Kd.R_far (p := ⟨gb660, 1, none⟩) (Kd.R_far (p := ⟨gb660, 0, none⟩) (Kd.R_types (Kd.R_types HO652.out BK660.out (by decide)) BK661.out (by decide)) (fun _ hk => hk.1.2) (.int .i64 t646)) (fun _ hk => hk.1.2) (.slice Ao14 t647.length co14)) (fun _ hk => hk.1.2) (.slice Ao15 t650.length co15)) (fun _ hk => hk.2) (.int .i64 t653)) (fun _ hk => hk.2) (.slice Ao17 t654.length co17)) (fun _ hk => hk.2) (.slice Ao18 t657.length co18)) (fun _ h_ => h_.1)) (fun _ h_ => h_.1))) (Kd.R_base ho1) hb); have n2_ := am (Kd.R_elder' (Rz (Kd.R_mono (Kd.R_mono (Kd.R_far (p := ⟨gb661, 2, none⟩) (Kd.R_far (p := ⟨gb661, 1, none⟩) (Kd.R_far (p := ⟨gb661, 0, none⟩) (Kd.R_far (p := ⟨gb660, 2, none⟩) (Kd.R_far (p := ⟨gb660, 1, none⟩) (Kd.R_far (p := ⟨gb660, 0, none⟩) (Kd.R_types (Kd.R_types HO656.out BK660.out (by decide)) BK661.out (by decide)) (fun _ hk => hk.1.2) (.int .i64 t646)) (fun _ hk => hk.1.2) (.slice Ao14 t647.length co14)) (fun _ hk => hk.1.2) (.slice Ao15 t650.length co15)) (fun _ hk => hk.2) (.int .i64 t653)) (fun _ hk => hk.2) (.slice Ao17 t654.length co17)) (fun _ hk => hk.2) (.slice Ao18 t657.length co18)) (fun _ h_ => h_.1)) (fun _ h_ => h_.1))) (Kd.R_base ho0) hb); have n3_ := am (Kd.R_elder' (Rz (Kd.R_mono (Kd.R_mono (Kd.R_far (p := ⟨gb661, 2, none⟩) (Kd.R_far (p := ⟨gb661, 1, none⟩) (Kd.R_far (p := ⟨gb661, 0, none⟩) (Kd.R_far (p := ⟨gb660, 2, none⟩) (Kd.R_far (p := ⟨gb660, 1, none⟩) (Kd.R_far (p := ⟨gb660, 0, none⟩) (Kd.R_types (Kd.R_types HO659.out BK660.out (by decide)) BK661.out (by decide)) (fun _ hk => hk.1.2) (.int .i64 t646)) (fun _ hk => hk.1.2) (.slice Ao14 t647.length co14)) (fun _ hk => hk.1.2) (.slice Ao15 t650.length co15)) (fun _ hk => hk.2) (.int .i64 t653)) (fun _ hk => hk.2) (.slice Ao17 t654.length co17)) (fun _ hk => hk.2) (.slice Ao18 t657.length co18)) (fun _ h_ => h_.1)) (fun _ h_ => h_.1))) (Kd.R_base ho1) hb); have n4_ := am (Kd.R_lower (Kd.R_new' (Kd.R_new' ho0 (Kd.R_lt (Rz (Kd.R_mono (Kd.R_mono (Kd.R_far (p := ⟨gb661, 2, none⟩) (Kd.R_far (p := ⟨gb661, 1, none⟩) (Kd.R_far (p := ⟨gb661, 0, none⟩) (Kd.R_far (p := ⟨gb660, 2, none⟩) (Kd.R_far (p := ⟨gb660, 1, none⟩) (Kd.R_far (p := ⟨gb660, 0, none⟩) (Kd.R_types (Kd.R_types HO649.out BK660.out (by decide)) BK661.out (by decide)) (fun _ hk => hk.1.2) (.int .i64 t646)) (fun _ hk => hk.1.2) (.slice Ao14 t647.length co14)) (fun _ hk => hk.1.2) (.slice Ao15 t650.length co15)) (fun _ hk => hk.2) (.int .i64 t653)) (fun _ hk => hk.2) (.slice Ao17 t654.length co17)) (fun _ hk => hk.2) (.slice Ao18 t657.length co18)) (fun _ h_ => h_.1)) (fun _ h_ => h_.1))))) (Kd.R_lt (Rz (Kd.R_mono (Kd.R_mono (Kd.R_far (p := ⟨gb661, 2, none⟩) (Kd.R_far (p := ⟨gb661, 1, none⟩) (Kd.R_far (p := ⟨gb661, 0, none⟩) (Kd.R_far (p := ⟨gb660, 2, none⟩) (Kd.R_far (p := ⟨gb660, 1, none⟩) (Kd.R_far (p := ⟨gb660, 0, none⟩) (Kd.R_types (Kd.R_types HO656.out BK660.out (by decide)) BK661.out (by decide)) (fun _ hk => hk.1.2) (.int .i64 t646)) (fun _ hk => hk.1.2) (.slice Ao14 t647.length co14)) (fun _ hk => hk.1.2) (.slice Ao15 t650.length co15)) (fun _ hk => hk.2) (.int .i64 t653)) (fun _ hk => hk.2) (.slice Ao17 t654.length co17)) (fun _ hk => hk.2) (.slice Ao18 t657.length co18)) (fun _ h_ => h_.1)) (fun _ h_ => h_.1))))) (below_size (w := w) (Bq))); have n5_ := am (Kd.R_lower (Kd.R_new' (Kd.R_new' ho1 (Kd.R_lt (Rz (Kd.R_mono (Kd.R_mono (Kd.R_far (p := ⟨gb661, 2, none⟩) (Kd.R_far (p := ⟨gb661, 1, none⟩) (Kd.R_far (p := ⟨gb661, 0, none⟩) (Kd.R_far (p := ⟨gb660, 2, none⟩) (Kd.R_far (p := ⟨gb660, 1, none⟩) (Kd.R_far (p := ⟨gb660, 0, none⟩) (Kd.R_types (Kd.R_types HO652.out BK660.out (by decide)) BK661.out (by decide)) (fun _ hk => hk.1.2) (.int .i64 t646)) (fun _ hk => hk.1.2) (.slice Ao14 t647.length co14)) (fun _ hk => hk.1.2) (.slice Ao15 t650.length co15)) (fun _ hk => hk.2) (.int .i64 t653)) (fun _ hk => hk.2) (.slice Ao17 t654.length co17)) (fun _ hk => hk.2) (.slice Ao18 t657.length co18)) (fun _ h_ => h_.1)) (fun _ h_ => h_.1))))) (Kd.R_lt (Rz (Kd.R_mono (Kd.R_mono (Kd.R_far (p := ⟨gb661, 2, none⟩) (Kd.R_far (p := ⟨gb661, 1, none⟩) (Kd.R_far (p := ⟨gb661, 0, none⟩) (Kd.R_far (p := ⟨gb660, 2, none⟩) (Kd.R_far (p := ⟨gb660, 1, none⟩) (Kd.R_far (p := ⟨gb660, 0, none⟩) (Kd.R_types (Kd.R_types HO659.out BK660.out (by decide)) BK661.out (by decide)) (fun _ hk => hk.1.2) (.int .i64 t646)) (fun _ hk => hk.1.2) (.slice Ao14 t647.length co14)) (fun _ hk => hk.1.2) (.slice Ao15 t650.length co15)) (fun _ hk => hk.2) (.int .i64 t653)) (fun _ hk => hk.2) (.slice Ao17 t654.length co17)) (fun _ hk => hk.2) (.slice Ao18 t657.length co18)) (fun _ h_ => h_.1)) (fun _ h_ => h_.1))))) (below_size (w := w) (Bq))); have n6_ := am (blk_below (g := gb660) (o := .cells #[.int .i64 t646, .slice Ao14 t647.length co14, .slice Ao15 t650.length co15] 26 (0, 0)) (by refine bp ?_; refine blk_far ?_ NB660_661.out _; refine bp ?_; refine blk_far ?_ NB660_661.out _; refine bp ?_; refine blk_far ?_ NB660_661.out _; refine bp ?_; refine blk_put (cs := #[.int .i64 t646, .slice Ao14 t647.length co14, .slice none 0 0]) ?_ 2 _ rfl; refine bp ?_; refine blk_put (cs := #[.int .i64 t646, .slice none 0 0, .slice none 0 0]) ?_ 1 _ rfl; refine bp ?_; refine blk_put (cs := #[.int .i64 0, .slice none 0 0, .slice none 0 0]) ?_ 0 _ rfl; exact Kz BK660.out) hb); have n7_ := am (blk_below (g := gb661) (o := .cells #[.int .i64 t653, .slice Ao17 t654.length co17, .slice Ao18 t657.length co18] 26 (0, 0)) (by refine bp ?_; refine blk_put (cs := #[.int .i64 t653, .slice Ao17 t654.length co17, .slice none 0 0]) ?_ 2 _ rfl; refine bp ?_; refine blk_put (cs := #[.int .i64 t653, .slice none 0 0, .slice none 0 0]) ?_ 1 _ rfl; refine bp ?_; refine blk_put (cs := #[.int .i64 0, .slice none 0 0, .slice none 0 0]) ?_ 0 _ rfl; refine bp ?_; refine blk_far ?_ NB661_660.out _; refine bp ?_; refine blk_far ?_ NB661_660.out _; refine bp ?_; refine blk_far ?_ NB661_660.out _; exact Kz BK661.out) hb); have n8_ := Bc HB hb; clear HO649 HO652 HO656 HO659 BK660 BK661 HB; revert n0_ n1_ n2_ n3_ n4_ n5_ n6_ n7_ n8_; intro HO649 HO652 HO656 HO659 HO665 HO668 BK660 BK661 HB; (try clear hb); (try clear hb2); (try clear hk); (try clear hi); (try clear ho0); (try clear ho1)) | ((with_reducible refine gate_dst (N := 7) rfl ?_); refine bE 7 #[.int .i64 0, .slice none 0 0, .slice none 0 0] 26 ?_; intro gb670 hg w20 hbox hb; have n0_ := Rb HO649 hb; have n1_ := Rb HO652 hb; have n2_ := Rb HO656 hb; have n3_ := Rb HO659 hb; have n4_ := Rb HO665 hb; have n5_ := Rb HO668 hb; have n6_ := Kb BK660 hb; have n7_ := Kb BK661 hb; have n8_ := Bc HB hb; have n9_ := am (hbox); have n10_ := Gm HB hg; have n11_ := Gm HB hg; have n12_ := Nl BK660 hg; have n13_ := Ng BK660 hg; have n14_ := Nl BK661 hg; have n15_ := Ng BK661 hg; clear HO649 HO652 HO656 HO659 HO665 HO668 BK660 BK661 HB; revert n0_ n1_ n2_ n3_ n4_ n5_ n6_ n7_ n8_ n9_ n10_ n11_ n12_ n13_ n14_ n15_; intro HO649 HO652 HO656 HO659 HO665 HO668 BK660 BK661 HB BK670 GW670 GE670 NB660_670 NB670_660 NB661_670 NB670_661; clear hb hbox hg; have hnb21 := NB670_660.out; have hnc21 := NB660_670.out; have hnb22 := NB670_661.out; have hnc22 := NB661_670.out; obtain ⟨hcz23_0, hcz23_1, hcz23_2, hfz23_0, hfz23_1, hfz23_2⟩ := cf3 (w := w20) BK670; obtain ⟨Ao24, co24, eo24⟩ := Kd.R_slice HO665.out; subst eo24; obtain ⟨Ao25, co25, eo25⟩ := Kd.R_slice HO668.out; subst eo25; obtain ⟨hcz26_0, hcz26_1, hcz26_2, hfz26_0, hfz26_1, hfz26_2⟩ := cf3 (w := w20) BK660; obtain ⟨hcz27_0, hcz27_1, hcz27_2, hfz27_0, hfz27_1, hfz27_2⟩ := cf3 (w := w20) BK661) | ((with_reducible refine gate_callee (f := 32) rfl ?_); refine gL (some 51) Try.func32 #[.agg #[.int .i64 t646, .slice Ao14 t647.length co14, .slice Ao15 t650.length co15], .agg #[.int .i64 t653, .slice Ao17 t654.length co17, .slice Ao18 t657.length co18]] ?_; (with_reducible refine (spec_MergeFronts.calls k t646 _ _ t647 _ _ t650 t653 _ _ t654 _ _ t657 t671 t672 t675 t678 _ ?side1 ?side2 ?side3 ?side4 ?side5 ?side6 ?side7 ?side8 A7.out).mono ?_); (case side1 => refine (Kd.R_reads' (e := 3) (base := w.heap.size) (ok := fun k_ => (some k_ ≠ (.slice Ao17 t654.length co17 : Value).ownBlock ∧ some k_ ≠ (.slice Ao24 t663.length co24 : Value).ownBlock)) (n := t647.length) (c := co14) ?_).2.2; exact (Rz (Kd.R_mono (Kd.R_far (p := ⟨gb670, 2, none⟩) (Kd.R_far (p := ⟨gb670, 1, none⟩) (Kd.R_far (p := ⟨gb670, 0, none⟩) (Kd.R_types HO649.out BK670.out (by decide)) (fun _ hk => hk.2) (.int .i64 t662)) (fun _ hk => hk.2) (.slice Ao24 t663.length co24)) (fun _ hk => hk.2) (.slice Ao25 t666.length co25)) (fun _ h_ => h_.1)))); (case side2 => exact (Kd.R_reads' HO649.out).2.1); (case side3 => refine (Kd.R_reads' (e := 9) (base := w.heap.size) (ok := fun k_ => (some k_ ≠ (.slice Ao18 t657.length co18 : Value).ownBlock ∧ some k_ ≠ (.slice Ao25 t666.length co25 : Value).ownBlock)) (n := t650.length) (c := co15) ?_).2.2; exact (Rz (Kd.R_mono (Kd.R_far (p := ⟨gb670, 2, none⟩) (Kd.R_far (p := ⟨gb670, 1, none⟩) (Kd.R_far (p := ⟨gb670, 0, none⟩) (Kd.R_types HO652.out BK670.out (by decide)) (fun _ hk => hk.2) (.int .i64 t662)) (fun _ hk => hk.2) (.slice Ao24 t663.length co24)) (fun _ hk => hk.2) (.slice Ao25 t666.length co25)) (fun _ h_ => h_.1)))); (case side4 => exact (Kd.R_reads' HO652.out).2.1); (case side5 => refine (Kd.R_reads' (e := 3) (base := w.heap.size) (ok := fun k_ => (some k_ ≠ (.slice Ao14 t647.length co14 : Value).ownBlock ∧ some k_ ≠ (.slice Ao24 t663.length co24 : Value).ownBlock)) (n := t654.length) (c := co17) ?_).2.2; exact (Rz (Kd.R_mono (Kd.R_far (p := ⟨gb670, 2, none⟩) (Kd.R_far (p := ⟨gb670, 1, none⟩) (Kd.R_far (p := ⟨gb670, 0, none⟩) (Kd.R_types HO656.out BK670.out (by decide)) (fun _ hk => hk.2) (.int .i64 t662)) (fun _ hk => hk.2) (.slice Ao24 t663.length co24)) (fun _ hk => hk.2) (.slice Ao25 t666.length co25)) (fun _ h_ => h_.1)))); (case side6 => exact (Kd.R_reads' HO656.out).2.1); (case side7 => refine (Kd.R_reads' (e := 9) (base := w.heap.size) (ok := fun k_ => (some k_ ≠ (.slice Ao15 t650.length co15 : Value).ownBlock ∧ some k_ ≠ (.slice Ao25 t666.length co25 : Value).ownBlock)) (n := t657.length) (c := co18) ?_).2.2; exact (Rz (Kd.R_mono (Kd.R_far (p := ⟨gb670, 2, none⟩) (Kd.R_far (p := ⟨gb670, 1, none⟩) (Kd.R_far (p := ⟨gb670, 0, none⟩) (Kd.R_types HO659.out BK670.out (by decide)) (fun _ hk => hk.2) (.int .i64 t662)) (fun _ hk => hk.2) (.slice Ao24 t663.length co24)) (fun _ hk => hk.2) (.slice Ao25 t666.length co25)) (fun _ h_ => h_.1)))); (case side8 => exact (Kd.R_reads' HO659.out).2.1); rintro e w28 ⟨v673, v676, rfl, ho0, ho1, hb⟩; refine ⟨_, rfl, ?_⟩; have n0_ := am (Kd.R_elder' (Rz (Kd.R_mono (Kd.R_far (p := ⟨gb670, 2, none⟩) (Kd.R_far (p := ⟨gb670, 1, none⟩) (Kd.R_far (p := ⟨gb670, 0, none⟩) (Kd.R_types HO649.out BK670.out (by decide)) (fun _ hk => hk.2) (.int .i64 t662)) (fun _ hk => hk.2) (.slice Ao24 t663.length co24)) (fun _ hk => hk.2) (.slice Ao25 t666.length co25)) (fun _ h_ => h_.1))) (Kd.R_base ho0) hb); have n1_ := am (Kd.R_elder' (Rz (Kd.R_mono (Kd.R_far (p := ⟨gb670, 2, none⟩) (Kd.R_far (p := ⟨gb670, 1, none⟩) (Kd.R_far (p := ⟨gb670, 0, none⟩) (Kd.R_types HO652.out BK670.out (by decide)) (fun _ hk => hk.2) (.int .i64 t662)) (fun _ hk => hk.2) (.slice Ao24 t663.length co24)) (fun _ hk => hk.2) (.slice Ao25 t666.length co25)) (fun _ h_ => h_.1))) (Kd.R_base ho1) hb); have n2_ := am (Kd.R_elder' (Rz (Kd.R_mono (Kd.R_far (p := ⟨gb670, 2, none⟩) (Kd.R_far (p := ⟨gb670, 1, none⟩) (Kd.R_far (p := ⟨gb670, 0, none⟩) (Kd.R_types HO656.out BK670.out (by decide)) (fun _ hk => hk.2) (.int .i64 t662)) (fun _ hk => hk.2) (.slice Ao24 t663.length co24)) (fun _ hk => hk.2) (.slice Ao25 t666.length co25)) (fun _ h_ => h_.1))) (Kd.R_base ho0) hb); have n3_ := am (Kd.R_elder' (Rz (Kd.R_mono (Kd.R_far (p := ⟨gb670, 2, none⟩) (Kd.R_far (p := ⟨gb670, 1, none⟩) (Kd.R_far (p := ⟨gb670, 0, none⟩) (Kd.R_types HO659.out BK670.out (by decide)) (fun _ hk => hk.2) (.int .i64 t662)) (fun _ hk => hk.2) (.slice Ao24 t663.length co24)) (fun _ hk => hk.2) (.slice Ao25 t666.length co25)) (fun _ h_ => h_.1))) (Kd.R_base ho1) hb); have n4_ := am (Kd.R_elder' (Rz (Kd.R_mono (Kd.R_far (p := ⟨gb670, 2, none⟩) (Kd.R_far (p := ⟨gb670, 1, none⟩) (Kd.R_far (p := ⟨gb670, 0, none⟩) (Kd.R_types HO665.out BK670.out (by decide)) (fun _ hk => hk.2) (.int .i64 t662)) (fun _ hk => hk.2) (.slice Ao24 t663.length co24)) (fun _ hk => hk.2) (.slice Ao25 t666.length co25)) (fun _ h_ => h_.1))) (Kd.R_base ho0) hb); have n5_ := am (Kd.R_elder' (Rz (Kd.R_mono (Kd.R_far (p := ⟨gb670, 2, none⟩) (Kd.R_far (p := ⟨gb670, 1, none⟩) (Kd.R_far (p := ⟨gb670, 0, none⟩) (Kd.R_types HO668.out BK670.out (by decide)) (fun _ hk => hk.2) (.int .i64 t662)) (fun _ hk => hk.2) (.slice Ao24 t663.length co24)) (fun _ hk => hk.2) (.slice Ao25 t666.length co25)) (fun _ h_ => h_.1))) (Kd.R_base ho1) hb); have n6_ := am (Kd.R_lower (Kd.R_new' (Kd.R_new' (Kd.R_new' ho0 (Kd.R_lt (Rz (Kd.R_mono (Kd.R_far (p := ⟨gb670, 2, none⟩) (Kd.R_far (p := ⟨gb670, 1, none⟩) (Kd.R_far (p := ⟨gb670, 0, none⟩) (Kd.R_types HO649.out BK670.out (by decide)) (fun _ hk => hk.2) (.int .i64 t662)) (fun _ hk => hk.2) (.slice Ao24 t663.length co24)) (fun _ hk => hk.2) (.slice Ao25 t666.length co25)) (fun _ h_ => h_.1))))) (Kd.R_lt (Rz (Kd.R_mono (Kd.R_far (p := ⟨gb670, 2, none⟩) (Kd.R_far (p := ⟨gb670, 1, none⟩) (Kd.R_far (p := ⟨gb670, 0, none⟩) (Kd.R_types HO656.out BK670.out (by decide)) (fun _ hk => hk.2) (.int .i64 t662)) (fun _ hk => hk.2) (.slice Ao24 t663.length co24)) (fun _ hk => hk.2) (.slice Ao25 t666.length co25)) (fun _ h_ => h_.1))))) (Kd.R_lt (Rz (Kd.R_mono (Kd.R_far (p := ⟨gb670, 2, none⟩) (Kd.R_far (p := ⟨gb670, 1, none⟩) (Kd.R_far (p := ⟨gb670, 0, none⟩) (Kd.R_types HO665.out BK670.out (by decide)) (fun _ hk => hk.2) (.int .i64 t662)) (fun _ hk => hk.2) (.slice Ao24 t663.length co24)) (fun _ hk => hk.2) (.slice Ao25 t666.length co25)) (fun _ h_ => h_.1))))) (below_size (w := w) (Bq))); have n7_ := am (Kd.R_lower (Kd.R_new' (Kd.R_new' (Kd.R_new' ho1 (Kd.R_lt (Rz (Kd.R_mono (Kd.R_far (p := ⟨gb670, 2, none⟩) (Kd.R_far (p := ⟨gb670, 1, none⟩) (Kd.R_far (p := ⟨gb670, 0, none⟩) (Kd.R_types HO652.out BK670.out (by decide)) (fun _ hk => hk.2) (.int .i64 t662)) (fun _ hk => hk.2) (.slice Ao24 t663.length co24)) (fun _ hk => hk.2) (.slice Ao25 t666.length co25)) (fun _ h_ => h_.1))))) (Kd.R_lt (Rz (Kd.R_mono (Kd.R_far (p := ⟨gb670, 2, none⟩) (Kd.R_far (p := ⟨gb670, 1, none⟩) (Kd.R_far (p := ⟨gb670, 0, none⟩) (Kd.R_types HO659.out BK670.out (by decide)) (fun _ hk => hk.2) (.int .i64 t662)) (fun _ hk => hk.2) (.slice Ao24 t663.length co24)) (fun _ hk => hk.2) (.slice Ao25 t666.length co25)) (fun _ h_ => h_.1))))) (Kd.R_lt (Rz (Kd.R_mono (Kd.R_far (p := ⟨gb670, 2, none⟩) (Kd.R_far (p := ⟨gb670, 1, none⟩) (Kd.R_far (p := ⟨gb670, 0, none⟩) (Kd.R_types HO668.out BK670.out (by decide)) (fun _ hk => hk.2) (.int .i64 t662)) (fun _ hk => hk.2) (.slice Ao24 t663.length co24)) (fun _ hk => hk.2) (.slice Ao25 t666.length co25)) (fun _ h_ => h_.1))))) (below_size (w := w) (Bq))); have n8_ := am (blk_below (g := gb660) (o := .cells #[.int .i64 t646, .slice Ao14 t647.length co14, .slice Ao15 t650.length co15] 26 (0, 0)) (by refine bp ?_; refine blk_far ?_ NB660_670.out _; refine bp ?_; refine blk_far ?_ NB660_670.out _; refine bp ?_; refine blk_far ?_ NB660_670.out _; exact Kz BK660.out) hb); have n9_ := am (blk_below (g := gb661) (o := .cells #[.int .i64 t653, .slice Ao17 t654.length co17, .slice Ao18 t657.length co18] 26 (0, 0)) (by refine bp ?_; refine blk_far ?_ NB661_670.out _; refine bp ?_; refine blk_far ?_ NB661_670.out _; refine bp ?_; refine blk_far ?_ NB661_670.out _; exact Kz BK661.out) hb); have n10_ := am (blk_below (g := gb670) (o := .cells #[.int .i64 t662, .slice Ao24 t663.length co24, .slice Ao25 t666.length co25] 26 (0, 0)) (by refine bp ?_; refine blk_put (cs := #[.int .i64 t662, .slice Ao24 t663.length co24, .slice none 0 0]) ?_ 2 _ rfl; refine bp ?_; refine blk_put (cs := #[.int .i64 t662, .slice none 0 0, .slice none 0 0]) ?_ 1 _ rfl; refine bp ?_; refine blk_put (cs := #[.int .i64 0, .slice none 0 0, .slice none 0 0]) ?_ 0 _ rfl; exact Kz BK670.out) hb); have n11_ := Bc HB hb; clear HO649 HO652 HO656 HO659 HO665 HO668 BK660 BK661 BK670 HB; revert n0_ n1_ n2_ n3_ n4_ n5_ n6_ n7_ n8_ n9_ n10_ n11_; intro HO649 HO652 HO656 HO659 HO665 HO668 HO674 HO677 BK660 BK661 BK670 HB; (try clear hb); (try clear hb2); (try clear hk); (try clear hi); (try clear ho0); (try clear ho1)) | ((with_reducible refine gate_dst (N := 9) rfl ?_); refine bE 9 #[.int .i64 0, .slice none 0 0, .slice none 0 0] 26 ?_; intro gb679 hg w29 hbox hb; have n0_ := Rb HO649 hb; have n1_ := Rb HO652 hb; have n2_ := Rb HO656 hb; have n3_ := Rb HO659 hb; have n4_ := Rb HO665 hb; have n5_ := Rb HO668 hb; have n6_ := Rb HO674 hb; have n7_ := Rb HO677 hb; have n8_ := Kb BK660 hb; have n9_ := Kb BK661 hb; have n10_ := Kb BK670 hb; have n11_ := Bc HB hb; have n12_ := am (hbox); have n13_ := Gm HB hg; have n14_ := Gm HB hg; have n15_ := Nl BK660 hg; have n16_ := Ng BK660 hg; have n17_ := Nl BK661 hg; have n18_ := Ng BK661 hg; have n19_ := Nl BK670 hg; have n20_ := Ng BK670 hg; clear HO649 HO652 HO656 HO659 HO665 HO668 HO674 HO677 BK660 BK661 BK670 HB; revert n0_ n1_ n2_ n3_ n4_ n5_ n6_ n7_ n8_ n9_ n10_ n11_ n12_ n13_ n14_ n15_ n16_ n17_ n18_ n19_ n20_; intro HO649 HO652 HO656 HO659 HO665 HO668 HO674 HO677 BK660 BK661 BK670 HB BK679 GW679 GE679 NB660_679 NB679_660 NB661_679 NB679_661 NB670_679 NB679_670; clear hb hbox hg; have hnb30 := NB679_660.out; have hnc30 := NB660_679.out; have hnb31 := NB679_661.out; have hnc31 := NB661_679.out; have hnb32 := NB679_670.out; have hnc32 := NB670_679.out; obtain ⟨hcz33_0, hcz33_1, hcz33_2, hfz33_0, hfz33_1, hfz33_2⟩ := cf3 (w := w29) BK679; obtain ⟨Ao34, co34, eo34⟩ := Kd.R_slice HO674.out; subst eo34; obtain ⟨Ao35, co35, eo35⟩ := Kd.R_slice HO677.out; subst eo35))
  (try simp only [aP])
  go_cut [79] (fun v79 wc => ∃ (kq : Nat) (x79_7 : Bool), v79 = .bool x79_7 ∧ Aside0 (laws_FnFrontsMerge.j0 kq t678 x79_7 t646 t647 t650 t653 t654 t657 t662 t663 t666 = some r) ∧ Aside0 (kq ≤ k) ∧ Aside0 (Kd.R (Kd.int .i64) 3 wc w.heap.size (fun k_ => some k_ ≠ ((.slice Ao17 t654.length co17) : Value).ownBlock ∧ some k_ ≠ ((.slice Ao24 t663.length co24) : Value).ownBlock ∧ some k_ ≠ ((.slice Ao34 t672.length co34) : Value).ownBlock) (.slice Ao14 t647.length co14) t647) ∧ Aside0 (Kd.R Kd.string 9 wc w.heap.size (fun k_ => some k_ ≠ ((.slice Ao18 t657.length co18) : Value).ownBlock ∧ some k_ ≠ ((.slice Ao25 t666.length co25) : Value).ownBlock ∧ some k_ ≠ ((.slice Ao35 t675.length co35) : Value).ownBlock) (.slice Ao15 t650.length co15) t650) ∧ Aside0 (Kd.R (Kd.int .i64) 3 wc w.heap.size (fun k_ => some k_ ≠ ((.slice Ao14 t647.length co14) : Value).ownBlock ∧ some k_ ≠ ((.slice Ao24 t663.length co24) : Value).ownBlock ∧ some k_ ≠ ((.slice Ao34 t672.length co34) : Value).ownBlock) (.slice Ao17 t654.length co17) t654) ∧ Aside0 (Kd.R Kd.string 9 wc w.heap.size (fun k_ => some k_ ≠ ((.slice Ao15 t650.length co15) : Value).ownBlock ∧ some k_ ≠ ((.slice Ao25 t666.length co25) : Value).ownBlock ∧ some k_ ≠ ((.slice Ao35 t675.length co35) : Value).ownBlock) (.slice Ao18 t657.length co18) t657) ∧ Aside0 (Kd.R (Kd.int .i64) 3 wc w.heap.size (fun k_ => some k_ ≠ ((.slice Ao14 t647.length co14) : Value).ownBlock ∧ some k_ ≠ ((.slice Ao17 t654.length co17) : Value).ownBlock ∧ some k_ ≠ ((.slice Ao34 t672.length co34) : Value).ownBlock) (.slice Ao24 t663.length co24) t663) ∧ Aside0 (Kd.R Kd.string 9 wc w.heap.size (fun k_ => some k_ ≠ ((.slice Ao15 t650.length co15) : Value).ownBlock ∧ some k_ ≠ ((.slice Ao18 t657.length co18) : Value).ownBlock ∧ some k_ ≠ ((.slice Ao35 t675.length co35) : Value).ownBlock) (.slice Ao25 t666.length co25) t666) ∧ Aside0 (Kd.R (Kd.int .i64) 3 wc w.heap.size (fun k_ => some k_ ≠ ((.slice Ao14 t647.length co14) : Value).ownBlock ∧ some k_ ≠ ((.slice Ao17 t654.length co17) : Value).ownBlock ∧ some k_ ≠ ((.slice Ao24 t663.length co24) : Value).ownBlock) (.slice Ao34 t672.length co34) t672) ∧ Aside0 (Kd.R Kd.string 9 wc w.heap.size (fun k_ => some k_ ≠ ((.slice Ao15 t650.length co15) : Value).ownBlock ∧ some k_ ≠ ((.slice Ao18 t657.length co18) : Value).ownBlock ∧ some k_ ≠ ((.slice Ao25 t666.length co25) : Value).ownBlock) (.slice Ao35 t675.length co35) t675) ∧ Aside0 (wc.heap[gb660]? = some (.cells #[.int .i64 t646, (.slice Ao14 t647.length co14), (.slice Ao15 t650.length co15)] 26 (0, 0))) ∧ Aside0 (wc.heap[gb661]? = some (.cells #[.int .i64 t653, (.slice Ao17 t654.length co17), (.slice Ao18 t657.length co18)] 26 (0, 0))) ∧ Aside0 (wc.heap[gb670]? = some (.cells #[.int .i64 t662, (.slice Ao24 t663.length co24), (.slice Ao25 t666.length co25)] 26 (0, 0))) ∧ Aside0 (wc.heap[gb679]? = some (.cells #[.int .i64 t671, (.slice Ao34 t672.length co34), (.slice Ao35 t675.length co35)] 26 (0, 0))) ∧ Aside0 (Below w.heap.size w wc))
  case first =>
   have H := HC8.out; clear HC8
   by_cases c36 : (t669 != t678) = true
   ·rw [if_pos c36] at H
    have c36b0 : (t669 != t678) = true := c36
    (try (have c36b1 : decide (t669 = t678) = false := by simpa using c36))
    (try (have c36b2 : (t669 == t678) = false := by simpa using c36))
    (try (have c36b3 : ¬ (t669 = t678) := by simpa using c36))
    (try (have c36b4 : (!(t669 == t678)) = true := c36b0))
    clear c36
    (first | rw [c36b0] | (simp only [i64_w, i32_w]; rw [c36b0]) | skip)
    exact absurd (H.trans (congrArg some HQT_.out)) (laws_FnFrontsMerge.j0.dead _ _ _ _ _ _ _ _ _ _ _)
   ·rw [if_neg c36] at H
    have c36b0 : (t669 != t678) = false := by simpa using c36
    (try (have c36b1 : decide (t669 = t678) = true := by simpa using c36))
    (try (have c36b2 : (t669 == t678) = true := by simpa using c36))
    (try (have c36b3 : (!(t669 == t678)) = false := c36b0))
    clear c36
    (first | rw [c36b0] | (simp only [i64_w, i32_w]; rw [c36b0]) | skip)
    by_cases c37 : t662 = t671
    ·rw [if_pos c37] at H
     have c37b0 : (t662 == t671) = true := beq_iff_eq.mpr c37; have c37b1 : (t662 != t671) = false := bne_eq_false_iff_eq.mpr c37; clear c37; obtain ⟨t680, A38, H⟩ := ob H; (try dsimp -simprocs only at H)
     by_cases c39 : t680 = true
     ·subst c39
      rw [if_pos rfl] at H; obtain ⟨t681, A40, H⟩ := ob H; (try dsimp -simprocs only at H); have H' := am H; clear H; have hnb41 := NB670_660.out; have hnc41 := NB660_670.out; have hnb42 := NB670_661.out; have hnc42 := NB661_670.out; have hnb43 := NB670_679.out; have hnc43 := NB679_670.out; obtain ⟨hcz44_0, hcz44_1, hcz44_2, hfz44_0, hfz44_1, hfz44_2⟩ := cf3 (w := w29) BK670; have hnb45 := NB679_660.out; have hnc45 := NB660_679.out; have hnb46 := NB679_661.out; have hnc46 := NB661_679.out; obtain ⟨hcz47_0, hcz47_1, hcz47_2, hfz47_0, hfz47_1, hfz47_2⟩ := cf3 (w := w29) BK679
      go_wp2_with (first | (go_at_call 36; (with_reducible refine (laws_pSameInts.calls k _ _ t663 _ _ t672 true _ ?side1 ?side2 ?side3 ?side4 A38.out).mono ?_); (case side1 => refine (Kd.R_reads' (e := 3) (base := w.heap.size) (ok := fun k_ => (((True ∧ some k_ ≠ (.slice Ao14 t647.length co14 : Value).ownBlock) ∧ some k_ ≠ (.slice Ao17 t654.length co17 : Value).ownBlock) ∧ some k_ ≠ (.slice Ao34 t672.length co34 : Value).ownBlock)) (n := t663.length) (c := co24) ?_).2.2; exact (Rz (Kd.R_mono (Kd.R_far (p := ⟨gb679, 2, none⟩) (Kd.R_far (p := ⟨gb679, 1, none⟩) (Kd.R_far (p := ⟨gb679, 0, none⟩) (Kd.R_types HO665.out BK679.out (by decide)) (fun _ hk => hk.2) (.int .i64 t671)) (fun _ hk => hk.2) (.slice Ao34 t672.length co34)) (fun _ hk => hk.2) (.slice Ao35 t675.length co35)) (fun _ h_ => h_.1)))); (case side2 => exact (Kd.R_reads' HO665.out).2.1); (case side3 => refine (Kd.R_reads' (e := 3) (base := w.heap.size) (ok := fun k_ => (((True ∧ some k_ ≠ (.slice Ao14 t647.length co14 : Value).ownBlock) ∧ some k_ ≠ (.slice Ao17 t654.length co17 : Value).ownBlock) ∧ some k_ ≠ (.slice Ao24 t663.length co24 : Value).ownBlock)) (n := t672.length) (c := co34) ?_).2.2; exact (Rz (Kd.R_mono (Kd.R_far (p := ⟨gb679, 2, none⟩) (Kd.R_far (p := ⟨gb679, 1, none⟩) (Kd.R_far (p := ⟨gb679, 0, none⟩) (Kd.R_types HO674.out BK679.out (by decide)) (fun _ hk => hk.2) (.int .i64 t671)) (fun _ hk => hk.2) (.slice Ao34 t672.length co34)) (fun _ hk => hk.2) (.slice Ao35 t675.length co35)) (fun _ h_ => h_.1)))); (case side4 => exact (Kd.R_reads' HO674.out).2.1); rintro e w' ⟨rfl, ⟨nd, rfl⟩⟩) | (go_at_call 37; (with_reducible refine (laws_pSameTexts.calls k _ _ t666 _ _ t675 t681 _ ?side1 ?side2 ?side3 ?side4 A40.out).mono ?_); (case side1 => refine (Kd.R_reads' (e := 9) (base := w.heap.size) (ok := fun k_ => (((True ∧ some k_ ≠ (.slice Ao15 t650.length co15 : Value).ownBlock) ∧ some k_ ≠ (.slice Ao18 t657.length co18 : Value).ownBlock) ∧ some k_ ≠ (.slice Ao35 t675.length co35 : Value).ownBlock)) (n := t666.length) (c := co25) ?_).2.2; exact (Rz (Kd.R_mono (Kd.R_far (p := ⟨gb679, 2, none⟩) (Kd.R_far (p := ⟨gb679, 1, none⟩) (Kd.R_far (p := ⟨gb679, 0, none⟩) (Kd.R_types HO668.out BK679.out (by decide)) (fun _ hk => hk.2) (.int .i64 t671)) (fun _ hk => hk.2) (.slice Ao34 t672.length co34)) (fun _ hk => hk.2) (.slice Ao35 t675.length co35)) (fun _ h_ => h_.1)))); (case side2 => exact (Kd.R_reads' HO668.out).2.1); (case side3 => refine (Kd.R_reads' (e := 9) (base := w.heap.size) (ok := fun k_ => (((True ∧ some k_ ≠ (.slice Ao15 t650.length co15 : Value).ownBlock) ∧ some k_ ≠ (.slice Ao18 t657.length co18 : Value).ownBlock) ∧ some k_ ≠ (.slice Ao25 t666.length co25 : Value).ownBlock)) (n := t675.length) (c := co35) ?_).2.2; exact (Rz (Kd.R_mono (Kd.R_far (p := ⟨gb679, 2, none⟩) (Kd.R_far (p := ⟨gb679, 1, none⟩) (Kd.R_far (p := ⟨gb679, 0, none⟩) (Kd.R_types HO677.out BK679.out (by decide)) (fun _ hk => hk.2) (.int .i64 t671)) (fun _ hk => hk.2) (.slice Ao34 t672.length co34)) (fun _ hk => hk.2) (.slice Ao35 t675.length co35)) (fun _ h_ => h_.1)))); (case side4 => exact (Kd.R_reads' HO677.out).2.1); rintro e w' ⟨rfl, ⟨nd, rfl⟩⟩))
      go_meet
      case rel => exact ⟨_, (!t681), wZ, H', ⟨by first | omega | exact Nat.le_refl _⟩, ⟨Rz (Kd.R_mono (Kd.R_far (p := ⟨gb679, 2, none⟩) (Kd.R_far (p := ⟨gb679, 1, none⟩) (Kd.R_far (p := ⟨gb679, 0, none⟩) (Kd.R_types HO649.out BK679.out (by decide)) (fun _ hk => hk.2) (.int .i64 t671)) (fun _ hk => hk.2) (.slice Ao34 t672.length co34)) (fun _ hk => hk.2) (.slice Ao35 t675.length co35)) (fun _ hk => ⟨hk.1.1.1, ⟨hk.1.1.2, hk.1.2⟩⟩))⟩, ⟨Rz (Kd.R_mono (Kd.R_far (p := ⟨gb679, 2, none⟩) (Kd.R_far (p := ⟨gb679, 1, none⟩) (Kd.R_far (p := ⟨gb679, 0, none⟩) (Kd.R_types HO652.out BK679.out (by decide)) (fun _ hk => hk.2) (.int .i64 t671)) (fun _ hk => hk.2) (.slice Ao34 t672.length co34)) (fun _ hk => hk.2) (.slice Ao35 t675.length co35)) (fun _ hk => ⟨hk.1.1.1, ⟨hk.1.1.2, hk.1.2⟩⟩))⟩, ⟨Rz (Kd.R_mono (Kd.R_far (p := ⟨gb679, 2, none⟩) (Kd.R_far (p := ⟨gb679, 1, none⟩) (Kd.R_far (p := ⟨gb679, 0, none⟩) (Kd.R_types HO656.out BK679.out (by decide)) (fun _ hk => hk.2) (.int .i64 t671)) (fun _ hk => hk.2) (.slice Ao34 t672.length co34)) (fun _ hk => hk.2) (.slice Ao35 t675.length co35)) (fun _ hk => ⟨hk.1.1.1, ⟨hk.1.1.2, hk.1.2⟩⟩))⟩, ⟨Rz (Kd.R_mono (Kd.R_far (p := ⟨gb679, 2, none⟩) (Kd.R_far (p := ⟨gb679, 1, none⟩) (Kd.R_far (p := ⟨gb679, 0, none⟩) (Kd.R_types HO659.out BK679.out (by decide)) (fun _ hk => hk.2) (.int .i64 t671)) (fun _ hk => hk.2) (.slice Ao34 t672.length co34)) (fun _ hk => hk.2) (.slice Ao35 t675.length co35)) (fun _ hk => ⟨hk.1.1.1, ⟨hk.1.1.2, hk.1.2⟩⟩))⟩, ⟨Rz (Kd.R_mono (Kd.R_far (p := ⟨gb679, 2, none⟩) (Kd.R_far (p := ⟨gb679, 1, none⟩) (Kd.R_far (p := ⟨gb679, 0, none⟩) (Kd.R_types HO665.out BK679.out (by decide)) (fun _ hk => hk.2) (.int .i64 t671)) (fun _ hk => hk.2) (.slice Ao34 t672.length co34)) (fun _ hk => hk.2) (.slice Ao35 t675.length co35)) (fun _ hk => ⟨hk.1.1.1.2, ⟨hk.1.1.2, hk.1.2⟩⟩))⟩, ⟨Rz (Kd.R_mono (Kd.R_far (p := ⟨gb679, 2, none⟩) (Kd.R_far (p := ⟨gb679, 1, none⟩) (Kd.R_far (p := ⟨gb679, 0, none⟩) (Kd.R_types HO668.out BK679.out (by decide)) (fun _ hk => hk.2) (.int .i64 t671)) (fun _ hk => hk.2) (.slice Ao34 t672.length co34)) (fun _ hk => hk.2) (.slice Ao35 t675.length co35)) (fun _ hk => ⟨hk.1.1.1.2, ⟨hk.1.1.2, hk.1.2⟩⟩))⟩, ⟨Rz (Kd.R_mono (Kd.R_far (p := ⟨gb679, 2, none⟩) (Kd.R_far (p := ⟨gb679, 1, none⟩) (Kd.R_far (p := ⟨gb679, 0, none⟩) (Kd.R_types HO674.out BK679.out (by decide)) (fun _ hk => hk.2) (.int .i64 t671)) (fun _ hk => hk.2) (.slice Ao34 t672.length co34)) (fun _ hk => hk.2) (.slice Ao35 t675.length co35)) (fun _ hk => ⟨hk.1.1.1.2, ⟨hk.1.1.2, hk.1.2⟩⟩))⟩, ⟨Rz (Kd.R_mono (Kd.R_far (p := ⟨gb679, 2, none⟩) (Kd.R_far (p := ⟨gb679, 1, none⟩) (Kd.R_far (p := ⟨gb679, 0, none⟩) (Kd.R_types HO677.out BK679.out (by decide)) (fun _ hk => hk.2) (.int .i64 t671)) (fun _ hk => hk.2) (.slice Ao34 t672.length co34)) (fun _ hk => hk.2) (.slice Ao35 t675.length co35)) (fun _ hk => ⟨hk.1.1.1.2, ⟨hk.1.1.2, hk.1.2⟩⟩))⟩, ⟨by refine bp ?_; refine blk_far ?_ NB660_679.out _; refine bp ?_; refine blk_far ?_ NB660_679.out _; refine bp ?_; refine blk_far ?_ NB660_679.out _; refine bp ?_; exact BK660.out⟩, ⟨by refine bp ?_; refine blk_far ?_ NB661_679.out _; refine bp ?_; refine blk_far ?_ NB661_679.out _; refine bp ?_; refine blk_far ?_ NB661_679.out _; refine bp ?_; exact BK661.out⟩, ⟨by refine bp ?_; refine blk_far ?_ NB670_679.out _; refine bp ?_; refine blk_far ?_ NB670_679.out _; refine bp ?_; refine blk_far ?_ NB670_679.out _; refine bp ?_; exact BK670.out⟩, ⟨by refine bp ?_; refine blk_put (cs := #[.int .i64 t671, .slice Ao34 t672.length co34, .slice none 0 0]) ?_ 2 _ rfl; refine bp ?_; refine blk_put (cs := #[.int .i64 t671, .slice none 0 0, .slice none 0 0]) ?_ 1 _ rfl; refine bp ?_; refine blk_put (cs := #[.int .i64 0, .slice none 0 0, .slice none 0 0]) ?_ 0 _ rfl; refine bp ?_; exact BK679.out⟩, ⟨Bq⟩⟩
     ·replace c39 := Bool.eq_false_iff.mpr c39
      subst c39
      rw [if_neg (show ¬ (false = true) by decide)] at H; exact absurd (H.trans (congrArg some HQT_.out)) (laws_FnFrontsMerge.j0.dead _ _ _ _ _ _ _ _ _ _ _)
    ·rw [if_neg c37] at H
     have c37b0 : (t662 == t671) = false := beq_eq_false_iff_ne.mpr c37; have c37b1 : (t662 != t671) = true := bne_iff_ne.mpr c37; exact absurd (H.trans (congrArg some HQT_.out)) (laws_FnFrontsMerge.j0.dead _ _ _ _ _ _ _ _ _ _ _)
  case rest =>
   refine Nonempty.elim ?_ id
   refine (letI hh_ : Nonempty (_ : Prop) := ?apart1; (?close1 : type_of% hh_))
   case apart1 =>
    refine Nonempty.intro ?_
    clear HC8
    try clear c1
    try clear c2
    try clear p2
    try clear c3
    try clear c4
    try clear c10
    try clear c12
    try clear c21
    try clear c22
    try clear c30
    try clear c31
    try clear c32
    try clear c33
    try clear c34
    try clear c35
    try clear c36
    try clear c36b0
    try clear c36b1
    try clear c36b2
    try clear c37
    try clear c37b0
    try clear c37b1
    try clear c39
    try clear c41
    try clear c42
    try clear c43
    try clear c45
    try clear c46
    obtain ⟨kq, x79_7, rfl, HA, HJ7, HO_661001, HO_661002, HO_662001, HO_662002, HO_671001, HO_671002, HO_680001, HO_680002, BK660, BK661, BK670, BK679, HB⟩ := hcut; cases kq with
    | zero => exact absurd HA.out (by simp [laws_FnFrontsMerge.j0])
    | succ kj7 =>
     have H := HA.out; clear HA
     simp only [laws_FnFrontsMerge.j0] at H
     by_cases c48 : x79_7 = true
     ·subst c48
      rw [if_pos rfl] at H; exact absurd (Option.some.inj H) (by rw [HQT_.out]; decide)
     ·replace c48 := Bool.eq_false_iff.mpr c48
      subst c48
      rw [if_neg (show ¬ (false = true) by decide)] at H
      by_cases c49 : t678 = true
      ·subst c49
       rw [if_pos rfl] at H; have H' := am H; clear H; have hnb50 := NB670_660.out; have hnc50 := NB660_670.out; have hnb51 := NB670_661.out; have hnc51 := NB661_670.out; have hnb52 := NB670_679.out; have hnc52 := NB679_670.out; obtain ⟨hcz53_0, hcz53_1, hcz53_2, hfz53_0, hfz53_1, hfz53_2⟩ := cf3 (w := wc) BK670
       go_wp2
       go_loopg [11, 12, 85] kj7 (fun kq v11 v12 v85 w' => ∃ (x11_2 : List ByteArray) (x12_2 : Int) (x85_2 : Int), v12 = .int .i64 x12_2 ∧ v85 = .int .i64 x85_2 ∧ Aside0 (laws_FnFrontsMerge.l0 kq x11_2 x12_2 (t663.length : Int) x85_2 t646 t647 t650 t653 t654 t657 t662 t663 t666 = some r) ∧ Aside0 (kq ≤ kj7) ∧ Aside0 (Kd.R Kd.string 9 w' w.heap.size (fun k_ => some k_ ≠ ((.slice Ao15 t650.length co15) : Value).ownBlock ∧ some k_ ≠ ((.slice Ao18 t657.length co18) : Value).ownBlock ∧ some k_ ≠ ((.slice Ao25 t666.length co25) : Value).ownBlock ∧ some k_ ≠ ((.slice Ao35 t675.length co35) : Value).ownBlock) v11 x11_2) ∧ Aside0 (Kd.R (Kd.int .i64) 3 w' w.heap.size (fun k_ => some k_ ≠ ((.slice Ao17 t654.length co17) : Value).ownBlock ∧ some k_ ≠ ((.slice Ao24 t663.length co24) : Value).ownBlock ∧ some k_ ≠ ((.slice Ao34 t672.length co34) : Value).ownBlock) (.slice Ao14 t647.length co14) t647) ∧ Aside0 (Kd.R Kd.string 9 w' w.heap.size (fun k_ => some k_ ≠ (v11 : Value).ownBlock ∧ some k_ ≠ ((.slice Ao18 t657.length co18) : Value).ownBlock ∧ some k_ ≠ ((.slice Ao25 t666.length co25) : Value).ownBlock ∧ some k_ ≠ ((.slice Ao35 t675.length co35) : Value).ownBlock) (.slice Ao15 t650.length co15) t650) ∧ Aside0 (Kd.R (Kd.int .i64) 3 w' w.heap.size (fun k_ => some k_ ≠ ((.slice Ao14 t647.length co14) : Value).ownBlock ∧ some k_ ≠ ((.slice Ao24 t663.length co24) : Value).ownBlock ∧ some k_ ≠ ((.slice Ao34 t672.length co34) : Value).ownBlock) (.slice Ao17 t654.length co17) t654) ∧ Aside0 (Kd.R Kd.string 9 w' w.heap.size (fun k_ => some k_ ≠ (v11 : Value).ownBlock ∧ some k_ ≠ ((.slice Ao15 t650.length co15) : Value).ownBlock ∧ some k_ ≠ ((.slice Ao25 t666.length co25) : Value).ownBlock ∧ some k_ ≠ ((.slice Ao35 t675.length co35) : Value).ownBlock) (.slice Ao18 t657.length co18) t657) ∧ Aside0 (Kd.R (Kd.int .i64) 3 w' w.heap.size (fun k_ => some k_ ≠ ((.slice Ao14 t647.length co14) : Value).ownBlock ∧ some k_ ≠ ((.slice Ao17 t654.length co17) : Value).ownBlock ∧ some k_ ≠ ((.slice Ao34 t672.length co34) : Value).ownBlock) (.slice Ao24 t663.length co24) t663) ∧ Aside0 (Kd.R Kd.string 9 w' w.heap.size (fun k_ => some k_ ≠ (v11 : Value).ownBlock ∧ some k_ ≠ ((.slice Ao15 t650.length co15) : Value).ownBlock ∧ some k_ ≠ ((.slice Ao18 t657.length co18) : Value).ownBlock ∧ some k_ ≠ ((.slice Ao35 t675.length co35) : Value).ownBlock) (.slice Ao25 t666.length co25) t666) ∧ Aside0 (Kd.R (Kd.int .i64) 3 w' w.heap.size (fun k_ => some k_ ≠ ((.slice Ao14 t647.length co14) : Value).ownBlock ∧ some k_ ≠ ((.slice Ao17 t654.length co17) : Value).ownBlock ∧ some k_ ≠ ((.slice Ao24 t663.length co24) : Value).ownBlock) (.slice Ao34 t672.length co34) t672) ∧ Aside0 (Kd.R Kd.string 9 w' w.heap.size (fun k_ => some k_ ≠ (v11 : Value).ownBlock ∧ some k_ ≠ ((.slice Ao15 t650.length co15) : Value).ownBlock ∧ some k_ ≠ ((.slice Ao18 t657.length co18) : Value).ownBlock ∧ some k_ ≠ ((.slice Ao25 t666.length co25) : Value).ownBlock) (.slice Ao35 t675.length co35) t675) ∧ Aside0 (w'.heap[gb660]? = some (.cells #[.int .i64 t646, (.slice Ao14 t647.length co14), (.slice Ao15 t650.length co15)] 26 (0, 0))) ∧ Aside0 (w'.heap[gb661]? = some (.cells #[.int .i64 t653, (.slice Ao17 t654.length co17), (.slice Ao18 t657.length co18)] 26 (0, 0))) ∧ Aside0 (w'.heap[gb670]? = some (.cells #[.int .i64 t662, (.slice Ao24 t663.length co24), (.slice Ao25 t666.length co25)] 26 (0, 0))) ∧ Aside0 (w'.heap[gb679]? = some (.cells #[.int .i64 t671, (.slice Ao34 t672.length co34), (.slice Ao35 t675.length co35)] 26 (0, 0))) ∧ Aside0 (Below w.heap.size w w'))
       case atStart => exact ⟨(([] : List ByteArray)), (0), (0), wZ, wZ, H', ⟨Nat.le_refl _⟩, ⟨nZ⟩, ⟨Rz HO_661001.out⟩, ⟨Rz (Kd.R_mono HO_661002.out (fun _ hk => ⟨(by simp [Value.ownBlock]), ⟨hk.1, ⟨hk.2.1, hk.2.2⟩⟩⟩))⟩, ⟨Rz HO_662001.out⟩, ⟨Rz (Kd.R_mono HO_662002.out (fun _ hk => ⟨(by simp [Value.ownBlock]), ⟨hk.1, ⟨hk.2.1, hk.2.2⟩⟩⟩))⟩, ⟨Rz HO_671001.out⟩, ⟨Rz (Kd.R_mono HO_671002.out (fun _ hk => ⟨(by simp [Value.ownBlock]), ⟨hk.1, ⟨hk.2.1, hk.2.2⟩⟩⟩))⟩, ⟨Rz HO_680001.out⟩, ⟨Rz (Kd.R_mono HO_680002.out (fun _ hk => ⟨(by simp [Value.ownBlock]), ⟨hk.1, ⟨hk.2.1, hk.2.2⟩⟩⟩))⟩, ⟨Kz BK660.out⟩, ⟨Kz BK661.out⟩, ⟨Kz BK670.out⟩, ⟨Kz BK679.out⟩, ⟨Bq⟩⟩
       case round =>
        clear H'
        try clear c1
        try clear c2
        try clear p2
        try clear c3
        try clear c4
        try clear c5
        try clear c10
        try clear c12
        try clear c21
        try clear c22
        try clear c30
        try clear c31
        try clear c32
        try clear c33
        try clear c34
        try clear c35
        try clear c36
        try clear c36b0
        try clear c36b1
        try clear c36b2
        try clear c37
        try clear c37b0
        try clear c37b1
        try clear c39
        try clear c41
        try clear c42
        try clear c43
        try clear c45
        try clear c46
        try clear c48
        try clear c49
        try clear c50
        try clear c51
        try clear c52
        try clear p2
        obtain ⟨x11_2, x12_2, x85_2, rfl, rfl, HA, HK2, HO_11, HO_661001, HO_661002, HO_662001, HO_662002, HO_671001, HO_671002, HO_680001, HO_680002, BK660, BK661, BK670, BK679, HB⟩ := hrel; cases gk with
        | zero => exact absurd HA.out (by simp [laws_FnFrontsMerge.l0])
        | succ k2 =>
         have H := HA.out; clear HA
         simp only [laws_FnFrontsMerge.l0] at H
         by_cases c54 : x85_2 < (t663.length : Int)
         ·rw [if_pos c54] at H
          have c54b0 : decide (x85_2 < (t663.length : Int)) = true := decide_eq_true c54; clear c54; obtain ⟨⟨t682, t683⟩, A55, H⟩ := ob H; (try dsimp -simprocs only at H); obtain ⟨⟨t684, t685⟩, A56, H⟩ := ob H; (try dsimp -simprocs only at H); obtain ⟨⟨t686, t687⟩, A57, H⟩ := ob H; (try dsimp -simprocs only at H)
          by_cases c58 : t683 = true
          ·subst c58
           rw [if_pos rfl] at H
           by_cases c59 : t685 = true
           ·subst c59
            rw [if_pos rfl] at H
            by_cases c60 : t687 = true
            ·subst c60
             rw [if_pos rfl] at H
             by_cases c61 : t684 = true
             ·subst c61
              rw [if_pos rfl] at H
              by_cases c62 : x11_2.length < 8796093022208
              ·rw [if_pos c62] at H
               have LMc62 := am c62; clear c62; obtain ⟨y688, hy688⟩ : ∃ y_ : List ByteArray, y_ = (x11_2 ++ [t682]) := ⟨_, rfl⟩
               replace H : (laws_FnFrontsMerge.l0 k2 y688 (wrap64 (x12_2 + (wrap64 ((t682.size : Int) + 1)))) (t663.length : Int) (wrap64 (x85_2 + 1)) t646 t647 t650 t653 t654 t657 t662 t663 t666) = some r := by first | (rw [hy688]; with_reducible exact H) | (have H2_ := (Option.bind_some _ _).symm.trans H; rw [hy688]; with_reducible exact H2_) | (have H2_ := (Option.bind_some _ _).symm.trans H; with_reducible exact H2_) | with_reducible exact H | (rw [hy688]; exact H) | exact H
               have Ny688 := am hy688; clear hy688; have H' := am H; clear H; have hnb63 := NB670_660.out; have hnc63 := NB660_670.out; have hnb64 := NB670_661.out; have hnc64 := NB661_670.out; have hnb65 := NB670_679.out; have hnc65 := NB679_670.out; obtain ⟨hcz66_0, hcz66_1, hcz66_2, hfz66_0, hfz66_1, hfz66_2⟩ := cf3 (w := wr) BK670
               go_wp2_with (first | ((with_reducible refine gate_callee (f := 25) rfl ?_); refine gL (some 91) Try.func25 #[.agg #[.int .i64 t662, .slice Ao24 t663.length co24, .slice Ao25 t666.length co25], .int .i64 x85_2] ?_; (with_reducible refine (impl_FrontKey.calls k2 t662 _ _ t663 _ _ t666 x85_2 t682 true _ ?side1 ?side2 ?side3 ?side4 A55.out).mono ?_); (case side1 => exact Cz ((Kd.R_reads' HO_671001.out).2.2)); (case side2 => exact (Kd.R_reads' HO_671001.out).2.1); (case side3 => exact Cz ((Kd.R_reads' HO_671002.out).2.2)); (case side4 => exact (Kd.R_reads' HO_671002.out).2.1); rintro e w67 ⟨rfl, hb⟩; refine ⟨_, rfl, ?_⟩; have n0_ := Rb HO_11 hb; have n1_ := Rb HO_661001 hb; have n2_ := Rb HO_661002 hb; have n3_ := Rb HO_662001 hb; have n4_ := Rb HO_662002 hb; have n5_ := Rb HO_671001 hb; have n6_ := Rb HO_671002 hb; have n7_ := Rb HO_680001 hb; have n8_ := Rb HO_680002 hb; have n9_ := Kb BK660 hb; have n10_ := Kb BK661 hb; have n11_ := Kb BK670 hb; have n12_ := Kb BK679 hb; have n13_ := Bc HB hb; clear HO_11 HO_661001 HO_661002 HO_662001 HO_662002 HO_671001 HO_671002 HO_680001 HO_680002 BK660 BK661 BK670 BK679 HB; revert n0_ n1_ n2_ n3_ n4_ n5_ n6_ n7_ n8_ n9_ n10_ n11_ n12_ n13_; intro HO_11 HO_661001 HO_661002 HO_662001 HO_662002 HO_671001 HO_671002 HO_680001 HO_680002 BK660 BK661 BK670 BK679 HB; (try clear hb); (try clear hb2); (try clear hk); (try clear hi); have hnb68 := NB660_661.out; have hnc68 := NB661_660.out; have hnb69 := NB660_679.out; have hnc69 := NB679_660.out; obtain ⟨hcz70_0, hcz70_1, hcz70_2, hfz70_0, hfz70_1, hfz70_2⟩ := cf3 (w := w67) BK660) | ((with_reducible refine gate_callee (f := 29) rfl ?_); refine gL (some 97) Try.func29 #[.agg #[.int .i64 t646, .slice Ao14 t647.length co14, .slice Ao15 t650.length co15], .string t682] ?_; (with_reducible refine (impl_FrontHas.calls k2 t646 _ _ t647 _ _ t650 t682 true true _ ?side1 ?side2 ?side3 ?side4 A56.out).mono ?_); (case side1 => exact Cz ((Kd.R_reads' HO_661001.out).2.2)); (case side2 => exact (Kd.R_reads' HO_661001.out).2.1); (case side3 => exact Cz ((Kd.R_reads' HO_661002.out).2.2)); (case side4 => exact (Kd.R_reads' HO_661002.out).2.1); rintro e w71 ⟨rfl, hb⟩; refine ⟨_, rfl, ?_⟩; have n0_ := Rb HO_11 hb; have n1_ := Rb HO_661001 hb; have n2_ := Rb HO_661002 hb; have n3_ := Rb HO_662001 hb; have n4_ := Rb HO_662002 hb; have n5_ := Rb HO_671001 hb; have n6_ := Rb HO_671002 hb; have n7_ := Rb HO_680001 hb; have n8_ := Rb HO_680002 hb; have n9_ := Kb BK660 hb; have n10_ := Kb BK661 hb; have n11_ := Kb BK670 hb; have n12_ := Kb BK679 hb; have n13_ := Bc HB hb; clear HO_11 HO_661001 HO_661002 HO_662001 HO_662002 HO_671001 HO_671002 HO_680001 HO_680002 BK660 BK661 BK670 BK679 HB; revert n0_ n1_ n2_ n3_ n4_ n5_ n6_ n7_ n8_ n9_ n10_ n11_ n12_ n13_; intro HO_11 HO_661001 HO_661002 HO_662001 HO_662002 HO_671001 HO_671002 HO_680001 HO_680002 BK660 BK661 BK670 BK679 HB; (try clear hb); (try clear hb2); (try clear hk); (try clear hi); have hnb72 := NB661_679.out; have hnc72 := NB679_661.out; obtain ⟨hcz73_0, hcz73_1, hcz73_2, hfz73_0, hfz73_1, hfz73_2⟩ := cf3 (w := w71) BK661) | ((with_reducible refine gate_callee (f := 29) rfl ?_); refine gL (some 103) Try.func29 #[.agg #[.int .i64 t653, .slice Ao17 t654.length co17, .slice Ao18 t657.length co18], .string t682] ?_; (with_reducible refine (impl_FrontHas.calls k2 t653 _ _ t654 _ _ t657 t682 t686 true _ ?side1 ?side2 ?side3 ?side4 A57.out).mono ?_); (case side1 => exact Cz ((Kd.R_reads' HO_662001.out).2.2)); (case side2 => exact (Kd.R_reads' HO_662001.out).2.1); (case side3 => exact Cz ((Kd.R_reads' HO_662002.out).2.2)); (case side4 => exact (Kd.R_reads' HO_662002.out).2.1); rintro e w74 ⟨rfl, hb⟩; refine ⟨_, rfl, ?_⟩; have n0_ := Rb HO_11 hb; have n1_ := Rb HO_661001 hb; have n2_ := Rb HO_661002 hb; have n3_ := Rb HO_662001 hb; have n4_ := Rb HO_662002 hb; have n5_ := Rb HO_671001 hb; have n6_ := Rb HO_671002 hb; have n7_ := Rb HO_680001 hb; have n8_ := Rb HO_680002 hb; have n9_ := Kb BK660 hb; have n10_ := Kb BK661 hb; have n11_ := Kb BK670 hb; have n12_ := Kb BK679 hb; have n13_ := Bc HB hb; clear HO_11 HO_661001 HO_661002 HO_662001 HO_662002 HO_671001 HO_671002 HO_680001 HO_680002 BK660 BK661 BK670 BK679 HB; revert n0_ n1_ n2_ n3_ n4_ n5_ n6_ n7_ n8_ n9_ n10_ n11_ n12_ n13_; intro HO_11 HO_661001 HO_661002 HO_662001 HO_662002 HO_671001 HO_671002 HO_680001 HO_680002 BK660 BK661 BK670 BK679 HB; (try clear hb); (try clear hb2); (try clear hk); (try clear hi)) | ((with_reducible refine gate_builtin (b := .append) (xs := #[.tmp 124, .tmp 126]) rfl ?_); at_builtin; refine Kd.R_append Kd.string (w0 := w) w.heap.size rfl (.tmp 124) (.tmp 126) 22 9 (.string ⟨#[]⟩) 16 rfl Try.underlying22 info9 rfl (by decide) (by omega) u11 x11_2 t682 [.string t682] (fun k_ => some k_ ≠ (.slice Ao15 t650.length co15 : Value).ownBlock ∧ some k_ ≠ (.slice Ao18 t657.length co18 : Value).ownBlock ∧ some k_ ≠ (.slice Ao25 t666.length co25 : Value).ownBlock ∧ some k_ ≠ (.slice Ao35 t675.length co35 : Value).ownBlock) (fun _ => False) rfl rfl ?aP (fun _ hk => hk.elim) ?aF ?aO ?aB ?aS ?aL ?_; (case aP => exact rfl); (case aB => exact (Bq)); (case aF => exact (fun k_ hk => ⟨Kd.fresh' (Kd.R_lt (Rz HO_661002.out)) k_ hk, Kd.fresh' (Kd.R_lt (Rz HO_662002.out)) k_ hk, Kd.fresh' (Kd.R_lt (Rz HO_671002.out)) k_ hk, Kd.fresh' (Kd.R_lt (Rz HO_680002.out)) k_ hk⟩)); (case aO => exact (Rz HO_11.out)); (case aS => exact (below_size (w := w) (Bq))); (case aL => have := LMc62.out; omega); intro v689 w75 ho hb hg hat; rw [← Ny688.out] at ho; have n0_ := am (Kd.R_over' (Rz HO_661001.out) (Kd.R_typed (Rz HO_11.out)) (by decide) hg); have n1_ := am (Kd.R_after (ok := (fun k_ => some k_ ≠ (.slice Ao18 t657.length co18 : Value).ownBlock ∧ some k_ ≠ (.slice Ao25 t666.length co25 : Value).ownBlock ∧ some k_ ≠ (.slice Ao35 t675.length co35 : Value).ownBlock)) (Rz (Kd.R_mono HO_661002.out (fun _ hk => ⟨⟨hk.2.1, ⟨hk.2.2.1, hk.2.2.2⟩⟩, hk.1⟩))) hg hat); have n2_ := am (Kd.R_over' (Rz HO_662001.out) (Kd.R_typed (Rz HO_11.out)) (by decide) hg); have n3_ := am (Kd.R_after (ok := (fun k_ => some k_ ≠ (.slice Ao15 t650.length co15 : Value).ownBlock ∧ some k_ ≠ (.slice Ao25 t666.length co25 : Value).ownBlock ∧ some k_ ≠ (.slice Ao35 t675.length co35 : Value).ownBlock)) (Rz (Kd.R_mono HO_662002.out (fun _ hk => ⟨⟨hk.2.1, ⟨hk.2.2.1, hk.2.2.2⟩⟩, hk.1⟩))) hg hat); have n4_ := am (Kd.R_over' (Rz HO_671001.out) (Kd.R_typed (Rz HO_11.out)) (by decide) hg); have n5_ := am (Kd.R_after (ok := (fun k_ => some k_ ≠ (.slice Ao15 t650.length co15 : Value).ownBlock ∧ some k_ ≠ (.slice Ao18 t657.length co18 : Value).ownBlock ∧ some k_ ≠ (.slice Ao35 t675.length co35 : Value).ownBlock)) (Rz (Kd.R_mono HO_671002.out (fun _ hk => ⟨⟨hk.2.1, ⟨hk.2.2.1, hk.2.2.2⟩⟩, hk.1⟩))) hg hat); have n6_ := am (Kd.R_over' (Rz HO_680001.out) (Kd.R_typed (Rz HO_11.out)) (by decide) hg); have n7_ := am (Kd.R_after (ok := (fun k_ => some k_ ≠ (.slice Ao15 t650.length co15 : Value).ownBlock ∧ some k_ ≠ (.slice Ao18 t657.length co18 : Value).ownBlock ∧ some k_ ≠ (.slice Ao25 t666.length co25 : Value).ownBlock)) (Rz (Kd.R_mono HO_680002.out (fun _ hk => ⟨⟨hk.2.1, ⟨hk.2.2.1, hk.2.2.2⟩⟩, hk.1⟩))) hg hat); have n8_ := am (blk_grown (g := gb660) (o := .cells #[.int .i64 t646, .slice Ao14 t647.length co14, .slice Ao15 t650.length co15] 26 (0, 0)) (Kz BK660.out) hg (Kd.R_ne HO_11.out BK660.out (by decide))); have n9_ := am (blk_grown (g := gb661) (o := .cells #[.int .i64 t653, .slice Ao17 t654.length co17, .slice Ao18 t657.length co18] 26 (0, 0)) (Kz BK661.out) hg (Kd.R_ne HO_11.out BK661.out (by decide))); have n10_ := am (blk_grown (g := gb670) (o := .cells #[.int .i64 t662, .slice Ao24 t663.length co24, .slice Ao25 t666.length co25] 26 (0, 0)) (Kz BK670.out) hg (Kd.R_ne HO_11.out BK670.out (by decide))); have n11_ := am (blk_grown (g := gb679) (o := .cells #[.int .i64 t671, .slice Ao34 t672.length co34, .slice Ao35 t675.length co35] 26 (0, 0)) (Kz BK679.out) hg (Kd.R_ne HO_11.out BK679.out (by decide))); have n12_ := am (hb); have n13_ := am (ho); clear HO_661001 HO_661002 HO_662001 HO_662002 HO_671001 HO_671002 HO_680001 HO_680002 BK660 BK661 BK670 BK679 HB HO_11; revert n0_ n1_ n2_ n3_ n4_ n5_ n6_ n7_ n8_ n9_ n10_ n11_ n12_ n13_; intro HO_661001 HO_661002 HO_662001 HO_662002 HO_671001 HO_671002 HO_680001 HO_680002 BK660 BK661 BK670 BK679 HB HO690; clear ho hb hg hat))
               go_roundg k2
               case measure => have := HJ7.out; have := HK2.out; omega
               case rel => exact ⟨(y688), (wrap64 (x12_2 + (wrap64 ((t682.size : Int) + 1)))), (wrap64 (x85_2 + 1)), wZ, wZ, H', ⟨by have := HJ7.out; have := HK2.out; omega⟩, ⟨Rz HO690.out⟩, ⟨Rz HO_661001.out⟩, ⟨Rz (Kd.R_mono HO_661002.out (fun _ hk => ⟨hk.2, ⟨hk.1.1, ⟨hk.1.2.1, hk.1.2.2⟩⟩⟩))⟩, ⟨Rz HO_662001.out⟩, ⟨Rz (Kd.R_mono HO_662002.out (fun _ hk => ⟨hk.2, ⟨hk.1.1, ⟨hk.1.2.1, hk.1.2.2⟩⟩⟩))⟩, ⟨Rz HO_671001.out⟩, ⟨Rz (Kd.R_mono HO_671002.out (fun _ hk => ⟨hk.2, ⟨hk.1.1, ⟨hk.1.2.1, hk.1.2.2⟩⟩⟩))⟩, ⟨Rz HO_680001.out⟩, ⟨Rz (Kd.R_mono HO_680002.out (fun _ hk => ⟨hk.2, ⟨hk.1.1, ⟨hk.1.2.1, hk.1.2.2⟩⟩⟩))⟩, ⟨Kz BK660.out⟩, ⟨Kz BK661.out⟩, ⟨Kz BK670.out⟩, ⟨Kz BK679.out⟩, ⟨Bq⟩⟩
              ·rw [if_neg c62] at H
               exact absurd H (by simp)
             ·replace c61 := Bool.eq_false_iff.mpr c61
              subst c61
              rw [if_neg (show ¬ (false = true) by decide)] at H
              by_cases c76 : t686 = true
              ·subst c76
               rw [if_pos rfl] at H
               by_cases c77 : x11_2.length < 8796093022208
               ·rw [if_pos c77] at H
                have LMc77 := am c77; clear c77; obtain ⟨y691, hy691⟩ : ∃ y_ : List ByteArray, y_ = (x11_2 ++ [t682]) := ⟨_, rfl⟩
                replace H : (laws_FnFrontsMerge.l0 k2 y691 (wrap64 (x12_2 + (wrap64 ((t682.size : Int) + 1)))) (t663.length : Int) (wrap64 (x85_2 + 1)) t646 t647 t650 t653 t654 t657 t662 t663 t666) = some r := by first | (rw [hy691]; with_reducible exact H) | (have H2_ := (Option.bind_some _ _).symm.trans H; rw [hy691]; with_reducible exact H2_) | (have H2_ := (Option.bind_some _ _).symm.trans H; with_reducible exact H2_) | with_reducible exact H | (rw [hy691]; exact H) | exact H
                have Ny691 := am hy691; clear hy691; have H' := am H; clear H; have hnb78 := NB670_660.out; have hnc78 := NB660_670.out; have hnb79 := NB670_661.out; have hnc79 := NB661_670.out; have hnb80 := NB670_679.out; have hnc80 := NB679_670.out; obtain ⟨hcz81_0, hcz81_1, hcz81_2, hfz81_0, hfz81_1, hfz81_2⟩ := cf3 (w := wr) BK670
                go_wp2_with (first | ((with_reducible refine gate_callee (f := 25) rfl ?_); refine gL (some 91) Try.func25 #[.agg #[.int .i64 t662, .slice Ao24 t663.length co24, .slice Ao25 t666.length co25], .int .i64 x85_2] ?_; (with_reducible refine (impl_FrontKey.calls k2 t662 _ _ t663 _ _ t666 x85_2 t682 true _ ?side1 ?side2 ?side3 ?side4 A55.out).mono ?_); (case side1 => exact Cz ((Kd.R_reads' HO_671001.out).2.2)); (case side2 => exact (Kd.R_reads' HO_671001.out).2.1); (case side3 => exact Cz ((Kd.R_reads' HO_671002.out).2.2)); (case side4 => exact (Kd.R_reads' HO_671002.out).2.1); rintro e w82 ⟨rfl, hb⟩; refine ⟨_, rfl, ?_⟩; have n0_ := Rb HO_11 hb; have n1_ := Rb HO_661001 hb; have n2_ := Rb HO_661002 hb; have n3_ := Rb HO_662001 hb; have n4_ := Rb HO_662002 hb; have n5_ := Rb HO_671001 hb; have n6_ := Rb HO_671002 hb; have n7_ := Rb HO_680001 hb; have n8_ := Rb HO_680002 hb; have n9_ := Kb BK660 hb; have n10_ := Kb BK661 hb; have n11_ := Kb BK670 hb; have n12_ := Kb BK679 hb; have n13_ := Bc HB hb; clear HO_11 HO_661001 HO_661002 HO_662001 HO_662002 HO_671001 HO_671002 HO_680001 HO_680002 BK660 BK661 BK670 BK679 HB; revert n0_ n1_ n2_ n3_ n4_ n5_ n6_ n7_ n8_ n9_ n10_ n11_ n12_ n13_; intro HO_11 HO_661001 HO_661002 HO_662001 HO_662002 HO_671001 HO_671002 HO_680001 HO_680002 BK660 BK661 BK670 BK679 HB; (try clear hb); (try clear hb2); (try clear hk); (try clear hi); have hnb83 := NB660_661.out; have hnc83 := NB661_660.out; have hnb84 := NB660_679.out; have hnc84 := NB679_660.out; obtain ⟨hcz85_0, hcz85_1, hcz85_2, hfz85_0, hfz85_1, hfz85_2⟩ := cf3 (w := w82) BK660) | ((with_reducible refine gate_callee (f := 29) rfl ?_); refine gL (some 97) Try.func29 #[.agg #[.int .i64 t646, .slice Ao14 t647.length co14, .slice Ao15 t650.length co15], .string t682] ?_; (with_reducible refine (impl_FrontHas.calls k2 t646 _ _ t647 _ _ t650 t682 false true _ ?side1 ?side2 ?side3 ?side4 A56.out).mono ?_); (case side1 => exact Cz ((Kd.R_reads' HO_661001.out).2.2)); (case side2 => exact (Kd.R_reads' HO_661001.out).2.1); (case side3 => exact Cz ((Kd.R_reads' HO_661002.out).2.2)); (case side4 => exact (Kd.R_reads' HO_661002.out).2.1); rintro e w86 ⟨rfl, hb⟩; refine ⟨_, rfl, ?_⟩; have n0_ := Rb HO_11 hb; have n1_ := Rb HO_661001 hb; have n2_ := Rb HO_661002 hb; have n3_ := Rb HO_662001 hb; have n4_ := Rb HO_662002 hb; have n5_ := Rb HO_671001 hb; have n6_ := Rb HO_671002 hb; have n7_ := Rb HO_680001 hb; have n8_ := Rb HO_680002 hb; have n9_ := Kb BK660 hb; have n10_ := Kb BK661 hb; have n11_ := Kb BK670 hb; have n12_ := Kb BK679 hb; have n13_ := Bc HB hb; clear HO_11 HO_661001 HO_661002 HO_662001 HO_662002 HO_671001 HO_671002 HO_680001 HO_680002 BK660 BK661 BK670 BK679 HB; revert n0_ n1_ n2_ n3_ n4_ n5_ n6_ n7_ n8_ n9_ n10_ n11_ n12_ n13_; intro HO_11 HO_661001 HO_661002 HO_662001 HO_662002 HO_671001 HO_671002 HO_680001 HO_680002 BK660 BK661 BK670 BK679 HB; (try clear hb); (try clear hb2); (try clear hk); (try clear hi); have hnb87 := NB661_679.out; have hnc87 := NB679_661.out; obtain ⟨hcz88_0, hcz88_1, hcz88_2, hfz88_0, hfz88_1, hfz88_2⟩ := cf3 (w := w86) BK661) | ((with_reducible refine gate_callee (f := 29) rfl ?_); refine gL (some 103) Try.func29 #[.agg #[.int .i64 t653, .slice Ao17 t654.length co17, .slice Ao18 t657.length co18], .string t682] ?_; (with_reducible refine (impl_FrontHas.calls k2 t653 _ _ t654 _ _ t657 t682 true true _ ?side1 ?side2 ?side3 ?side4 A57.out).mono ?_); (case side1 => exact Cz ((Kd.R_reads' HO_662001.out).2.2)); (case side2 => exact (Kd.R_reads' HO_662001.out).2.1); (case side3 => exact Cz ((Kd.R_reads' HO_662002.out).2.2)); (case side4 => exact (Kd.R_reads' HO_662002.out).2.1); rintro e w89 ⟨rfl, hb⟩; refine ⟨_, rfl, ?_⟩; have n0_ := Rb HO_11 hb; have n1_ := Rb HO_661001 hb; have n2_ := Rb HO_661002 hb; have n3_ := Rb HO_662001 hb; have n4_ := Rb HO_662002 hb; have n5_ := Rb HO_671001 hb; have n6_ := Rb HO_671002 hb; have n7_ := Rb HO_680001 hb; have n8_ := Rb HO_680002 hb; have n9_ := Kb BK660 hb; have n10_ := Kb BK661 hb; have n11_ := Kb BK670 hb; have n12_ := Kb BK679 hb; have n13_ := Bc HB hb; clear HO_11 HO_661001 HO_661002 HO_662001 HO_662002 HO_671001 HO_671002 HO_680001 HO_680002 BK660 BK661 BK670 BK679 HB; revert n0_ n1_ n2_ n3_ n4_ n5_ n6_ n7_ n8_ n9_ n10_ n11_ n12_ n13_; intro HO_11 HO_661001 HO_661002 HO_662001 HO_662002 HO_671001 HO_671002 HO_680001 HO_680002 BK660 BK661 BK670 BK679 HB; (try clear hb); (try clear hb2); (try clear hk); (try clear hi)) | ((with_reducible refine gate_builtin (b := .append) (xs := #[.tmp 124, .tmp 126]) rfl ?_); at_builtin; refine Kd.R_append Kd.string (w0 := w) w.heap.size rfl (.tmp 124) (.tmp 126) 22 9 (.string ⟨#[]⟩) 16 rfl Try.underlying22 info9 rfl (by decide) (by omega) u11 x11_2 t682 [.string t682] (fun k_ => some k_ ≠ (.slice Ao15 t650.length co15 : Value).ownBlock ∧ some k_ ≠ (.slice Ao18 t657.length co18 : Value).ownBlock ∧ some k_ ≠ (.slice Ao25 t666.length co25 : Value).ownBlock ∧ some k_ ≠ (.slice Ao35 t675.length co35 : Value).ownBlock) (fun _ => False) rfl rfl ?aP (fun _ hk => hk.elim) ?aF ?aO ?aB ?aS ?aL ?_; (case aP => exact rfl); (case aB => exact (Bq)); (case aF => exact (fun k_ hk => ⟨Kd.fresh' (Kd.R_lt (Rz HO_661002.out)) k_ hk, Kd.fresh' (Kd.R_lt (Rz HO_662002.out)) k_ hk, Kd.fresh' (Kd.R_lt (Rz HO_671002.out)) k_ hk, Kd.fresh' (Kd.R_lt (Rz HO_680002.out)) k_ hk⟩)); (case aO => exact (Rz HO_11.out)); (case aS => exact (below_size (w := w) (Bq))); (case aL => have := LMc77.out; omega); intro v692 w90 ho hb hg hat; rw [← Ny691.out] at ho; have n0_ := am (Kd.R_over' (Rz HO_661001.out) (Kd.R_typed (Rz HO_11.out)) (by decide) hg); have n1_ := am (Kd.R_after (ok := (fun k_ => some k_ ≠ (.slice Ao18 t657.length co18 : Value).ownBlock ∧ some k_ ≠ (.slice Ao25 t666.length co25 : Value).ownBlock ∧ some k_ ≠ (.slice Ao35 t675.length co35 : Value).ownBlock)) (Rz (Kd.R_mono HO_661002.out (fun _ hk => ⟨⟨hk.2.1, ⟨hk.2.2.1, hk.2.2.2⟩⟩, hk.1⟩))) hg hat); have n2_ := am (Kd.R_over' (Rz HO_662001.out) (Kd.R_typed (Rz HO_11.out)) (by decide) hg); have n3_ := am (Kd.R_after (ok := (fun k_ => some k_ ≠ (.slice Ao15 t650.length co15 : Value).ownBlock ∧ some k_ ≠ (.slice Ao25 t666.length co25 : Value).ownBlock ∧ some k_ ≠ (.slice Ao35 t675.length co35 : Value).ownBlock)) (Rz (Kd.R_mono HO_662002.out (fun _ hk => ⟨⟨hk.2.1, ⟨hk.2.2.1, hk.2.2.2⟩⟩, hk.1⟩))) hg hat); have n4_ := am (Kd.R_over' (Rz HO_671001.out) (Kd.R_typed (Rz HO_11.out)) (by decide) hg); have n5_ := am (Kd.R_after (ok := (fun k_ => some k_ ≠ (.slice Ao15 t650.length co15 : Value).ownBlock ∧ some k_ ≠ (.slice Ao18 t657.length co18 : Value).ownBlock ∧ some k_ ≠ (.slice Ao35 t675.length co35 : Value).ownBlock)) (Rz (Kd.R_mono HO_671002.out (fun _ hk => ⟨⟨hk.2.1, ⟨hk.2.2.1, hk.2.2.2⟩⟩, hk.1⟩))) hg hat); have n6_ := am (Kd.R_over' (Rz HO_680001.out) (Kd.R_typed (Rz HO_11.out)) (by decide) hg); have n7_ := am (Kd.R_after (ok := (fun k_ => some k_ ≠ (.slice Ao15 t650.length co15 : Value).ownBlock ∧ some k_ ≠ (.slice Ao18 t657.length co18 : Value).ownBlock ∧ some k_ ≠ (.slice Ao25 t666.length co25 : Value).ownBlock)) (Rz (Kd.R_mono HO_680002.out (fun _ hk => ⟨⟨hk.2.1, ⟨hk.2.2.1, hk.2.2.2⟩⟩, hk.1⟩))) hg hat); have n8_ := am (blk_grown (g := gb660) (o := .cells #[.int .i64 t646, .slice Ao14 t647.length co14, .slice Ao15 t650.length co15] 26 (0, 0)) (Kz BK660.out) hg (Kd.R_ne HO_11.out BK660.out (by decide))); have n9_ := am (blk_grown (g := gb661) (o := .cells #[.int .i64 t653, .slice Ao17 t654.length co17, .slice Ao18 t657.length co18] 26 (0, 0)) (Kz BK661.out) hg (Kd.R_ne HO_11.out BK661.out (by decide))); have n10_ := am (blk_grown (g := gb670) (o := .cells #[.int .i64 t662, .slice Ao24 t663.length co24, .slice Ao25 t666.length co25] 26 (0, 0)) (Kz BK670.out) hg (Kd.R_ne HO_11.out BK670.out (by decide))); have n11_ := am (blk_grown (g := gb679) (o := .cells #[.int .i64 t671, .slice Ao34 t672.length co34, .slice Ao35 t675.length co35] 26 (0, 0)) (Kz BK679.out) hg (Kd.R_ne HO_11.out BK679.out (by decide))); have n12_ := am (hb); have n13_ := am (ho); clear HO_661001 HO_661002 HO_662001 HO_662002 HO_671001 HO_671002 HO_680001 HO_680002 BK660 BK661 BK670 BK679 HB HO_11; revert n0_ n1_ n2_ n3_ n4_ n5_ n6_ n7_ n8_ n9_ n10_ n11_ n12_ n13_; intro HO_661001 HO_661002 HO_662001 HO_662002 HO_671001 HO_671002 HO_680001 HO_680002 BK660 BK661 BK670 BK679 HB HO693; clear ho hb hg hat))
                go_roundg k2
                case measure => have := HJ7.out; have := HK2.out; omega
                case rel => exact ⟨(y691), (wrap64 (x12_2 + (wrap64 ((t682.size : Int) + 1)))), (wrap64 (x85_2 + 1)), wZ, wZ, H', ⟨by have := HJ7.out; have := HK2.out; omega⟩, ⟨Rz HO693.out⟩, ⟨Rz HO_661001.out⟩, ⟨Rz (Kd.R_mono HO_661002.out (fun _ hk => ⟨hk.2, ⟨hk.1.1, ⟨hk.1.2.1, hk.1.2.2⟩⟩⟩))⟩, ⟨Rz HO_662001.out⟩, ⟨Rz (Kd.R_mono HO_662002.out (fun _ hk => ⟨hk.2, ⟨hk.1.1, ⟨hk.1.2.1, hk.1.2.2⟩⟩⟩))⟩, ⟨Rz HO_671001.out⟩, ⟨Rz (Kd.R_mono HO_671002.out (fun _ hk => ⟨hk.2, ⟨hk.1.1, ⟨hk.1.2.1, hk.1.2.2⟩⟩⟩))⟩, ⟨Rz HO_680001.out⟩, ⟨Rz (Kd.R_mono HO_680002.out (fun _ hk => ⟨hk.2, ⟨hk.1.1, ⟨hk.1.2.1, hk.1.2.2⟩⟩⟩))⟩, ⟨Kz BK660.out⟩, ⟨Kz BK661.out⟩, ⟨Kz BK670.out⟩, ⟨Kz BK679.out⟩, ⟨Bq⟩⟩
               ·rw [if_neg c77] at H
                exact absurd H (by simp)
              ·replace c76 := Bool.eq_false_iff.mpr c76
               subst c76
               rw [if_neg (show ¬ (false = true) by decide)] at H; exact absurd (Option.some.inj H) (by rw [HQT_.out]; decide)
            ·replace c60 := Bool.eq_false_iff.mpr c60
             subst c60
             rw [if_neg (show ¬ (false = true) by decide)] at H; exact absurd (Option.some.inj H) (by rw [HQT_.out]; decide)
           ·replace c59 := Bool.eq_false_iff.mpr c59
            subst c59
            rw [if_neg (show ¬ (false = true) by decide)] at H; exact absurd (Option.some.inj H) (by rw [HQT_.out]; decide)
          ·replace c58 := Bool.eq_false_iff.mpr c58
           subst c58
           rw [if_neg (show ¬ (false = true) by decide)] at H; exact absurd (Option.some.inj H) (by rw [HQT_.out]; decide)
         ·rw [if_neg c54] at H
          have c54b0 : decide (x85_2 < (t663.length : Int)) = false := decide_eq_false c54; clear c54; obtain ⟨⟨t694, t695, t698, t701⟩, A91, H⟩ := ob H; (try dsimp -simprocs only at H); obtain ⟨⟨t703, t704⟩, A92, H⟩ := ob H; (try dsimp -simprocs only at H); have HC93 := am H; clear H; have hnb94 := NB660_661.out; have hnc94 := NB661_660.out; have hnb95 := NB660_670.out; have hnc95 := NB670_660.out; have hnb96 := NB660_679.out; have hnc96 := NB679_660.out; obtain ⟨hcz97_0, hcz97_1, hcz97_2, hfz97_0, hfz97_1, hfz97_2⟩ := cf3 (w := wr) BK660; obtain ⟨Ao98, co98, eo98⟩ := Kd.R_slice HO_11.out; subst eo98
          go_upto_region 25 with (first | ((with_reducible refine gate_callee (f := 14) rfl ?_); refine gL (some 138) Try.func14 #[.slice Ao98 x11_2.length co98, .int .i64 t646] ?_; (with_reducible refine (impl_BuildFront.calls k2 _ _ x11_2 t646 t694 t695 t698 t701 _ ?side1 ?side2 A91.out).mono ?_); (case side1 => exact Cz ((Kd.R_reads' HO_11.out).2.2)); (case side2 => exact (Kd.R_reads' HO_11.out).2.1); rintro e w99 ⟨v696, v699, rfl, ho0, ho1, hb⟩; refine ⟨_, rfl, ?_⟩; have n0_ := Re HO_11 (Kd.R_base ho1) hb; have n1_ := Re HO_661001 (Kd.R_base ho0) hb; have n2_ := Re HO_661002 (Kd.R_base ho1) hb; have n3_ := Re HO_662001 (Kd.R_base ho0) hb; have n4_ := Re HO_662002 (Kd.R_base ho1) hb; have n5_ := Re HO_671001 (Kd.R_base ho0) hb; have n6_ := Re HO_671002 (Kd.R_base ho1) hb; have n7_ := Re HO_680001 (Kd.R_base ho0) hb; have n8_ := Re HO_680002 (Kd.R_base ho1) hb; have n9_ := am (Kd.R_lower (Kd.R_new' (Kd.R_new' (Kd.R_new' (Kd.R_new' ho0 (Kd.R_lt (Rz HO_661001.out))) (Kd.R_lt (Rz HO_662001.out))) (Kd.R_lt (Rz HO_671001.out))) (Kd.R_lt (Rz HO_680001.out))) (below_size (w := w) (Bq))); have n10_ := am (Kd.R_lower (Kd.R_new' (Kd.R_new' (Kd.R_new' (Kd.R_new' (Kd.R_new' ho1 (Kd.R_lt (Rz HO_11.out))) (Kd.R_lt (Rz HO_661002.out))) (Kd.R_lt (Rz HO_662002.out))) (Kd.R_lt (Rz HO_671002.out))) (Kd.R_lt (Rz HO_680002.out))) (below_size (w := w) (Bq))); have n11_ := Kb BK660 hb; have n12_ := Kb BK661 hb; have n13_ := Kb BK670 hb; have n14_ := Kb BK679 hb; have n15_ := Bc HB hb; clear HO_11 HO_661001 HO_661002 HO_662001 HO_662002 HO_671001 HO_671002 HO_680001 HO_680002 BK660 BK661 BK670 BK679 HB; revert n0_ n1_ n2_ n3_ n4_ n5_ n6_ n7_ n8_ n9_ n10_ n11_ n12_ n13_ n14_ n15_; intro HO_11 HO_661001 HO_661002 HO_662001 HO_662002 HO_671001 HO_671002 HO_680001 HO_680002 HO697 HO700 BK660 BK661 BK670 BK679 HB; (try clear hb); (try clear hb2); (try clear hk); (try clear hi); (try clear ho0); (try clear ho1)) | ((with_reducible refine gate_dst (N := 20) rfl ?_); refine bE 20 #[.int .i64 0, .slice none 0 0, .slice none 0 0] 26 ?_; intro gb702 hg w100 hbox hb; have n0_ := Rb HO_11 hb; have n1_ := Rb HO_661001 hb; have n2_ := Rb HO_661002 hb; have n3_ := Rb HO_662001 hb; have n4_ := Rb HO_662002 hb; have n5_ := Rb HO_671001 hb; have n6_ := Rb HO_671002 hb; have n7_ := Rb HO_680001 hb; have n8_ := Rb HO_680002 hb; have n9_ := Rb HO697 hb; have n10_ := Rb HO700 hb; have n11_ := Kb BK660 hb; have n12_ := Kb BK661 hb; have n13_ := Kb BK670 hb; have n14_ := Kb BK679 hb; have n15_ := Bc HB hb; have n16_ := am (hbox); have n17_ := Gm HB hg; have n18_ := Gm HB hg; have n19_ := Nl BK660 hg; have n20_ := Ng BK660 hg; have n21_ := Nl BK661 hg; have n22_ := Ng BK661 hg; have n23_ := Nl BK670 hg; have n24_ := Ng BK670 hg; have n25_ := Nl BK679 hg; have n26_ := Ng BK679 hg; clear HO_11 HO_661001 HO_661002 HO_662001 HO_662002 HO_671001 HO_671002 HO_680001 HO_680002 HO697 HO700 BK660 BK661 BK670 BK679 HB; revert n0_ n1_ n2_ n3_ n4_ n5_ n6_ n7_ n8_ n9_ n10_ n11_ n12_ n13_ n14_ n15_ n16_ n17_ n18_ n19_ n20_ n21_ n22_ n23_ n24_ n25_ n26_; intro HO_11 HO_661001 HO_661002 HO_662001 HO_662002 HO_671001 HO_671002 HO_680001 HO_680002 HO697 HO700 BK660 BK661 BK670 BK679 HB BK702 GW702 GE702 NB660_702 NB702_660 NB661_702 NB702_661 NB670_702 NB702_670 NB679_702 NB702_679; clear hb hbox hg; have hnb101 := NB702_660.out; have hnc101 := NB660_702.out; have hnb102 := NB702_661.out; have hnc102 := NB661_702.out; have hnb103 := NB702_670.out; have hnc103 := NB670_702.out; have hnb104 := NB702_679.out; have hnc104 := NB679_702.out; obtain ⟨hcz105_0, hcz105_1, hcz105_2, hfz105_0, hfz105_1, hfz105_2⟩ := cf3 (w := w100) BK702; obtain ⟨Ao106, co106, eo106⟩ := Kd.R_slice HO697.out; subst eo106; obtain ⟨Ao107, co107, eo107⟩ := Kd.R_slice HO700.out; subst eo107; have hnb108 := NB670_661.out; have hnc108 := NB661_670.out; have hnb109 := NB670_679.out; have hnc109 := NB679_670.out; obtain ⟨hcz110_0, hcz110_1, hcz110_2, hfz110_0, hfz110_1, hfz110_2⟩ := cf3 (w := w100) BK670) | ((with_reducible refine gate_callee (f := 27) rfl ?_); refine gL (some 143) Try.func27 #[.agg #[.int .i64 t662, .slice Ao24 t663.length co24, .slice Ao25 t666.length co25]] ?_; (with_reducible refine (impl_FrontBytes.calls k2 t662 _ _ t663 _ _ t666 t703 t704 _ ?side1 ?side2 ?side3 ?side4 A92.out).mono ?_); (case side1 => refine (Kd.R_reads' (e := 3) (base := w.heap.size) (ok := fun k_ => ((some k_ ≠ (.slice Ao14 t647.length co14 : Value).ownBlock ∧ (some k_ ≠ (.slice Ao17 t654.length co17 : Value).ownBlock ∧ some k_ ≠ (.slice Ao34 t672.length co34 : Value).ownBlock)) ∧ some k_ ≠ (.slice Ao106 t695.length co106 : Value).ownBlock)) (n := t663.length) (c := co24) ?_).2.2; exact (Rz (Kd.R_mono (Kd.R_far (p := ⟨gb702, 2, none⟩) (Kd.R_far (p := ⟨gb702, 1, none⟩) (Kd.R_far (p := ⟨gb702, 0, none⟩) (Kd.R_types HO_671001.out BK702.out (by decide)) (fun _ hk => hk.2) (.int .i64 t694)) (fun _ hk => hk.2) (.slice Ao106 t695.length co106)) (fun _ hk => hk.2) (.slice Ao107 t698.length co107)) (fun _ h_ => h_.1)))); (case side2 => exact (Kd.R_reads' HO_671001.out).2.1); (case side3 => refine (Kd.R_reads' (e := 9) (base := w.heap.size) (ok := fun k_ => ((some k_ ≠ (.slice Ao98 x11_2.length co98 : Value).ownBlock ∧ (some k_ ≠ (.slice Ao15 t650.length co15 : Value).ownBlock ∧ (some k_ ≠ (.slice Ao18 t657.length co18 : Value).ownBlock ∧ some k_ ≠ (.slice Ao35 t675.length co35 : Value).ownBlock))) ∧ some k_ ≠ (.slice Ao107 t698.length co107 : Value).ownBlock)) (n := t666.length) (c := co25) ?_).2.2; exact (Rz (Kd.R_mono (Kd.R_far (p := ⟨gb702, 2, none⟩) (Kd.R_far (p := ⟨gb702, 1, none⟩) (Kd.R_far (p := ⟨gb702, 0, none⟩) (Kd.R_types HO_671002.out BK702.out (by decide)) (fun _ hk => hk.2) (.int .i64 t694)) (fun _ hk => hk.2) (.slice Ao106 t695.length co106)) (fun _ hk => hk.2) (.slice Ao107 t698.length co107)) (fun _ h_ => h_.1)))); (case side4 => exact (Kd.R_reads' HO_671002.out).2.1); rintro e w111 ⟨rfl, hb⟩; refine ⟨_, rfl, ?_⟩; have n0_ := am (Kd.R_below (Rz (Kd.R_mono (Kd.R_far (p := ⟨gb702, 2, none⟩) (Kd.R_far (p := ⟨gb702, 1, none⟩) (Kd.R_far (p := ⟨gb702, 0, none⟩) (Kd.R_types HO_11.out BK702.out (by decide)) (fun _ hk => hk.2) (.int .i64 t694)) (fun _ hk => hk.2) (.slice Ao106 t695.length co106)) (fun _ hk => hk.2) (.slice Ao107 t698.length co107)) (fun _ h_ => h_.1))) hb); have n1_ := am (Kd.R_below (Rz (Kd.R_mono (Kd.R_far (p := ⟨gb702, 2, none⟩) (Kd.R_far (p := ⟨gb702, 1, none⟩) (Kd.R_far (p := ⟨gb702, 0, none⟩) (Kd.R_types HO_661001.out BK702.out (by decide)) (fun _ hk => hk.2) (.int .i64 t694)) (fun _ hk => hk.2) (.slice Ao106 t695.length co106)) (fun _ hk => hk.2) (.slice Ao107 t698.length co107)) (fun _ h_ => h_.1))) hb); have n2_ := am (Kd.R_below (Rz (Kd.R_mono (Kd.R_far (p := ⟨gb702, 2, none⟩) (Kd.R_far (p := ⟨gb702, 1, none⟩) (Kd.R_far (p := ⟨gb702, 0, none⟩) (Kd.R_types HO_661002.out BK702.out (by decide)) (fun _ hk => hk.2) (.int .i64 t694)) (fun _ hk => hk.2) (.slice Ao106 t695.length co106)) (fun _ hk => hk.2) (.slice Ao107 t698.length co107)) (fun _ h_ => h_.1))) hb); have n3_ := am (Kd.R_below (Rz (Kd.R_mono (Kd.R_far (p := ⟨gb702, 2, none⟩) (Kd.R_far (p := ⟨gb702, 1, none⟩) (Kd.R_far (p := ⟨gb702, 0, none⟩) (Kd.R_types HO_662001.out BK702.out (by decide)) (fun _ hk => hk.2) (.int .i64 t694)) (fun _ hk => hk.2) (.slice Ao106 t695.length co106)) (fun _ hk => hk.2) (.slice Ao107 t698.length co107)) (fun _ h_ => h_.1))) hb); have n4_ := am (Kd.R_below (Rz (Kd.R_mono (Kd.R_far (p := ⟨gb702, 2, none⟩) (Kd.R_far (p := ⟨gb702, 1, none⟩) (Kd.R_far (p := ⟨gb702, 0, none⟩) (Kd.R_types HO_662002.out BK702.out (by decide)) (fun _ hk => hk.2) (.int .i64 t694)) (fun _ hk => hk.2) (.slice Ao106 t695.length co106)) (fun _ hk => hk.2) (.slice Ao107 t698.length co107)) (fun _ h_ => h_.1))) hb); have n5_ := am (Kd.R_below (Rz (Kd.R_mono (Kd.R_far (p := ⟨gb702, 2, none⟩) (Kd.R_far (p := ⟨gb702, 1, none⟩) (Kd.R_far (p := ⟨gb702, 0, none⟩) (Kd.R_types HO_671001.out BK702.out (by decide)) (fun _ hk => hk.2) (.int .i64 t694)) (fun _ hk => hk.2) (.slice Ao106 t695.length co106)) (fun _ hk => hk.2) (.slice Ao107 t698.length co107)) (fun _ h_ => h_.1))) hb); have n6_ := am (Kd.R_below (Rz (Kd.R_mono (Kd.R_far (p := ⟨gb702, 2, none⟩) (Kd.R_far (p := ⟨gb702, 1, none⟩) (Kd.R_far (p := ⟨gb702, 0, none⟩) (Kd.R_types HO_671002.out BK702.out (by decide)) (fun _ hk => hk.2) (.int .i64 t694)) (fun _ hk => hk.2) (.slice Ao106 t695.length co106)) (fun _ hk => hk.2) (.slice Ao107 t698.length co107)) (fun _ h_ => h_.1))) hb); have n7_ := am (Kd.R_below (Rz (Kd.R_mono (Kd.R_far (p := ⟨gb702, 2, none⟩) (Kd.R_far (p := ⟨gb702, 1, none⟩) (Kd.R_far (p := ⟨gb702, 0, none⟩) (Kd.R_types HO_680001.out BK702.out (by decide)) (fun _ hk => hk.2) (.int .i64 t694)) (fun _ hk => hk.2) (.slice Ao106 t695.length co106)) (fun _ hk => hk.2) (.slice Ao107 t698.length co107)) (fun _ h_ => h_.1))) hb); have n8_ := am (Kd.R_below (Rz (Kd.R_mono (Kd.R_far (p := ⟨gb702, 2, none⟩) (Kd.R_far (p := ⟨gb702, 1, none⟩) (Kd.R_far (p := ⟨gb702, 0, none⟩) (Kd.R_types HO_680002.out BK702.out (by decide)) (fun _ hk => hk.2) (.int .i64 t694)) (fun _ hk => hk.2) (.slice Ao106 t695.length co106)) (fun _ hk => hk.2) (.slice Ao107 t698.length co107)) (fun _ h_ => h_.1))) hb); have n9_ := am (Kd.R_below (Rz (Kd.R_mono (Kd.R_far (p := ⟨gb702, 2, none⟩) (Kd.R_far (p := ⟨gb702, 1, none⟩) (Kd.R_far (p := ⟨gb702, 0, none⟩) (Kd.R_types HO697.out BK702.out (by decide)) (fun _ hk => hk.2) (.int .i64 t694)) (fun _ hk => hk.2) (.slice Ao106 t695.length co106)) (fun _ hk => hk.2) (.slice Ao107 t698.length co107)) (fun _ h_ => h_.1))) hb); have n10_ := am (Kd.R_below (Rz (Kd.R_mono (Kd.R_far (p := ⟨gb702, 2, none⟩) (Kd.R_far (p := ⟨gb702, 1, none⟩) (Kd.R_far (p := ⟨gb702, 0, none⟩) (Kd.R_types HO700.out BK702.out (by decide)) (fun _ hk => hk.2) (.int .i64 t694)) (fun _ hk => hk.2) (.slice Ao106 t695.length co106)) (fun _ hk => hk.2) (.slice Ao107 t698.length co107)) (fun _ h_ => h_.1))) hb); have n11_ := am (blk_below (g := gb660) (o := .cells #[.int .i64 t646, .slice Ao14 t647.length co14, .slice Ao15 t650.length co15] 26 (0, 0)) (by refine bp ?_; refine blk_far ?_ NB660_702.out _; refine bp ?_; refine blk_far ?_ NB660_702.out _; refine bp ?_; refine blk_far ?_ NB660_702.out _; exact Kz BK660.out) hb); have n12_ := am (blk_below (g := gb661) (o := .cells #[.int .i64 t653, .slice Ao17 t654.length co17, .slice Ao18 t657.length co18] 26 (0, 0)) (by refine bp ?_; refine blk_far ?_ NB661_702.out _; refine bp ?_; refine blk_far ?_ NB661_702.out _; refine bp ?_; refine blk_far ?_ NB661_702.out _; exact Kz BK661.out) hb); have n13_ := am (blk_below (g := gb670) (o := .cells #[.int .i64 t662, .slice Ao24 t663.length co24, .slice Ao25 t666.length co25] 26 (0, 0)) (by refine bp ?_; refine blk_far ?_ NB670_702.out _; refine bp ?_; refine blk_far ?_ NB670_702.out _; refine bp ?_; refine blk_far ?_ NB670_702.out _; exact Kz BK670.out) hb); have n14_ := am (blk_below (g := gb679) (o := .cells #[.int .i64 t671, .slice Ao34 t672.length co34, .slice Ao35 t675.length co35] 26 (0, 0)) (by refine bp ?_; refine blk_far ?_ NB679_702.out _; refine bp ?_; refine blk_far ?_ NB679_702.out _; refine bp ?_; refine blk_far ?_ NB679_702.out _; exact Kz BK679.out) hb); have n15_ := am (blk_below (g := gb702) (o := .cells #[.int .i64 t694, .slice Ao106 t695.length co106, .slice Ao107 t698.length co107] 26 (0, 0)) (by refine bp ?_; refine blk_put (cs := #[.int .i64 t694, .slice Ao106 t695.length co106, .slice none 0 0]) ?_ 2 _ rfl; refine bp ?_; refine blk_put (cs := #[.int .i64 t694, .slice none 0 0, .slice none 0 0]) ?_ 1 _ rfl; refine bp ?_; refine blk_put (cs := #[.int .i64 0, .slice none 0 0, .slice none 0 0]) ?_ 0 _ rfl; exact Kz BK702.out) hb); have n16_ := Bc HB hb; clear HO_11 HO_661001 HO_661002 HO_662001 HO_662002 HO_671001 HO_671002 HO_680001 HO_680002 HO697 HO700 BK660 BK661 BK670 BK679 BK702 HB; revert n0_ n1_ n2_ n3_ n4_ n5_ n6_ n7_ n8_ n9_ n10_ n11_ n12_ n13_ n14_ n15_ n16_; intro HO_11 HO_661001 HO_661002 HO_662001 HO_662002 HO_671001 HO_671002 HO_680001 HO_680002 HO697 HO700 BK660 BK661 BK670 BK679 BK702 HB; (try clear hb); (try clear hb2); (try clear hk); (try clear hi)))
          (try simp only [aP])
          go_cut [172] (fun v172 wc => ∃ (kq : Nat) (x172_92 : Bool), v172 = .bool x172_92 ∧ Aside0 (laws_FnFrontsMerge.j2 kq x172_92 t646 t647 t650 t653 t654 t657 t662 t663 t666 = some r) ∧ Aside0 (kq ≤ k2) ∧ Aside0 (Kd.R (Kd.int .i64) 3 wc w.heap.size (fun k_ => some k_ ≠ ((.slice Ao17 t654.length co17) : Value).ownBlock ∧ some k_ ≠ ((.slice Ao24 t663.length co24) : Value).ownBlock ∧ some k_ ≠ ((.slice Ao34 t672.length co34) : Value).ownBlock ∧ some k_ ≠ ((.slice Ao106 t695.length co106) : Value).ownBlock) (.slice Ao14 t647.length co14) t647) ∧ Aside0 (Kd.R Kd.string 9 wc w.heap.size (fun k_ => some k_ ≠ ((.slice Ao18 t657.length co18) : Value).ownBlock ∧ some k_ ≠ ((.slice Ao25 t666.length co25) : Value).ownBlock ∧ some k_ ≠ ((.slice Ao35 t675.length co35) : Value).ownBlock ∧ some k_ ≠ ((.slice Ao107 t698.length co107) : Value).ownBlock) (.slice Ao15 t650.length co15) t650) ∧ Aside0 (Kd.R (Kd.int .i64) 3 wc w.heap.size (fun k_ => some k_ ≠ ((.slice Ao14 t647.length co14) : Value).ownBlock ∧ some k_ ≠ ((.slice Ao24 t663.length co24) : Value).ownBlock ∧ some k_ ≠ ((.slice Ao34 t672.length co34) : Value).ownBlock ∧ some k_ ≠ ((.slice Ao106 t695.length co106) : Value).ownBlock) (.slice Ao17 t654.length co17) t654) ∧ Aside0 (Kd.R Kd.string 9 wc w.heap.size (fun k_ => some k_ ≠ ((.slice Ao15 t650.length co15) : Value).ownBlock ∧ some k_ ≠ ((.slice Ao25 t666.length co25) : Value).ownBlock ∧ some k_ ≠ ((.slice Ao35 t675.length co35) : Value).ownBlock ∧ some k_ ≠ ((.slice Ao107 t698.length co107) : Value).ownBlock) (.slice Ao18 t657.length co18) t657) ∧ Aside0 (Kd.R (Kd.int .i64) 3 wc w.heap.size (fun k_ => some k_ ≠ ((.slice Ao14 t647.length co14) : Value).ownBlock ∧ some k_ ≠ ((.slice Ao17 t654.length co17) : Value).ownBlock ∧ some k_ ≠ ((.slice Ao34 t672.length co34) : Value).ownBlock ∧ some k_ ≠ ((.slice Ao106 t695.length co106) : Value).ownBlock) (.slice Ao24 t663.length co24) t663) ∧ Aside0 (Kd.R Kd.string 9 wc w.heap.size (fun k_ => some k_ ≠ ((.slice Ao15 t650.length co15) : Value).ownBlock ∧ some k_ ≠ ((.slice Ao18 t657.length co18) : Value).ownBlock ∧ some k_ ≠ ((.slice Ao35 t675.length co35) : Value).ownBlock ∧ some k_ ≠ ((.slice Ao107 t698.length co107) : Value).ownBlock) (.slice Ao25 t666.length co25) t666) ∧ Aside0 (Kd.R (Kd.int .i64) 3 wc w.heap.size (fun k_ => some k_ ≠ ((.slice Ao14 t647.length co14) : Value).ownBlock ∧ some k_ ≠ ((.slice Ao17 t654.length co17) : Value).ownBlock ∧ some k_ ≠ ((.slice Ao24 t663.length co24) : Value).ownBlock ∧ some k_ ≠ ((.slice Ao106 t695.length co106) : Value).ownBlock) (.slice Ao34 t672.length co34) t672) ∧ Aside0 (Kd.R Kd.string 9 wc w.heap.size (fun k_ => some k_ ≠ ((.slice Ao15 t650.length co15) : Value).ownBlock ∧ some k_ ≠ ((.slice Ao18 t657.length co18) : Value).ownBlock ∧ some k_ ≠ ((.slice Ao25 t666.length co25) : Value).ownBlock ∧ some k_ ≠ ((.slice Ao107 t698.length co107) : Value).ownBlock) (.slice Ao35 t675.length co35) t675) ∧ Aside0 (Kd.R (Kd.int .i64) 3 wc w.heap.size (fun k_ => some k_ ≠ ((.slice Ao14 t647.length co14) : Value).ownBlock ∧ some k_ ≠ ((.slice Ao17 t654.length co17) : Value).ownBlock ∧ some k_ ≠ ((.slice Ao24 t663.length co24) : Value).ownBlock ∧ some k_ ≠ ((.slice Ao34 t672.length co34) : Value).ownBlock) (.slice Ao106 t695.length co106) t695) ∧ Aside0 (Kd.R Kd.string 9 wc w.heap.size (fun k_ => some k_ ≠ ((.slice Ao15 t650.length co15) : Value).ownBlock ∧ some k_ ≠ ((.slice Ao18 t657.length co18) : Value).ownBlock ∧ some k_ ≠ ((.slice Ao25 t666.length co25) : Value).ownBlock ∧ some k_ ≠ ((.slice Ao35 t675.length co35) : Value).ownBlock) (.slice Ao107 t698.length co107) t698) ∧ Aside0 (wc.heap[gb660]? = some (.cells #[.int .i64 t646, (.slice Ao14 t647.length co14), (.slice Ao15 t650.length co15)] 26 (0, 0))) ∧ Aside0 (wc.heap[gb661]? = some (.cells #[.int .i64 t653, (.slice Ao17 t654.length co17), (.slice Ao18 t657.length co18)] 26 (0, 0))) ∧ Aside0 (wc.heap[gb670]? = some (.cells #[.int .i64 t662, (.slice Ao24 t663.length co24), (.slice Ao25 t666.length co25)] 26 (0, 0))) ∧ Aside0 (wc.heap[gb679]? = some (.cells #[.int .i64 t671, (.slice Ao34 t672.length co34), (.slice Ao35 t675.length co35)] 26 (0, 0))) ∧ Aside0 (wc.heap[gb702]? = some (.cells #[.int .i64 t694, (.slice Ao106 t695.length co106), (.slice Ao107 t698.length co107)] 26 (0, 0))) ∧ Aside0 (Below w.heap.size w wc))
          case first =>
           have H := HC93.out; clear HC93
           by_cases c112 : t701 = true
           ·subst c112
            rw [if_pos rfl] at H
            by_cases c113 : t704 = true
            ·subst c113
             rw [if_pos rfl] at H
             by_cases c114 : t703 > x12_2
             ·rw [if_pos c114] at H
              have c114b0 : decide (x12_2 < t703) = true := decide_eq_true c114; clear c114
              (first | rw [c114b0] | (simp only [i64_w, i32_w]; rw [c114b0]) | skip)
              exact absurd (H.trans (congrArg some HQT_.out)) (laws_FnFrontsMerge.j2.dead _ _ _ _ _ _ _ _ _ _)
             ·rw [if_neg c114] at H
              have c114b0 : decide (x12_2 < t703) = false := decide_eq_false c114; clear c114
              (first | rw [c114b0] | (simp only [i64_w, i32_w]; rw [c114b0]) | skip)
              obtain ⟨t705, A115, H⟩ := ob H; (try dsimp -simprocs only at H)
              by_cases c116 : t705 = true
              ·subst c116
               rw [if_pos rfl] at H; obtain ⟨t706, A117, H⟩ := ob H; (try dsimp -simprocs only at H); have H' := am H; clear H; have hnb118 := NB702_660.out; have hnc118 := NB660_702.out; have hnb119 := NB702_661.out; have hnc119 := NB661_702.out; have hnb120 := NB702_670.out; have hnc120 := NB670_702.out; have hnb121 := NB702_679.out; have hnc121 := NB679_702.out; obtain ⟨hcz122_0, hcz122_1, hcz122_2, hfz122_0, hfz122_1, hfz122_2⟩ := cf3 (w := w111) BK702; have hnb123 := NB670_660.out; have hnc123 := NB660_670.out; have hnb124 := NB670_661.out; have hnc124 := NB661_670.out; have hnb125 := NB670_679.out; have hnc125 := NB679_670.out; obtain ⟨hcz126_0, hcz126_1, hcz126_2, hfz126_0, hfz126_1, hfz126_2⟩ := cf3 (w := w111) BK670
               go_wp2_with (first | (go_at_call 36; (with_reducible refine (laws_pSameInts.calls k2 _ _ t695 _ _ t663 true _ ?side1 ?side2 ?side3 ?side4 A115.out).mono ?_); (case side1 => exact Cz ((Kd.R_reads' HO697.out).2.2)); (case side2 => exact (Kd.R_reads' HO697.out).2.1); (case side3 => exact Cz ((Kd.R_reads' HO_671001.out).2.2)); (case side4 => exact (Kd.R_reads' HO_671001.out).2.1); rintro e w' ⟨rfl, ⟨nd, rfl⟩⟩) | (go_at_call 37; (with_reducible refine (laws_pSameTexts.calls k2 _ _ t698 _ _ t666 t706 _ ?side1 ?side2 ?side3 ?side4 A117.out).mono ?_); (case side1 => exact Cz ((Kd.R_reads' HO700.out).2.2)); (case side2 => exact (Kd.R_reads' HO700.out).2.1); (case side3 => exact Cz ((Kd.R_reads' HO_671002.out).2.2)); (case side4 => exact (Kd.R_reads' HO_671002.out).2.1); rintro e w' ⟨rfl, ⟨nd, rfl⟩⟩))
               go_meet
               case rel => exact ⟨_, (!t706), wZ, H', ⟨by have := HJ7.out; have := HK2.out; first | omega | exact Nat.le_refl _⟩, ⟨Rz (Kd.R_mono HO_661001.out (fun _ hk => ⟨hk.1.1, ⟨hk.1.2.1, ⟨hk.1.2.2, hk.2⟩⟩⟩))⟩, ⟨Rz (Kd.R_mono HO_661002.out (fun _ hk => ⟨hk.1.2.1, ⟨hk.1.2.2.1, ⟨hk.1.2.2.2, hk.2⟩⟩⟩))⟩, ⟨Rz (Kd.R_mono HO_662001.out (fun _ hk => ⟨hk.1.1, ⟨hk.1.2.1, ⟨hk.1.2.2, hk.2⟩⟩⟩))⟩, ⟨Rz (Kd.R_mono HO_662002.out (fun _ hk => ⟨hk.1.2.1, ⟨hk.1.2.2.1, ⟨hk.1.2.2.2, hk.2⟩⟩⟩))⟩, ⟨Rz (Kd.R_mono HO_671001.out (fun _ hk => ⟨hk.1.1, ⟨hk.1.2.1, ⟨hk.1.2.2, hk.2⟩⟩⟩))⟩, ⟨Rz (Kd.R_mono HO_671002.out (fun _ hk => ⟨hk.1.2.1, ⟨hk.1.2.2.1, ⟨hk.1.2.2.2, hk.2⟩⟩⟩))⟩, ⟨Rz (Kd.R_mono HO_680001.out (fun _ hk => ⟨hk.1.1, ⟨hk.1.2.1, ⟨hk.1.2.2, hk.2⟩⟩⟩))⟩, ⟨Rz (Kd.R_mono HO_680002.out (fun _ hk => ⟨hk.1.2.1, ⟨hk.1.2.2.1, ⟨hk.1.2.2.2, hk.2⟩⟩⟩))⟩, ⟨Rz (Kd.R_mono HO697.out (fun _ hk => ⟨hk.1.1.1.2, ⟨hk.1.1.2, ⟨hk.1.2, hk.2⟩⟩⟩))⟩, ⟨Rz (Kd.R_mono HO700.out (fun _ hk => ⟨hk.1.1.1.2, ⟨hk.1.1.2, ⟨hk.1.2, hk.2⟩⟩⟩))⟩, ⟨Kz BK660.out⟩, ⟨Kz BK661.out⟩, ⟨Kz BK670.out⟩, ⟨Kz BK679.out⟩, ⟨Kz BK702.out⟩, ⟨Bq⟩⟩
              ·replace c116 := Bool.eq_false_iff.mpr c116
               subst c116
               rw [if_neg (show ¬ (false = true) by decide)] at H; exact absurd (H.trans (congrArg some HQT_.out)) (laws_FnFrontsMerge.j2.dead _ _ _ _ _ _ _ _ _ _)
            ·replace c113 := Bool.eq_false_iff.mpr c113
             subst c113
             rw [if_neg (show ¬ (false = true) by decide)] at H; exact absurd (H.trans (congrArg some HQT_.out)) (laws_FnFrontsMerge.j2.dead _ _ _ _ _ _ _ _ _ _)
           ·replace c112 := Bool.eq_false_iff.mpr c112
            subst c112
            rw [if_neg (show ¬ (false = true) by decide)] at H; exact absurd (H.trans (congrArg some HQT_.out)) (laws_FnFrontsMerge.j2.dead _ _ _ _ _ _ _ _ _ _)
          case rest =>
           refine Nonempty.elim ?_ id
           refine (letI hh_ : Nonempty (_ : Prop) := ?apart2; (?close2 : type_of% hh_))
           case apart2 =>
            refine Nonempty.intro ?_
            clear HC93
            try clear c1
            try clear c2
            try clear p2
            try clear c3
            try clear c4
            try clear c5
            try clear c6
            try clear p6
            try clear c7
            try clear c8
            try clear c9
            try clear c10
            try clear c11
            try clear c12
            try clear c14
            try clear c21
            try clear c22
            try clear c25
            try clear c27
            try clear c29
            try clear c30
            try clear c31
            try clear c32
            try clear c33
            try clear c34
            try clear c35
            try clear c36
            try clear c36b0
            try clear c36b1
            try clear c36b2
            try clear c37
            try clear c37b0
            try clear c37b1
            try clear c39
            try clear c41
            try clear c42
            try clear c43
            try clear c45
            try clear c46
            try clear c48
            try clear c49
            try clear c50
            try clear c51
            try clear c52
            try clear c54
            try clear c54b0
            try clear c58
            try clear c59
            try clear c60
            try clear c61
            try clear c62
            try clear c63
            try clear c64
            try clear p64
            try clear c65
            try clear c68
            try clear c69
            try clear c72
            try clear c76
            try clear c77
            try clear c78
            try clear c79
            try clear c80
            try clear c83
            try clear c84
            try clear c87
            try clear c94
            try clear c95
            try clear c96
            try clear c101
            try clear c102
            try clear c103
            try clear c104
            try clear c108
            try clear c109
            try clear c112
            try clear c113
            try clear c114
            try clear c114b0
            try clear c116
            try clear c118
            try clear c119
            try clear c120
            try clear c121
            try clear c123
            try clear c124
            try clear c125
            try clear p2
            obtain ⟨kq, x172_92, rfl, HA, HJ92, HO_661001, HO_661002, HO_662001, HO_662002, HO_671001, HO_671002, HO_680001, HO_680002, HO_703001, HO_703002, BK660, BK661, BK670, BK679, BK702, HB⟩ := hcut; cases kq with
            | zero => exact absurd HA.out (by simp [laws_FnFrontsMerge.j2])
            | succ kj92 =>
             have H := HA.out; clear HA
             simp only [laws_FnFrontsMerge.j2] at H
             by_cases c127 : x172_92 = true
             ·subst c127
              rw [if_pos rfl] at H; exact absurd (Option.some.inj H) (by rw [HQT_.out]; decide)
             ·replace c127 := Bool.eq_false_iff.mpr c127
              subst c127
              rw [if_neg (show ¬ (false = true) by decide)] at H; have H' := am H; clear H; have hnb128 := NB660_661.out; have hnc128 := NB661_660.out; have hnb129 := NB660_670.out; have hnc129 := NB670_660.out; have hnb130 := NB660_679.out; have hnc130 := NB679_660.out; have hnb131 := NB660_702.out; have hnc131 := NB702_660.out; obtain ⟨hcz132_0, hcz132_1, hcz132_2, hfz132_0, hfz132_1, hfz132_2⟩ := cf3 (w := wc) BK660
              go_wp2
              go_loopg [176] kj92 (fun kq v176 w' => ∃ (x176_4 : Int), v176 = .int .i64 x176_4 ∧ Aside0 (laws_FnFrontsMerge.l1 kq (t647.length : Int) x176_4 t646 t647 t650 t653 t654 t657 t662 t663 t666 = some r) ∧ Aside0 (kq ≤ kj92) ∧ Aside0 (Kd.R (Kd.int .i64) 3 w' w.heap.size (fun k_ => some k_ ≠ ((.slice Ao17 t654.length co17) : Value).ownBlock ∧ some k_ ≠ ((.slice Ao24 t663.length co24) : Value).ownBlock ∧ some k_ ≠ ((.slice Ao34 t672.length co34) : Value).ownBlock ∧ some k_ ≠ ((.slice Ao106 t695.length co106) : Value).ownBlock) (.slice Ao14 t647.length co14) t647) ∧ Aside0 (Kd.R Kd.string 9 w' w.heap.size (fun k_ => some k_ ≠ ((.slice Ao18 t657.length co18) : Value).ownBlock ∧ some k_ ≠ ((.slice Ao25 t666.length co25) : Value).ownBlock ∧ some k_ ≠ ((.slice Ao35 t675.length co35) : Value).ownBlock ∧ some k_ ≠ ((.slice Ao107 t698.length co107) : Value).ownBlock) (.slice Ao15 t650.length co15) t650) ∧ Aside0 (Kd.R (Kd.int .i64) 3 w' w.heap.size (fun k_ => some k_ ≠ ((.slice Ao14 t647.length co14) : Value).ownBlock ∧ some k_ ≠ ((.slice Ao24 t663.length co24) : Value).ownBlock ∧ some k_ ≠ ((.slice Ao34 t672.length co34) : Value).ownBlock ∧ some k_ ≠ ((.slice Ao106 t695.length co106) : Value).ownBlock) (.slice Ao17 t654.length co17) t654) ∧ Aside0 (Kd.R Kd.string 9 w' w.heap.size (fun k_ => some k_ ≠ ((.slice Ao15 t650.length co15) : Value).ownBlock ∧ some k_ ≠ ((.slice Ao25 t666.length co25) : Value).ownBlock ∧ some k_ ≠ ((.slice Ao35 t675.length co35) : Value).ownBlock ∧ some k_ ≠ ((.slice Ao107 t698.length co107) : Value).ownBlock) (.slice Ao18 t657.length co18) t657) ∧ Aside0 (Kd.R (Kd.int .i64) 3 w' w.heap.size (fun k_ => some k_ ≠ ((.slice Ao14 t647.length co14) : Value).ownBlock ∧ some k_ ≠ ((.slice Ao17 t654.length co17) : Value).ownBlock ∧ some k_ ≠ ((.slice Ao34 t672.length co34) : Value).ownBlock ∧ some k_ ≠ ((.slice Ao106 t695.length co106) : Value).ownBlock) (.slice Ao24 t663.length co24) t663) ∧ Aside0 (Kd.R Kd.string 9 w' w.heap.size (fun k_ => some k_ ≠ ((.slice Ao15 t650.length co15) : Value).ownBlock ∧ some k_ ≠ ((.slice Ao18 t657.length co18) : Value).ownBlock ∧ some k_ ≠ ((.slice Ao35 t675.length co35) : Value).ownBlock ∧ some k_ ≠ ((.slice Ao107 t698.length co107) : Value).ownBlock) (.slice Ao25 t666.length co25) t666) ∧ Aside0 (Kd.R (Kd.int .i64) 3 w' w.heap.size (fun k_ => some k_ ≠ ((.slice Ao14 t647.length co14) : Value).ownBlock ∧ some k_ ≠ ((.slice Ao17 t654.length co17) : Value).ownBlock ∧ some k_ ≠ ((.slice Ao24 t663.length co24) : Value).ownBlock ∧ some k_ ≠ ((.slice Ao106 t695.length co106) : Value).ownBlock) (.slice Ao34 t672.length co34) t672) ∧ Aside0 (Kd.R Kd.string 9 w' w.heap.size (fun k_ => some k_ ≠ ((.slice Ao15 t650.length co15) : Value).ownBlock ∧ some k_ ≠ ((.slice Ao18 t657.length co18) : Value).ownBlock ∧ some k_ ≠ ((.slice Ao25 t666.length co25) : Value).ownBlock ∧ some k_ ≠ ((.slice Ao107 t698.length co107) : Value).ownBlock) (.slice Ao35 t675.length co35) t675) ∧ Aside0 (Kd.R (Kd.int .i64) 3 w' w.heap.size (fun k_ => some k_ ≠ ((.slice Ao14 t647.length co14) : Value).ownBlock ∧ some k_ ≠ ((.slice Ao17 t654.length co17) : Value).ownBlock ∧ some k_ ≠ ((.slice Ao24 t663.length co24) : Value).ownBlock ∧ some k_ ≠ ((.slice Ao34 t672.length co34) : Value).ownBlock) (.slice Ao106 t695.length co106) t695) ∧ Aside0 (Kd.R Kd.string 9 w' w.heap.size (fun k_ => some k_ ≠ ((.slice Ao15 t650.length co15) : Value).ownBlock ∧ some k_ ≠ ((.slice Ao18 t657.length co18) : Value).ownBlock ∧ some k_ ≠ ((.slice Ao25 t666.length co25) : Value).ownBlock ∧ some k_ ≠ ((.slice Ao35 t675.length co35) : Value).ownBlock) (.slice Ao107 t698.length co107) t698) ∧ Aside0 (w'.heap[gb660]? = some (.cells #[.int .i64 t646, (.slice Ao14 t647.length co14), (.slice Ao15 t650.length co15)] 26 (0, 0))) ∧ Aside0 (w'.heap[gb661]? = some (.cells #[.int .i64 t653, (.slice Ao17 t654.length co17), (.slice Ao18 t657.length co18)] 26 (0, 0))) ∧ Aside0 (w'.heap[gb670]? = some (.cells #[.int .i64 t662, (.slice Ao24 t663.length co24), (.slice Ao25 t666.length co25)] 26 (0, 0))) ∧ Aside0 (w'.heap[gb679]? = some (.cells #[.int .i64 t671, (.slice Ao34 t672.length co34), (.slice Ao35 t675.length co35)] 26 (0, 0))) ∧ Aside0 (w'.heap[gb702]? = some (.cells #[.int .i64 t694, (.slice Ao106 t695.length co106), (.slice Ao107 t698.length co107)] 26 (0, 0))) ∧ Aside0 (Below w.heap.size w w'))
              case atStart => exact ⟨(0), wZ, H', ⟨Nat.le_refl _⟩, ⟨Rz HO_661001.out⟩, ⟨Rz HO_661002.out⟩, ⟨Rz HO_662001.out⟩, ⟨Rz HO_662002.out⟩, ⟨Rz HO_671001.out⟩, ⟨Rz HO_671002.out⟩, ⟨Rz HO_680001.out⟩, ⟨Rz HO_680002.out⟩, ⟨Rz HO_703001.out⟩, ⟨Rz HO_703002.out⟩, ⟨Kz BK660.out⟩, ⟨Kz BK661.out⟩, ⟨Kz BK670.out⟩, ⟨Kz BK679.out⟩, ⟨Kz BK702.out⟩, ⟨Bq⟩⟩
              case round =>
               clear H'
               try clear c1
               try clear c2
               try clear p2
               try clear c3
               try clear c4
               try clear c5
               try clear c6
               try clear p6
               try clear c7
               try clear c8
               try clear c9
               try clear c10
               try clear c11
               try clear c12
               try clear c13
               try clear c14
               try clear c21
               try clear c22
               try clear c25
               try clear c27
               try clear c29
               try clear c30
               try clear c31
               try clear c32
               try clear c33
               try clear c34
               try clear c35
               try clear c36
               try clear c36b0
               try clear c36b1
               try clear c36b2
               try clear c37
               try clear c37b0
               try clear c37b1
               try clear c39
               try clear c41
               try clear c42
               try clear c43
               try clear c45
               try clear c46
               try clear c48
               try clear c49
               try clear c50
               try clear c51
               try clear c52
               try clear c54
               try clear c54b0
               try clear c58
               try clear c59
               try clear c60
               try clear c61
               try clear c62
               try clear c63
               try clear c64
               try clear p64
               try clear c65
               try clear c68
               try clear c69
               try clear c72
               try clear c76
               try clear c77
               try clear c78
               try clear c79
               try clear c80
               try clear c83
               try clear c84
               try clear c87
               try clear c94
               try clear c95
               try clear c96
               try clear c101
               try clear c102
               try clear c103
               try clear c104
               try clear c108
               try clear c109
               try clear c112
               try clear c113
               try clear c114
               try clear c114b0
               try clear c116
               try clear c118
               try clear c119
               try clear c120
               try clear c121
               try clear c123
               try clear c124
               try clear c125
               try clear c127
               try clear c128
               try clear c129
               try clear c130
               try clear c131
               try clear p2
               try clear p6
               try clear p64
               obtain ⟨x176_4, rfl, HA, HK4, HO_661001, HO_661002, HO_662001, HO_662002, HO_671001, HO_671002, HO_680001, HO_680002, HO_703001, HO_703002, BK660, BK661, BK670, BK679, BK702, HB⟩ := hrel; cases gk with
               | zero => exact absurd HA.out (by simp [laws_FnFrontsMerge.l1])
               | succ k4 =>
                have H := HA.out; clear HA
                simp only [laws_FnFrontsMerge.l1] at H
                by_cases c133 : x176_4 < (t647.length : Int)
                ·rw [if_pos c133] at H
                 have c133b0 : decide (x176_4 < (t647.length : Int)) = true := decide_eq_true c133; clear c133; obtain ⟨⟨t707, t708⟩, A134, H⟩ := ob H; (try dsimp -simprocs only at H); obtain ⟨⟨t709, t710⟩, A135, H⟩ := ob H; (try dsimp -simprocs only at H)
                 by_cases c136 : t708 = true
                 ·subst c136
                  rw [if_pos rfl] at H
                  by_cases c137 : t710 = true
                  ·subst c137
                   rw [if_pos rfl] at H
                   by_cases c138 : t709 = true
                   ·subst c138
                    rw [if_pos rfl] at H; have H' := am H; clear H; have hnb139 := NB660_661.out; have hnc139 := NB661_660.out; have hnb140 := NB660_670.out; have hnc140 := NB670_660.out; have hnb141 := NB660_679.out; have hnc141 := NB679_660.out; have hnb142 := NB660_702.out; have hnc142 := NB702_660.out; obtain ⟨hcz143_0, hcz143_1, hcz143_2, hfz143_0, hfz143_1, hfz143_2⟩ := cf3 (w := wr) BK660
                    go_wp2_with (first | ((with_reducible refine gate_callee (f := 25) rfl ?_); refine gL (some 182) Try.func25 #[.agg #[.int .i64 t646, .slice Ao14 t647.length co14, .slice Ao15 t650.length co15], .int .i64 x176_4] ?_; (with_reducible refine (impl_FrontKey.calls k4 t646 _ _ t647 _ _ t650 x176_4 t707 true _ ?side1 ?side2 ?side3 ?side4 A134.out).mono ?_); (case side1 => exact Cz ((Kd.R_reads' HO_661001.out).2.2)); (case side2 => exact (Kd.R_reads' HO_661001.out).2.1); (case side3 => exact Cz ((Kd.R_reads' HO_661002.out).2.2)); (case side4 => exact (Kd.R_reads' HO_661002.out).2.1); rintro e w144 ⟨rfl, hb⟩; refine ⟨_, rfl, ?_⟩; have n0_ := Rb HO_661001 hb; have n1_ := Rb HO_661002 hb; have n2_ := Rb HO_662001 hb; have n3_ := Rb HO_662002 hb; have n4_ := Rb HO_671001 hb; have n5_ := Rb HO_671002 hb; have n6_ := Rb HO_680001 hb; have n7_ := Rb HO_680002 hb; have n8_ := Rb HO_703001 hb; have n9_ := Rb HO_703002 hb; have n10_ := Kb BK660 hb; have n11_ := Kb BK661 hb; have n12_ := Kb BK670 hb; have n13_ := Kb BK679 hb; have n14_ := Kb BK702 hb; have n15_ := Bc HB hb; clear HO_661001 HO_661002 HO_662001 HO_662002 HO_671001 HO_671002 HO_680001 HO_680002 HO_703001 HO_703002 BK660 BK661 BK670 BK679 BK702 HB; revert n0_ n1_ n2_ n3_ n4_ n5_ n6_ n7_ n8_ n9_ n10_ n11_ n12_ n13_ n14_ n15_; intro HO_661001 HO_661002 HO_662001 HO_662002 HO_671001 HO_671002 HO_680001 HO_680002 HO_703001 HO_703002 BK660 BK661 BK670 BK679 BK702 HB; (try clear hb); (try clear hb2); (try clear hk); (try clear hi); have hnb145 := NB670_661.out; have hnc145 := NB661_670.out; have hnb146 := NB670_679.out; have hnc146 := NB679_670.out; have hnb147 := NB670_702.out; have hnc147 := NB702_670.out; obtain ⟨hcz148_0, hcz148_1, hcz148_2, hfz148_0, hfz148_1, hfz148_2⟩ := cf3 (w := w144) BK670) | ((with_reducible refine gate_callee (f := 29) rfl ?_); refine gL (some 188) Try.func29 #[.agg #[.int .i64 t662, .slice Ao24 t663.length co24, .slice Ao25 t666.length co25], .string t707] ?_; (with_reducible refine (impl_FrontHas.calls k4 t662 _ _ t663 _ _ t666 t707 true true _ ?side1 ?side2 ?side3 ?side4 A135.out).mono ?_); (case side1 => exact Cz ((Kd.R_reads' HO_671001.out).2.2)); (case side2 => exact (Kd.R_reads' HO_671001.out).2.1); (case side3 => exact Cz ((Kd.R_reads' HO_671002.out).2.2)); (case side4 => exact (Kd.R_reads' HO_671002.out).2.1); rintro e w149 ⟨rfl, hb⟩; refine ⟨_, rfl, ?_⟩; have n0_ := Rb HO_661001 hb; have n1_ := Rb HO_661002 hb; have n2_ := Rb HO_662001 hb; have n3_ := Rb HO_662002 hb; have n4_ := Rb HO_671001 hb; have n5_ := Rb HO_671002 hb; have n6_ := Rb HO_680001 hb; have n7_ := Rb HO_680002 hb; have n8_ := Rb HO_703001 hb; have n9_ := Rb HO_703002 hb; have n10_ := Kb BK660 hb; have n11_ := Kb BK661 hb; have n12_ := Kb BK670 hb; have n13_ := Kb BK679 hb; have n14_ := Kb BK702 hb; have n15_ := Bc HB hb; clear HO_661001 HO_661002 HO_662001 HO_662002 HO_671001 HO_671002 HO_680001 HO_680002 HO_703001 HO_703002 BK660 BK661 BK670 BK679 BK702 HB; revert n0_ n1_ n2_ n3_ n4_ n5_ n6_ n7_ n8_ n9_ n10_ n11_ n12_ n13_ n14_ n15_; intro HO_661001 HO_661002 HO_662001 HO_662002 HO_671001 HO_671002 HO_680001 HO_680002 HO_703001 HO_703002 BK660 BK661 BK670 BK679 BK702 HB; (try clear hb); (try clear hb2); (try clear hk); (try clear hi)))
                    go_roundg k4
                    case measure => have := HJ7.out; have := HK2.out; have := HJ92.out; have := HK4.out; omega
                    case rel => exact ⟨(wrap64 (x176_4 + 1)), wZ, H', ⟨by have := HJ7.out; have := HK2.out; have := HJ92.out; have := HK4.out; omega⟩, ⟨Rz HO_661001.out⟩, ⟨Rz HO_661002.out⟩, ⟨Rz HO_662001.out⟩, ⟨Rz HO_662002.out⟩, ⟨Rz HO_671001.out⟩, ⟨Rz HO_671002.out⟩, ⟨Rz HO_680001.out⟩, ⟨Rz HO_680002.out⟩, ⟨Rz HO_703001.out⟩, ⟨Rz HO_703002.out⟩, ⟨Kz BK660.out⟩, ⟨Kz BK661.out⟩, ⟨Kz BK670.out⟩, ⟨Kz BK679.out⟩, ⟨Kz BK702.out⟩, ⟨Bq⟩⟩
                   ·replace c138 := Bool.eq_false_iff.mpr c138
                    subst c138
                    rw [if_neg (show ¬ (false = true) by decide)] at H; exact absurd (Option.some.inj H) (by rw [HQT_.out]; decide)
                  ·replace c137 := Bool.eq_false_iff.mpr c137
                   subst c137
                   rw [if_neg (show ¬ (false = true) by decide)] at H; exact absurd (Option.some.inj H) (by rw [HQT_.out]; decide)
                 ·replace c136 := Bool.eq_false_iff.mpr c136
                  subst c136
                  rw [if_neg (show ¬ (false = true) by decide)] at H; exact absurd (Option.some.inj H) (by rw [HQT_.out]; decide)
                ·rw [if_neg c133] at H
                 have c133b0 : decide (x176_4 < (t647.length : Int)) = false := decide_eq_false c133; clear c133; have H' := am H; clear H; have hnb150 := NB661_660.out; have hnc150 := NB660_661.out; have hnb151 := NB661_670.out; have hnc151 := NB670_661.out; have hnb152 := NB661_679.out; have hnc152 := NB679_661.out; have hnb153 := NB661_702.out; have hnc153 := NB702_661.out; obtain ⟨hcz154_0, hcz154_1, hcz154_2, hfz154_0, hfz154_1, hfz154_2⟩ := cf3 (w := wr) BK661
                 go_wp2
                 go_loopg [205] k4 (fun kq v205 w' => ∃ (x205_5 : Int), v205 = .int .i64 x205_5 ∧ Aside0 (laws_FnFrontsMerge.l2 kq (t654.length : Int) x205_5 t653 t654 t657 t662 t663 t666 = some r) ∧ Aside0 (kq ≤ k4) ∧ Aside0 (Kd.R (Kd.int .i64) 3 w' w.heap.size (fun k_ => some k_ ≠ ((.slice Ao17 t654.length co17) : Value).ownBlock ∧ some k_ ≠ ((.slice Ao24 t663.length co24) : Value).ownBlock ∧ some k_ ≠ ((.slice Ao34 t672.length co34) : Value).ownBlock ∧ some k_ ≠ ((.slice Ao106 t695.length co106) : Value).ownBlock) (.slice Ao14 t647.length co14) t647) ∧ Aside0 (Kd.R Kd.string 9 w' w.heap.size (fun k_ => some k_ ≠ ((.slice Ao18 t657.length co18) : Value).ownBlock ∧ some k_ ≠ ((.slice Ao25 t666.length co25) : Value).ownBlock ∧ some k_ ≠ ((.slice Ao35 t675.length co35) : Value).ownBlock ∧ some k_ ≠ ((.slice Ao107 t698.length co107) : Value).ownBlock) (.slice Ao15 t650.length co15) t650) ∧ Aside0 (Kd.R (Kd.int .i64) 3 w' w.heap.size (fun k_ => some k_ ≠ ((.slice Ao14 t647.length co14) : Value).ownBlock ∧ some k_ ≠ ((.slice Ao24 t663.length co24) : Value).ownBlock ∧ some k_ ≠ ((.slice Ao34 t672.length co34) : Value).ownBlock ∧ some k_ ≠ ((.slice Ao106 t695.length co106) : Value).ownBlock) (.slice Ao17 t654.length co17) t654) ∧ Aside0 (Kd.R Kd.string 9 w' w.heap.size (fun k_ => some k_ ≠ ((.slice Ao15 t650.length co15) : Value).ownBlock ∧ some k_ ≠ ((.slice Ao25 t666.length co25) : Value).ownBlock ∧ some k_ ≠ ((.slice Ao35 t675.length co35) : Value).ownBlock ∧ some k_ ≠ ((.slice Ao107 t698.length co107) : Value).ownBlock) (.slice Ao18 t657.length co18) t657) ∧ Aside0 (Kd.R (Kd.int .i64) 3 w' w.heap.size (fun k_ => some k_ ≠ ((.slice Ao14 t647.length co14) : Value).ownBlock ∧ some k_ ≠ ((.slice Ao17 t654.length co17) : Value).ownBlock ∧ some k_ ≠ ((.slice Ao34 t672.length co34) : Value).ownBlock ∧ some k_ ≠ ((.slice Ao106 t695.length co106) : Value).ownBlock) (.slice Ao24 t663.length co24) t663) ∧ Aside0 (Kd.R Kd.string 9 w' w.heap.size (fun k_ => some k_ ≠ ((.slice Ao15 t650.length co15) : Value).ownBlock ∧ some k_ ≠ ((.slice Ao18 t657.length co18) : Value).ownBlock ∧ some k_ ≠ ((.slice Ao35 t675.length co35) : Value).ownBlock ∧ some k_ ≠ ((.slice Ao107 t698.length co107) : Value).ownBlock) (.slice Ao25 t666.length co25) t666) ∧ Aside0 (Kd.R (Kd.int .i64) 3 w' w.heap.size (fun k_ => some k_ ≠ ((.slice Ao14 t647.length co14) : Value).ownBlock ∧ some k_ ≠ ((.slice Ao17 t654.length co17) : Value).ownBlock ∧ some k_ ≠ ((.slice Ao24 t663.length co24) : Value).ownBlock ∧ some k_ ≠ ((.slice Ao106 t695.length co106) : Value).ownBlock) (.slice Ao34 t672.length co34) t672) ∧ Aside0 (Kd.R Kd.string 9 w' w.heap.size (fun k_ => some k_ ≠ ((.slice Ao15 t650.length co15) : Value).ownBlock ∧ some k_ ≠ ((.slice Ao18 t657.length co18) : Value).ownBlock ∧ some k_ ≠ ((.slice Ao25 t666.length co25) : Value).ownBlock ∧ some k_ ≠ ((.slice Ao107 t698.length co107) : Value).ownBlock) (.slice Ao35 t675.length co35) t675) ∧ Aside0 (Kd.R (Kd.int .i64) 3 w' w.heap.size (fun k_ => some k_ ≠ ((.slice Ao14 t647.length co14) : Value).ownBlock ∧ some k_ ≠ ((.slice Ao17 t654.length co17) : Value).ownBlock ∧ some k_ ≠ ((.slice Ao24 t663.length co24) : Value).ownBlock ∧ some k_ ≠ ((.slice Ao34 t672.length co34) : Value).ownBlock) (.slice Ao106 t695.length co106) t695) ∧ Aside0 (Kd.R Kd.string 9 w' w.heap.size (fun k_ => some k_ ≠ ((.slice Ao15 t650.length co15) : Value).ownBlock ∧ some k_ ≠ ((.slice Ao18 t657.length co18) : Value).ownBlock ∧ some k_ ≠ ((.slice Ao25 t666.length co25) : Value).ownBlock ∧ some k_ ≠ ((.slice Ao35 t675.length co35) : Value).ownBlock) (.slice Ao107 t698.length co107) t698) ∧ Aside0 (w'.heap[gb660]? = some (.cells #[.int .i64 t646, (.slice Ao14 t647.length co14), (.slice Ao15 t650.length co15)] 26 (0, 0))) ∧ Aside0 (w'.heap[gb661]? = some (.cells #[.int .i64 t653, (.slice Ao17 t654.length co17), (.slice Ao18 t657.length co18)] 26 (0, 0))) ∧ Aside0 (w'.heap[gb670]? = some (.cells #[.int .i64 t662, (.slice Ao24 t663.length co24), (.slice Ao25 t666.length co25)] 26 (0, 0))) ∧ Aside0 (w'.heap[gb679]? = some (.cells #[.int .i64 t671, (.slice Ao34 t672.length co34), (.slice Ao35 t675.length co35)] 26 (0, 0))) ∧ Aside0 (w'.heap[gb702]? = some (.cells #[.int .i64 t694, (.slice Ao106 t695.length co106), (.slice Ao107 t698.length co107)] 26 (0, 0))) ∧ Aside0 (Below w.heap.size w w'))
                 case atStart => exact ⟨(0), wZ, H', ⟨Nat.le_refl _⟩, ⟨Rz HO_661001.out⟩, ⟨Rz HO_661002.out⟩, ⟨Rz HO_662001.out⟩, ⟨Rz HO_662002.out⟩, ⟨Rz HO_671001.out⟩, ⟨Rz HO_671002.out⟩, ⟨Rz HO_680001.out⟩, ⟨Rz HO_680002.out⟩, ⟨Rz HO_703001.out⟩, ⟨Rz HO_703002.out⟩, ⟨Kz BK660.out⟩, ⟨Kz BK661.out⟩, ⟨Kz BK670.out⟩, ⟨Kz BK679.out⟩, ⟨Kz BK702.out⟩, ⟨Bq⟩⟩
                 case round =>
                  clear H'
                  try clear c1
                  try clear c2
                  try clear p2
                  try clear c3
                  try clear c4
                  try clear c5
                  try clear c6
                  try clear p6
                  try clear c7
                  try clear c8
                  try clear c9
                  try clear c10
                  try clear c11
                  try clear c12
                  try clear c13
                  try clear c14
                  try clear c15
                  try clear c21
                  try clear c22
                  try clear c25
                  try clear c27
                  try clear c29
                  try clear c30
                  try clear c31
                  try clear c32
                  try clear c33
                  try clear c34
                  try clear c35
                  try clear c36
                  try clear c36b0
                  try clear c36b1
                  try clear c36b2
                  try clear c37
                  try clear c37b0
                  try clear c37b1
                  try clear c39
                  try clear c41
                  try clear c42
                  try clear c43
                  try clear c45
                  try clear c46
                  try clear c48
                  try clear c49
                  try clear c50
                  try clear c51
                  try clear c52
                  try clear c54
                  try clear c54b0
                  try clear c58
                  try clear c59
                  try clear c60
                  try clear c61
                  try clear c62
                  try clear c63
                  try clear c64
                  try clear p64
                  try clear c65
                  try clear c68
                  try clear c69
                  try clear c72
                  try clear c76
                  try clear c77
                  try clear c78
                  try clear c79
                  try clear c80
                  try clear c83
                  try clear c84
                  try clear c87
                  try clear c94
                  try clear c95
                  try clear c96
                  try clear c101
                  try clear c102
                  try clear c103
                  try clear c104
                  try clear c108
                  try clear c109
                  try clear c112
                  try clear c113
                  try clear c114
                  try clear c114b0
                  try clear c116
                  try clear c118
                  try clear c119
                  try clear c120
                  try clear c121
                  try clear c123
                  try clear c124
                  try clear c125
                  try clear c127
                  try clear c128
                  try clear c129
                  try clear c130
                  try clear c131
                  try clear c133
                  try clear c133b0
                  try clear c136
                  try clear c137
                  try clear c138
                  try clear c139
                  try clear c140
                  try clear c141
                  try clear c142
                  try clear c145
                  try clear c146
                  try clear c147
                  try clear c150
                  try clear c151
                  try clear c152
                  try clear c153
                  try clear p2
                  try clear p6
                  try clear p64
                  obtain ⟨x205_5, rfl, HA, HK5, HO_661001, HO_661002, HO_662001, HO_662002, HO_671001, HO_671002, HO_680001, HO_680002, HO_703001, HO_703002, BK660, BK661, BK670, BK679, BK702, HB⟩ := hrel; cases gk with
                  | zero => exact absurd HA.out (by simp [laws_FnFrontsMerge.l2])
                  | succ k5 =>
                   have H := HA.out; clear HA
                   simp only [laws_FnFrontsMerge.l2] at H
                   by_cases c155 : x205_5 < (t654.length : Int)
                   ·rw [if_pos c155] at H
                    have c155b0 : decide (x205_5 < (t654.length : Int)) = true := decide_eq_true c155; clear c155; obtain ⟨⟨t711, t712⟩, A156, H⟩ := ob H; (try dsimp -simprocs only at H); obtain ⟨⟨t713, t714⟩, A157, H⟩ := ob H; (try dsimp -simprocs only at H)
                    by_cases c158 : t712 = true
                    ·subst c158
                     rw [if_pos rfl] at H
                     by_cases c159 : t714 = true
                     ·subst c159
                      rw [if_pos rfl] at H
                      by_cases c160 : t713 = true
                      ·subst c160
                       rw [if_pos rfl] at H; have H' := am H; clear H; have hnb161 := NB661_660.out; have hnc161 := NB660_661.out; have hnb162 := NB661_670.out; have hnc162 := NB670_661.out; have hnb163 := NB661_679.out; have hnc163 := NB679_661.out; have hnb164 := NB661_702.out; have hnc164 := NB702_661.out; obtain ⟨hcz165_0, hcz165_1, hcz165_2, hfz165_0, hfz165_1, hfz165_2⟩ := cf3 (w := wr) BK661
                       go_wp2_with (first | ((with_reducible refine gate_callee (f := 25) rfl ?_); refine gL (some 211) Try.func25 #[.agg #[.int .i64 t653, .slice Ao17 t654.length co17, .slice Ao18 t657.length co18], .int .i64 x205_5] ?_; (with_reducible refine (impl_FrontKey.calls k5 t653 _ _ t654 _ _ t657 x205_5 t711 true _ ?side1 ?side2 ?side3 ?side4 A156.out).mono ?_); (case side1 => exact Cz ((Kd.R_reads' HO_662001.out).2.2)); (case side2 => exact (Kd.R_reads' HO_662001.out).2.1); (case side3 => exact Cz ((Kd.R_reads' HO_662002.out).2.2)); (case side4 => exact (Kd.R_reads' HO_662002.out).2.1); rintro e w166 ⟨rfl, hb⟩; refine ⟨_, rfl, ?_⟩; have n0_ := Rb HO_661001 hb; have n1_ := Rb HO_661002 hb; have n2_ := Rb HO_662001 hb; have n3_ := Rb HO_662002 hb; have n4_ := Rb HO_671001 hb; have n5_ := Rb HO_671002 hb; have n6_ := Rb HO_680001 hb; have n7_ := Rb HO_680002 hb; have n8_ := Rb HO_703001 hb; have n9_ := Rb HO_703002 hb; have n10_ := Kb BK660 hb; have n11_ := Kb BK661 hb; have n12_ := Kb BK670 hb; have n13_ := Kb BK679 hb; have n14_ := Kb BK702 hb; have n15_ := Bc HB hb; clear HO_661001 HO_661002 HO_662001 HO_662002 HO_671001 HO_671002 HO_680001 HO_680002 HO_703001 HO_703002 BK660 BK661 BK670 BK679 BK702 HB; revert n0_ n1_ n2_ n3_ n4_ n5_ n6_ n7_ n8_ n9_ n10_ n11_ n12_ n13_ n14_ n15_; intro HO_661001 HO_661002 HO_662001 HO_662002 HO_671001 HO_671002 HO_680001 HO_680002 HO_703001 HO_703002 BK660 BK661 BK670 BK679 BK702 HB; (try clear hb); (try clear hb2); (try clear hk); (try clear hi); have hnb167 := NB670_660.out; have hnc167 := NB660_670.out; have hnb168 := NB670_679.out; have hnc168 := NB679_670.out; have hnb169 := NB670_702.out; have hnc169 := NB702_670.out; obtain ⟨hcz170_0, hcz170_1, hcz170_2, hfz170_0, hfz170_1, hfz170_2⟩ := cf3 (w := w166) BK670) | ((with_reducible refine gate_callee (f := 29) rfl ?_); refine gL (some 217) Try.func29 #[.agg #[.int .i64 t662, .slice Ao24 t663.length co24, .slice Ao25 t666.length co25], .string t711] ?_; (with_reducible refine (impl_FrontHas.calls k5 t662 _ _ t663 _ _ t666 t711 true true _ ?side1 ?side2 ?side3 ?side4 A157.out).mono ?_); (case side1 => exact Cz ((Kd.R_reads' HO_671001.out).2.2)); (case side2 => exact (Kd.R_reads' HO_671001.out).2.1); (case side3 => exact Cz ((Kd.R_reads' HO_671002.out).2.2)); (case side4 => exact (Kd.R_reads' HO_671002.out).2.1); rintro e w171 ⟨rfl, hb⟩; refine ⟨_, rfl, ?_⟩; have n0_ := Rb HO_661001 hb; have n1_ := Rb HO_661002 hb; have n2_ := Rb HO_662001 hb; have n3_ := Rb HO_662002 hb; have n4_ := Rb HO_671001 hb; have n5_ := Rb HO_671002 hb; have n6_ := Rb HO_680001 hb; have n7_ := Rb HO_680002 hb; have n8_ := Rb HO_703001 hb; have n9_ := Rb HO_703002 hb; have n10_ := Kb BK660 hb; have n11_ := Kb BK661 hb; have n12_ := Kb BK670 hb; have n13_ := Kb BK679 hb; have n14_ := Kb BK702 hb; have n15_ := Bc HB hb; clear HO_661001 HO_661002 HO_662001 HO_662002 HO_671001 HO_671002 HO_680001 HO_680002 HO_703001 HO_703002 BK660 BK661 BK670 BK679 BK702 HB; revert n0_ n1_ n2_ n3_ n4_ n5_ n6_ n7_ n8_ n9_ n10_ n11_ n12_ n13_ n14_ n15_; intro HO_661001 HO_661002 HO_662001 HO_662002 HO_671001 HO_671002 HO_680001 HO_680002 HO_703001 HO_703002 BK660 BK661 BK670 BK679 BK702 HB; (try clear hb); (try clear hb2); (try clear hk); (try clear hi)))
                       go_roundg k5
                       case measure => have := HJ7.out; have := HK2.out; have := HJ92.out; have := HK4.out; have := HK5.out; omega
                       case rel => exact ⟨(wrap64 (x205_5 + 1)), wZ, H', ⟨by have := HJ7.out; have := HK2.out; have := HJ92.out; have := HK4.out; have := HK5.out; omega⟩, ⟨Rz HO_661001.out⟩, ⟨Rz HO_661002.out⟩, ⟨Rz HO_662001.out⟩, ⟨Rz HO_662002.out⟩, ⟨Rz HO_671001.out⟩, ⟨Rz HO_671002.out⟩, ⟨Rz HO_680001.out⟩, ⟨Rz HO_680002.out⟩, ⟨Rz HO_703001.out⟩, ⟨Rz HO_703002.out⟩, ⟨Kz BK660.out⟩, ⟨Kz BK661.out⟩, ⟨Kz BK670.out⟩, ⟨Kz BK679.out⟩, ⟨Kz BK702.out⟩, ⟨Bq⟩⟩
                      ·replace c160 := Bool.eq_false_iff.mpr c160
                       subst c160
                       rw [if_neg (show ¬ (false = true) by decide)] at H; exact absurd (Option.some.inj H) (by rw [HQT_.out]; decide)
                     ·replace c159 := Bool.eq_false_iff.mpr c159
                      subst c159
                      rw [if_neg (show ¬ (false = true) by decide)] at H; exact absurd (Option.some.inj H) (by rw [HQT_.out]; decide)
                    ·replace c158 := Bool.eq_false_iff.mpr c158
                     subst c158
                     rw [if_neg (show ¬ (false = true) by decide)] at H; exact absurd (Option.some.inj H) (by rw [HQT_.out]; decide)
                   ·rw [if_neg c155] at H
                    have c155b0 : decide (x205_5 < (t654.length : Int)) = false := decide_eq_false c155; clear c155; obtain rfl := Option.some.inj H
                    go_wp2
                    go_ret
                    exact ⟨eZ, Bq⟩
           case close2 => exact inferInstanceAs _
      ·replace c49 := Bool.eq_false_iff.mpr c49
       subst c49
       rw [if_neg (show ¬ (false = true) by decide)] at H; obtain rfl := Option.some.inj H
       go_wp2
       go_ret
       exact ⟨eZ, Bq⟩
   case close1 => exact inferInstanceAs _
def laws_FnFrontsMerge.Pure : Prop := ∀ (l0 : List Int) (l1 : List Int), l0.length ≤ maxLen → l0.length * 1 ≤ 140737488351232 → (∀ x ∈ l0, (Lit.int .u8 x).wf = true) → l1.length ≤ maxLen → l1.length * 1 ≤ 140737488351232 → (∀ x ∈ l1, (Lit.int .u8 x).wf = true) → ∃ k, laws_FnFrontsMerge.f k l0 l1 = some true
theorem laws_FnFrontsMerge.walk (P : laws_FnFrontsMerge.Pure) (a0 : Option Addr) (len0 cap0 : Nat) (z0 : List Int) (a1 : Option Addr) (len1 cap1 : Nat) (z1 : List Int) (w : World) (w0 : (a0 = none ∧ len0 = 0 ∧ cap0 = 0 ∧ z0 = []) ∨ ∃ x, a0 = some x ∧ len0 ≤ cap0 ∧ cap0 ≤ maxLen ∧ z0.length = cap0 ∧ (∀ i, i < z0.length → w.cell? (x.add i) = some (.int .u8 (z0.getD i 0))) ∧ ∀ n ∈ z0, (Lit.int .u8 n).wf = true) (y0 : len0 * 1 ≤ 140737488351232) (w1 : (a1 = none ∧ len1 = 0 ∧ cap1 = 0 ∧ z1 = []) ∨ ∃ x, a1 = some x ∧ len1 ≤ cap1 ∧ cap1 ≤ maxLen ∧ z1.length = cap1 ∧ (∀ i, i < z1.length → w.cell? (x.add i) = some (.int .u8 (z1.getD i 0))) ∧ ∀ n ∈ z1, (Lit.int .u8 n).wf = true) (y1 : len1 * 1 ≤ 140737488351232) :
  Calls Try.prog 10 #[.slice a0 len0 cap0, .slice a1 len1 cap1] w fun e w' => e = .returned (.bool true) ∧ Below w.heap.size w w' := by
 obtain ⟨l0, rfl, hr0, hm0, hw0, hc0⟩ := ReadsInt.ofRowC w0; obtain ⟨l1, rfl, hr1, hm1, hw1, hc1⟩ := ReadsInt.ofRowC w1; obtain ⟨k, h⟩ := P l0 l1 hm0 y0 hw0 hm1 y1 hw1; refine (laws_FnFrontsMerge.calls k _ _ l0 _ _ l1 true w (Kd.C_of_reads (d := (0 : Int)) (h1 := fun _ => rfl) hr0) hc0 (Kd.C_of_reads (d := (0 : Int)) (h1 := fun _ => rfl) hr1) hc1 h rfl).mono ?_; rintro e w' ⟨rfl, hd⟩; exact ⟨rfl, hd⟩

end Go.Proofs.Ytfedgkmklcialaa.PM
namespace Go.Proofs.YtfedgkmklcialaaQ
open Go Go.RowKit Go.Proofs.YtfedgkmklcialaaW.PrintWords Go.Proofs.YtfedgkmklcialaaGp

theorem ev_succ {α : Type} {g : Nat → Option α} {r : α} (h : Ev (fun k => g (k + 1)) r) : Ev g r := Ev.step (f := fun k => g (k + 1)) (fun _ => rfl) h
theorem ev_some {α : Type} {a r : α} (h : a = r) : Ev (fun _ => some a) r := h ▸ Ev.now a
theorem ev_pos {α : Type} {c : Prop} [Decidable c] {f g : Nat → Option α} {r : α} (h : c) (k : Ev f r) : Ev (fun n => if c then f n else g n) r := by simpa only [if_pos h] using k
theorem ev_neg {α : Type} {c : Prop} [Decidable c] {f g : Nat → Option α} {r : α} (h : ¬ c) (k : Ev g r) : Ev (fun n => if c then f n else g n) r := by simpa only [if_neg h] using k
theorem ev_bind {α β : Type} {g : Nat → Option α} {f : Nat → α → Option β} {r : β} (a : α) (h : Ev g a) (k : Ev (fun n => f n a) r) : Ev (fun n => (g n).bind (f n)) r := Ev.bind h k
theorem w64 {x : Int} (h0 : -9223372036854775808 ≤ x) (h1 : x ≤ 9223372036854775807) : wrap64 x = x := by unfold wrap64; omega
theorem winc {i : Nat} (h : (i : Int) < 9223372036854775807) : wrap64 ((i : Int) + 1) = ((i + 1 : Nat) : Int) := by unfold wrap64; omega
theorem wdec {i : Nat} (h : (i : Int) < 9223372036854775807) : wrap64 (((i + 1 : Nat) : Int) - 1) = (i : Int) := by unfold wrap64; omega
theorem maxLen_eq : maxLen = 9223372036854775807 := by unfold maxLen; rfl
section
variable {α : Type} {d : α} {pre t : List α} {s : α}
theorem rdOf_mid : rdOf d (pre ++ s :: t) ((pre.length : Nat) : Int) = s := by simp [rdOf]
theorem rdOf_last {p : α} : rdOf d ((pre ++ [p]) ++ s :: t) ((pre.length : Nat) : Int) = p := by simp [rdOf]
theorem lt_mid : ((pre.length : Nat) : Int) < ((pre ++ s :: t).length : Int) := by simp; omega
theorem not_lt_end : ¬ ((pre.length : Nat) : Int) < ((pre ++ ([] : List α)).length : Int) := by simp
theorem len_one : ((pre ++ [s]).length : Int) = ((pre.length + 1 : Nat) : Int) := by simp
end
theorem rd_mid {pre t : List Int} {s : Int} : rd (pre ++ s :: t) ((pre.length : Nat) : Int) = s := by simp [rd]
theorem tl (s : ByteArray) : s.toList = s.data.toList := Lib.toList_data s
theorem tl_inj {x y : ByteArray} : x.toList = y.toList ↔ x = y := by
  rw [tl, tl]
  exact ⟨fun h => ByteArray.ext (Array.toList_inj.1 h), fun h => h ▸ rfl⟩
theorem size_len (s : ByteArray) : s.size = s.data.toList.length := (data_length s).symm
theorem bt_mid {s : ByteArray} {pre t : List UInt8} {c : UInt8} (h : s.data.toList = pre ++ c :: t) : bt s ((pre.length : Nat) : Int) = (c.toNat : Int) := by
  have hs : pre.length < s.size := by rw [size_len, h]; simp
  have hg : s[pre.length]'hs = c := by
    have : s.data.toList[pre.length]'(by rw [h]; simp) = c := by simp [h]
    rw [← this]; rfl
  unfold bt
  rw [dif_pos (by simpa using hs)]
  simp only [Int.toNat_natCast, hg]
theorem lt_size {s : ByteArray} {pre t : List UInt8} {c : UInt8} (h : s.data.toList = pre ++ c :: t) : ((pre.length : Nat) : Int) < (s.size : Int) := by rw [size_len, h]; simp; omega
theorem not_lt_size {s : ByteArray} {pre : List UInt8} (h : s.data.toList = pre ++ []) : ¬ ((pre.length : Nat) : Int) < (s.size : Int) := by rw [size_len, h]; simp
def lessS (a b : ByteArray) : Bool := Op.bytesLess a.toList b.toList
theorem lessS_irrefl (a : ByteArray) : lessS a a = false := bl_irrefl _
theorem bl_trans : ∀ a b c : List UInt8, Op.bytesLess a b = true → Op.bytesLess b c = true → Op.bytesLess a c = true
  | [], _, [], _, h => by cases ‹List UInt8› <;> simp [Op.bytesLess] at h
  | [], _, _ :: _, _, _ => by simp [Op.bytesLess]
  | _ :: _, [], _, h, _ => by simp [Op.bytesLess] at h
  | _ :: _, _ :: _, [], _, h => by simp [Op.bytesLess] at h
  | a :: l, b :: m, c :: n, h1, h2 => by
    have ih := bl_trans l m n
    simp only [Op.bytesLess, Bool.or_eq_true, Bool.and_eq_true, decide_eq_true_eq, beq_iff_eq, UInt8.lt_iff_toNat_lt] at h1 h2 ⊢
    rcases h1 with h1 | ⟨rfl, h1⟩
    · rcases h2 with h2 | ⟨rfl, h2⟩
      · exact .inl (by omega)
      · exact .inl h1
    · rcases h2 with h2 | ⟨rfl, h2⟩
      · exact .inl h2
      · exact .inr ⟨rfl, ih h1 h2⟩
theorem lessS_trans {a b c : ByteArray} (h1 : lessS a b = true) (h2 : lessS b c = true) : lessS a c = true := bl_trans _ _ _ h1 h2
theorem lessS_total (a b : ByteArray) (h : lessS a b = false) : lessS b a = true ∨ a = b := by
  have t := bl_total a.toList b.toList
  unfold lessS at h ⊢
  rw [h] at t
  by_cases e : a = b
  · exact .inr e
  · left
    have : (a.toList == b.toList) = false := by simpa [tl_inj] using e
    rw [this] at t
    have t2 := bl_total b.toList a.toList
    cases hb : Op.bytesLess b.toList a.toList
    · rw [hb, h] at t2
      simp only [Bool.false_or, Bool.not_false] at t2
      exact absurd (tl_inj.1 (by simpa using t2)) (fun e' => e e'.symm)
    · rfl
end Go.Proofs.YtfedgkmklcialaaQ
namespace Go.Proofs.YtfedgkmklcialaaQ
open Go Go.RowKit Go.Proofs.YtfedgkmklcialaaW.PrintWords Go.Proofs.YtfedgkmklcialaaGp Go.Proofs.Ytfedgkmklcialaa.PM

theorem spec_in (n a b : Int) : spec_l1In.f n a b = some (decide (a ≤ n ∧ n ≤ b)) := by
  unfold spec_l1In.f
  by_cases h : a ≤ n <;> by_cases h' : n ≤ b <;> simp [h, h']
theorem impl_in (n a b : Int) : impl_in.f n a b = some (decide (a ≤ n ∧ n ≤ b)) := by
  unfold impl_in.f
  by_cases h : a ≤ n <;> by_cases h' : n ≤ b <;> simp [h, h']

def byteOk (c : UInt8) : Bool := decide (33 ≤ (c.toNat : Int) ∧ (c.toNat : Int) ≤ 125)
def isKeyB (s : ByteArray) : Bool := s.data.toList.all byteOk && decide (1 ≤ (s.size : Int) ∧ (s.size : Int) ≤ 12)
theorem spec_IsKey_l0 (x0 : ByteArray) (hz : (x0.size : Int) ≤ 9223372036854775806) : ∀ (t pre : List UInt8), x0.data.toList = pre ++ t →
    Ev (fun k => spec_IsKey.l0 k x0 (pre.length : Int)) (t.all byteOk && decide (1 ≤ (x0.size : Int) ∧ (x0.size : Int) ≤ 12)) := by
  intro t
  induction t with
  | nil =>
    intro pre h
    refine ev_succ ?_
    simp only [spec_IsKey.l0, spec_in, Option.bind_some]
    exact ev_neg (not_lt_size h) (ev_some (by simp))
  | cons c t ih =>
    intro pre h
    have hm := lt_size h
    refine ev_succ ?_
    simp only [spec_IsKey.l0, bt_mid h]
    refine ev_pos hm (ev_pos (by omega) ?_)
    by_cases c1 : (c.toNat : Int) < 33
    · exact ev_pos c1 (ev_some (by simp [byteOk]; omega))
    · refine ev_neg c1 ?_
      by_cases c2 : (c.toNat : Int) > 125
      · exact ev_pos c2 (ev_some (by simp [byteOk]; omega))
      · refine ev_neg c2 ?_
        rw [winc (by omega)]
        have := ih (pre ++ [c]) (by rw [h]; simp)
        rw [len_one] at this
        have hb : byteOk c = true := by simp [byteOk]; omega
        simpa [hb] using this
theorem spec_IsKey_f (s : ByteArray) (hz : (s.size : Int) ≤ 9223372036854775806) : Ev (fun k => spec_IsKey.f k s) (isKeyB s) := by
  unfold spec_IsKey.f
  exact spec_IsKey_l0 s hz s.data.toList [] rfl
theorem impl_IsKey_l0 (x0 : ByteArray) (hz : (x0.size : Int) ≤ 9223372036854775806) : ∀ (t pre : List UInt8), x0.data.toList = pre ++ t →
    Ev (fun k => impl_IsKey.l0 k x0 (x0.size : Int) (pre.length : Int)) (t.all byteOk && decide (1 ≤ (x0.size : Int) ∧ (x0.size : Int) ≤ 12)) := by
  intro t
  induction t with
  | nil =>
    intro pre h
    refine ev_succ ?_
    simp only [impl_IsKey.l0, impl_in, Option.bind_some]
    exact ev_neg (not_lt_size h) (ev_some (by simp))
  | cons c t ih =>
    intro pre h
    have hm := lt_size h
    refine ev_succ ?_
    simp only [impl_IsKey.l0, bt_mid h]
    refine ev_pos hm (ev_pos (by omega) (ev_pos hm ?_))
    by_cases c1 : (c.toNat : Int) < 33
    · exact ev_pos c1 (ev_some (by simp [byteOk]; omega))
    · refine ev_neg c1 ?_
      by_cases c2 : (c.toNat : Int) > 125
      · exact ev_pos c2 (ev_some (by simp [byteOk]; omega))
      · refine ev_neg c2 ?_
        rw [winc (by omega)]
        have := ih (pre ++ [c]) (by rw [h]; simp)
        rw [len_one] at this
        have hb : byteOk c = true := by simp [byteOk]; omega
        simpa [hb] using this
theorem impl_IsKey_f (s : ByteArray) (hz : (s.size : Int) ≤ 9223372036854775806) : Ev (fun k => impl_IsKey.f k s) (isKeyB s) := by
  unfold impl_IsKey.f
  exact impl_IsKey_l0 s hz s.data.toList [] rfl
theorem isKeyB_size {s : ByteArray} (h : isKeyB s = true) : 1 ≤ s.size ∧ s.size ≤ 12 := by
  simp [isKeyB] at h
  omega

def keysFrom : Option ByteArray → List ByteArray → Bool
  | _, [] => true
  | p, s :: t => isKeyB s && (match p with | none => true | some q => lessS q s) && keysFrom (some s) t
def areKeysB (l : List ByteArray) : Bool := keysFrom none l && decide ((l.length : Int) ≤ 40)
def lastOf (pre : List ByteArray) : Option ByteArray := pre.getLast?
theorem lastOf_one (pre : List ByteArray) (s : ByteArray) : lastOf (pre ++ [s]) = some s := by simp [lastOf]
theorem lastOf_nil : lastOf [] = none := rfl
theorem last_split {pre : List ByteArray} (h : 0 < pre.length) : ∃ q p, pre = q ++ [p] := by
  obtain ⟨x, hx⟩ : ∃ x, pre.getLast? = some x := by
    cases hp : pre.getLast? with
    | none => rw [List.getLast?_eq_none_iff] at hp; subst hp; simp at h
    | some x => exact ⟨x, rfl⟩
  obtain ⟨q, hq⟩ := List.getLast?_eq_some_iff.1 hx
  exact ⟨q, x, hq⟩

theorem spec_biKeys_l0 (x0 : List ByteArray) (hl : (x0.length : Int) ≤ 9223372036854775806) : ∀ (t pre : List ByteArray), x0 = pre ++ t → (∀ s ∈ t, (s.size : Int) ≤ 9223372036854775806) →
    Ev (fun k => spec_biKeys.l0 k x0 x0 (x0.length : Int) (pre.length : Int)) (keysFrom (lastOf pre) t && decide ((x0.length : Int) ≤ 40)) := by
  intro t
  induction t with
  | nil =>
    intro pre h hs
    refine ev_succ ?_
    simp only [spec_biKeys.l0]
    exact ev_neg (by rw [h]; exact not_lt_end) (ev_some (by simp [keysFrom]))
  | cons s t ih =>
    intro pre h hs
    have hm : ((pre.length : Nat) : Int) < (x0.length : Int) := by rw [h]; exact lt_mid
    have hg : rdOf ByteArray.empty x0 (pre.length : Int) = s := by rw [h]; exact rdOf_mid
    have next := ih (pre ++ [s]) (by rw [h]; simp) (fun x hx => hs x (by simp [hx]))
    rw [len_one, lastOf_one] at next
    refine ev_succ ?_
    simp only [spec_biKeys.l0, hg]
    refine ev_pos hm (ev_pos (by omega) (ev_pos hm (ev_bind _ (spec_IsKey_f s (hs s (by simp))) ?_)))
    cases hk : isKeyB s with
    | false => exact ev_neg (by simp) (ev_some (by simp [keysFrom, hk]))
    | true =>
      refine ev_pos rfl ?_
      by_cases c : 0 < pre.length
      · obtain ⟨q, p, rfl⟩ := last_split c
        have hp : rdOf ByteArray.empty x0 ((q.length : Nat) : Int) = p := by rw [h]; exact rdOf_last
        have hw : wrap64 (((q ++ [p]).length : Int) - 1) = (q.length : Int) := by rw [len_one]; exact wdec (by simp at hm; omega)
        simp only [hw, hp, lastOf_one, keysFrom, hk, Bool.true_and]
        refine ev_pos (by omega) (ev_pos (by omega) (ev_pos (by simp at hm; omega) ?_))
        by_cases c2 : lessS p s = true
        · refine ev_pos c2 ?_
          rw [winc (by omega), c2, Bool.true_and]
          exact next
        · refine ev_neg c2 (ev_some ?_)
          simp only [Bool.not_eq_true] at c2
          simp [c2]
      · obtain rfl := List.length_eq_zero_iff.1 (show pre.length = 0 by omega)
        refine ev_neg (by simp) ?_
        rw [winc (by omega)]
        simp only [lastOf_nil, keysFrom, hk, Bool.true_and]
        exact next
theorem spec_biKeys_f (l : List ByteArray) (hl : (l.length : Int) ≤ 9223372036854775806) (hs : ∀ s ∈ l, (s.size : Int) ≤ 9223372036854775806) : Ev (fun k => spec_biKeys.f k l) (areKeysB l) := by
  unfold spec_biKeys.f
  exact spec_biKeys_l0 l hl l [] rfl hs
theorem impl_AreKeys_l0 (x0 : List ByteArray) (hl : (x0.length : Int) ≤ 9223372036854775806) : ∀ (t pre : List ByteArray), x0 = pre ++ t → (∀ s ∈ t, (s.size : Int) ≤ 9223372036854775806) →
    Ev (fun k => impl_AreKeys.l0 k x0 x0 (x0.length : Int) (pre.length : Int)) (keysFrom (lastOf pre) t && decide ((x0.length : Int) ≤ 40)) := by
  intro t
  induction t with
  | nil =>
    intro pre h hs
    refine ev_succ ?_
    simp only [impl_AreKeys.l0]
    exact ev_neg (by rw [h]; exact not_lt_end) (ev_some (by simp [keysFrom]))
  | cons s t ih =>
    intro pre h hs
    have hm : ((pre.length : Nat) : Int) < (x0.length : Int) := by rw [h]; exact lt_mid
    have hg : rdOf ByteArray.empty x0 (pre.length : Int) = s := by rw [h]; exact rdOf_mid
    have next := ih (pre ++ [s]) (by rw [h]; simp) (fun x hx => hs x (by simp [hx]))
    rw [len_one, lastOf_one] at next
    refine ev_succ ?_
    simp only [impl_AreKeys.l0, hg]
    refine ev_pos hm (ev_pos (by omega) (ev_pos hm (ev_bind _ (impl_IsKey_f s (hs s (by simp))) ?_)))
    cases hk : isKeyB s with
    | false => exact ev_neg (by simp) (ev_some (by simp [keysFrom, hk]))
    | true =>
      refine ev_pos rfl ?_
      by_cases c : 0 < pre.length
      · obtain ⟨q, p, rfl⟩ := last_split c
        have hp : rdOf ByteArray.empty x0 ((q.length : Nat) : Int) = p := by rw [h]; exact rdOf_last
        have hw : wrap64 (((q ++ [p]).length : Int) - 1) = (q.length : Int) := by rw [len_one]; exact wdec (by simp at hm; omega)
        simp only [hw, hp, lastOf_one, keysFrom, hk, Bool.true_and]
        refine ev_pos (by omega) (ev_pos (by omega) (ev_pos (by simp at hm; omega) ?_))
        by_cases c2 : lessS p s = true
        · refine ev_pos c2 ?_
          rw [winc (by omega), c2, Bool.true_and]
          exact next
        · refine ev_neg c2 (ev_some ?_)
          simp only [Bool.not_eq_true] at c2
          simp [c2]
      · obtain rfl := List.length_eq_zero_iff.1 (show pre.length = 0 by omega)
        refine ev_neg (by simp) ?_
        rw [winc (by omega)]
        simp only [lastOf_nil, keysFrom, hk, Bool.true_and]
        exact next
theorem impl_AreKeys_f (l : List ByteArray) (hl : (l.length : Int) ≤ 9223372036854775806) (hs : ∀ s ∈ l, (s.size : Int) ≤ 9223372036854775806) : Ev (fun k => impl_AreKeys.f k l) (areKeysB l) := by
  unfold impl_AreKeys.f
  exact impl_AreKeys_l0 l hl l [] rfl hs
theorem areKeysB_len {l : List ByteArray} (h : areKeysB l = true) : l.length ≤ 40 := by
  simp [areKeysB] at h
  omega
theorem keysFrom_all : ∀ (p : Option ByteArray) (l : List ByteArray), keysFrom p l = true → ∀ s ∈ l, isKeyB s = true
  | _, [], _, s, h => by simp at h
  | p, x :: t, hk, s, h => by
    simp only [keysFrom, Bool.and_eq_true] at hk
    rcases List.mem_cons.1 h with rfl | h
    · exact hk.1.1
    · exact keysFrom_all _ t hk.2 s h
theorem areKeysB_all {l : List ByteArray} (h : areKeysB l = true) : ∀ s ∈ l, isKeyB s = true := by
  simp only [areKeysB, Bool.and_eq_true] at h
  exact keysFrom_all _ _ h.1
theorem areKeysB_from {l : List ByteArray} (h : areKeysB l = true) : keysFrom none l = true := by
  simp only [areKeysB, Bool.and_eq_true] at h
  exact h.1
theorem keysFrom_less : ∀ (q : ByteArray) (l : List ByteArray), keysFrom (some q) l = true → ∀ s ∈ l, lessS q s = true
  | _, [], _, s, h => by simp at h
  | q, x :: t, hk, s, h => by
    simp only [keysFrom, Bool.and_eq_true] at hk
    rcases List.mem_cons.1 h with rfl | h
    · exact hk.1.2
    · exact lessS_trans hk.1.2 (keysFrom_less x t hk.2 s h)
end Go.Proofs.YtfedgkmklcialaaQ
namespace Go.Proofs.YtfedgkmklcialaaQ
open Go Go.RowKit Go.Proofs.YtfedgkmklcialaaW.PrintWords Go.Proofs.YtfedgkmklcialaaGp Go.Proofs.Ytfedgkmklcialaa.PM

structure Bys (s : List Int) : Prop where
  len : (s.length : Int) ≤ 1048576
  all : ∀ x ∈ s, 0 ≤ x ∧ x ≤ 255
theorem and255 (x : Int) : 0 ≤ Go.bits .and .u64 x 255 ∧ Go.bits .and .u64 x 255 ≤ 255 := by
  have e : Go.bits .and .u64 x 255 = IntKind.u64.wrap (((BitVec.ofInt 64 x &&& BitVec.ofInt 64 255 : BitVec 64)).toNat : Int) := by unfold Go.bits; rfl
  have h : ((BitVec.ofInt 64 x &&& BitVec.ofInt 64 255 : BitVec 64)).toNat ≤ 255 := by
    rw [BitVec.toNat_and]
    exact Nat.and_le_right
  rw [e]
  unfold IntKind.wrap
  simp only [IntKind.bits, IntKind.signed]
  generalize (BitVec.ofInt 64 x &&& BitVec.ofInt 64 255 : BitVec 64).toNat = m at h
  simp
  omega
theorem rd_by {s : List Int} (hs : Bys s) (i : Int) : 0 ≤ rd s i ∧ rd s i ≤ 255 := by
  unfold rd
  by_cases c : i.toNat < s.length
  · rw [List.getD_eq_getElem?_getD, List.getElem?_eq_getElem c]
    exact hs.all _ (List.getElem_mem c)
  · rw [List.getD_eq_getElem?_getD, List.getElem?_eq_none (by omega)]
    simp
theorem next_ok {s : List Int} (hs : Bys s) {p : Int} (sd : Int) (h0 : 0 ≤ p) (h1 : p ≤ 4000000000000000000) :
    ∃ v p' sd', spec_l1Cur_next.f s p sd = some (v, p', sd') ∧ (0 ≤ v ∧ v ≤ 255) ∧ 0 ≤ p' ∧ p' ≤ p + 1 := by
  have hb := rd_by hs p
  have w1 : wrap64 (p + 1) = p + 1 := w64 (by omega) (by omega)
  have w2 : wrap64 (rd s p) = rd s p := w64 (by omega) (by omega)
  unfold spec_l1Cur_next.f
  rw [w1, w2]
  by_cases c : p < (s.length : Int)
  · rw [if_pos c, if_pos h0]
    split
    · exact ⟨_, _, _, rfl, hb, by omega, by omega⟩
    · omega
  · rw [if_neg c, if_neg (by omega)]
    refine ⟨_, _, _, rfl, ?_, by omega, by omega⟩
    have := and255 ((IntKind.u64.wrap ((IntKind.u64.wrap (IntKind.u64.wrap (sd * 6364136223846793005))) + 1442695040888963407)) / 1099511627776)
    rw [w64 (by omega) (by omega)]
    exact this
theorem pick_ok {s : List Int} (hs : Bys s) {p : Int} (sd : Int) {n : Int} (h0 : 0 ≤ p) (h1 : p ≤ 3000000000000000000) :
    ∃ v p' sd', spec_l1Cur_pick.f s p sd n = some (v, p', sd') ∧ (0 ≤ v ∧ (v < n ∨ v = 0)) ∧ 0 ≤ p' ∧ p' ≤ p + 2 := by
  unfold spec_l1Cur_pick.f
  by_cases c : n ≤ 1
  · rw [if_pos c]; exact ⟨_, _, _, rfl, ⟨by omega, .inr rfl⟩, h0, by omega⟩
  obtain ⟨v, p', sd', e, hv, q0, q1⟩ := next_ok hs sd h0 (by omega)
  have hn : ¬ n = 0 := by omega
  rw [if_neg c, e]
  simp only [Option.bind_some, if_neg hn]
  by_cases d : n > 200
  · obtain ⟨u, p2, sd2, e2, hu, r0, r1⟩ := next_ok hs sd' q0 (by omega)
    rw [if_pos d, e2]
    simp only [Option.bind_some]
    refine ⟨_, _, _, rfl, ?_, r0, by omega⟩
    rw [w64 (x := v * 256) (by omega) (by omega), w64 (x := v * 256 + u) (by omega) (by omega), Int.tmod_eq_emod_of_nonneg (by omega)]
    exact ⟨Int.emod_nonneg _ hn, .inl (Int.emod_lt_of_pos _ (by omega))⟩
  · rw [if_neg d]
    refine ⟨_, _, _, rfl, ?_, q0, by omega⟩
    rw [Int.tmod_eq_emod_of_nonneg hv.1]
    exact ⟨Int.emod_nonneg _ hn, .inl (Int.emod_lt_of_pos _ (by omega))⟩
theorem one_ok {s : List Int} (hs : Bys s) {p : Int} (sd : Int) (n : Int) (h0 : 0 ≤ p) (h1 : p ≤ 3000000000000000000) :
    ∃ v p' sd', spec_l1Cur_one.f s p sd n = some (v, p', sd') ∧ 0 ≤ p' ∧ p' ≤ p + 2 := by
  obtain ⟨v, p', sd', e, _, q0, q1⟩ := pick_ok hs sd (n := n) h0 h1
  unfold spec_l1Cur_one.f
  rw [e]
  exact ⟨_, _, _, rfl, q0, q1⟩
theorem among_ok {s : List Int} (hs : Bys s) {p : Int} (sd : Int) {l : List Int} (hl : 0 < l.length) (h0 : 0 ≤ p) (h1 : p ≤ 3000000000000000000) :
    ∃ v p' sd', spec_l1Cur_among.f s p sd l = some (v, p', sd') ∧ v ∈ l ∧ 0 ≤ p' ∧ p' ≤ p + 2 := by
  obtain ⟨v, p', sd', e, hv, q0, q1⟩ := pick_ok hs sd (n := (l.length : Int)) h0 h1
  have hm : rd l v ∈ l := by
    unfold rd
    have : v.toNat < l.length := by omega
    rw [List.getD_eq_getElem?_getD, List.getElem?_eq_getElem this]
    exact List.getElem_mem this
  unfold spec_l1Cur_among.f
  rw [e]
  simp only [Option.bind_some]
  rw [if_pos (by omega), if_pos (by omega)]
  exact ⟨_, _, _, rfl, hm, q0, q1⟩
theorem strOf_size (l : List Int) : (strOfNums l).size = l.length := by simp [strOfNums, ByteArray.size]

def Dr {α : Type} (g : Nat → Option (α × Int × Int)) (p c : Int) (P : α → Prop) : Prop := ∃ v p' sd', Ev g (v, p', sd') ∧ P v ∧ 0 ≤ p' ∧ p' ≤ p + c
theorem key_l1 (s : List Int) (p sd : Int) : ∀ (d : Nat) (x : List Int), 12 - x.length ≤ d → x.length ≤ 12 →
    ∃ v, Ev (fun k => spec_l1Cur_key.l1 k x s p sd) (v, p, sd) ∧ v.size ≤ 12 := by
  intro d
  induction d with
  | zero =>
    intro x h1 h2
    refine ⟨strOfNums x, ev_succ ?_, by rw [strOf_size]; omega⟩
    simp only [spec_l1Cur_key.l1]
    exact ev_neg (by omega) (Ev.now _)
  | succ d ih =>
    intro x h1 h2
    by_cases c : (x.length : Int) < 12
    · obtain ⟨v, e, hv⟩ := ih (x ++ [97]) (by simp; omega) (by simp; omega)
      refine ⟨v, ev_succ ?_, hv⟩
      simp only [spec_l1Cur_key.l1]
      exact ev_pos c (ev_pos (by omega) e)
    · refine ⟨strOfNums x, ev_succ ?_, by rw [strOf_size]; omega⟩
      simp only [spec_l1Cur_key.l1]
      exact ev_neg c (Ev.now _)
theorem key_l0 {s : List Int} (hs : Bys s) : ∀ (n : Nat) (x : List Int) (p sd : Int), x.length + n ≤ 12 → 0 ≤ p → p + 2 * (n : Int) ≤ 2000000000000000000 →
    Dr (fun k => spec_l1Cur_key.l0 k x (n : Int) s p sd) p (2 * (n : Int) + 2) (fun v => v.size ≤ 12) := by
  intro n
  induction n with
  | zero =>
    intro x p sd hx h0 h1
    obtain ⟨v, p', sd', e, q0, q1⟩ := one_ok hs sd 12 h0 (by omega)
    by_cases c : v = true
    · obtain ⟨u, eu, hu⟩ := key_l1 s p' sd' 12 x (by omega) (by omega)
      refine ⟨u, p', sd', ev_succ ?_, hu, q0, by omega⟩
      simp only [spec_l1Cur_key.l0, e]
      exact ev_neg (by omega) (ev_bind _ (Ev.now _) (ev_pos c eu))
    · refine ⟨strOfNums x, p', sd', ev_succ ?_, (by rw [strOf_size]; omega : (strOfNums x).size ≤ 12), q0, by omega⟩
      simp only [spec_l1Cur_key.l0, e]
      exact ev_neg (by omega) (ev_bind _ (Ev.now _) (ev_neg c (Ev.now _)))
  | succ n ih =>
    intro x p sd hx h0 h1
    obtain ⟨v, p', sd', e, hv, q0, q1⟩ := pick_ok hs sd (n := 11) h0 (by omega)
    obtain ⟨u, p2, sd2, eu, hu, r0, r1⟩ := ih (x ++ [bt (⟨#[97, 97, 98, 98, 99, 120, 121, 122, 33, 125, 48]⟩ : ByteArray) v]) p' sd' (by simp; omega) q0 (by omega)
    refine ⟨u, p2, sd2, ev_succ ?_, hu, r0, by omega⟩
    simp only [spec_l1Cur_key.l0, e]
    refine ev_pos (by omega) (ev_bind _ (Ev.now _) (ev_pos hv.1 (ev_pos (by omega) (ev_pos (by omega) ?_))))
    rw [wdec (by omega)]
    exact eu
theorem key_ok {s : List Int} (hs : Bys s) {p : Int} (sd : Int) (h0 : 0 ≤ p) (h1 : p ≤ 1000000000000000000) : Dr (fun k => spec_l1Cur_key.f k s p sd) p 12 (fun v => v.size ≤ 12) := by
  obtain ⟨v, p', sd', e, hv, q0, q1⟩ := pick_ok hs sd (n := 4) h0 (by omega)
  obtain ⟨u, p2, sd2, eu, hu, r0, r1⟩ := key_l0 hs (v.toNat + 1) [] p' sd' (by simp; omega) q0 (by omega)
  refine ⟨u, p2, sd2, ?_, hu, r0, by omega⟩
  unfold spec_l1Cur_key.f
  rw [e]
  refine ev_bind _ (Ev.now _) ?_
  rw [w64 (by omega) (by omega), show 1 + v = ((v.toNat + 1 : Nat) : Int) from by omega]
  exact eu
def insK (s : ByteArray) : List ByteArray → List ByteArray
  | [] => [s]
  | q :: t => if lessS q s = true then q :: insK s t else if q = s then q :: t else s :: q :: t
theorem insK_len (s : ByteArray) : ∀ l, (insK s l).length ≤ l.length + 1
  | [] => by simp [insK]
  | q :: t => by
    have := insK_len s t
    unfold insK
    split
    · simp; omega
    · split <;> simp
theorem insK_mem (s : ByteArray) : ∀ l, ∀ x ∈ insK s l, x = s ∨ x ∈ l
  | [], x, h => by simp [insK] at h; exact .inl h
  | q :: t, x, h => by
    unfold insK at h
    split at h
    · rcases List.mem_cons.1 h with e | e
      · exact .inr (by simp [e])
      · rcases insK_mem s t x e with e | e
        · exact .inl e
        · exact .inr (by simp [e])
    · split at h
      · exact .inr h
      · rcases List.mem_cons.1 h with e | e
        · exact .inl e
        · exact .inr e
theorem putS_l0 (x0 : List ByteArray) (s : ByteArray) (hx : x0.length ≤ 1000000) : ∀ (t pre : List ByteArray), x0 = pre ++ t →
    Ev (fun k => spec_l1PutS.l0 k x0 s (pre.length : Int)) (pre ++ insK s t) := by
  intro t
  induction t with
  | nil =>
    intro pre h
    have hp : x0 = pre := by rw [h, List.append_nil]
    subst hp
    refine ev_succ ?_
    simp only [spec_l1PutS.l0]
    refine ev_neg (by omega) (ev_bind _ (Ev.now _) (ev_pos (by omega) (ev_pos (by omega) (ev_bind _ (Ev.now _) ?_))))
    rw [Int.toNat_natCast, List.take_length, List.nil_append]
    refine ev_pos (by simp; omega) (ev_bind _ (Ev.now _) (ev_pos (by omega) (ev_bind _ (Ev.now _) (ev_bind _ (Ev.now _) (ev_pos (by simp; omega) (ev_some ?_))))))
    simp [insK]
  | cons q t ih =>
    intro pre h
    have hm : ((pre.length : Nat) : Int) < (x0.length : Int) := by rw [h]; exact lt_mid
    have hg : rdOf ByteArray.empty x0 (pre.length : Int) = q := by rw [h]; exact rdOf_mid
    refine ev_succ ?_
    simp only [spec_l1PutS.l0, hg]
    refine ev_pos hm (ev_pos (by omega) ?_)
    unfold insK
    by_cases c : lessS q s = true
    · refine ev_pos c ?_
      rw [winc (by omega), if_pos c]
      have := ih (pre ++ [q]) (by rw [h]; simp)
      rw [len_one] at this
      simpa using this
    · refine ev_neg c ?_
      rw [if_neg c]
      by_cases d : q = s
      · refine ev_pos (tl_inj.2 d) (ev_some ?_)
        rw [if_pos d, h]
      · refine ev_neg (fun e => d (tl_inj.1 e)) (ev_bind _ (Ev.now _) (ev_pos (by omega) (ev_bind _ (Ev.now _) ?_)))
        have et : x0.take pre.length = pre := by rw [h]; simp
        have ed : x0.drop pre.length = q :: t := by rw [h]; simp
        have hl : x0.length = pre.length + (t.length + 1) := by rw [h]; simp
        rw [Int.toNat_natCast, et, ed, List.nil_append, if_neg d]
        refine ev_pos (by simp; omega) (ev_bind _ (Ev.now _) (ev_pos (by omega) (ev_bind _ (Ev.now _) (ev_bind _ (Ev.now _) (ev_pos (by simp; omega) (ev_some ?_))))))
        simp
theorem putS_f (l : List ByteArray) (s : ByteArray) (h : l.length ≤ 1000000) : Ev (fun k => spec_l1PutS.f k l s) (insK s l) := putS_l0 l s h l [] rfl
def Kys (m : Nat) (l : List ByteArray) : Prop := l.length ≤ m ∧ ∀ s ∈ l, s.size ≤ 13
theorem Kys.ins {m : Nat} {l : List ByteArray} (h : Kys m l) {s : ByteArray} (hs : s.size ≤ 13) : Kys (m + 1) (insK s l) :=
  ⟨by have := insK_len s l; have := h.1; omega, fun x hx => by exact (insK_mem s l x hx).elim (fun e => e ▸ hs) (h.2 x)⟩
theorem Kys.one {m : Nat} {l : List ByteArray} (h : Kys m l) {s : ByteArray} (hs : s.size ≤ 13) : Kys (m + 1) (l ++ [s]) :=
  ⟨by have := h.1; simp; omega, fun x hx => by exact (List.mem_append.1 hx).elim (h.2 x) (fun e => List.mem_singleton.1 e ▸ hs)⟩
theorem Kys.mono {m m' : Nat} {l : List ByteArray} (h : Kys m l) (hm : m ≤ m') : Kys m' l := ⟨Nat.le_trans h.1 hm, h.2⟩
theorem keys_l0 {s : List Int} (hs : Bys s) : ∀ (n m : Nat) (x : List ByteArray) (p sd : Int), Kys m x → m + n ≤ 1000 → 0 ≤ p → p + 12 * (n : Int) ≤ 500000000000000000 →
    Dr (fun k => spec_l1Cur_keys.l0 k x (n : Int) s p sd) p (12 * (n : Int)) (Kys (m + n)) := by
  intro n
  induction n with
  | zero =>
    intro m x p sd hx hm h0 h1
    refine ⟨x, p, sd, ev_succ ?_, hx, h0, by omega⟩
    simp only [spec_l1Cur_keys.l0]
    exact ev_neg (by omega) (Ev.now _)
  | succ n ih =>
    intro m x p sd hx hm h0 h1
    obtain ⟨v, p', sd', e, hv, q0, q1⟩ := key_ok hs sd h0 (by omega)
    have hl := hx.1
    obtain ⟨u, p2, sd2, eu, hu, r0, r1⟩ := ih (m + 1) (insK v x) p' sd' (hx.ins (by omega)) (by omega) q0 (by omega)
    refine ⟨u, p2, sd2, ev_succ ?_, hu.mono (by omega), r0, by omega⟩
    simp only [spec_l1Cur_keys.l0]
    refine ev_pos (by omega) (ev_bind _ e (ev_bind _ (putS_f x v (by omega)) ?_))
    rw [wdec (by omega)]
    exact eu
theorem keys_ok {s : List Int} (hs : Bys s) {p : Int} (sd : Int) {n : Nat} (hn : n ≤ 100) (h0 : 0 ≤ p) (h1 : p ≤ 400000000000000000) : Dr (fun k => spec_l1Cur_keys.f k s p sd (n : Int)) p (12 * (n : Int) + 2) (Kys n) := by
  obtain ⟨v, p', sd', e, hv, q0, q1⟩ := pick_ok hs sd (n := (n : Int) + 1) h0 (by omega)
  obtain ⟨u, p2, sd2, eu, hu, r0, r1⟩ := keys_l0 hs v.toNat 0 [] p' sd' ⟨by simp, by simp⟩ (by omega) q0 (by omega)
  refine ⟨u, p2, sd2, ?_, hu.mono (by omega), r0, by omega⟩
  unfold spec_l1Cur_keys.f
  rw [w64 (x := (n : Int) + 1) (by omega) (by omega), e]
  refine ev_bind _ (Ev.now _) ?_
  rw [show ((v.toNat : Nat) : Int) = v from by omega] at eu
  exact eu
end Go.Proofs.YtfedgkmklcialaaQ
namespace Go.Proofs.YtfedgkmklcialaaQ.MF
open Go Go.RowKit Go.Proofs.YtfedgkmklcialaaW.PrintWords Go.Proofs.YtfedgkmklcialaaW.PrintMore Go.Proofs.YtfedgkmklcialaaGp Go.Proofs.Ytfedgkmklcialaa.PM Go.Proofs.YtfedgkmklcialaaQ

abbrev Str := List UInt8
theorem bl_tri (a b : Str) : Op.bytesLess a b = true ∨ a = b ∨ Op.bytesLess b a = true := by
  have t := bl_total a b
  cases h : Op.bytesLess b a
  · rw [h] at t
    simp only [Bool.not_false, Bool.or_eq_true, beq_iff_eq] at t
    rcases t with t | t
    · exact .inl t
    · exact .inr (.inl t)
  · exact .inr (.inr rfl)
theorem bl_asymm {a b : Str} (h : Op.bytesLess a b = true) : Op.bytesLess b a = false := by
  cases hb : Op.bytesLess b a
  · rfl
  · have := bl_trans _ _ _ h hb
    rw [bl_irrefl] at this
    cases this
abbrev SBL (l : List Str) : Prop := l.Pairwise fun a b => Op.bytesLess a b = true
theorem ext_of {α : Type} (r : α → α → Prop) (irr : ∀ a, ¬ r a a) (tr : ∀ a b c, r a b → r b c → r a c) : ∀ {l m : List α}, l.Pairwise r → m.Pairwise r → (∀ x, x ∈ l ↔ x ∈ m) → l = m
  | [], [], _, _, _ => rfl
  | [], b :: m, _, _, h => by have := (h b).2 (by simp); simp at this
  | a :: l, [], _, _, h => by have := (h a).1 (by simp); simp at this
  | a :: l, b :: m, hl, hm, h => by
    obtain ⟨ha, hl'⟩ := List.pairwise_cons.1 hl
    obtain ⟨hb, hm'⟩ := List.pairwise_cons.1 hm
    have e : a = b := by
      rcases List.mem_cons.1 ((h a).1 (by simp)) with e | ia
      · exact e
      · rcases List.mem_cons.1 ((h b).2 (by simp)) with e | ib
        · exact e.symm
        · exact absurd (tr _ _ _ (ha b ib) (hb a ia)) (irr a)
    subst e
    refine congrArg (a :: ·) (ext_of r irr tr hl' hm' fun x => ?_)
    constructor
    · intro hx
      rcases List.mem_cons.1 ((h x).1 (by simp [hx])) with e | i
      · subst e; exact absurd (ha x hx) (irr x)
      · exact i
    · intro hx
      rcases List.mem_cons.1 ((h x).2 (by simp [hx])) with e | i
      · subst e; exact absurd (hb x hx) (irr x)
      · exact i
theorem bl_lt : ∀ a b : Str, Op.bytesLess a b = true ↔ a < b
  | [], [] => by simp [Op.bytesLess]
  | [], _ :: _ => by simp [Op.bytesLess]
  | _ :: _, [] => by simp [Op.bytesLess]
  | a :: l, b :: m => by
    rw [List.cons_lt_cons_iff]
    simp only [Op.bytesLess, Bool.or_eq_true, Bool.and_eq_true, decide_eq_true_eq, beq_iff_eq, bl_lt l m]
theorem le_bl {a b : Str} : decide (a ≤ b) = true ↔ Op.bytesLess b a = false := by
  rw [decide_eq_true_eq, ← Bool.not_eq_true, bl_lt, List.not_lt]

abbrev SK (l : List ByteArray) : Prop := l.Pairwise fun a b => lessS a b = true
theorem insK_mem {x y : ByteArray} : ∀ {l : List ByteArray}, y ∈ insK x l ↔ y = x ∨ y ∈ l
  | [] => by simp [insK]
  | z :: t => by
    unfold insK
    split
    · rw [List.mem_cons, insK_mem, List.mem_cons]
      constructor
      · rintro (h | h | h)
        · exact .inr (.inl h)
        · exact .inl h
        · exact .inr (.inr h)
      · rintro (h | h | h)
        · exact .inr (.inl h)
        · exact .inl h
        · exact .inr (.inr h)
    · split
      · rename_i e
        rw [List.mem_cons]
        constructor
        · intro h; exact .inr h
        · rintro (h | h)
          · exact .inl (h.trans e.symm)
          · exact h
      · simp [List.mem_cons]
theorem insK_sorted {x : ByteArray} : ∀ {l : List ByteArray}, SK l → SK (insK x l)
  | [], _ => by simp [insK]
  | z :: t, h => by
    obtain ⟨h1, h2⟩ := List.pairwise_cons.1 h
    unfold insK
    split
    · rename_i c
      refine List.pairwise_cons.2 ⟨fun y hy => ?_, insK_sorted h2⟩
      rcases insK_mem.1 hy with rfl | hy
      · exact c
      · exact h1 y hy
    · split
      · exact h
      · rename_i c e
        have hx : lessS x z = true := by
          rcases lessS_total z x (by simpa using c) with t | t
          · exact t
          · exact absurd t e
        refine List.pairwise_cons.2 ⟨fun y hy => ?_, h⟩
        rcases List.mem_cons.1 hy with rfl | hy
        · exact hx
        · exact lessS_trans hx (h1 y hy)
def setK (M : List ByteArray) (acc : List ByteArray) : List ByteArray := M.foldl (fun a x => insK x a) acc
theorem setK_ok : ∀ (M acc : List ByteArray), SK acc → SK (setK M acc) ∧ ∀ x, x ∈ setK M acc ↔ x ∈ acc ∨ x ∈ M
  | [], acc, h => ⟨h, fun x => by simp [setK]⟩
  | m :: M, acc, h => by
    obtain ⟨h1, h2⟩ := setK_ok M (insK m acc) (insK_sorted h)
    refine ⟨h1, fun x => ?_⟩
    show x ∈ setK M (insK m acc) ↔ _
    rw [h2, insK_mem, List.mem_cons]
    constructor
    · rintro ((h | h) | h)
      · exact .inr (.inl h)
      · exact .inl h
      · exact .inr (.inr h)
    · rintro (h | h | h)
      · exact .inl (.inr h)
      · exact .inl (.inl h)
      · exact .inr h
theorem keys_sk {K : List ByteArray} (h : areKeysB K = true) : SK K := by
  have hf := areKeysB_from h
  have go : ∀ (p : Option ByteArray) (l : List ByteArray), keysFrom p l = true → SK l := by
    intro p l
    induction l generalizing p with
    | nil => intro _; exact List.Pairwise.nil
    | cons x t ih =>
      intro hk
      simp only [keysFrom, Bool.and_eq_true] at hk
      exact List.pairwise_cons.2 ⟨fun y hy => keysFrom_less x t hk.2 y hy, ih _ hk.2⟩
  exact go none K hf
theorem sk_ext {a b : List ByteArray} (h1 : SK a) (h2 : SK b) (h : ∀ x, x ∈ a ↔ x ∈ b) : a = b :=
  ext_of (fun a b => lessS a b = true) (fun a => by rw [lessS_irrefl]; simp) (fun _ _ _ h k => lessS_trans h k) h1 h2 h
theorem bytes_le_trans (a b c : Str) (h1 : decide (a ≤ b) = true) (h2 : decide (b ≤ c) = true) : decide (a ≤ c) = true := by
  rw [le_bl] at *
  cases h : Op.bytesLess c a
  · rfl
  · rcases bl_tri a b with t | t | t
    · rw [bl_trans _ _ _ h t] at h2; cases h2
    · subst t; rw [h] at h2; cases h2
    · rw [t] at h1; cases h1
theorem bytes_le_total (a b : Str) : (decide (a ≤ b) || decide (b ≤ a)) = true := by
  rw [Bool.or_eq_true, le_bl, le_bl]
  cases h : Op.bytesLess b a
  · exact .inl rfl
  · exact .inr (bl_asymm h)
theorem compact_sbl (zs : List Str) (hs : zs.Pairwise fun a b => decide (a ≤ b) = true) : ∀ m, m ≤ zs.length →
    SBL (Lib.compactUpTo zs.toArray m) ∧ ∀ x, x ∈ Lib.compactUpTo zs.toArray m ↔ ∃ j, j < m ∧ zs[j]? = some x
  | 0, _ => by simp [Lib.compactUpTo]
  | m + 1, h => by
    obtain ⟨h1, h2⟩ := compact_sbl zs hs m (by omega)
    have hd : ∀ j, (hj : j < zs.length) → zs.toArray[j]! = zs[j] := fun j hj => by simp [hj]
    rw [Lib.compactUpTo_succ]
    by_cases c : m = 0 ∨ zs.toArray[m]! ≠ zs.toArray[m - 1]!
    · have hk : Lib.keeps zs.toArray m = true := by simpa [Lib.keeps] using c
      rw [hk, if_pos rfl, hd m (by omega)]
      refine ⟨List.pairwise_append.2 ⟨h1, by simp, fun a ha b hb => ?_⟩, fun x => ?_⟩
      · obtain rfl : b = zs[m] := by simpa using hb
        obtain ⟨j, hj, hja⟩ := (h2 a).1 ha
        rcases c with c | c
        · omega
        · rw [hd m (by omega), hd (m - 1) (by omega)] at c
          have hle : decide (zs[m - 1] ≤ zs[m]) = true := List.pairwise_iff_getElem.1 hs (m - 1) m (by omega) (by omega) (by omega)
          have hlt : Op.bytesLess zs[m - 1] zs[m] = true := by
            rcases bl_tri zs[m - 1] zs[m] with t | t | t
            · exact t
            · exact absurd t.symm c
            · have := le_bl.1 hle; rw [t] at this; cases this
          rw [List.getElem?_eq_getElem (by omega)] at hja
          obtain rfl := Option.some.inj hja
          by_cases e : j = m - 1
          · subst e; exact hlt
          · have hle2 : decide (zs[j] ≤ zs[m - 1]) = true := List.pairwise_iff_getElem.1 hs j (m - 1) (by omega) (by omega) (by omega)
            rcases bl_tri zs[j] zs[m - 1] with t | t | t
            · exact bl_trans _ _ _ t hlt
            · rw [t]; exact hlt
            · have := le_bl.1 hle2; rw [t] at this; cases this
      · rw [List.mem_append, h2]
        constructor
        · rintro (⟨j, hj, hx⟩ | hx)
          · exact ⟨j, by omega, hx⟩
          · obtain rfl : x = zs[m] := by simpa using hx
            exact ⟨m, by omega, List.getElem?_eq_getElem (by omega)⟩
        · rintro ⟨j, hj, hx⟩
          by_cases e : j = m
          · subst e
            rw [List.getElem?_eq_getElem (by omega)] at hx
            exact .inr (by simpa using (Option.some.inj hx).symm)
          · exact .inl ⟨j, by omega, hx⟩
    · have hk : Lib.keeps zs.toArray m = false := by simpa [Lib.keeps] using c
      rw [hk, if_neg (by simp), List.append_nil]
      refine ⟨h1, fun x => ?_⟩
      rw [h2]
      constructor
      · rintro ⟨j, hj, hx⟩; exact ⟨j, by omega, hx⟩
      · rintro ⟨j, hj, hx⟩
        by_cases e : j = m
        · have c1 : ¬ m = 0 := fun e => c (.inl e)
          have c2 : zs.toArray[m]! = zs.toArray[m - 1]! := by
            by_cases hh : zs.toArray[m]! = zs.toArray[m - 1]!
            · exact hh
            · exact absurd (.inr hh) c
          rw [hd m (by omega), hd (m - 1) (by omega)] at c2
          subst e
          refine ⟨j - 1, by omega, ?_⟩
          rw [List.getElem?_eq_getElem (by omega)] at hx ⊢
          rw [← c2]; exact hx
        · exact ⟨j, by omega, hx⟩
theorem bytesL_mk (l : List (List UInt8)) : bytesL (l.map fun b => ⟨b.toArray⟩) = l := by
  unfold bytesL
  rw [List.map_map]
  exact (List.map_congr_left fun _ _ => by simp).trans (List.map_id l)
theorem bytesL_mem {l : List ByteArray} {x : ByteArray} : x.data.toList ∈ bytesL l ↔ x ∈ l := by
  unfold bytesL
  rw [List.mem_map]
  constructor
  · rintro ⟨y, hy, e⟩
    have : y = x := ByteArray.ext (Array.toList_inj.1 e)
    rw [← this]; exact hy
  · intro h; exact ⟨x, h, rfl⟩
theorem merge_plain {x : List ByteArray} (hx : SK x) (y : List ByteArray) : compactS (sortS (x ++ y)) = setK y x := by
  obtain ⟨h1, h2⟩ := setK_ok y x hx
  have hp := List.pairwise_mergeSort (le := fun x y : Str => decide (x ≤ y)) (fun a b c => bytes_le_trans a b c) (fun a b => bytes_le_total a b) (bytesL (x ++ y))
  obtain ⟨c1, c2⟩ := compact_sbl _ hp _ (Nat.le_refl _)
  have e : bytesL (sortS (x ++ y)) = (bytesL (x ++ y)).mergeSort (fun x y : Str => decide (x ≤ y)) := bytesL_mk _
  unfold compactS
  rw [e]
  refine sk_ext (List.pairwise_map.2 (c1.imp fun {a b} hab => ?_)) h1 fun z => ?_
  · unfold lessS
    rw [tl, tl]
    simpa using hab
  · rw [h2, ← List.mem_append, List.mem_map]
    have hm : ∀ b : Str, b ∈ Lib.compact ((bytesL (x ++ y)).mergeSort (fun x y : Str => decide (x ≤ y))) ↔ b ∈ bytesL (x ++ y) := fun b => by
      show b ∈ Lib.compactUpTo _ _ ↔ _
      rw [c2, ← List.mem_mergeSort (le := fun x y : Str => decide (x ≤ y)) (l := bytesL (x ++ y))]
      constructor
      · rintro ⟨j, _, hj⟩; exact List.mem_of_getElem? hj
      · intro hb
        obtain ⟨j, hj, e⟩ := List.getElem_of_mem hb
        exact ⟨j, hj, by rw [List.getElem?_eq_getElem hj, e]⟩
    constructor
    · rintro ⟨b, hb, rfl⟩
      have := (hm b).1 hb
      rw [← bytesL_mem]
      simpa using this
    · intro hz
      exact ⟨z.data.toList, (hm _).2 (bytesL_mem.2 hz), by simp⟩
end Go.Proofs.YtfedgkmklcialaaQ.MF
-- printed by a program of this session (wip/gp) out of the translation; Lean checks it
namespace Go.Proofs.Ytfedgkmklcialaa.PM
open Go.RowKit Go.Proofs.YtfedgkmklcialaaW.PrintWords Go.Proofs.YtfedgkmklcialaaW.PrintLast Go.Proofs.YtfedgkmklcialaaW.PrintMore Go.Proofs.YtfedgkmklcialaaSq
attribute [local go_sem] max2_int min2_int max_two min_two max_three min_three max_four min_four   -- for this text's walks alone
attribute [local go_sem] Go.Proofs.YtfedgkmklcialaaGp.str_geq Go.Proofs.YtfedgkmklcialaaGp.str_gtr Go.Proofs.YtfedgkmklcialaaGp.str_leq
set_option linter.unusedVariables false
set_option linter.unusedSimpArgs false

set_option maxHeartbeats 8000000
set_option maxRecDepth 100000
end Go.Proofs.Ytfedgkmklcialaa.PM
namespace Go.Proofs.YtfedgkmklcialaaQ
open Go Go.RowKit Go.Proofs.YtfedgkmklcialaaW.PrintWords Go.Proofs.YtfedgkmklcialaaGp Go.Proofs.Ytfedgkmklcialaa.PM

def sumSz : List ByteArray → Int
  | [] => 0
  | s :: t => (s.size : Int) + sumSz t
theorem sumSz_nonneg : ∀ l, 0 ≤ sumSz l
  | [] => Int.le_refl _
  | s :: t => by have := sumSz_nonneg t; simp only [sumSz]; omega
theorem sumSz_app : ∀ a b, sumSz (a ++ b) = sumSz a + sumSz b
  | [], b => by simp [sumSz]
  | s :: t, b => by simp only [List.cons_append, sumSz, sumSz_app t b]; omega
end Go.Proofs.YtfedgkmklcialaaQ
namespace Go.Proofs.YtfedgkmklcialaaQ
open Go Go.RowKit Go.Proofs.YtfedgkmklcialaaW.PrintWords Go.Proofs.YtfedgkmklcialaaGp Go.Proofs.Ytfedgkmklcialaa.PM

def common : List UInt8 → List UInt8 → Nat
  | a :: l, b :: m => if a = b then common l m + 1 else 0
  | _, _ => 0
theorem common_le_right : ∀ l m, common l m ≤ m.length
  | [], _ => by simp [common]
  | _ :: _, [] => by simp [common]
  | a :: l, b :: m => by
    simp only [common]
    split
    · have := common_le_right l m; simp; omega
    · simp
theorem common_le_left : ∀ l m, common l m ≤ l.length
  | [], _ => by simp [common]
  | _ :: _, [] => by simp [common]
  | a :: l, b :: m => by
    simp only [common]
    split
    · have := common_le_left l m; simp; omega
    · simp
theorem u8_eq {c d : UInt8} : (c.toNat : Int) = (d.toNat : Int) ↔ c = d := by
  constructor
  · intro h; exact UInt8.toNat_inj.1 (by omega)
  · rintro rfl; rfl
theorem spec_trCommon_l0 (a b : ByteArray) (hz : (a.size : Int) ≤ 9223372036854775806) : ∀ (t u pre pre' : List UInt8), a.data.toList = pre ++ t → b.data.toList = pre' ++ u → pre.length = pre'.length →
    Ev (fun k => spec_trCommon.l0 k a b (pre.length : Int)) ((pre.length + common t u : Nat) : Int) := by
  intro t
  induction t with
  | nil =>
    intro u pre pre' h h' hp
    refine ev_succ ?_
    simp only [spec_trCommon.l0]
    exact ev_neg (not_lt_size h) (ev_some (by simp [common]))
  | cons c t ih =>
    intro u pre pre' h h' hp
    have hm := lt_size h
    refine ev_succ ?_
    simp only [spec_trCommon.l0]
    refine ev_pos hm ?_
    cases u with
    | nil => exact ev_neg (by rw [hp]; exact not_lt_size h') (ev_some (by simp [common]))
    | cons d u =>
      refine ev_pos (by rw [hp]; exact lt_size h') (ev_pos (by omega) ?_)
      rw [bt_mid h, show ((pre.length : Nat) : Int) = ((pre'.length : Nat) : Int) from by rw [hp], bt_mid h', ← hp]
      by_cases e : c = d
      · refine ev_pos (u8_eq.2 e) ?_
        rw [winc (by omega)]
        have := ih u (pre ++ [c]) (pre' ++ [d]) (by rw [h]; simp) (by rw [h']; simp) (by simp [hp])
        rw [len_one] at this
        simp only [common, if_pos e]
        rw [show pre.length + (common t u + 1) = (pre ++ [c]).length + common t u from by simp; omega]
        exact this
      · exact ev_neg (fun h => e (u8_eq.1 h)) (ev_some (by simp [common, e]))
def comS (p s : ByteArray) : Nat := common p.data.toList s.data.toList
theorem comS_le (p s : ByteArray) : comS p s ≤ s.size := by rw [size_len]; exact common_le_right _ _
theorem spec_trCommon_f (a b : ByteArray) (hz : (a.size : Int) ≤ 9223372036854775806) : Ev (fun k => spec_trCommon.f k a b) (comS a b : Int) := by
  unfold spec_trCommon.f comS
  have := spec_trCommon_l0 a b hz a.data.toList b.data.toList [] [] rfl rfl rfl
  simpa using this

def keepOf (b : Int) (i : Nat) (p : Option ByteArray) (s : ByteArray) : Nat := if Int.tmod (i : Int) b > 0 then comS (p.getD ⟨#[]⟩) s else 0
def frontL (b : Int) : Nat → Option ByteArray → List ByteArray → List (Int × ByteArray)
  | _, _, [] => []
  | i, p, s :: t => ((keepOf b i p s : Int), s.extract (keepOf b i p s) s.size) :: frontL b (i + 1) (some s) t
def keepsL (b : Int) (l : List ByteArray) : List Int := (frontL b 0 none l).map Prod.fst
def tailsL (b : Int) (l : List ByteArray) : List ByteArray := (frontL b 0 none l).map Prod.snd
theorem frontL_len (b : Int) : ∀ i p l, (frontL b i p l).length = l.length
  | _, _, [] => rfl
  | i, p, s :: t => by simp [frontL, frontL_len b (i + 1) (some s) t]
theorem tmod_pos_len {i : Nat} {b : Int} (h : Int.tmod (i : Int) b > 0) : 0 < i := by
  rcases Nat.eq_zero_or_pos i with rfl | h'
  · simp at h
  · exact h'
theorem spec_trFront_l0 (x0 : List ByteArray) (b : Int) (hb : ¬ b = 0) (hl : x0.length ≤ 1000000) (hs : ∀ s ∈ x0, (s.size : Int) ≤ 9223372036854775806) : ∀ (t pre : List ByteArray) (ks : List Int) (ts : List ByteArray), x0 = pre ++ t → ks.length = pre.length → ts.length = pre.length →
    Ev (fun k => spec_trFront.l0 k x0 b x0 (x0.length : Int) (pre.length : Int) b ks ts) (b, ks ++ (frontL b pre.length (lastOf pre) t).map Prod.fst, ts ++ (frontL b pre.length (lastOf pre) t).map Prod.snd) := by
  intro t
  induction t with
  | nil =>
    intro pre ks ts h hk ht
    refine ev_succ ?_
    simp only [spec_trFront.l0]
    exact ev_neg (by rw [h]; exact not_lt_end) (ev_some (by simp [frontL]))
  | cons s t ih =>
    intro pre ks ts h hk ht
    have hm : ((pre.length : Nat) : Int) < (x0.length : Int) := by rw [h]; exact lt_mid
    have hg : rdOf ByteArray.empty x0 (pre.length : Int) = s := by rw [h]; exact rdOf_mid
    have next := fun n t' => ih (pre ++ [s]) (ks ++ [n]) (ts ++ [t']) (by rw [h]; simp) (by simp [hk]) (by simp [ht])
    simp only [lastOf_one, List.length_append, List.length_cons, List.length_nil, Nat.zero_add] at next
    refine ev_succ ?_
    simp only [spec_trFront.l0, hg]
    refine ev_pos hm (ev_pos (by omega) (ev_pos hm (ev_neg hb ?_)))
    by_cases c : Int.tmod ((pre.length : Nat) : Int) b > 0
    · refine ev_pos c ?_
      obtain ⟨q, p, rfl⟩ := last_split (tmod_pos_len c)
      have hp : rdOf ByteArray.empty x0 ((q.length : Nat) : Int) = p := by rw [h]; exact rdOf_last
      have hpm : p ∈ x0 := by rw [h]; simp
      have hw : wrap64 (((q ++ [p]).length : Int) - 1) = (q.length : Int) := by rw [len_one]; exact wdec (by simp at hm; omega)
      have hkeep : keepOf b (q ++ [p]).length (lastOf (q ++ [p])) s = comS p s := by unfold keepOf; rw [if_pos c, lastOf_one]; rfl
      have hle := comS_le p s
      simp only [hw, hp]
      refine ev_pos (by omega) (ev_pos (by simp at hm; omega) (ev_bind _ (spec_trCommon_f p s (hs p hpm)) ?_))
      refine ev_pos (by rw [hk]; simp only [List.length_append, List.length_cons, List.length_nil] at hm ⊢; omega) (ev_pos (by omega) (ev_pos (by omega) (ev_pos (by rw [ht]; simp only [List.length_append, List.length_cons, List.length_nil] at hm ⊢; omega) ?_)))
      rw [winc (by simp at hm; simp; omega)]
      have n := next (comS p s : Int) (s.extract (comS p s) s.size)
      simp only [frontL, hkeep, List.map_cons, Int.toNat_natCast]
      simpa using n
    · refine ev_neg c (ev_pos (by rw [hk]; omega) (ev_pos (by omega) (ev_pos (by rw [ht]; omega) ?_)))
      have hkeep : keepOf b pre.length (lastOf pre) s = 0 := by unfold keepOf; rw [if_neg c]
      rw [winc (by omega)]
      have n := next 0 s
      simp only [frontL, hkeep, List.map_cons, ByteArray.extract_zero_size]
      simpa using n
theorem spec_trFront_f (l : List ByteArray) (b : Int) (hb : ¬ b = 0) (hl : l.length ≤ 1000000) (hs : ∀ s ∈ l, (s.size : Int) ≤ 9223372036854775806) : Ev (fun k => spec_trFront.f k l b) (b, keepsL b l, tailsL b l) := by
  unfold spec_trFront.f
  exact spec_trFront_l0 l b hb hl hs l [] [] [] rfl rfl rfl

theorem impl_front_l1 (x0 x11 : List ByteArray) (b i : Int) (key p : ByteArray) (x12 x13 b' : Int) (ks : List Int) (ts : List ByteArray) (r : Int × List Int × List ByteArray) (hb : ¬ b = 0) (hi : Int.tmod i b > 0)
    (h0 : 0 ≤ wrap64 (i - 1)) (h1 : wrap64 (i - 1) < (x0.length : Int)) (hp : rdOf ByteArray.empty x0 (wrap64 (i - 1)) = p) (hz : (key.size : Int) ≤ 9223372036854775806) : ∀ (t u pre pre' : List UInt8), key.data.toList = pre ++ t → p.data.toList = pre' ++ u → pre.length = pre'.length →
    Ev (fun k => impl_front.j2 k x0 b i key ((pre.length + common u t : Nat) : Int) x11 x12 x13 false b' ks ts) r →
    Ev (fun k => impl_front.l1 k x0 b i key (pre.length : Int) x11 x12 x13 b' ks ts) r := by
  intro t
  induction t with
  | nil =>
    intro u pre pre' h h' hpp hr
    refine ev_succ ?_
    simp only [impl_front.l1]
    refine ev_neg hb (ev_pos hi (ev_neg (not_lt_size h) ?_))
    simpa [show common u [] = 0 from by cases u <;> rfl] using hr
  | cons c t ih =>
    intro u pre pre' h h' hpp hr
    have hm := lt_size h
    refine ev_succ ?_
    simp only [impl_front.l1, hp]
    refine ev_neg hb (ev_pos hi (ev_pos hm (ev_pos h0 (ev_pos h1 ?_))))
    cases u with
    | nil =>
      refine ev_neg (by rw [hpp]; exact not_lt_size h') ?_
      simpa [common] using hr
    | cons d u =>
      refine ev_pos (by rw [hpp]; exact lt_size h') (ev_pos (by omega) ?_)
      rw [bt_mid h, show ((pre.length : Nat) : Int) = ((pre'.length : Nat) : Int) from by rw [hpp], bt_mid h', ← hpp]
      by_cases e : d = c
      · have e' : ((c.toNat : Int) == (d.toNat : Int)) = true := by simp [e]
        rw [e']
        refine ev_succ ?_
        simp only [impl_front.j2]
        refine ev_pos trivial ?_
        rw [winc (by omega)]
        have := ih u (pre ++ [c]) (pre' ++ [d]) (by rw [h]; simp) (by rw [h']; simp) (by simp [hpp])
        rw [len_one] at this
        refine this ?_
        simp only [common, if_pos e] at hr
        rw [show (pre ++ [c]).length + common u t = pre.length + (common u t + 1) from by simp; omega]
        exact hr
      · have e' : ((c.toNat : Int) == (d.toNat : Int)) = false := by
          rw [beq_eq_false_iff_ne]
          exact fun h => e (u8_eq.1 h).symm
        rw [e']
        simpa [common, e] using hr
theorem impl_front_l0 (x0 : List ByteArray) (b : Int) (hb : ¬ b = 0) (hl : x0.length ≤ 1000000) (hs : ∀ s ∈ x0, (s.size : Int) ≤ 9223372036854775806) : ∀ (t pre : List ByteArray) (ks : List Int) (ts : List ByteArray), x0 = pre ++ t → ks.length = pre.length → ts.length = pre.length →
    Ev (fun k => impl_front.l0 k x0 b x0 (x0.length : Int) (pre.length : Int) b ks ts) (b, ks ++ (frontL b pre.length (lastOf pre) t).map Prod.fst, ts ++ (frontL b pre.length (lastOf pre) t).map Prod.snd) := by
  intro t
  induction t with
  | nil =>
    intro pre ks ts h hk ht
    refine ev_succ ?_
    simp only [impl_front.l0]
    exact ev_neg (by rw [h]; exact not_lt_end) (ev_some (by simp [frontL]))
  | cons s t ih =>
    intro pre ks ts h hk ht
    have hm : ((pre.length : Nat) : Int) < (x0.length : Int) := by rw [h]; exact lt_mid
    have hg : rdOf ByteArray.empty x0 (pre.length : Int) = s := by rw [h]; exact rdOf_mid
    have hsz := hs s (by rw [h]; simp)
    have next := fun n t' => ih (pre ++ [s]) (ks ++ [n]) (ts ++ [t']) (by rw [h]; simp) (by simp [hk]) (by simp [ht])
    simp only [lastOf_one, List.length_append, List.length_cons, List.length_nil, Nat.zero_add] at next
    -- what follows the inner loop
    have tail : ∀ n : Nat, keepOf b pre.length (lastOf pre) s = n → n ≤ s.size →
        Ev (fun k => impl_front.j2 k x0 b (pre.length : Int) s (n : Int) x0 (x0.length : Int) (pre.length : Int) false b ks ts) (b, ks ++ (frontL b pre.length (lastOf pre) (s :: t)).map Prod.fst, ts ++ (frontL b pre.length (lastOf pre) (s :: t)).map Prod.snd) := by
      intro n hn hle
      refine ev_succ ?_
      simp only [impl_front.j2, Option.bind_some, List.length_cons, List.length_nil]
      refine ev_neg (by simp) (ev_pos (by rw [hk]; omega) (ev_pos (by omega) (ev_pos (by omega) (ev_pos (by rw [ht]; omega) ?_))))
      rw [winc (by omega)]
      have m := next (n : Int) (s.extract n s.size)
      simp only [frontL, hn, List.map_cons, Int.toNat_natCast]
      simpa using m
    refine ev_succ ?_
    simp only [impl_front.l0, hg]
    refine ev_pos hm (ev_pos (by omega) (ev_pos hm ?_))
    by_cases c : Int.tmod ((pre.length : Nat) : Int) b > 0
    · obtain ⟨q, p, rfl⟩ := last_split (tmod_pos_len c)
      have hp : rdOf ByteArray.empty x0 ((q.length : Nat) : Int) = p := by rw [h]; exact rdOf_last
      have hw : wrap64 (((q ++ [p]).length : Int) - 1) = (q.length : Int) := by rw [len_one]; exact wdec (by simp at hm; omega)
      have hkeep : keepOf b (q ++ [p]).length (lastOf (q ++ [p])) s = comS p s := by unfold keepOf; rw [if_pos c, lastOf_one]; rfl
      refine impl_front_l1 x0 x0 b _ s p _ _ b ks ts _ hb c (by rw [hw]; omega) (by rw [hw]; simp at hm; omega) (by rw [hw]; exact hp) hsz s.data.toList p.data.toList [] [] rfl rfl rfl ?_
      have m := tail (comS p s) hkeep (comS_le p s)
      simpa [comS] using m
    · have hkeep : keepOf b pre.length (lastOf pre) s = 0 := by unfold keepOf; rw [if_neg c]
      refine ev_succ ?_
      simp only [impl_front.l1]
      refine ev_neg hb (ev_neg c ?_)
      exact tail 0 hkeep (Nat.zero_le _)
theorem impl_front_f (l : List ByteArray) (b : Int) (hb : ¬ b = 0) (hl : l.length ≤ 1000000) (hs : ∀ s ∈ l, (s.size : Int) ≤ 9223372036854775806) : Ev (fun k => impl_front.f k l b) (b, keepsL b l, tailsL b l) := by
  unfold impl_front.f
  exact impl_front_l0 l b hb hl hs l [] [] [] rfl rfl rfl

def blockOk (b : Int) : Bool := decide (1 ≤ b ∧ b ≤ 16)
theorem keepsL_len (b : Int) (l : List ByteArray) : (keepsL b l).length = l.length := by simp [keepsL, frontL_len]
theorem tailsL_len (b : Int) (l : List ByteArray) : (tailsL b l).length = l.length := by simp [tailsL, frontL_len]
end Go.Proofs.YtfedgkmklcialaaQ
namespace Go.Proofs.YtfedgkmklcialaaQ
open Go Go.RowKit Go.Proofs.YtfedgkmklcialaaW.PrintWords Go.Proofs.YtfedgkmklcialaaGp Go.Proofs.Ytfedgkmklcialaa.PM

def buildFrontL (l : List ByteArray) (b : Int) : Int × List Int × List ByteArray × Bool := if areKeysB l && blockOk b then (b, keepsL b l, tailsL b l, true) else (0, [], [], false)
theorem impl_BuildFront_f (l : List ByteArray) (b : Int) (hl : (l.length : Int) ≤ 9223372036854775806) (hs : ∀ s ∈ l, (s.size : Int) ≤ 9223372036854775806) : Ev (fun k => impl_BuildFront.f k l b) (buildFrontL l b) := by
  unfold impl_BuildFront.f buildFrontL
  refine ev_bind _ (impl_AreKeys_f l hl hs) ?_
  cases hk : areKeysB l with
  | false => exact ev_neg (by simp) (ev_some (by simp))
  | true =>
    refine ev_pos rfl ?_
    simp only [impl_in, Option.bind_some]
    by_cases c : 1 ≤ b ∧ b ≤ 16
    · have e : blockOk b = true := by simpa [blockOk] using c
      refine ev_pos (by simpa using c) (ev_bind _ (impl_front_f l b (by omega) (by have := areKeysB_len hk; omega) hs) (ev_some ?_))
      simp [e]
    · have e : blockOk b = false := by simpa [blockOk] using c
      exact ev_neg (by simpa using c) (ev_some (by simp [e]))
theorem buildFrontL_small (l : List ByteArray) (b : Int) : (buildFrontL l b).2.1.length ≤ 40 ∧ (buildFrontL l b).2.2.1.length ≤ 40 := by
  unfold buildFrontL
  split
  · rename_i h
    have := areKeysB_len (Bool.and_eq_true _ _ ▸ h : areKeysB l = true ∧ _).1
    simp only [keepsL_len, tailsL_len]
    exact ⟨this, this⟩
  · simp
end Go.Proofs.YtfedgkmklcialaaQ
namespace Go.Proofs.YtfedgkmklcialaaQ
open Go Go.RowKit Go.Proofs.YtfedgkmklcialaaW.PrintWords Go.Proofs.YtfedgkmklcialaaGp Go.Proofs.Ytfedgkmklcialaa.PM

end Go.Proofs.YtfedgkmklcialaaQ
namespace Go.Proofs.YtfedgkmklcialaaQ
open Go Go.RowKit Go.Proofs.YtfedgkmklcialaaW.PrintWords Go.Proofs.YtfedgkmklcialaaGp Go.Proofs.Ytfedgkmklcialaa.PM

end Go.Proofs.YtfedgkmklcialaaQ
namespace Go.Proofs.YtfedgkmklcialaaQ
open Go Go.RowKit Go.Proofs.YtfedgkmklcialaaW.PrintWords Go.Proofs.YtfedgkmklcialaaGp Go.Proofs.Ytfedgkmklcialaa.PM

theorem spec_l1Same_l0 (x0 x1 : List Int) (hl : (x0.length : Int) ≤ 9223372036854775806) : ∀ (t u pre pre' : List Int), x0 = pre ++ t → x1 = pre' ++ u → pre.length = pre'.length → t.length = u.length →
    Ev (fun k => spec_l1Same.l0 k x0 x1 (x0.length : Int) (pre.length : Int)) (decide (t = u)) := by
  intro t
  induction t with
  | nil =>
    intro u pre pre' h h' hp hu
    obtain rfl := List.length_eq_zero_iff.1 hu.symm
    refine ev_succ ?_
    simp only [spec_l1Same.l0]
    exact ev_neg (by rw [h]; exact not_lt_end) (ev_some (by simp))
  | cons s t ih =>
    intro u pre pre' h h' hp hu
    cases u with
    | nil => simp at hu
    | cons q u =>
      have hm : ((pre.length : Nat) : Int) < (x0.length : Int) := by rw [h]; exact lt_mid
      have hm' : ((pre.length : Nat) : Int) < (x1.length : Int) := by rw [h', hp]; exact lt_mid
      have hg : rd x0 (pre.length : Int) = s := by rw [h]; exact rd_mid
      have hg' : rd x1 (pre.length : Int) = q := by rw [h', hp]; exact rd_mid
      refine ev_succ ?_
      simp only [spec_l1Same.l0, hg, hg']
      refine ev_pos hm (ev_pos (by omega) (ev_pos hm (ev_pos hm' ?_)))
      by_cases c : s = q
      · refine ev_pos c ?_
        rw [winc (by omega)]
        have := ih u (pre ++ [s]) (pre' ++ [q]) (by rw [h]; simp) (by rw [h']; simp) (by simp [hp]) (by simpa using hu)
        rw [len_one] at this
        rw [show decide (s :: t = q :: u) = decide (t = u) from by simp [c]]
        exact this
      · exact ev_neg c (ev_some (by simp [c]))
theorem spec_l1Same_f (a b : List Int) (hl : (a.length : Int) ≤ 9223372036854775806) : Ev (fun k => spec_l1Same.f k a b) (decide (a = b)) := by
  unfold spec_l1Same.f
  by_cases c : a.length = b.length
  · refine ev_pos (by omega) ?_
    exact spec_l1Same_l0 a b hl a b [] [] rfl rfl rfl c
  · exact ev_neg (by omega) (ev_some (by
      have : ¬ a = b := fun e => c (by rw [e])
      simp [this]))
theorem slices_Equal_int_int_l0 (x0 x1 : List Int) (hl : (x0.length : Int) ≤ 9223372036854775806) : ∀ (t u pre pre' : List Int), x0 = pre ++ t → x1 = pre' ++ u → pre.length = pre'.length → t.length = u.length →
    Ev (fun k => slices_Equal_int_int.l0 k x0 x1 (x0.length : Int) (pre.length : Int)) (decide (t = u)) := by
  intro t
  induction t with
  | nil =>
    intro u pre pre' h h' hp hu
    obtain rfl := List.length_eq_zero_iff.1 hu.symm
    refine ev_succ ?_
    simp only [slices_Equal_int_int.l0]
    exact ev_neg (by rw [h]; exact not_lt_end) (ev_some (by simp))
  | cons s t ih =>
    intro u pre pre' h h' hp hu
    cases u with
    | nil => simp at hu
    | cons q u =>
      have hm : ((pre.length : Nat) : Int) < (x0.length : Int) := by rw [h]; exact lt_mid
      have hm' : ((pre.length : Nat) : Int) < (x1.length : Int) := by rw [h', hp]; exact lt_mid
      have hg : rd x0 (pre.length : Int) = s := by rw [h]; exact rd_mid
      have hg' : rd x1 (pre.length : Int) = q := by rw [h', hp]; exact rd_mid
      refine ev_succ ?_
      simp only [slices_Equal_int_int.l0, hg, hg']
      refine ev_pos hm (ev_pos (by omega) (ev_pos hm (ev_pos hm' ?_)))
      by_cases c : s = q
      · refine ev_pos c ?_
        rw [winc (by omega)]
        have := ih u (pre ++ [s]) (pre' ++ [q]) (by rw [h]; simp) (by rw [h']; simp) (by simp [hp]) (by simpa using hu)
        rw [len_one] at this
        rw [show decide (s :: t = q :: u) = decide (t = u) from by simp [c]]
        exact this
      · exact ev_neg c (ev_some (by simp [c]))
theorem slices_Equal_int_int_f (a b : List Int) (hl : (a.length : Int) ≤ 9223372036854775806) : Ev (fun k => slices_Equal_int_int.f k a b) (decide (a = b)) := by
  unfold slices_Equal_int_int.f
  by_cases c : a.length = b.length
  · refine ev_pos (by omega) ?_
    exact slices_Equal_int_int_l0 a b hl a b [] [] rfl rfl rfl c
  · exact ev_neg (by omega) (ev_some (by
      have : ¬ a = b := fun e => c (by rw [e])
      simp [this]))
theorem spec_l1SameS_l0 (x0 x1 : List ByteArray) (hl : (x0.length : Int) ≤ 9223372036854775806) : ∀ (t u pre pre' : List ByteArray), x0 = pre ++ t → x1 = pre' ++ u → pre.length = pre'.length → t.length = u.length →
    Ev (fun k => spec_l1SameS.l0 k x0 x1 (x0.length : Int) (pre.length : Int)) (decide (t = u)) := by
  intro t
  induction t with
  | nil =>
    intro u pre pre' h h' hp hu
    obtain rfl := List.length_eq_zero_iff.1 hu.symm
    refine ev_succ ?_
    simp only [spec_l1SameS.l0]
    exact ev_neg (by rw [h]; exact not_lt_end) (ev_some (by simp))
  | cons s t ih =>
    intro u pre pre' h h' hp hu
    cases u with
    | nil => simp at hu
    | cons q u =>
      have hm : ((pre.length : Nat) : Int) < (x0.length : Int) := by rw [h]; exact lt_mid
      have hm' : ((pre.length : Nat) : Int) < (x1.length : Int) := by rw [h', hp]; exact lt_mid
      have hg : rdOf ByteArray.empty x0 (pre.length : Int) = s := by rw [h]; exact rdOf_mid
      have hg' : rdOf ByteArray.empty x1 (pre.length : Int) = q := by rw [h', hp]; exact rdOf_mid
      refine ev_succ ?_
      simp only [spec_l1SameS.l0, hg, hg', tl_inj]
      refine ev_pos hm (ev_pos (by omega) (ev_pos hm (ev_pos hm' ?_)))
      by_cases c : s = q
      · refine ev_pos c ?_
        rw [winc (by omega)]
        have := ih u (pre ++ [s]) (pre' ++ [q]) (by rw [h]; simp) (by rw [h']; simp) (by simp [hp]) (by simpa using hu)
        rw [len_one] at this
        rw [show decide (s :: t = q :: u) = decide (t = u) from by simp [c]]
        exact this
      · exact ev_neg c (ev_some (by simp [c]))
theorem spec_l1SameS_f (a b : List ByteArray) (hl : (a.length : Int) ≤ 9223372036854775806) : Ev (fun k => spec_l1SameS.f k a b) (decide (a = b)) := by
  unfold spec_l1SameS.f
  by_cases c : a.length = b.length
  · refine ev_pos (by omega) ?_
    exact spec_l1SameS_l0 a b hl a b [] [] rfl rfl rfl c
  · exact ev_neg (by omega) (ev_some (by
      have : ¬ a = b := fun e => c (by rw [e])
      simp [this]))
theorem slices_Equal_string_string_l0 (x0 x1 : List ByteArray) (hl : (x0.length : Int) ≤ 9223372036854775806) : ∀ (t u pre pre' : List ByteArray), x0 = pre ++ t → x1 = pre' ++ u → pre.length = pre'.length → t.length = u.length →
    Ev (fun k => slices_Equal_string_string.l0 k x0 x1 (x0.length : Int) (pre.length : Int)) (decide (t = u)) := by
  intro t
  induction t with
  | nil =>
    intro u pre pre' h h' hp hu
    obtain rfl := List.length_eq_zero_iff.1 hu.symm
    refine ev_succ ?_
    simp only [slices_Equal_string_string.l0]
    exact ev_neg (by rw [h]; exact not_lt_end) (ev_some (by simp))
  | cons s t ih =>
    intro u pre pre' h h' hp hu
    cases u with
    | nil => simp at hu
    | cons q u =>
      have hm : ((pre.length : Nat) : Int) < (x0.length : Int) := by rw [h]; exact lt_mid
      have hm' : ((pre.length : Nat) : Int) < (x1.length : Int) := by rw [h', hp]; exact lt_mid
      have hg : rdOf ByteArray.empty x0 (pre.length : Int) = s := by rw [h]; exact rdOf_mid
      have hg' : rdOf ByteArray.empty x1 (pre.length : Int) = q := by rw [h', hp]; exact rdOf_mid
      refine ev_succ ?_
      simp only [slices_Equal_string_string.l0, hg, hg', tl_inj]
      refine ev_pos hm (ev_pos (by omega) (ev_pos hm (ev_pos hm' ?_)))
      by_cases c : s = q
      · refine ev_pos c ?_
        rw [winc (by omega)]
        have := ih u (pre ++ [s]) (pre' ++ [q]) (by rw [h]; simp) (by rw [h']; simp) (by simp [hp]) (by simpa using hu)
        rw [len_one] at this
        rw [show decide (s :: t = q :: u) = decide (t = u) from by simp [c]]
        exact this
      · exact ev_neg c (ev_some (by simp [c]))
theorem slices_Equal_string_string_f (a b : List ByteArray) (hl : (a.length : Int) ≤ 9223372036854775806) : Ev (fun k => slices_Equal_string_string.f k a b) (decide (a = b)) := by
  unfold slices_Equal_string_string.f
  by_cases c : a.length = b.length
  · refine ev_pos (by omega) ?_
    exact slices_Equal_string_string_l0 a b hl a b [] [] rfl rfl rfl c
  · exact ev_neg (by omega) (ev_some (by
      have : ¬ a = b := fun e => c (by rw [e])
      simp [this]))

def nxt (last : ByteArray) (n : Int) (t : ByteArray) : ByteArray := last.extract 0 n.toNat ++ t
def dec : List Int → List ByteArray → ByteArray → Option (List ByteArray)
  | [], _, _ => some []
  | _ :: _, [], _ => none
  | n :: ns, t :: ts, last => if (0 ≤ n ∧ n ≤ (last.size : Int)) ∧ (t.size : Int) ≤ 12 then (dec ns ts (nxt last n t)).map (nxt last n t :: ·) else none
def finK (b : Int) (ks : List Int) (ts out : List ByteArray) : List ByteArray × Bool := if areKeysB out then (out, decide (ks = keepsL b out) && decide (ts = tailsL b out)) else ([], false)
def decK (b : Int) (ks : List Int) (ts acc : List ByteArray) : Option (List ByteArray) → List ByteArray × Bool
  | none => ([], false)
  | some out => finK b ks ts (acc ++ out)
theorem nxt_size {last : ByteArray} {n : Int} {t : ByteArray} (h : (t.size : Int) ≤ 12) : ((nxt last n t).size : Int) ≤ (last.size : Int) + 12 := by
  unfold nxt
  simp only [ByteArray.size_append, ByteArray.size_extract]
  omega
theorem spec_trFronted_l0 (b : Int) (ks : List Int) (ts : List ByteArray) (hb : blockOk b = true) (hl : ks.length ≤ 40) : ∀ (ns pre : List Int) (us pre' acc : List ByteArray) (last : ByteArray), ks = pre ++ ns → ts = pre' ++ us → pre.length = pre'.length → ns.length = us.length → acc.length = pre.length → (last.size : Int) ≤ 12 * (pre.length : Int) → (∀ s ∈ acc, (s.size : Int) ≤ 480) →
    Ev (fun k => spec_trFronted.l0 k acc last ks (ks.length : Int) (pre.length : Int) b ks ts) (decK b ks ts acc (dec ns us last)) := by
  have hb' : ¬ b = 0 := by simp [blockOk] at hb; omega
  intro ns
  induction ns with
  | nil =>
    intro pre us pre' acc last h h' hp hu ha hz hs
    refine ev_succ ?_
    simp only [spec_trFronted.l0]
    refine ev_neg (by rw [h]; exact not_lt_end) ?_
    have hlen : acc.length ≤ 40 := by rw [ha]; rw [h] at hl; simpa using hl
    have hs' : ∀ s ∈ acc, (s.size : Int) ≤ 9223372036854775806 := fun s m => by have := hs s m; omega
    simp only [dec, decK, List.append_nil, finK]
    refine ev_bind _ (spec_biKeys_f acc (by omega) hs') ?_
    cases hk : areKeysB acc with
    | false => exact ev_neg (by simp) (Ev.now _)
    | true =>
      refine ev_pos rfl (ev_bind _ (spec_trFront_f acc b hb' (by omega) hs') ?_)
      simp only [if_true]
      have e1 := keepsL_len b acc
      have e2 := tailsL_len b acc
      refine ev_bind _ (spec_l1Same_f ks (keepsL b acc) (by omega)) ?_
      by_cases c : ks = keepsL b acc
      · refine ev_pos (by simpa using c) (ev_bind _ (spec_l1SameS_f ts (tailsL b acc) (by rw [h'] at *; simp at *; omega)) (ev_some ?_))
        simp [← c]
      · exact ev_neg (by simpa using c) (ev_some (by simp [c]))
  | cons n ns ih =>
    intro pre us pre' acc last h h' hp hu ha hz hs
    cases us with
    | nil => simp at hu
    | cons t us =>
      have hm : ((pre.length : Nat) : Int) < (ks.length : Int) := by rw [h]; exact lt_mid
      have hm' : ((pre.length : Nat) : Int) < (ts.length : Int) := by rw [h', hp]; exact lt_mid
      have hg : rd ks (pre.length : Int) = n := by rw [h]; exact rd_mid
      have hg' : rdOf ByteArray.empty ts (pre.length : Int) = t := by rw [h', hp]; exact rdOf_mid
      refine ev_succ ?_
      simp only [spec_trFronted.l0, hg, hg', spec_in, Option.bind_some]
      refine ev_pos hm (ev_pos (by omega) (ev_pos hm ?_))
      by_cases c : 0 ≤ n ∧ n ≤ (last.size : Int)
      · refine ev_pos (by simpa using c) (ev_pos hm' ?_)
        by_cases c2 : (t.size : Int) > 12
        · refine ev_pos c2 (ev_some ?_)
          simp only [dec]
          rw [if_neg (by omega)]
          rfl
        · have hx := nxt_size (last := last) (n := n) (t := t) (by omega)
          have hx2 : (last.extract 0 n.toNat).size + t.size ≤ 9223372036854775807 := by simp only [ByteArray.size_extract]; omega
          refine ev_neg c2 (ev_pos c.1 (ev_pos c.2 (ev_pos hx2 (ev_pos (by rw [ha]; omega) ?_))))
          rw [winc (by omega)]
          have m := ih (pre ++ [n]) us (pre' ++ [t]) (acc ++ [nxt last n t]) (nxt last n t) (by rw [h]; simp) (by rw [h']; simp) (by simp [hp]) (by simpa using hu) (by simp [ha]) (by rw [len_one]; omega) (fun s hm2 => by
            rcases List.mem_append.1 hm2 with hm2 | hm2
            · exact hs s hm2
            · obtain rfl := List.mem_singleton.1 hm2
              omega)
          rw [len_one] at m
          have e : decK b ks ts (acc ++ [nxt last n t]) (dec ns us (nxt last n t)) = decK b ks ts acc (dec (n :: ns) (t :: us) last) := by
            simp only [dec]
            rw [if_pos ⟨c, by omega⟩]
            cases dec ns us (nxt last n t) with
            | none => rfl
            | some o => simp [decK]
          rw [← e]
          exact m
      · refine ev_neg (by simpa using c) (ev_some ?_)
        simp only [dec]
        rw [if_neg (fun h => c h.1)]
        rfl
theorem impl_Front_keys_l0 (b : Int) (ks : List Int) (ts : List ByteArray) (hb : blockOk b = true) (hl : ks.length ≤ 40) : ∀ (ns pre : List Int) (us pre' acc : List ByteArray) (last : ByteArray), ks = pre ++ ns → ts = pre' ++ us → pre.length = pre'.length → ns.length = us.length → acc.length = pre.length → (last.size : Int) ≤ 12 * (pre.length : Int) → (∀ s ∈ acc, (s.size : Int) ≤ 480) →
    Ev (fun k => impl_Front_keys.l0 k acc last ks (ks.length : Int) (pre.length : Int) b ks ts) (decK b ks ts acc (dec ns us last)) := by
  have hb' : ¬ b = 0 := by simp [blockOk] at hb; omega
  intro ns
  induction ns with
  | nil =>
    intro pre us pre' acc last h h' hp hu ha hz hs
    refine ev_succ ?_
    simp only [impl_Front_keys.l0]
    refine ev_neg (by rw [h]; exact not_lt_end) ?_
    have hlen : acc.length ≤ 40 := by rw [ha]; rw [h] at hl; simpa using hl
    have hs' : ∀ s ∈ acc, (s.size : Int) ≤ 9223372036854775806 := fun s m => by have := hs s m; omega
    simp only [dec, decK, List.append_nil, finK]
    refine ev_bind _ (impl_AreKeys_f acc (by omega) hs') ?_
    cases hk : areKeysB acc with
    | false => exact ev_neg (by simp) (Ev.now _)
    | true =>
      refine ev_pos rfl (ev_bind _ (impl_front_f acc b hb' (by omega) hs') ?_)
      simp only [if_true]
      have e1 := keepsL_len b acc
      have e2 := tailsL_len b acc
      refine ev_bind _ (slices_Equal_int_int_f (keepsL b acc) ks (by omega)) ?_
      by_cases c : keepsL b acc = ks
      · refine ev_pos (by simpa using c) (ev_bind _ (slices_Equal_string_string_f (tailsL b acc) ts (by omega)) (ev_some ?_))
        have c' := c.symm
        simp [← c', eq_comm]
      · have c' : ¬ ks = keepsL b acc := fun e => c e.symm
        exact ev_neg (by simpa using c) (ev_some (by simp [c']))
  | cons n ns ih =>
    intro pre us pre' acc last h h' hp hu ha hz hs
    cases us with
    | nil => simp at hu
    | cons t us =>
      have hm : ((pre.length : Nat) : Int) < (ks.length : Int) := by rw [h]; exact lt_mid
      have hm' : ((pre.length : Nat) : Int) < (ts.length : Int) := by rw [h', hp]; exact lt_mid
      have hg : rd ks (pre.length : Int) = n := by rw [h]; exact rd_mid
      have hg' : rdOf ByteArray.empty ts (pre.length : Int) = t := by rw [h', hp]; exact rdOf_mid
      refine ev_succ ?_
      simp only [impl_Front_keys.l0, hg, hg', impl_in, Option.bind_some]
      refine ev_pos hm (ev_pos (by omega) (ev_pos hm ?_))
      by_cases c : 0 ≤ n ∧ n ≤ (last.size : Int)
      · refine ev_pos (by simpa using c) (ev_pos hm' ?_)
        by_cases c2 : (t.size : Int) > 12
        · refine ev_pos c2 (ev_some ?_)
          simp only [dec]
          rw [if_neg (by omega)]
          rfl
        · have hx := nxt_size (last := last) (n := n) (t := t) (by omega)
          have hx2 : (last.extract 0 n.toNat).size + t.size ≤ 9223372036854775807 := by simp only [ByteArray.size_extract]; omega
          refine ev_neg c2 (ev_pos c.1 (ev_pos c.2 (ev_pos hx2 (ev_pos (by rw [ha]; omega) ?_))))
          rw [winc (by omega)]
          have m := ih (pre ++ [n]) us (pre' ++ [t]) (acc ++ [nxt last n t]) (nxt last n t) (by rw [h]; simp) (by rw [h']; simp) (by simp [hp]) (by simpa using hu) (by simp [ha]) (by rw [len_one]; omega) (fun s hm2 => by
            rcases List.mem_append.1 hm2 with hm2 | hm2
            · exact hs s hm2
            · obtain rfl := List.mem_singleton.1 hm2
              omega)
          rw [len_one] at m
          have e : decK b ks ts (acc ++ [nxt last n t]) (dec ns us (nxt last n t)) = decK b ks ts acc (dec (n :: ns) (t :: us) last) := by
            simp only [dec]
            rw [if_pos ⟨c, by omega⟩]
            cases dec ns us (nxt last n t) with
            | none => rfl
            | some o => simp [decK]
          rw [← e]
          exact m
      · refine ev_neg (by simpa using c) (ev_some ?_)
        simp only [dec]
        rw [if_neg (fun h => c h.1)]
        rfl

def frontKeys (b : Int) (ks : List Int) (ts : List ByteArray) : List ByteArray × Bool := if (blockOk b && decide (ks.length = ts.length)) && decide (ks.length ≤ 40) then decK b ks ts [] (dec ks ts ⟨#[]⟩) else ([], false)
theorem spec_trFronted_f (b : Int) (ks : List Int) (ts : List ByteArray) : Ev (fun k => spec_trFronted.f k b ks ts) (frontKeys b ks ts) := by
  unfold spec_trFronted.f frontKeys
  simp only [spec_in, Option.bind_some]
  have bad : ∀ r, r = (([] : List ByteArray), false) → Ev (fun k => spec_trFronted.j0 k true b ks ts) r := fun r hr => ev_succ (by
    simp only [spec_trFronted.j0]
    exact ev_pos trivial (ev_some hr.symm))
  by_cases c : 1 ≤ b ∧ b ≤ 16
  · have hb : blockOk b = true := by simpa [blockOk] using c
    refine ev_pos (by simpa using c) ?_
    by_cases c2 : ks.length = ts.length
    · refine ev_pos (by omega) ?_
      by_cases c3 : ks.length ≤ 40
      · have e : decide ((ks.length : Int) > 40) = false := by simp; omega
        rw [e, if_pos (by simp [hb, c2]; omega)]
        refine ev_succ ?_
        simp only [spec_trFronted.j0, Bool.false_eq_true, if_false]
        exact spec_trFronted_l0 b ks ts hb c3 ks [] ts [] [] ⟨#[]⟩ rfl rfl rfl c2 rfl (by simp [ByteArray.size]) (fun s h => by simp at h)
      · have e : decide ((ks.length : Int) > 40) = true := by simp; omega
        rw [e]
        exact bad _ (by simp [c3])
    · exact ev_neg (by omega) (bad _ (by simp [c2]))
  · have hb : blockOk b = false := by simpa [blockOk] using c
    exact ev_neg (by simpa using c) (bad _ (by simp [hb]))
theorem impl_Front_keys_f (b : Int) (ks : List Int) (ts : List ByteArray) : Ev (fun k => impl_Front_keys.f k b ks ts) (frontKeys b ks ts) := by
  unfold impl_Front_keys.f frontKeys
  simp only [impl_in, Option.bind_some]
  have bad : ∀ r, r = (([] : List ByteArray), false) → Ev (fun k => impl_Front_keys.j0 k true b ks ts) r := fun r hr => ev_succ (by
    simp only [impl_Front_keys.j0]
    exact ev_pos trivial (ev_some hr.symm))
  by_cases c : 1 ≤ b ∧ b ≤ 16
  · have hb : blockOk b = true := by simpa [blockOk] using c
    refine ev_pos (by simpa using c) ?_
    by_cases c2 : ks.length = ts.length
    · refine ev_pos (by omega) ?_
      by_cases c3 : ks.length ≤ 40
      · have e : decide ((ts.length : Int) > 40) = false := by simp; omega
        rw [e, if_pos (by simp [hb, c2]; omega)]
        refine ev_succ ?_
        simp only [impl_Front_keys.j0, Bool.false_eq_true, if_false]
        exact impl_Front_keys_l0 b ks ts hb c3 ks [] ts [] [] ⟨#[]⟩ rfl rfl rfl c2 rfl (by simp [ByteArray.size]) (fun s h => by simp at h)
      · have e : decide ((ts.length : Int) > 40) = true := by simp; omega
        rw [e]
        exact bad _ (by simp [c3])
    · exact ev_neg (by omega) (bad _ (by simp [c2]))
  · have hb : blockOk b = false := by simpa [blockOk] using c
    exact ev_neg (by simpa using c) (bad _ (by simp [hb]))
theorem decK_true {b : Int} {ks : List Int} {ts : List ByteArray} : ∀ {o : Option (List ByteArray)}, (decK b ks ts [] o).2 = true → areKeysB (decK b ks ts [] o).1 = true
  | none, h => by simp [decK] at h
  | some out, h => by
    simp only [decK, List.nil_append, finK] at h ⊢
    cases hk : areKeysB out with
    | false => simp [hk] at h
    | true => simp [hk]
theorem frontKeys_true {b : Int} {ks : List Int} {ts : List ByteArray} (h : (frontKeys b ks ts).2 = true) : areKeysB (frontKeys b ks ts).1 = true := by
  unfold frontKeys at h ⊢
  split at h
  · rename_i c
    rw [if_pos c]
    exact decK_true h
  · simp at h
theorem impl_IsFront_f (b : Int) (ks : List Int) (ts : List ByteArray) : Ev (fun k => impl_IsFront.f k b ks ts) (frontKeys b ks ts).2 := by
  unfold impl_IsFront.f
  exact ev_bind _ (impl_Front_keys_f b ks ts) (Ev.now _)
end Go.Proofs.YtfedgkmklcialaaQ
namespace Go.Proofs.YtfedgkmklcialaaQ
open Go Go.RowKit Go.Proofs.YtfedgkmklcialaaW.PrintWords Go.Proofs.YtfedgkmklcialaaGp Go.Proofs.Ytfedgkmklcialaa.PM

theorem frontKeys_len {b : Int} {ks : List Int} {ts : List ByteArray} (h : (frontKeys b ks ts).2 = true) : (frontKeys b ks ts).1.length ≤ 40 := areKeysB_len (frontKeys_true h)
end Go.Proofs.YtfedgkmklcialaaQ
namespace Go.Proofs.YtfedgkmklcialaaQ
open Go Go.RowKit Go.Proofs.YtfedgkmklcialaaW.PrintWords Go.Proofs.YtfedgkmklcialaaW.PrintMore Go.Proofs.YtfedgkmklcialaaGp Go.Proofs.Ytfedgkmklcialaa.PM

theorem grow_nil {n : Int} (h0 : 0 ≤ n) (h1 : n ≤ 1000) : slices_Grow_string_string_at_nil.f n = some [] := by
  unfold slices_Grow_string_string_at_nil.f
  have hw : wrap64 (n - wrap64 (-((([] : List ByteArray).length : Nat) : Int))) = n := by
    rw [List.length_nil, show wrap64 (-((0 : Nat) : Int)) = 0 from w64 (x := 0) (by omega) (by omega), Int.sub_zero]
    exact w64 (by omega) (by omega)
  rw [hw, if_neg (by omega)]
  by_cases c : n > 0
  · rw [if_pos c, if_pos h0, if_pos (by simp; omega)]
    simp
  · rw [if_neg c]
theorem concat_f {x y : List ByteArray} (hx : x.length ≤ 400) (hy : y.length ≤ 400) : Ev (fun k => slices_Concat_string_string.f k [x, y]) (x ++ y) := by
  have r0 : rd_L3 [x, y] 0 = x := rfl
  have r1 : rd_L3 [x, y] 1 = y := rfl
  have hl : (([x, y] : List (List ByteArray)).length : Int) = 2 := rfl
  have w1 : wrap64 (0 + 1) = 1 := w64 (x := 1) (by omega) (by omega)
  have w2 : wrap64 (1 + 1) = 2 := w64 (x := 2) (by omega) (by omega)
  have hw0 : wrap64 (0 + (x.length : Int)) = (x.length : Int) := by rw [Int.zero_add]; exact w64 (by omega) (by omega)
  have hw1 : wrap64 ((x.length : Int) + (y.length : Int)) = (x.length : Int) + (y.length : Int) := w64 (by omega) (by omega)
  unfold slices_Concat_string_string.f
  rw [hl]
  refine ev_succ ?_
  simp only [slices_Concat_string_string.l0, hl, r0, hw0, w1]
  refine ev_pos (by omega) (ev_pos (by omega) (ev_pos (by omega) (ev_neg (by omega) (ev_succ ?_))))
  simp only [slices_Concat_string_string.l0, hl, r1, hw1, w2]
  refine ev_pos (by omega) (ev_pos (by omega) (ev_pos (by omega) (ev_neg (by omega) (ev_succ ?_))))
  simp only [slices_Concat_string_string.l0, hl]
  rw [grow_nil (by omega) (by omega)]
  refine ev_neg (by omega) (ev_bind _ (Ev.now _) (ev_succ ?_))
  simp only [slices_Concat_string_string.l1, hl, r0, w1]
  refine ev_pos (by omega) (ev_pos (by omega) (ev_pos (by omega) (ev_pos (by simp; omega) (ev_succ ?_))))
  simp only [slices_Concat_string_string.l1, hl, r1, w2, List.nil_append]
  refine ev_pos (by omega) (ev_pos (by omega) (ev_pos (by omega) (ev_pos (by omega) (ev_succ ?_))))
  simp only [slices_Concat_string_string.l1, hl]
  exact ev_neg (by omega) (Ev.now _)
theorem frontKeys_block {b : Int} {ks : List Int} {ts : List ByteArray} (h : (frontKeys b ks ts).2 = true) : blockOk b = true := by
  unfold frontKeys at h
  split at h
  · rename_i c
    simp only [Bool.and_eq_true] at c
    exact c.1.1
  · simp at h
def mergeV (a0 : Int) (l1 : List Int) (l2 : List ByteArray) (b0 : Int) (m1 : List Int) (m2 : List ByteArray) : Int × List Int × List ByteArray × Bool :=
  if ((frontKeys a0 l1 l2).2 && (frontKeys b0 m1 m2).2) = true then buildFrontL (MF.setK (frontKeys b0 m1 m2).1 (frontKeys a0 l1 l2).1) a0 else (0, [], [], false)
theorem mergeV_small (a0 : Int) (l1 : List Int) (l2 : List ByteArray) (b0 : Int) (m1 : List Int) (m2 : List ByteArray) : (mergeV a0 l1 l2 b0 m1 m2).2.1.length ≤ 40 ∧ (mergeV a0 l1 l2 b0 m1 m2).2.2.1.length ≤ 40 := by
  unfold mergeV
  split
  · exact buildFrontL_small _ _
  · simp
theorem setK_len : ∀ (M acc : List ByteArray), (MF.setK M acc).length ≤ acc.length + M.length
  | [], acc => by simp [MF.setK]
  | m :: M, acc => by
    have := setK_len M (insK m acc)
    have h2 := insK_len m acc
    show (MF.setK M (insK m acc)).length ≤ _
    simp only [List.length_cons]
    omega
theorem spec_merge_l0 {a0 : Int} (l1 : List Int) (l2 : List ByteArray) (hb : blockOk a0 = true) {y : List ByteArray} (hy : y.length ≤ 400) : ∀ (t pre acc : List ByteArray), y = pre ++ t → acc.length ≤ 400 + pre.length → (∀ s ∈ acc, s.size ≤ 12) → (∀ s ∈ t, s.size ≤ 12) →
    Ev (fun k => spec_MergeFronts.l0 k acc y (y.length : Int) (pre.length : Int) a0 l1 l2) (buildFrontL (MF.setK t acc) a0) := by
  intro t
  induction t with
  | nil =>
    intro pre acc h hl ha _
    have e : y = pre := by rw [h]; simp
    subst e
    refine ev_succ ?_
    simp only [spec_MergeFronts.l0]
    refine ev_neg (by omega) (ev_bind _ (spec_biKeys_f acc (by omega) (fun s hs => by have := ha s hs; omega)) ?_)
    rw [show MF.setK [] acc = acc from rfl]
    unfold buildFrontL
    have hb' : 1 ≤ a0 ∧ a0 ≤ 16 := by simpa [blockOk] using hb
    by_cases c : areKeysB acc = true
    · refine ev_pos c (ev_bind _ (spec_trFront_f acc a0 (by omega) (by omega) (fun s hs => by have := ha s hs; omega)) (ev_some ?_))
      rw [if_pos (by rw [c, hb]; rfl)]
    · exact ev_neg c (ev_some (by rw [if_neg (by simp [c])]))
  | cons s t ih =>
    intro pre acc h hl ha ht
    have hm : ((pre.length : Nat) : Int) < (y.length : Int) := by rw [h]; exact lt_mid
    have hg : rdOf ByteArray.empty y (pre.length : Int) = s := by rw [h]; exact rdOf_mid
    have hn : y.length = pre.length + (t.length + 1) := by rw [h]; simp
    have h2 := insK_len s acc
    have next := ih (pre ++ [s]) (insK s acc) (by rw [h]; simp) (by simp; omega) (fun x hx => (MF.insK_mem.1 hx).elim (fun e => e ▸ ht s (List.mem_cons_self ..)) (ha x)) (fun x hx => ht x (List.mem_cons_of_mem _ hx))
    rw [len_one] at next
    refine ev_succ ?_
    simp only [spec_MergeFronts.l0, hg]
    rw [winc (by omega)]
    exact ev_pos hm (ev_pos (by omega) (ev_pos hm (ev_bind _ (putS_f acc s (by omega)) next)))
section
variable (a0 : Int) (l1 : List Int) (l2 : List ByteArray) (b0 : Int) (m1 : List Int) (m2 : List ByteArray)
theorem keys_12 {b : Int} {ks : List Int} {ts : List ByteArray} (h : (frontKeys b ks ts).2 = true) : ∀ s ∈ (frontKeys b ks ts).1, s.size ≤ 12 := fun s hs => (isKeyB_size (areKeysB_all (frontKeys_true h) s hs)).2
theorem spec_MergeFronts_f : Ev (fun k => spec_MergeFronts.f k a0 l1 l2 b0 m1 m2) (mergeV a0 l1 l2 b0 m1 m2) := by
  unfold spec_MergeFronts.f
  refine ev_bind _ (spec_trFronted_f a0 l1 l2) (ev_bind _ (spec_trFronted_f b0 m1 m2) ?_)
  have bad : ∀ g : Bool, g = true → mergeV a0 l1 l2 b0 m1 m2 = (0, [], [], false) → Ev (fun k => spec_MergeFronts.j0 k (frontKeys a0 l1 l2).1 (frontKeys b0 m1 m2).1 g a0 l1 l2) (mergeV a0 l1 l2 b0 m1 m2) := fun g hg h => by
    refine ev_succ ?_
    simp only [spec_MergeFronts.j0]
    exact ev_pos hg (ev_some h.symm)
  by_cases c : (frontKeys a0 l1 l2).2 = true
  · refine ev_pos c ?_
    by_cases c2 : (frontKeys b0 m1 m2).2 = true
    · refine ev_succ ?_
      simp only [spec_MergeFronts.j0]
      have h1 := frontKeys_len c
      have h2 := frontKeys_len c2
      rw [mergeV, if_pos (by rw [c, c2]; rfl)]
      exact ev_neg (by simp [c2]) (spec_merge_l0 l1 l2 (frontKeys_block c) (by omega) _ [] _ rfl (by simp; omega) (keys_12 c) (keys_12 c2))
    · exact bad _ (by simp [c2]) (by rw [mergeV, if_neg (by simp [c2])])
  · exact ev_neg c (bad _ rfl (by rw [mergeV, if_neg (by simp [c])]))
theorem impl_MergeFronts_f : Ev (fun k => impl_MergeFronts.f k a0 l1 l2 b0 m1 m2) (mergeV a0 l1 l2 b0 m1 m2) := by
  unfold impl_MergeFronts.f
  refine ev_bind _ (impl_Front_keys_f a0 l1 l2) (ev_bind _ (impl_Front_keys_f b0 m1 m2) ?_)
  have bad : ∀ g : Bool, g = true → mergeV a0 l1 l2 b0 m1 m2 = (0, [], [], false) → Ev (fun k => impl_MergeFronts.j0 k (frontKeys a0 l1 l2).1 (frontKeys b0 m1 m2).1 g a0 l1 l2) (mergeV a0 l1 l2 b0 m1 m2) := fun g hg h => by
    refine ev_succ ?_
    simp only [impl_MergeFronts.j0]
    exact ev_pos hg (ev_some h.symm)
  by_cases c : (frontKeys a0 l1 l2).2 = true
  · refine ev_pos c ?_
    by_cases c2 : (frontKeys b0 m1 m2).2 = true
    · have h1 := frontKeys_len c
      have h2 := frontKeys_len c2
      have hm := MF.merge_plain (MF.keys_sk (frontKeys_true c)) (frontKeys b0 m1 m2).1
      have hmem := (MF.setK_ok (frontKeys b0 m1 m2).1 (frontKeys a0 l1 l2).1 (MF.keys_sk (frontKeys_true c))).2
      have hlen := setK_len (frontKeys b0 m1 m2).1 (frontKeys a0 l1 l2).1
      have hS : slices_Sort_string_string.f ((frontKeys a0 l1 l2).1 ++ (frontKeys b0 m1 m2).1) = some (sortS ((frontKeys a0 l1 l2).1 ++ (frontKeys b0 m1 m2).1)) := by
        unfold slices_Sort_string_string.f
        rw [if_pos (by simp; omega)]
      have hC : slices_Compact_string_string.f (sortS ((frontKeys a0 l1 l2).1 ++ (frontKeys b0 m1 m2).1)) = some (MF.setK (frontKeys b0 m1 m2).1 (frontKeys a0 l1 l2).1) := by
        unfold slices_Compact_string_string.f
        rw [hm]
      refine ev_succ ?_
      simp only [impl_MergeFronts.j0]
      rw [mergeV, if_pos (by rw [c, c2]; rfl)]
      refine ev_neg (by simp [c2]) (ev_bind _ (concat_f (by omega) (by omega)) ?_)
      simp only [hS, hC, Option.bind_some]
      refine ev_bind _ (impl_BuildFront_f _ a0 (by omega) (fun s hs => ?_)) (Ev.now _)
      rcases (hmem s).1 hs with h | h
      · have := keys_12 c s h; omega
      · have := keys_12 c2 s h; omega
    · exact bad _ (by simp [c2]) (by rw [mergeV, if_neg (by simp [c2])])
  · exact ev_neg c (bad _ rfl (by rw [mergeV, if_neg (by simp [c])]))
end
end Go.Proofs.YtfedgkmklcialaaQ
namespace Go.Proofs.YtfedgkmklcialaaQ
open Go Go.RowKit Go.Proofs.YtfedgkmklcialaaW.PrintWords Go.Proofs.YtfedgkmklcialaaGp Go.Proofs.Ytfedgkmklcialaa.PM

def keyAtR (p : List ByteArray × Bool) (a : Int) : ByteArray × Bool := if p.2 = true ∧ 0 ≤ a ∧ a ≤ (p.1.length : Int) - 1 then (rdOf ByteArray.empty p.1 a, true) else (⟨#[]⟩, false)
theorem impl_FrontKey_f (b : Int) (ks : List Int) (ts : List ByteArray) (a : Int) : Ev (fun k => impl_FrontKey.f k b ks ts a) (keyAtR (frontKeys b ks ts) a) := by
  unfold impl_FrontKey.f keyAtR
  refine ev_bind _ (impl_Front_keys_f b ks ts) ?_
  by_cases c : (frontKeys b ks ts).2 = true
  · have hl := frontKeys_len c
    refine ev_pos c ?_
    rw [show wrap64 (((frontKeys b ks ts).1.length : Int) - 1) = ((frontKeys b ks ts).1.length : Int) - 1 from w64 (by omega) (by omega)]
    simp only [impl_in, Option.bind_some]
    by_cases c2 : 0 ≤ a ∧ a ≤ ((frontKeys b ks ts).1.length : Int) - 1
    · refine ev_pos (by simpa using c2) (ev_pos c2.1 (ev_pos (by omega) (ev_some ?_)))
      rw [if_pos ⟨c, c2⟩]
    · refine ev_neg (by simpa using c2) (ev_some ?_)
      rw [if_neg (fun h => c2 h.2)]
  · refine ev_neg c (ev_some ?_)
    rw [if_neg (fun h => c h.1)]
end Go.Proofs.YtfedgkmklcialaaQ
namespace Go.Proofs.YtfedgkmklcialaaQ
open Go Go.RowKit Go.Proofs.YtfedgkmklcialaaW.PrintWords Go.Proofs.YtfedgkmklcialaaGp Go.Proofs.Ytfedgkmklcialaa.PM

theorem impl_FrontBytes_l0 (ts : List ByteArray) (hl : (ts.length : Int) ≤ 1048576) : ∀ (t pre : List ByteArray) (a : Int), ts = pre ++ t → 0 ≤ a → a + sumSz t ≤ 4611686018427387904 →
    Ev (fun k => impl_FrontBytes.l0 k a ts (ts.length : Int) (pre.length : Int)) (a + sumSz t, true) := by
  intro t
  induction t with
  | nil =>
    intro pre a h h0 h1
    refine ev_succ ?_
    simp only [impl_FrontBytes.l0]
    exact ev_neg (by rw [h]; exact not_lt_end) (ev_some (by simp [sumSz]))
  | cons s t ih =>
    intro pre a h h0 h1
    have hm : ((pre.length : Nat) : Int) < (ts.length : Int) := by rw [h]; exact lt_mid
    have hg : rdOf ByteArray.empty ts (pre.length : Int) = s := by rw [h]; exact rdOf_mid
    have hp := sumSz_nonneg t
    simp only [sumSz] at h1
    refine ev_succ ?_
    simp only [impl_FrontBytes.l0, hg]
    refine ev_pos hm (ev_pos (by omega) (ev_pos hm ?_))
    rw [winc (by omega), w64 (x := a + (s.size : Int)) (by omega) (by omega)]
    have := ih (pre ++ [s]) (a + (s.size : Int)) (by rw [h]; simp) (by omega) (by omega)
    rw [len_one] at this
    simp only [sumSz, ← Int.add_assoc]
    exact this
def bytesR (ok : Bool) (ks : List Int) (ts : List ByteArray) : Int × Bool := if ok then ((ks.length : Int) + sumSz ts, true) else (0, false)
theorem impl_FrontBytes_f (b : Int) (ks : List Int) (ts : List ByteArray) (hz : (ks.length : Int) + (ts.length : Int) + sumSz ts ≤ 1048576) : Ev (fun k => impl_FrontBytes.f k b ks ts) (bytesR (frontKeys b ks ts).2 ks ts) := by
  have hp := sumSz_nonneg ts
  unfold impl_FrontBytes.f bytesR
  refine ev_bind _ (impl_IsFront_f b ks ts) ?_
  cases (frontKeys b ks ts).2 with
  | false => exact ev_neg (by simp) (Ev.now _)
  | true => exact ev_pos rfl (impl_FrontBytes_l0 ts (by omega) ts [] _ rfl (by omega) (by omega))
end Go.Proofs.YtfedgkmklcialaaQ
namespace Go.Proofs.YtfedgkmklcialaaQ
open Go Go.RowKit Go.Proofs.YtfedgkmklcialaaW.PrintWords Go.Proofs.YtfedgkmklcialaaGp Go.Proofs.Ytfedgkmklcialaa.PM

def hasS (l : List ByteArray) (s : ByteArray) : Bool := l.any fun x => decide (x = s)
theorem hasS_iff {l : List ByteArray} {s : ByteArray} : hasS l s = true ↔ s ∈ l := by simp [hasS]
def idxS : List ByteArray → ByteArray → Nat → Int
  | [], _, _ => -1
  | x :: t, s, i => if x = s then (i : Int) else idxS t s (i + 1)
theorem idxS_mem : ∀ (l : List ByteArray) (s : ByteArray) (i : Nat), 0 ≤ idxS l s i ↔ s ∈ l
  | [], s, i => by simp [idxS]
  | x :: t, s, i => by
    simp only [idxS]
    split
    · rename_i c; simp [c]
    · rename_i c; rw [idxS_mem t s (i + 1)]; simp [Ne.symm c]
theorem slices_Index_string_string_l0 (x0 : List ByteArray) (s : ByteArray) (hl : (x0.length : Int) ≤ 9223372036854775806) : ∀ (t pre : List ByteArray), x0 = pre ++ t →
    Ev (fun k => slices_Index_string_string.l0 k x0 s (x0.length : Int) (pre.length : Int)) (idxS t s pre.length) := by
  intro t
  induction t with
  | nil =>
    intro pre h
    refine ev_succ ?_
    simp only [slices_Index_string_string.l0]
    exact ev_neg (by rw [h]; exact not_lt_end) (ev_some (by simp [idxS]))
  | cons x t ih =>
    intro pre h
    have hm : ((pre.length : Nat) : Int) < (x0.length : Int) := by rw [h]; exact lt_mid
    have hg : rdOf ByteArray.empty x0 (pre.length : Int) = x := by rw [h]; exact rdOf_mid
    refine ev_succ ?_
    simp only [slices_Index_string_string.l0, hg, tl_inj]
    refine ev_pos hm (ev_pos (by omega) (ev_pos hm ?_))
    by_cases c : s = x
    · exact ev_pos c (ev_some (by simp [idxS, c]))
    · refine ev_neg c ?_
      rw [winc (by omega)]
      have := ih (pre ++ [x]) (by rw [h]; simp)
      rw [len_one] at this
      have e : idxS (x :: t) s pre.length = idxS t s (pre ++ [x]).length := by simp [idxS, Ne.symm c]
      rw [e]
      exact this
theorem slices_Index_string_string_f (l : List ByteArray) (s : ByteArray) (hl : (l.length : Int) ≤ 9223372036854775806) : Ev (fun k => slices_Index_string_string.f k l s) (idxS l s 0) := by
  unfold slices_Index_string_string.f
  exact slices_Index_string_string_l0 l s hl l [] rfl
theorem slices_Contains_string_string_f (l : List ByteArray) (s : ByteArray) (hl : (l.length : Int) ≤ 9223372036854775806) : Ev (fun k => slices_Contains_string_string.f k l s) (hasS l s) := by
  unfold slices_Contains_string_string.f
  refine ev_bind _ (slices_Index_string_string_f l s hl) (ev_some ?_)
  rw [Bool.eq_iff_iff, hasS_iff, decide_eq_true_eq]
  exact idxS_mem l s 0
end Go.Proofs.YtfedgkmklcialaaQ
namespace Go.Proofs.YtfedgkmklcialaaQ
open Go Go.RowKit Go.Proofs.YtfedgkmklcialaaW.PrintWords Go.Proofs.YtfedgkmklcialaaGp Go.Proofs.Ytfedgkmklcialaa.PM

def hasR (p : List ByteArray × Bool) (s : ByteArray) : Bool × Bool := if p.2 = true then (hasS p.1 s, true) else (false, false)
theorem impl_FrontHas_f (b : Int) (ks : List Int) (ts : List ByteArray) (s : ByteArray) : Ev (fun k => impl_FrontHas.f k b ks ts s) (hasR (frontKeys b ks ts) s) := by
  unfold impl_FrontHas.f hasR
  refine ev_bind _ (impl_Front_keys_f b ks ts) ?_
  by_cases c : (frontKeys b ks ts).2 = true
  · have hl := frontKeys_len c
    refine ev_pos c (ev_bind _ (slices_Contains_string_string_f _ s (by omega)) (ev_some ?_))
    rw [if_pos c]
  · exact ev_neg c (ev_some (by rw [if_neg c]))
end Go.Proofs.YtfedgkmklcialaaQ
namespace Go.Proofs.YtfedgkmklcialaaQ
open Go Go.RowKit Go.Proofs.YtfedgkmklcialaaW.PrintWords Go.Proofs.YtfedgkmklcialaaGp Go.Proofs.Ytfedgkmklcialaa.PM

theorem Dr.mono {α : Type} {g : Nat → Option (α × Int × Int)} {p c c' : Int} {P P' : α → Prop} (h : Dr g p c P) (hc : c ≤ c') (hP : ∀ x, P x → P' x) : Dr g p c' P' := by
  obtain ⟨v, p', sd', e, hv, q0, q1⟩ := h
  exact ⟨v, p', sd', e, hP v hv, q0, by omega⟩
theorem of_ok {s : List Int} (hs : Bys s) {p : Int} (sd : Int) {l : List ByteArray} (hl : 0 < l.length) (h0 : 0 ≤ p) (h1 : p ≤ 3000000000000000000) :
    ∃ v p' sd', spec_l1Cur_of.f s p sd l = some (v, p', sd') ∧ v ∈ l ∧ 0 ≤ p' ∧ p' ≤ p + 2 := by
  obtain ⟨v, p', sd', e, hv, q0, q1⟩ := pick_ok hs sd (n := (l.length : Int)) h0 h1
  have hm : rdOf ByteArray.empty l v ∈ l := by
    unfold rdOf
    have : v.toNat < l.length := by omega
    rw [List.getD_eq_getElem?_getD, List.getElem?_eq_getElem this]
    exact List.getElem_mem this
  unfold spec_l1Cur_of.f
  rw [e]
  simp only [Option.bind_some]
  rw [if_pos (by omega), if_pos (by omega)]
  exact ⟨_, _, _, rfl, hm, q0, q1⟩
theorem text_ok {s : List Int} (hs : Bys s) {p : Int} (sd : Int) (h0 : 0 ≤ p) (h1 : p ≤ 500000000000000000) : Dr (fun k => spec_l1Cur_text.f k s p sd) p 14 (fun v => v.size ≤ 13) := by
  obtain ⟨v, p', sd', e, hv, q0, q1⟩ := pick_ok hs sd (n := 16) h0 (by omega)
  obtain ⟨u, p2, sd2, eu, hu, r0, r1⟩ := key_ok hs sd' q0 (by omega)
  unfold spec_l1Cur_text.f
  rw [e]
  simp only [Option.bind_some]
  by_cases c0 : v = 0
  · exact ⟨_, p', sd', ev_pos c0 (Ev.now _), by decide, q0, by omega⟩
  · by_cases c1 : v = 1
    · have h1 : (⟨#[32]⟩ : ByteArray).size = 1 := rfl
      refine ⟨u ++ ⟨#[32]⟩, p2, sd2, ev_neg c0 (ev_pos c1 (ev_bind _ eu (ev_pos (by simp only []; omega) (Ev.now _)))), ?_, r0, by omega⟩
      show (u ++ ⟨#[32]⟩ : ByteArray).size ≤ 13
      rw [ByteArray.size_append]
      omega
    · by_cases c2 : v = 2
      · exact ⟨_, p', sd', ev_neg c0 (ev_neg c1 (ev_pos c2 (Ev.now _))), by decide, q0, by omega⟩
      · by_cases c3 : v = 3
        · obtain ⟨x, p3, sd3, ex, hx, t0, t1⟩ := of_ok hs sd' (l := [(⟨#[126]⟩ : ByteArray), (⟨#[125]⟩ : ByteArray), (⟨#[97, 126]⟩ : ByteArray), (⟨#[127]⟩ : ByteArray)]) (by simp) q0 (by omega)
          refine ⟨x, p3, sd3, ev_neg c0 (ev_neg c1 (ev_neg c2 (ev_pos c3 ?_))), ?_, t0, by omega⟩
          · rw [ex]; exact ev_bind _ (Ev.now _) (Ev.now _)
          · simp only [List.mem_cons, List.not_mem_nil, or_false] at hx
            rcases hx with rfl | rfl | rfl | rfl <;> decide
        · exact ⟨u, p2, sd2, ev_neg c0 (ev_neg c1 (ev_neg c2 (ev_neg c3 (ev_bind _ eu (Ev.now _))))), by omega, r0, by omega⟩
theorem many_l0 (s : List Int) (p sd : Int) : ∀ (d i m : Nat) (x : List ByteArray), Kys m x → m + d ≤ 1000 → i + d ≤ 1000 →
    ∃ v, Ev (fun k => spec_l1Cur_many.l0 k ((i + d : Nat) : Int) x (i : Int) s p sd) (v, p, sd) ∧ Kys (m + d) v := by
  intro d
  induction d with
  | zero =>
    intro i m x hx hm hi
    refine ⟨x, ev_succ ?_, hx⟩
    simp only [spec_l1Cur_many.l0]
    exact ev_neg (by omega) (Ev.now _)
  | succ d ih =>
    intro i m x hx hm hi
    have hl := hx.1
    have hz : (strOfNums [(wrap64 (97 + (wrap64 (Int.tdiv (i : Int) 10)))) % 256, (wrap64 (48 + (Int.tmod (i : Int) 10))) % 256]).size ≤ 13 := by rw [strOf_size]; simp
    obtain ⟨v, e, hv⟩ := ih (i + 1) (m + 1) (insK (strOfNums [(wrap64 (97 + (wrap64 (Int.tdiv (i : Int) 10)))) % 256, (wrap64 (48 + (Int.tmod (i : Int) 10))) % 256]) x) (hx.ins hz) (by omega) (by omega)
    refine ⟨v, ev_succ ?_, hv.mono (by omega)⟩
    simp only [spec_l1Cur_many.l0]
    refine ev_pos (by omega) (ev_bind _ (putS_f x _ (by omega)) ?_)
    rw [winc (by omega), show i + (d + 1) = i + 1 + d from by omega]
    exact e
theorem big_f {l0 l1 : List Int} (h0 : l0.length ≤ maxLen) (h1 : l1.length ≤ maxLen) : ∃ b, laws_big.f l0 l1 = some b ∧ (b = false → (l0.length : Int) ≤ 1048576 ∧ (l1.length : Int) ≤ 1048576) := by
  rw [maxLen_eq] at h0 h1
  unfold laws_big.f
  by_cases c : (l0.length : Int) > 1048576
  · exact ⟨true, if_pos c, by simp⟩
  · refine ⟨_, if_neg c, fun h => ?_⟩
    rw [decide_eq_false_iff_not, w64 (by omega) (by omega)] at h
    omega
theorem bys {l : List Int} (h : (l.length : Int) ≤ 1048576) (hw : ∀ x ∈ l, (Lit.int .u8 x).wf = true) : Bys l := by
  refine ⟨h, fun x hx => ?_⟩
  have := hw x hx
  simp only [Lit.wf, Bool.and_eq_true, decide_eq_true_eq] at this
  exact this
end Go.Proofs.YtfedgkmklcialaaQ
namespace Go.Proofs.YtfedgkmklcialaaQ
open Go Go.RowKit Go.Proofs.YtfedgkmklcialaaW.PrintWords Go.Proofs.YtfedgkmklcialaaW.PrintMore Go.Proofs.YtfedgkmklcialaaGp Go.Proofs.Ytfedgkmklcialaa.PM

theorem common_take : ∀ l m : List UInt8, l.take (common l m) = m.take (common l m)
  | [], m => by simp [common]
  | a :: l, [] => by simp [common]
  | a :: l, b :: m => by
    simp only [common]
    split
    · rename_i e
      rw [List.take_succ_cons, List.take_succ_cons, common_take l m, e]
    · simp
theorem nxt_front {last s : ByteArray} {n : Nat} (hn : last.data.toList.take n = s.data.toList.take n) : nxt last (n : Int) (s.extract n s.size) = s := by
  unfold nxt
  refine ByteArray.ext (Array.toList_inj.1 ?_)
  rw [ByteArray.data_append, Array.toList_append, Lib.extract_data, Lib.extract_data, Int.toNat_natCast]
  simp only [Nat.sub_zero, List.drop_zero]
  rw [hn, List.take_of_length_le (i := s.size - n) (by rw [List.length_drop, ← size_len]; omega), List.take_append_drop]
theorem dec_front (b : Int) : ∀ (l : List ByteArray) (i : Nat) (p : Option ByteArray) (last : ByteArray), p.getD ⟨#[]⟩ = last → (∀ s ∈ l, s.size ≤ 12) →
    dec ((frontL b i p l).map Prod.fst) ((frontL b i p l).map Prod.snd) last = some l
  | [], _, _, _, _, _ => rfl
  | s :: t, i, p, last, hp, hs => by
    have hk : last.data.toList.take (keepOf b i p s) = s.data.toList.take (keepOf b i p s) ∧ keepOf b i p s ≤ last.size := by
      unfold keepOf
      split
      · rw [hp]
        refine ⟨common_take _ _, ?_⟩
        have := common_le_left last.data.toList s.data.toList
        rw [size_len]; exact this
      · simp
    have h12 := hs s (List.mem_cons_self ..)
    simp only [frontL, List.map_cons, dec]
    rw [nxt_front hk.1, if_pos ⟨⟨by omega, by have := hk.2; omega⟩, by rw [ByteArray.size_extract]; omega⟩, dec_front b t (i + 1) (some s) s rfl (fun x hx => hs x (List.mem_cons_of_mem _ hx))]
    rfl
theorem frontKeys_front {b : Int} {K : List ByteArray} (hK : areKeysB K = true) (hb : blockOk b = true) : frontKeys b (keepsL b K) (tailsL b K) = (K, true) := by
  have hl := areKeysB_len hK
  unfold frontKeys
  rw [if_pos (by rw [hb, keepsL_len, tailsL_len]; simp; omega)]
  unfold keepsL tailsL
  rw [dec_front b K 0 none ⟨#[]⟩ rfl (fun s hs => (isKeyB_size (areKeysB_all hK s hs)).2)]
  simp [decK, finK, hK, keepsL, tailsL]
theorem dec_len : ∀ (ks : List Int) (ts : List ByteArray) (last : ByteArray) (out : List ByteArray), dec ks ts last = some out → out.length = ks.length
  | [], _, _, out, h => by simp only [dec, Option.some.injEq] at h; subst h; rfl
  | _ :: _, [], _, out, h => by simp [dec] at h
  | n :: ns, t :: ts, last, out, h => by
    rw [dec] at h
    split at h
    · rw [Option.map_eq_some_iff] at h
      obtain ⟨o, h1, rfl⟩ := h
      simp [dec_len ns ts _ o h1]
    · simp at h
theorem frontKeys_size {b : Int} {ks : List Int} {ts : List ByteArray} (h : (frontKeys b ks ts).2 = true) : (frontKeys b ks ts).1.length = ks.length := by
  unfold frontKeys at h ⊢
  split at h
  · rename_i c
    rw [if_pos c]
    cases hd : dec ks ts ⟨#[]⟩ with
    | none => rw [hd] at h; simp [decK] at h
    | some o =>
      rw [hd] at h
      simp only [decK, finK, List.nil_append] at h ⊢
      split
      · exact dec_len _ _ _ _ hd
      · rename_i c2; rw [if_neg c2] at h; simp at h
  · simp at h
theorem tails_sum (b : Int) : ∀ (l : List ByteArray) (i : Nat) (p : Option ByteArray), sumSz ((frontL b i p l).map Prod.snd) ≤ sumSz l
  | [], _, _ => by simp [frontL, sumSz]
  | s :: t, i, p => by
    have := tails_sum b t (i + 1) (some s)
    simp only [frontL, List.map_cons, sumSz]
    have h : (s.extract (keepOf b i p s) s.size).size ≤ s.size := by rw [ByteArray.size_extract]; omega
    omega

def DrT (g : Nat → Option (Int × List Int × List ByteArray × Int × Int)) (p c : Int) : Prop := ∃ a l l' p' sd', Ev g (a, l, l', p', sd') ∧ 0 ≤ p' ∧ p' ≤ p + c
theorem front_ok {s : List Int} (hs : Bys s) {p : Int} (sd : Int) (h0 : 0 ≤ p) (h1 : p ≤ 100000000000000000) : DrT (fun k => spec_l1Cur_front.f k s p sd) p 1000 := by
  obtain ⟨ks, p1, sd1, e1, hk, q0, q1⟩ := keys_ok hs sd (n := 9) (by omega) h0 (by omega)
  obtain ⟨v2, p2, sd2, e2, hv2, r0, r1⟩ := pick_ok hs sd1 (n := 4) q0 (by omega)
  have hw : wrap64 (1 + v2) = 1 + v2 := w64 (by omega) (by omega)
  have hk9 : ∀ x ∈ ks, (x.size : Int) ≤ 9223372036854775806 := fun x hx => by have := hk.2 x hx; omega
  have e3 := spec_trFront_f ks (1 + v2) (by omega) (by have := hk.1; omega) hk9
  have n1 := keepsL_len (1 + v2) ks
  have n2 := tailsL_len (1 + v2) ks
  have hkl := hk.1
  generalize hA : keepsL (1 + v2) ks = A at *
  generalize hB : tailsL (1 + v2) ks = B at *
  obtain ⟨v4, p4, sd4, e4, hv4, t0, t1⟩ := pick_ok hs sd2 (n := 14) r0 (by omega)
  have go : ∀ {g : Nat → Option (Int × List Int × List ByteArray × Int × Int)} {r : Int × List Int × List ByteArray × Int × Int}, Ev g r → (∀ k, spec_l1Cur_front.f k s p sd = (spec_l1Cur_keys.f k s p sd 9).bind fun bt546 => ((spec_l1Cur_pick.f s bt546.2.1 bt546.2.2 4).bind fun bt551 => ((spec_trFront.f k bt546.1 (wrap64 (1 + bt551.1))).bind fun bt554 => g k))) → Ev (fun k => spec_l1Cur_front.f k s p sd) r := fun h hg => by
    simp only [hg]
    refine ev_bind _ e1 ?_
    simp only [e2, Option.bind_some, hw]
    exact ev_bind _ e3 h
  unfold spec_l1Cur_front.f
  by_cases c0 : v4 = 0
  · obtain ⟨u, p5, sd5, e5, _, w0, w1⟩ := among_ok hs sd4 (l := [-1, 0, 1, 16, 17]) (by simp) t0 (by omega)
    refine ⟨u, A, B, p5, sd5, ev_bind _ e1 ?_, w0, by omega⟩
    simp only [e2, Option.bind_some, hw]
    refine ev_bind _ e3 ?_
    simp only [e4, Option.bind_some, e5]
    exact ev_pos c0 (Ev.now _)
  by_cases c1 : v4 = 1
  · by_cases c : (A.length : Int) > 0
    · obtain ⟨u, p5, sd5, e5, hu, w0, w1⟩ := pick_ok hs sd4 (n := (A.length : Int)) t0 (by omega)
      obtain ⟨v, p6, sd6, e6, hv, y0, y1⟩ := pick_ok hs sd5 (n := 3) w0 (by omega)
      refine ⟨1 + v2, A.set u.toNat (wrap64 (rd A u + wrap64 (v - 1))), B, p6, sd6, ev_bind _ e1 ?_, y0, by omega⟩
      simp only [e2, Option.bind_some, hw]
      refine ev_bind _ e3 ?_
      simp only [e4, Option.bind_some, e5, e6]
      exact ev_neg c0 (ev_pos c1 (ev_pos c (ev_pos (by omega) (ev_pos (by omega) (Ev.now _)))))
    · refine ⟨1 + v2, A, B, p4, sd4, ev_bind _ e1 ?_, t0, by omega⟩
      simp only [e2, Option.bind_some, hw]
      refine ev_bind _ e3 ?_
      simp only [e4, Option.bind_some]
      exact ev_neg c0 (ev_pos c1 (ev_neg c (Ev.now _)))
  by_cases c2 : v4 = 2
  · by_cases c : (B.length : Int) > 0
    · obtain ⟨u, p5, sd5, e5, hu, w0, w1⟩ := pick_ok hs sd4 (n := (B.length : Int)) t0 (by omega)
      obtain ⟨v, p6, sd6, e6, hv, y0, y1⟩ := text_ok hs sd5 w0 (by omega)
      refine ⟨1 + v2, A, B.set u.toNat v, p6, sd6, ev_bind _ e1 ?_, y0, by omega⟩
      simp only [e2, Option.bind_some, hw]
      refine ev_bind _ e3 ?_
      simp only [e4, Option.bind_some, e5]
      exact ev_neg c0 (ev_neg c1 (ev_pos c2 (ev_pos c (ev_bind _ e6 (ev_pos (by omega) (ev_pos (by omega) (Ev.now _)))))))
    · refine ⟨1 + v2, A, B, p4, sd4, ev_bind _ e1 ?_, t0, by omega⟩
      simp only [e2, Option.bind_some, hw]
      refine ev_bind _ e3 ?_
      simp only [e4, Option.bind_some]
      exact ev_neg c0 (ev_neg c1 (ev_pos c2 (ev_neg c (Ev.now _))))
  by_cases c3 : v4 = 3
  · refine ⟨1 + v2, A ++ [0], B, p4, sd4, ev_bind _ e1 ?_, t0, by omega⟩
    simp only [e2, Option.bind_some, hw]
    refine ev_bind _ e3 ?_
    simp only [e4, Option.bind_some]
    exact ev_neg c0 (ev_neg c1 (ev_neg c2 (ev_pos c3 (ev_pos (by omega) (Ev.now _)))))
  · refine ⟨1 + v2, A, B, p4, sd4, ev_bind _ e1 ?_, t0, by omega⟩
    simp only [e2, Option.bind_some, hw]
    refine ev_bind _ e3 ?_
    simp only [e4, Option.bind_some]
    exact ev_neg c0 (ev_neg c1 (ev_neg c2 (ev_neg c3 (Ev.now _))))
theorem DrawMergeFronts_ok {s : List Int} (hs : Bys s) : ∃ a l1 l2 b m1 m2, Ev (fun k => spec_DrawMergeFronts.f k s) (a, l1, l2, b, m1, m2) := by
  obtain ⟨a, l1, l2, p1, sd1, e1, q0, q1⟩ := front_ok hs 0 (p := 0) (by omega) (by omega)
  obtain ⟨v, p2, sd2, e2, r0, r1⟩ := one_ok hs sd1 10 q0 (by omega)
  unfold spec_DrawMergeFronts.f
  by_cases c : v = true
  · obtain ⟨x, e3', hx⟩ := many_l0 s p2 sd2 39 0 0 [] ⟨by simp, by simp⟩ (by omega) (by omega)
    have e3 : Ev (fun k => spec_l1Cur_many.f k s p2 sd2 39) (x, p2, sd2) := e3'
    have e4 := spec_trFront_f x 3 (by omega) (by have := hx.1; omega) (fun y hy => by have := hx.2 y hy; omega)
    obtain ⟨b, m1, m2, p5, sd5, e5, w0, w1⟩ := front_ok hs sd2 r0 (by omega)
    refine ⟨3, keepsL 3 x, tailsL 3 x, b, m1, m2, ev_bind _ e1 ?_⟩
    simp only [e2, Option.bind_some]
    exact ev_pos c (ev_bind _ e3 (ev_bind _ e4 (ev_bind _ e5 (Ev.now _))))
  · obtain ⟨b, m1, m2, p5, sd5, e5, w0, w1⟩ := front_ok hs sd2 r0 (by omega)
    refine ⟨a, l1, l2, b, m1, m2, ev_bind _ e1 ?_⟩
    simp only [e2, Option.bind_some]
    exact ev_neg c (ev_bind _ e5 (Ev.now _))
end Go.Proofs.YtfedgkmklcialaaQ
namespace Go.Proofs.YtfedgkmklcialaaQ
open Go Go.RowKit Go.Proofs.YtfedgkmklcialaaW.PrintWords Go.Proofs.YtfedgkmklcialaaGp Go.Proofs.Ytfedgkmklcialaa.PM

namespace LW
theorem sameT_l0 (x0 y0 : List ByteArray) (hl : (x0.length : Int) ≤ 9223372036854775806) (hy : y0.length = x0.length) : ∀ (t pre u pru : List ByteArray), x0 = pre ++ t → y0 = pru ++ u → pru.length = pre.length →
    Ev (fun k => laws_pSameTexts.l0 k x0 y0 (x0.length : Int) (pre.length : Int)) (decide (t = u)) := by
  intro t
  induction t with
  | nil =>
    intro pre u pru h h2 hp
    have : u = [] := by
      have e1 : y0.length = pru.length + u.length := by rw [h2]; simp
      have e2 : x0.length = pre.length := by rw [h]; simp
      exact List.length_eq_zero_iff.1 (by omega)
    subst this
    refine ev_succ ?_
    simp only [laws_pSameTexts.l0]
    exact ev_neg (by rw [h]; exact not_lt_end) (ev_some (by simp))
  | cons x t ih =>
    intro pre u pru h h2 hp
    have hm : ((pre.length : Nat) : Int) < (x0.length : Int) := by rw [h]; exact lt_mid
    have hg : rdOf ByteArray.empty x0 (pre.length : Int) = x := by rw [h]; exact rdOf_mid
    cases u with
    | nil =>
      have e1 : y0.length = pru.length := by rw [h2]; simp
      omega
    | cons y u =>
      have hg2 : rdOf ByteArray.empty y0 (pre.length : Int) = y := by rw [h2, ← hp]; exact rdOf_mid
      refine ev_succ ?_
      simp only [laws_pSameTexts.l0, hg, hg2, tl_inj]
      by_cases c : x = y
      · subst c
        have := ih (pre ++ [x]) u (pru ++ [x]) (by rw [h]; simp) (by rw [h2]; simp) (by simp [hp])
        rw [len_one] at this
        rw [show decide (x :: t = x :: u) = decide (t = u) from by simp, winc (by omega)]
        exact ev_pos hm (ev_pos (by omega) (ev_pos hm (ev_pos (by omega) (ev_pos rfl this))))
      · rw [decide_eq_false (fun e => c (List.cons.inj e).1)]
        exact ev_pos hm (ev_pos (by omega) (ev_pos hm (ev_pos (by omega) (ev_neg c (Ev.now _)))))
theorem sameT_f (l l' : List ByteArray) (hl : (l.length : Int) ≤ 9223372036854775806) : Ev (fun k => laws_pSameTexts.f k l l') (decide (l = l')) := by
  unfold laws_pSameTexts.f
  by_cases h : l'.length = l.length
  · exact ev_pos (by omega) (sameT_l0 l l' hl h l [] l' [] rfl rfl rfl)
  · exact ev_neg (by omega) (ev_some (decide_eq_false (fun e => h (by rw [e]))).symm)
theorem same_l0 (x0 y0 : List Int) (hl : (x0.length : Int) ≤ 9223372036854775806) (hy : y0.length = x0.length) : ∀ (t pre u pru : List Int), x0 = pre ++ t → y0 = pru ++ u → pru.length = pre.length →
    Ev (fun k => laws_pSameInts.l0 k x0 y0 (x0.length : Int) (pre.length : Int)) (decide (t = u)) := by
  intro t
  induction t with
  | nil =>
    intro pre u pru h h2 hp
    have : u = [] := by
      have e1 : y0.length = pru.length + u.length := by rw [h2]; simp
      have e2 : x0.length = pre.length := by rw [h]; simp
      exact List.length_eq_zero_iff.1 (by omega)
    subst this
    refine ev_succ ?_
    simp only [laws_pSameInts.l0]
    exact ev_neg (by rw [h]; exact not_lt_end) (ev_some (by simp))
  | cons x t ih =>
    intro pre u pru h h2 hp
    have hm : ((pre.length : Nat) : Int) < (x0.length : Int) := by rw [h]; exact lt_mid
    have hg : rd x0 (pre.length : Int) = x := by rw [h]; exact rd_mid
    cases u with
    | nil =>
      have e1 : y0.length = pru.length := by rw [h2]; simp
      omega
    | cons y u =>
      have hg2 : rd y0 (pre.length : Int) = y := by rw [h2, ← hp]; exact rd_mid
      refine ev_succ ?_
      simp only [laws_pSameInts.l0, hg, hg2]
      by_cases c : x = y
      · subst c
        have := ih (pre ++ [x]) u (pru ++ [x]) (by rw [h]; simp) (by rw [h2]; simp) (by simp [hp])
        rw [len_one] at this
        rw [show decide (x :: t = x :: u) = decide (t = u) from by simp, winc (by omega)]
        exact ev_pos hm (ev_pos (by omega) (ev_pos hm (ev_pos (by omega) (ev_pos rfl this))))
      · rw [decide_eq_false (fun e => c (List.cons.inj e).1)]
        exact ev_pos hm (ev_pos (by omega) (ev_pos hm (ev_pos (by omega) (ev_neg c (Ev.now _)))))
theorem same_f (l l' : List Int) (hl : (l.length : Int) ≤ 9223372036854775806) (h : l'.length = l.length) : Ev (fun k => laws_pSameInts.f k l l') (decide (l = l')) := by
  unfold laws_pSameInts.f
  exact ev_pos (by omega) (same_l0 l l' hl h l [] l' [] rfl rfl rfl)
theorem sameI_f (l l' : List Int) (hl : (l.length : Int) ≤ 9223372036854775806) : Ev (fun k => laws_pSameInts.f k l l') (decide (l = l')) := by
  by_cases h : l'.length = l.length
  · exact same_f l l' hl h
  · unfold laws_pSameInts.f
    exact ev_neg (by omega) (ev_some (decide_eq_false (fun e => h (by rw [e]))).symm)
end LW
end Go.Proofs.YtfedgkmklcialaaQ
namespace Go.Proofs.Ytfedgkmklcialaa.Pure
open Go Go.RowKit Go.Proofs.YtfedgkmklcialaaW.PrintWords Go.Proofs.YtfedgkmklcialaaGp Go.Proofs.Ytfedgkmklcialaa.PM Go.Proofs.YtfedgkmklcialaaQ

theorem hasS_mem {l : List ByteArray} {s : ByteArray} (h : s ∈ l) : hasS l s = true := by
  unfold hasS
  simpa using h
theorem keyAt_mid {K pre t : List ByteArray} {s : ByteArray} (h : K = pre ++ s :: t) {b : Bool} (hb : b = true) : keyAtR (K, b) (pre.length : Int) = (s, true) := by
  have hm : rdOf ByteArray.empty K (pre.length : Int) = s := by rw [h]; exact rdOf_mid
  have hl : K.length = pre.length + (t.length + 1) := by rw [h]; simp
  unfold keyAtR
  rw [if_pos ⟨hb, by omega, by simp only; omega⟩]
  simp only [hm]
theorem sumSz_app (x y : List ByteArray) : sumSz (x ++ y) = sumSz x + sumSz y := by
  induction x with
  | nil => simp [sumSz]
  | cons s t ih => simp only [List.cons_append, sumSz, ih]; omega
theorem sumSz_le : ∀ (l : List ByteArray), (∀ s ∈ l, s.size ≤ 12) → sumSz l ≤ 12 * (l.length : Int)
  | [], _ => by simp [sumSz]
  | s :: t, h => by
    have h1 := h s (List.mem_cons_self ..)
    have := sumSz_le t (fun x hx => h x (List.mem_cons_of_mem _ hx))
    simp only [sumSz, List.length_cons]
    omega
section
variable {a0 : Int} {l1 : List Int} {l2 : List ByteArray} {b0 : Int} {m1 : List Int} {m2 : List ByteArray} {K : List ByteArray}
theorem law_l2 (hB : (frontKeys b0 m1 m2).2 = true) (hK : frontKeys a0 (keepsL a0 K) (tailsL a0 K) = (K, true)) (hin : ∀ s ∈ (frontKeys b0 m1 m2).1, s ∈ K) : ∀ (t pre : List ByteArray), (frontKeys b0 m1 m2).1 = pre ++ t →
    Ev (fun k => laws_FnFrontsMerge.l2 k (m1.length : Int) (pre.length : Int) b0 m1 m2 a0 (keepsL a0 K) (tailsL a0 K)) true := by
  have hs := frontKeys_size hB
  have hl := frontKeys_len hB
  intro t
  induction t with
  | nil =>
    intro pre h
    have e : m1.length = pre.length := by rw [← hs, h]; simp
    refine ev_succ ?_
    simp only [laws_FnFrontsMerge.l2]
    exact ev_neg (by omega) (Ev.now _)
  | cons s t ih =>
    intro pre h
    have e : m1.length = pre.length + (t.length + 1) := by rw [← hs, h]; simp
    have hF := impl_FrontKey_f b0 m1 m2 (pre.length : Int)
    rw [show keyAtR (frontKeys b0 m1 m2) (pre.length : Int) = (s, true) from keyAt_mid (b := (frontKeys b0 m1 m2).2) h hB] at hF
    have hH := impl_FrontHas_f a0 (keepsL a0 K) (tailsL a0 K) s
    rw [hK, show hasR (K, true) s = (true, true) from by rw [hasR, if_pos rfl, hasS_mem (hin s (by rw [h]; simp))]] at hH
    have next := ih (pre ++ [s]) (by rw [h]; simp)
    rw [len_one] at next
    refine ev_succ ?_
    simp only [laws_FnFrontsMerge.l2]
    rw [winc (by omega)]
    exact ev_pos (by omega) (ev_bind _ hF (ev_bind _ hH (ev_pos rfl (ev_pos rfl (ev_pos rfl next)))))
theorem law_l1 (hA : (frontKeys a0 l1 l2).2 = true) (hB : (frontKeys b0 m1 m2).2 = true) (hK : frontKeys a0 (keepsL a0 K) (tailsL a0 K) = (K, true)) (hia : ∀ s ∈ (frontKeys a0 l1 l2).1, s ∈ K) (hin : ∀ s ∈ (frontKeys b0 m1 m2).1, s ∈ K) : ∀ (t pre : List ByteArray), (frontKeys a0 l1 l2).1 = pre ++ t →
    Ev (fun k => laws_FnFrontsMerge.l1 k (l1.length : Int) (pre.length : Int) a0 l1 l2 b0 m1 m2 a0 (keepsL a0 K) (tailsL a0 K)) true := by
  have hs := frontKeys_size hA
  have hl := frontKeys_len hA
  intro t
  induction t with
  | nil =>
    intro pre h
    have e : l1.length = pre.length := by rw [← hs, h]; simp
    refine ev_succ ?_
    simp only [laws_FnFrontsMerge.l1]
    exact ev_neg (by omega) (law_l2 hB hK hin _ [] rfl)
  | cons s t ih =>
    intro pre h
    have e : l1.length = pre.length + (t.length + 1) := by rw [← hs, h]; simp
    have hF := impl_FrontKey_f a0 l1 l2 (pre.length : Int)
    rw [show keyAtR (frontKeys a0 l1 l2) (pre.length : Int) = (s, true) from keyAt_mid (b := (frontKeys a0 l1 l2).2) h hA] at hF
    have hH := impl_FrontHas_f a0 (keepsL a0 K) (tailsL a0 K) s
    rw [hK, show hasR (K, true) s = (true, true) from by rw [hasR, if_pos rfl, hasS_mem (hia s (by rw [h]; simp))]] at hH
    have next := ih (pre ++ [s]) (by rw [h]; simp)
    rw [len_one] at next
    refine ev_succ ?_
    simp only [laws_FnFrontsMerge.l1]
    rw [winc (by omega)]
    exact ev_pos (by omega) (ev_bind _ hF (ev_bind _ hH (ev_pos rfl (ev_pos rfl (ev_pos rfl next)))))
theorem law_l0 (hA : (frontKeys a0 l1 l2).2 = true) (hB : (frontKeys b0 m1 m2).2 = true) (hb : blockOk a0 = true) (hkk : areKeysB K = true) (hm : ∀ s, s ∈ K ↔ s ∈ (frontKeys a0 l1 l2).1 ∨ s ∈ (frontKeys b0 m1 m2).1) : ∀ (t pre : List ByteArray), K = pre ++ t →
    Ev (fun k => laws_FnFrontsMerge.l0 k pre (sumSz pre + (pre.length : Int)) ((keepsL a0 K).length : Int) (pre.length : Int) a0 l1 l2 b0 m1 m2 a0 (keepsL a0 K) (tailsL a0 K)) true := by
  have hK := frontKeys_front (b := a0) hkk hb
  have hl := areKeysB_len hkk
  have n1 := keepsL_len a0 K
  have n2 := tailsL_len a0 K
  have hz : ∀ s ∈ K, s.size ≤ 12 := fun s hs => (isKeyB_size (areKeysB_all hkk s hs)).2
  have hsum := sumSz_le K hz
  intro t
  induction t with
  | nil =>
    intro pre h
    have e : K = pre := by rw [h]; simp
    subst e
    have hBF := impl_BuildFront_f K a0 (by omega) (fun s hs => by have := hz s hs; omega)
    rw [show buildFrontL K a0 = (a0, keepsL a0 K, tailsL a0 K, true) from by rw [buildFrontL, if_pos (by rw [hkk, hb]; rfl)]] at hBF
    have ht := tails_sum a0 K 0 none
    have ht' : sumSz (tailsL a0 K) ≤ sumSz K := ht
    have hFB := impl_FrontBytes_f a0 (keepsL a0 K) (tailsL a0 K) (by omega)
    rw [hK, show bytesR (K, true).2 (keepsL a0 K) (tailsL a0 K) = (((keepsL a0 K).length : Int) + sumSz (tailsL a0 K), true) from rfl] at hFB
    refine ev_succ ?_
    simp only [laws_FnFrontsMerge.l0]
    refine ev_neg (by omega) (ev_bind _ hBF (ev_bind _ hFB (ev_pos rfl (ev_pos rfl (ev_neg (by simp only; omega) (ev_bind _ (LW.sameI_f _ _ (by simp only; omega)) (ev_pos (by simp) (ev_bind _ (LW.sameT_f _ _ (by simp only; omega)) (ev_succ ?_)))))))))
    simp only [laws_FnFrontsMerge.j2]
    exact ev_neg (by simp) (law_l1 hA hB hK (fun s hs => (hm s).2 (.inl hs)) (fun s hs => (hm s).2 (.inr hs)) _ [] rfl)
  | cons s t ih =>
    intro pre h
    have hlen : K.length = pre.length + (t.length + 1) := by rw [h]; simp
    have hsK : s ∈ K := by rw [h]; simp
    have hs12 := hz s hsK
    have hpre := sumSz_le pre (fun x hx => hz x (by rw [h]; exact List.mem_append_left _ hx))
    have hpn := sumSz_nonneg pre
    have hF := impl_FrontKey_f a0 (keepsL a0 K) (tailsL a0 K) (pre.length : Int)
    rw [hK, show keyAtR (K, true) (pre.length : Int) = (s, true) from keyAt_mid h rfl] at hF
    have hHa := impl_FrontHas_f a0 l1 l2 s
    have hHb := impl_FrontHas_f b0 m1 m2 s
    rw [show hasR (frontKeys a0 l1 l2) s = (hasS (frontKeys a0 l1 l2).1 s, true) from by rw [hasR, if_pos hA]] at hHa
    rw [show hasR (frontKeys b0 m1 m2) s = (hasS (frontKeys b0 m1 m2).1 s, true) from by rw [hasR, if_pos hB]] at hHb
    have next := ih (pre ++ [s]) (by rw [h]; simp)
    rw [len_one, sumSz_app] at next
    have e1 : sumSz [s] = (s.size : Int) := by simp [sumSz]
    rw [e1] at next
    have w1 : wrap64 ((s.size : Int) + 1) = (s.size : Int) + 1 := w64 (by omega) (by omega)
    have w2 : wrap64 (sumSz pre + (pre.length : Int) + ((s.size : Int) + 1)) = sumSz pre + (s.size : Int) + ((pre.length : Int) + 1) := by rw [w64 (by omega) (by omega)]; omega
    refine ev_succ ?_
    simp only [laws_FnFrontsMerge.l0]
    refine ev_pos (by omega) (ev_bind _ hF (ev_bind _ hHa (ev_bind _ hHb (ev_pos rfl (ev_pos rfl (ev_pos rfl ?_))))))
    simp only
    rw [w1, w2, winc (by omega)]
    by_cases c : hasS (frontKeys a0 l1 l2).1 s = true
    · exact ev_pos c (ev_pos (by omega) next)
    · have hy : s ∈ (frontKeys b0 m1 m2).1 := ((hm s).1 hsK).resolve_left (fun hx => c (hasS_mem hx))
      exact ev_neg c (ev_pos (hasS_mem hy) (ev_pos (by omega) next))
end
theorem FnFrontsMerge : laws_FnFrontsMerge.Pure := by
  intro l0 l1 h0 _ hw0 h1 _ hw1
  refine Ev.rounds (r := true) ?_
  unfold laws_FnFrontsMerge.f
  obtain ⟨z, eb, hb⟩ := big_f h0 h1
  rw [eb]
  refine ev_bind _ (Ev.now _) ?_
  by_cases c : z = true
  · exact ev_pos c (Ev.now _)
  obtain ⟨g0, g1⟩ := hb (by simpa using c)
  obtain ⟨a0, x1, x2, b0, m1, m2, ed⟩ := DrawMergeFronts_ok (bys g0 hw0)
  obtain ⟨s1, s2⟩ := mergeV_small a0 x1 x2 b0 m1 m2
  refine ev_neg c (ev_bind _ ed (ev_bind _ (impl_MergeFronts_f a0 x1 x2 b0 m1 m2) (ev_bind _ (spec_MergeFronts_f a0 x1 x2 b0 m1 m2) (ev_neg (by simp) (ev_pos rfl (ev_bind _ (LW.sameI_f _ _ (by omega)) (ev_pos (by simp) (ev_bind _ (LW.sameT_f _ _ (by omega)) (ev_succ ?_)))))))))
  simp only [laws_FnFrontsMerge.j0]
  refine ev_neg (by simp) ?_
  by_cases g : ((frontKeys a0 x1 x2).2 && (frontKeys b0 m1 m2).2) = true
  · have e : mergeV a0 x1 x2 b0 m1 m2 = buildFrontL (MF.setK (frontKeys b0 m1 m2).1 (frontKeys a0 x1 x2).1) a0 := if_pos g
    rw [Bool.and_eq_true] at g
    have hbk := frontKeys_block g.1
    by_cases k : areKeysB (MF.setK (frontKeys b0 m1 m2).1 (frontKeys a0 x1 x2).1) = true
    · rw [e, show buildFrontL (MF.setK (frontKeys b0 m1 m2).1 (frontKeys a0 x1 x2).1) a0 = (a0, keepsL a0 (MF.setK (frontKeys b0 m1 m2).1 (frontKeys a0 x1 x2).1), tailsL a0 (MF.setK (frontKeys b0 m1 m2).1 (frontKeys a0 x1 x2).1), true) from by rw [buildFrontL, if_pos (by rw [k, hbk]; rfl)]]
      have hm := (MF.setK_ok (frontKeys b0 m1 m2).1 (frontKeys a0 x1 x2).1 (MF.keys_sk (frontKeys_true g.1))).2
      exact ev_pos rfl (law_l0 g.1 g.2 hbk k hm _ [] rfl)
    · rw [e, buildFrontL, if_neg (by simp [k])]
      exact ev_neg (by simp) (Ev.now _)
  · rw [mergeV, if_neg g]
    exact ev_neg (by simp) (Ev.now _)
end Go.Proofs.Ytfedgkmklcialaa.Pure
