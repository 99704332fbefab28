import Derived.Test.YtpkpjikkfikejaaCFA1
import Derived.Test.YtpkpjikkfikejaaCFA2
import Derived.Test.YtpkpjikkfikejaaCFA3
import Derived.Test.YtpkpjikkfikejaaCFA5
import Derived.Test.YtpkpjikkfikejaaCFA0
import Derived.Lib.Bytes
import Derived.Laws.BitsLemmas
-- printed by a program of this session (wip/gp) out of the translation; Lean checks it
namespace Go.Proofs.Ytpkpjikkfikejaa.PB
open Go.RowKit Go.Proofs.YtpkpjikkfikejaaW.PrintWords Go.Proofs.YtpkpjikkfikejaaW.PrintLast Go.Proofs.YtpkpjikkfikejaaW.PrintMore Go.Proofs.YtpkpjikkfikejaaSq
attribute [local go_sem] max2_int min2_int max_two min_two max_three min_three max_four min_four   -- for this text's walks alone
attribute [local go_sem] Go.Proofs.YtpkpjikkfikejaaGp.str_geq Go.Proofs.YtpkpjikkfikejaaGp.str_gtr Go.Proofs.YtpkpjikkfikejaaGp.str_leq
set_option linter.unusedVariables false
set_option linter.unusedSimpArgs false

set_option maxHeartbeats 40000000
set_option maxRecDepth 100000
mutual
def laws_FnFalseAnswers.j0 : Nat → List Int → List ByteArray → List ByteArray → List Int → Bool → Bool → Int → Int → Int → List Int → Option (Bool)
 | 0, _, _, _, _, _, _, _, _, _, _ => none
 | k + 1, x1, x6, x7, x8, x9, x73, x803000, x803001, x803002, x803003 => if x73 = true then (some false) else (if x9 = true then (laws_FnFalseAnswers.l0 k x1 x6 x8 x7 (x7.length : Int) 0 x803000 x803001 x803002 x803003) else (laws_FnFalseAnswers.j2 k x1))
def laws_FnFalseAnswers.j2 : Nat → List Int → Option (Bool)
 | 0, _ => none
 | k + 1, x1 => (spec_DrawShareOf.f k x1).bind fun bt817 => ((impl_ShareOf.f k bt817.1 bt817.2.1 bt817.2.2.1 bt817.2.2.2.1 bt817.2.2.2.2.1 bt817.2.2.2.2.2).bind fun bt826 => ((spec_ShareOf.f k bt817.1 bt817.2.1 bt817.2.2.1 bt817.2.2.2.1 bt817.2.2.2.2.1 bt817.2.2.2.2.2).bind fun bt829 => ((impl_TextsOver.f k bt817.2.2.2.2.1 bt817.2.2.2.2.2).bind fun bt832 => (if (bt826.2.2 != bt829.2.2) = true then (laws_FnFalseAnswers.j3 k x1 bt826.1 bt826.2.1 bt826.2.2 bt832.1 bt832.2 true bt817.1 bt817.2.1 bt817.2.2.1 bt817.2.2.2.1) else (if bt826.1 = bt829.1 then (laws_FnFalseAnswers.j3 k x1 bt826.1 bt826.2.1 bt826.2.2 bt832.1 bt832.2 (bt826.2.1 != bt829.2.1) bt817.1 bt817.2.1 bt817.2.2.1 bt817.2.2.2.1) else (laws_FnFalseAnswers.j3 k x1 bt826.1 bt826.2.1 bt826.2.2 bt832.1 bt832.2 true bt817.1 bt817.2.1 bt817.2.2.1 bt817.2.2.2.1))))))
def laws_FnFalseAnswers.j3 : Nat → List Int → Int → Int → Bool → List ByteArray → Bool → Bool → Int → Int → Int → List Int → Option (Bool)
 | 0, _, _, _, _, _, _, _, _, _, _, _ => none
 | k + 1, x1, x19, x20, x21, x25, x26, x144, x826000, x826001, x826002, x826003 => if x144 = true then (some false) else (if x21 = true then ((impl_FalseAnswers.f k x826000 x826001 x826002 x826003 ([] : List ByteArray) x25).bind fun bt836 => (if x26 = true then (if x20 = (x25.length : Int) then (if bt836.2 = true then (if (bt836.1.length : Int) = x19 then (laws_FnFalseAnswers.j4 k x1) else (some false)) else (some false)) else (some false)) else (some false))) else (laws_FnFalseAnswers.j4 k x1))
def laws_FnFalseAnswers.j4 : Nat → List Int → Option (Bool)
 | 0, _ => none
 | k + 1, x1 => (spec_DrawLeastBloom.f k x1).bind fun bt840 => ((impl_LeastBloom.f k bt840.1 bt840.2.1 bt840.2.2.1 bt840.2.2.2.1 bt840.2.2.2.2).bind fun bt849 => ((spec_LeastBloom.f k bt840.1 bt840.2.1 bt840.2.2.1 bt840.2.2.2.1 bt840.2.2.2.2).bind fun bt851 => (if (bt849.2 != bt851.2) = true then (laws_FnFalseAnswers.j5 k bt840.1 bt840.2.1 bt840.2.2.1 bt840.2.2.2.1 bt840.2.2.2.2 bt849.1 bt849.2 true) else (laws_FnFalseAnswers.j5 k bt840.1 bt840.2.1 bt840.2.2.1 bt840.2.2.2.1 bt840.2.2.2.2 bt849.1 bt849.2 (bt849.1 != bt851.1)))))
def laws_FnFalseAnswers.j5 : Nat → Int → Int → List ByteArray → List ByteArray → Int → Int → Bool → Bool → Option (Bool)
 | 0, _, _, _, _, _, _, _, _ => none
 | k + 1, x29, x30, x31, x32, x33, x34, x35, x203 => if x203 = true then (some false) else (if x35 = true then ((impl_BloomOf.f k x29 x30 x34 x31).bind fun bt853 => ((impl_FalseAnswers.f k bt853.1 bt853.2.1 bt853.2.2.1 bt853.2.2.2.1 x31 x32).bind fun bt861 => (if bt853.2.2.2.2 = true then (if bt861.2 = true then (if (bt861.1.length : Int) = 0 then (some (decide (x34 ≤ x33))) else (some false)) else (some false)) else (some false)))) else (some true))
def laws_FnFalseAnswers.l0 : Nat → List Int → List ByteArray → List Int → List ByteArray → Int → Int → Int → Int → Int → List Int → Option (Bool)
 | 0, _, _, _, _, _, _, _, _, _, _ => none
 | k + 1, x1, x6, x8, x75, x76, x77, x803000, x803001, x803002, x803003 => if x77 < x76 then (if 0 ≤ x77 then (if x77 < (x75.length : Int) then ((impl_BloomHas.f k x803000 x803001 x803002 x803003 (rdOf ByteArray.empty x75 x77)).bind fun bt813 => (if bt813.2 = true then ((laws_pHas.f k x8 x77).bind fun t815 => (if bt813.1 = true then ((laws_rHasText.f k x6 (rdOf ByteArray.empty x75 x77)).bind fun t816 => (if (t815 != (!t816)) = true then (some false) else (laws_FnFalseAnswers.l0 k x1 x6 x8 x75 x76 (wrap64 (x77 + 1)) x803000 x803001 x803002 x803003))) else (if (t815 != false) = true then (some false) else (laws_FnFalseAnswers.l0 k x1 x6 x8 x75 x76 (wrap64 (x77 + 1)) x803000 x803001 x803002 x803003)))) else (some false))) else (none)) else (none)) else (laws_FnFalseAnswers.j2 k x1)
end
def laws_FnFalseAnswers.f (k : Nat) (l0 : List Int) (l1 : List Int) : Option (Bool) := (laws_big.f l0 l1).bind fun t789 => (if t789 = true then (some true) else ((spec_DrawFalseAnswers.f k l0).bind fun bt790 => ((impl_FalseAnswers.f k bt790.1 bt790.2.1 bt790.2.2.1 bt790.2.2.2.1 bt790.2.2.2.2.1 bt790.2.2.2.2.2).bind fun bt803 => ((spec_FalseAnswers.f k bt790.1 bt790.2.1 bt790.2.2.1 bt790.2.2.2.1 bt790.2.2.2.2.1 bt790.2.2.2.2.2).bind fun bt807 => (if (bt803.2 != bt807.2) = true then (laws_FnFalseAnswers.j0 k l1 bt790.2.2.2.2.1 bt790.2.2.2.2.2 bt803.1 bt803.2 true bt790.1 bt790.2.1 bt790.2.2.1 bt790.2.2.2.1) else ((laws_pSameInts.f k bt803.1 bt807.1).bind fun t811 => (laws_FnFalseAnswers.j0 k l1 bt790.2.2.2.2.1 bt790.2.2.2.2.2 bt803.1 bt803.2 (!t811) bt790.1 bt790.2.1 bt790.2.2.1 bt790.2.2.2.1)))))))
theorem laws_FnFalseAnswers.j0.dead (k : Nat) (y0 : List Int) (y1 : List ByteArray) (y2 : List ByteArray) (y3 : List Int) (y4 : Bool) (y6 : Int) (y7 : Int) (y8 : Int) (y9 : List Int) : laws_FnFalseAnswers.j0 k y0 y1 y2 y3 y4 true y6 y7 y8 y9 ≠ some true := by cases k <;> simp [laws_FnFalseAnswers.j0]
theorem laws_FnFalseAnswers.j3.dead (k : Nat) (y0 : List Int) (y1 : Int) (y2 : Int) (y3 : Bool) (y4 : List ByteArray) (y5 : Bool) (y7 : Int) (y8 : Int) (y9 : Int) (y10 : List Int) : laws_FnFalseAnswers.j3 k y0 y1 y2 y3 y4 y5 true y7 y8 y9 y10 ≠ some true := by cases k <;> simp [laws_FnFalseAnswers.j3]
theorem laws_FnFalseAnswers.j5.dead (k : Nat) (y0 : Int) (y1 : Int) (y2 : List ByteArray) (y3 : List ByteArray) (y4 : Int) (y5 : Int) (y6 : Bool) : laws_FnFalseAnswers.j5 k y0 y1 y2 y3 y4 y5 y6 true ≠ some true := by cases k <;> simp [laws_FnFalseAnswers.j5]
theorem laws_FnFalseAnswers.calls (k : Nat) (A0 : Option Addr) (c0 : Nat) (l0 : List Int) (A1 : Option Addr) (c1 : Nat) (l1 : List Int) (r : Bool) (w : World) (hr0 : Kd.C (Kd.int .u8) w A0 l0.length l0) (hc0 : l0.length ≤ c0) (hr1 : Kd.C (Kd.int .u8) w A1 l1.length l1) (hc1 : l1.length ≤ c1) (h : laws_FnFalseAnswers.f k l0 l1 = some r) (hT_ : r = true) :
  Calls Try.prog 13 #[.slice A0 l0.length c0, .slice A1 l1.length c1] w fun e w' => e = .returned (.bool r) ∧ Below w.heap.size w w' := by
 have hu28 := Try.underlying28; have HR0 := am hr0; have HC0 := am hc0; clear hr0 hc0; have HR1 := am hr1; have HC1 := am hc1; clear hr1 hc1; have HB := am (Below.refl w.heap.size w); have H : ((laws_big.f l0 l1).bind fun t789 => (if t789 = true then (some true) else ((spec_DrawFalseAnswers.f k l0).bind fun bt790 => ((impl_FalseAnswers.f k bt790.1 bt790.2.1 bt790.2.2.1 bt790.2.2.2.1 bt790.2.2.2.2.1 bt790.2.2.2.2.2).bind fun bt803 => ((spec_FalseAnswers.f k bt790.1 bt790.2.1 bt790.2.2.1 bt790.2.2.2.1 bt790.2.2.2.2.1 bt790.2.2.2.2.2).bind fun bt807 => (if (bt803.2 != bt807.2) = true then (laws_FnFalseAnswers.j0 k l1 bt790.2.2.2.2.1 bt790.2.2.2.2.2 bt803.1 bt803.2 true bt790.1 bt790.2.1 bt790.2.2.1 bt790.2.2.2.1) else ((laws_pSameInts.f k bt803.1 bt807.1).bind fun t811 => (laws_FnFalseAnswers.j0 k l1 bt790.2.2.2.2.1 bt790.2.2.2.2.2 bt803.1 bt803.2 (!t811) bt790.1 bt790.2.1 bt790.2.2.1 bt790.2.2.2.1)))))))) = some r := h; clear h; have HT_ := am hT_; clear hT_; replace H := Option.bind_eq_some_iff.mp H; obtain ⟨t789, A30, H⟩ := H; (try dsimp -simprocs only at H); have A3 := am A30; clear A30
 by_cases c4 : t789 = true
 ·subst c4
  rw [if_pos rfl] at H; obtain rfl := Option.some.inj H
  go_enter Try.func13, Try.ntmps13
  go_wp2_with (first | ((with_reducible refine gate_callee (f := 49) rfl ?_); refine gL (some 44) Try.func49 #[.slice A0 l0.length c0, .slice A1 l1.length c1] ?_; (with_reducible refine (laws_big.calls _ _ l0 _ _ l1 true _ ?side1 ?side2 ?side3 ?side4 A3.out).mono ?_); (case side1 => exact Cz HR0.out); (case side2 => exact HC0.out); (case side3 => exact Cz HR1.out); (case side4 => exact HC1.out); rintro e w' ⟨rfl, ⟨nd, rfl⟩⟩; refine ⟨_, rfl, ?_⟩))
  go_ret
  exact ⟨eZ, Bz HB.out⟩
 ·replace c4 := Bool.eq_false_iff.mpr c4
  subst c4
  rw [if_neg (show ¬ (false = true) by decide)] at H; replace H := Option.bind_eq_some_iff.mp H; obtain ⟨⟨t790, t791, t792, t793, t796, t799⟩, A50, H⟩ := H; (try dsimp -simprocs only at H); have A5 := am A50; clear A50; replace H := Option.bind_eq_some_iff.mp H; obtain ⟨⟨t803, t806⟩, A60, H⟩ := H; (try dsimp -simprocs only at H); have A6 := am A60; clear A60; replace H := Option.bind_eq_some_iff.mp H; obtain ⟨⟨t807, t810⟩, A70, H⟩ := H; (try dsimp -simprocs only at H); have A7 := am A70; clear A70; have HC8 := am H; clear H
  go_enter Try.func13, Try.ntmps13
  go_upto_region 6 with (first | ((with_reducible refine gate_callee (f := 49) rfl ?_); refine gL (some 44) Try.func49 #[.slice A0 l0.length c0, .slice A1 l1.length c1] ?_; (with_reducible refine (laws_big.calls _ _ l0 _ _ l1 false _ ?side1 ?side2 ?side3 ?side4 A3.out).mono ?_); (case side1 => exact Cz HR0.out); (case side2 => exact HC0.out); (case side3 => exact Cz HR1.out); (case side4 => exact HC1.out); rintro e w' ⟨rfl, ⟨nd, rfl⟩⟩; refine ⟨_, rfl, ?_⟩) | ((with_reducible refine gate_callee (f := 76) rfl ?_); refine gL (some 47) Try.func76 #[.slice A0 l0.length c0] ?_; (with_reducible refine (spec_DrawFalseAnswers.calls k _ _ l0 t790 t791 t792 t793 t796 t799 _ ?side1 ?side2 A5.out).mono ?_); (case side1 => exact Cz HR0.out); (case side2 => exact HC0.out); rintro e w9 ⟨v794, v797, v800, rfl, ho0, ho1, ho2, hb⟩; refine ⟨_, rfl, ?_⟩; have n0_ := Rl ho0 HB; have n1_ := Rl ho1 HB; have n2_ := Rl ho2 HB; have n3_ := Bb HB hb; clear HB; revert n0_ n1_ n2_ n3_; intro HO795 HO798 HO801 HB; (try clear hb); (try clear hb2); (try clear hk); (try clear hi); (try clear ho0); (try clear ho1); (try clear ho2)) | ((with_reducible refine gate_dst (N := 5) rfl ?_); (try (refine gate_guard (by rfl) ?_; dsimp only)); refine bE 5 #[.int .i64 0, .int .i64 0, .int .i64 0, .slice none 0 0] 28 ?_; intro gb802 hg w10 hbox hb; have n0_ := Rb HO795 hb; have n1_ := Rb HO798 hb; have n2_ := Rb HO801 hb; have n3_ := Bb HB hb; have n4_ := am (hbox); have n5_ := Gl HB hg; have n6_ := Gl HB hg; clear HO795 HO798 HO801 HB; revert n0_ n1_ n2_ n3_ n4_ n5_ n6_; intro HO795 HO798 HO801 HB BK802 GW802 GE802; clear hb hbox hg; obtain ⟨hcz11_0, hcz11_1, hcz11_2, hcz11_3, hfz11_0, hfz11_1, hfz11_2, hfz11_3⟩ := cf4 (w := w10) BK802; obtain ⟨Ao12, co12, eo12⟩ := Kd.R_slice HO795.out; subst eo12; obtain ⟨Ao13, co13, eo13⟩ := Kd.R_slice HO798.out; subst eo13; obtain ⟨Ao14, co14, eo14⟩ := Kd.R_slice HO801.out; subst eo14) | ((with_reducible refine gate_callee (f := 39) rfl ?_); refine gL (some 55) Try.func39 #[.agg #[.int .i64 t790, .int .i64 t791, .int .i64 t792, .slice Ao12 t793.length co12], .slice Ao13 t796.length co13, .slice Ao14 t799.length co14] ?_; (with_reducible refine (impl_FalseAnswers.calls k t790 t791 t792 _ _ t793 _ _ t796 _ _ t799 t803 t806 _ ?side1 ?side2 ?side3 ?side4 ?side5 ?side6 A6.out).mono ?_); (case side1 => refine (Kd.R_reads' (e := 3) (base := w.heap.size) (ok := fun k_ => True) (n := t793.length) (c := co12) ?_).2.2; exact (Rz (Kd.R_mono (Kd.R_far (p := ⟨gb802, 3, none⟩) (Kd.R_far (p := ⟨gb802, 2, none⟩) (Kd.R_far (p := ⟨gb802, 1, none⟩) (Kd.R_far (p := ⟨gb802, 0, none⟩) (Kd.R_types HO795.out BK802.out (by decide)) (fun _ hk => hk.2) (.int .i64 t790)) (fun _ hk => hk.2) (.int .i64 t791)) (fun _ hk => hk.2) (.int .i64 t792)) (fun _ hk => hk.2) (.slice Ao12 t793.length co12)) (fun _ h_ => h_.1)))); (case side2 => exact (Kd.R_reads' HO795.out).2.1); (case side3 => refine (Kd.R_reads' (e := 9) (base := w.heap.size) (ok := fun k_ => some k_ ≠ (.slice Ao14 t799.length co14 : Value).ownBlock) (n := t796.length) (c := co13) ?_).2.2; exact (Rz (Kd.R_mono (Kd.R_far (p := ⟨gb802, 3, none⟩) (Kd.R_far (p := ⟨gb802, 2, none⟩) (Kd.R_far (p := ⟨gb802, 1, none⟩) (Kd.R_far (p := ⟨gb802, 0, none⟩) (Kd.R_types HO798.out BK802.out (by decide)) (fun _ hk => hk.2) (.int .i64 t790)) (fun _ hk => hk.2) (.int .i64 t791)) (fun _ hk => hk.2) (.int .i64 t792)) (fun _ hk => hk.2) (.slice Ao12 t793.length co12)) (fun _ h_ => h_.1)))); (case side4 => exact (Kd.R_reads' HO798.out).2.1); (case side5 => refine (Kd.R_reads' (e := 9) (base := w.heap.size) (ok := fun k_ => some k_ ≠ (.slice Ao13 t796.length co13 : Value).ownBlock) (n := t799.length) (c := co14) ?_).2.2; exact (Rz (Kd.R_mono (Kd.R_far (p := ⟨gb802, 3, none⟩) (Kd.R_far (p := ⟨gb802, 2, none⟩) (Kd.R_far (p := ⟨gb802, 1, none⟩) (Kd.R_far (p := ⟨gb802, 0, none⟩) (Kd.R_types HO801.out BK802.out (by decide)) (fun _ hk => hk.2) (.int .i64 t790)) (fun _ hk => hk.2) (.int .i64 t791)) (fun _ hk => hk.2) (.int .i64 t792)) (fun _ hk => hk.2) (.slice Ao12 t793.length co12)) (fun _ h_ => h_.1)))); (case side6 => exact (Kd.R_reads' HO801.out).2.1); rintro e w15 ⟨v804, rfl, ho0, hb⟩; refine ⟨_, rfl, ?_⟩; have n0_ := am (Kd.R_elder' (Rz (Kd.R_mono (Kd.R_far (p := ⟨gb802, 3, none⟩) (Kd.R_far (p := ⟨gb802, 2, none⟩) (Kd.R_far (p := ⟨gb802, 1, none⟩) (Kd.R_far (p := ⟨gb802, 0, none⟩) (Kd.R_types HO795.out BK802.out (by decide)) (fun _ hk => hk.2) (.int .i64 t790)) (fun _ hk => hk.2) (.int .i64 t791)) (fun _ hk => hk.2) (.int .i64 t792)) (fun _ hk => hk.2) (.slice Ao12 t793.length co12)) (fun _ h_ => h_.1))) (Kd.R_base ho0) hb); have n1_ := am (Kd.R_below (Rz (Kd.R_mono (Kd.R_far (p := ⟨gb802, 3, none⟩) (Kd.R_far (p := ⟨gb802, 2, none⟩) (Kd.R_far (p := ⟨gb802, 1, none⟩) (Kd.R_far (p := ⟨gb802, 0, none⟩) (Kd.R_types HO798.out BK802.out (by decide)) (fun _ hk => hk.2) (.int .i64 t790)) (fun _ hk => hk.2) (.int .i64 t791)) (fun _ hk => hk.2) (.int .i64 t792)) (fun _ hk => hk.2) (.slice Ao12 t793.length co12)) (fun _ h_ => h_.1))) hb); have n2_ := am (Kd.R_below (Rz (Kd.R_mono (Kd.R_far (p := ⟨gb802, 3, none⟩) (Kd.R_far (p := ⟨gb802, 2, none⟩) (Kd.R_far (p := ⟨gb802, 1, none⟩) (Kd.R_far (p := ⟨gb802, 0, none⟩) (Kd.R_types HO801.out BK802.out (by decide)) (fun _ hk => hk.2) (.int .i64 t790)) (fun _ hk => hk.2) (.int .i64 t791)) (fun _ hk => hk.2) (.int .i64 t792)) (fun _ hk => hk.2) (.slice Ao12 t793.length co12)) (fun _ h_ => h_.1))) hb); have n3_ := am (Kd.R_lower (Kd.R_new' ho0 (Kd.R_lt (Rz (Kd.R_mono (Kd.R_far (p := ⟨gb802, 3, none⟩) (Kd.R_far (p := ⟨gb802, 2, none⟩) (Kd.R_far (p := ⟨gb802, 1, none⟩) (Kd.R_far (p := ⟨gb802, 0, none⟩) (Kd.R_types HO795.out BK802.out (by decide)) (fun _ hk => hk.2) (.int .i64 t790)) (fun _ hk => hk.2) (.int .i64 t791)) (fun _ hk => hk.2) (.int .i64 t792)) (fun _ hk => hk.2) (.slice Ao12 t793.length co12)) (fun _ h_ => h_.1))))) (below_size (w := w) (Bq))); have n4_ := am (blk_below (g := gb802) (o := .cells #[.int .i64 t790, .int .i64 t791, .int .i64 t792, .slice Ao12 t793.length co12] 28 (0, 0)) (by (with_reducible repeat (first | refine blk_drewN ?_ _ | refine blk_drew ?_ | refine blk_alloc ?_ _)); refine blk_put (cs := #[.int .i64 t790, .int .i64 t791, .int .i64 t792, .slice none 0 0]) ?_ 3 _ rfl; (with_reducible repeat (first | refine blk_drewN ?_ _ | refine blk_drew ?_ | refine blk_alloc ?_ _)); refine blk_put (cs := #[.int .i64 t790, .int .i64 t791, .int .i64 0, .slice none 0 0]) ?_ 2 _ rfl; (with_reducible repeat (first | refine blk_drewN ?_ _ | refine blk_drew ?_ | refine blk_alloc ?_ _)); refine blk_put (cs := #[.int .i64 t790, .int .i64 0, .int .i64 0, .slice none 0 0]) ?_ 1 _ rfl; (with_reducible repeat (first | refine blk_drewN ?_ _ | refine blk_drew ?_ | refine blk_alloc ?_ _)); refine blk_put (cs := #[.int .i64 0, .int .i64 0, .int .i64 0, .slice none 0 0]) ?_ 0 _ rfl; exact Kz BK802.out) hb); have n5_ := Bc HB hb; clear HO795 HO798 HO801 BK802 HB; revert n0_ n1_ n2_ n3_ n4_ n5_; intro HO795 HO798 HO801 HO805 BK802 HB; (try clear hb); (try clear hb2); (try clear hk); (try clear hi); (try clear ho0); obtain ⟨hcz16_0, hcz16_1, hcz16_2, hcz16_3, hfz16_0, hfz16_1, hfz16_2, hfz16_3⟩ := cf4 (w := w15) BK802) | ((with_reducible refine gate_callee (f := 38) rfl ?_); refine gL (some 62) Try.func38 #[.agg #[.int .i64 t790, .int .i64 t791, .int .i64 t792, .slice Ao12 t793.length co12], .slice Ao13 t796.length co13, .slice Ao14 t799.length co14] ?_; (with_reducible refine (spec_FalseAnswers.calls k t790 t791 t792 _ _ t793 _ _ t796 _ _ t799 t807 t810 _ ?side1 ?side2 ?side3 ?side4 ?side5 ?side6 A7.out).mono ?_); (case side1 => exact Cz ((Kd.R_reads' HO795.out).2.2)); (case side2 => exact (Kd.R_reads' HO795.out).2.1); (case side3 => exact Cz ((Kd.R_reads' HO798.out).2.2)); (case side4 => exact (Kd.R_reads' HO798.out).2.1); (case side5 => exact Cz ((Kd.R_reads' HO801.out).2.2)); (case side6 => exact (Kd.R_reads' HO801.out).2.1); rintro e w17 ⟨v808, rfl, ho0, hb⟩; refine ⟨_, rfl, ?_⟩; have n0_ := Re HO795 (Kd.R_base ho0) hb; have n1_ := Rb HO798 hb; have n2_ := Rb HO801 hb; have n3_ := Re HO805 (Kd.R_base ho0) hb; have n4_ := Rm (Kd.R_new' (Kd.R_new' ho0 (Kd.R_lt (Rz HO795.out))) (Kd.R_lt (Rz HO805.out))) HB; have n5_ := Kb BK802 hb; have n6_ := Bc HB hb; clear HO795 HO798 HO801 HO805 BK802 HB; revert n0_ n1_ n2_ n3_ n4_ n5_ n6_; intro HO795 HO798 HO801 HO805 HO809 BK802 HB; (try clear hb); (try clear hb2); (try clear hk); (try clear hi); (try clear ho0)))
  (try simp only [aP])
  go_cut [73] (fun v73 wc => ∃ (kq : Nat) (x73_7 : Bool), v73 = .bool x73_7 ∧ Aside0 (laws_FnFalseAnswers.j0 kq l1 t796 t799 t803 t806 x73_7 t790 t791 t792 t793 = some r) ∧ Aside0 (kq ≤ k) ∧ Aside0 (Kd.R Kd.string 9 wc w.heap.size (fun k_ => some k_ ≠ ((.slice Ao14 t799.length co14) : Value).ownBlock) (.slice Ao13 t796.length co13) t796) ∧ Aside0 (Kd.R Kd.string 9 wc w.heap.size (fun k_ => some k_ ≠ ((.slice Ao13 t796.length co13) : Value).ownBlock) (.slice Ao14 t799.length co14) t799) ∧ Aside0 (Kd.R (Kd.int .i64) 3 wc w.heap.size (fun k_ => some k_ ≠ ((.slice Ao12 t793.length co12) : Value).ownBlock) v804 t803) ∧ Aside0 (Kd.R (Kd.int .i64) 3 wc w.heap.size (fun k_ => some k_ ≠ (v804 : Value).ownBlock) (.slice Ao12 t793.length co12) t793) ∧ Aside0 (wc.heap[gb802]? = some (.cells #[.int .i64 t790, .int .i64 t791, .int .i64 t792, (.slice Ao12 t793.length co12)] 28 (0, 0))) ∧ Aside0 (Below w.heap.size w wc))
  case first =>
   have H := HC8.out; clear HC8
   by_cases c18 : (t806 != t810) = true
   ·rw [if_pos c18] at H
    have c18b0 : (t806 != t810) = true := c18
    (try (have c18b1 : decide (t806 = t810) = false := by simpa using c18))
    (try (have c18b2 : (t806 == t810) = false := by simpa using c18))
    (try (have c18b3 : ¬ (t806 = t810) := by simpa using c18))
    (try (have c18b4 : (!(t806 == t810)) = true := c18b0))
    clear c18
    (first | rw [c18b0] | (simp only [i64_w, i32_w]; rw [c18b0]) | skip)
    exact absurd (H.trans (congrArg some HT_.out)) (laws_FnFalseAnswers.j0.dead _ _ _ _ _ _ _ _ _ _)
   ·rw [if_neg c18] at H
    have c18b0 : (t806 != t810) = false := by simpa using c18
    (try (have c18b1 : decide (t806 = t810) = true := by simpa using c18))
    (try (have c18b2 : (t806 == t810) = true := by simpa using c18))
    (try (have c18b3 : (!(t806 == t810)) = false := c18b0))
    clear c18
    (first | rw [c18b0] | (simp only [i64_w, i32_w]; rw [c18b0]) | skip)
    replace H := Option.bind_eq_some_iff.mp H; obtain ⟨t811, A190, H⟩ := H; (try dsimp -simprocs only at H); have A19 := am A190; clear A190; have H' := am H; clear H; obtain ⟨Ao20, co20, eo20⟩ := Kd.R_slice HO805.out; subst eo20; obtain ⟨Ao21, co21, eo21⟩ := Kd.R_slice HO809.out; subst eo21
    go_wp2_with (first | (go_at_call 77; (with_reducible refine (laws_pSameInts.calls k _ _ t803 _ _ t807 t811 _ ?side1 ?side2 ?side3 ?side4 A19.out).mono ?_); (case side1 => exact Cz ((Kd.R_reads' HO805.out).2.2)); (case side2 => exact (Kd.R_reads' HO805.out).2.1); (case side3 => exact Cz ((Kd.R_reads' HO809.out).2.2)); (case side4 => exact (Kd.R_reads' HO809.out).2.1); rintro e w' ⟨rfl, ⟨nd, rfl⟩⟩))
    go_meet
    case rel => exact ⟨_, (!t811), wZ, H', ⟨by first | omega | exact Nat.le_refl _⟩, ⟨Rz HO798.out⟩, ⟨Rz HO801.out⟩, ⟨Rz (Kd.R_mono HO805.out (fun _ hk => hk.1.2))⟩, ⟨Rz (Kd.R_mono HO795.out (fun _ hk => hk.1.2))⟩, ⟨Kz BK802.out⟩, ⟨Bq⟩⟩
  case rest =>
   clear HC8
   try clear c1
   try clear p2
   try clear c3
   try clear c4
   try clear c7
   try clear c13
   try clear c18
   try clear c18b0
   try clear c18b1
   try clear c18b2
   try clear hcz11_0
   try clear hcz11_1
   try clear hcz11_2
   try clear hcz11_3
   try clear hcz16_0
   try clear hcz16_1
   try clear hcz16_2
   try clear hcz16_3
   try clear hfz11_0
   try clear hfz11_1
   try clear hfz11_2
   try clear hfz11_3
   try clear hfz16_0
   try clear hfz16_1
   try clear hfz16_2
   try clear hfz16_3
   obtain ⟨kq, x73_7, rfl, HA, HJ7, HO_6, HO_7, HO_8, HO_803003, BK802, HB⟩ := hcut; cases kq with
   | zero => exact absurd HA.out (by simp [laws_FnFalseAnswers.j0])
   | succ kj7 =>
    have H := HA.out; clear HA
    simp only [laws_FnFalseAnswers.j0] at H
    by_cases c22 : x73_7 = true
    ·subst c22
     rw [if_pos rfl] at H; exact absurd (Option.some.inj H) (by rw [HT_.out]; decide)
    ·replace c22 := Bool.eq_false_iff.mpr c22
     subst c22
     rw [if_neg (show ¬ (false = true) by decide)] at H; have HC23 := am H; clear H
     go_upto_if 74 with (fail)
     go_cut [] (fun wc => ∃ (kq : Nat), Aside0 (laws_FnFalseAnswers.j2 kq l1 = some r) ∧ Aside0 (kq ≤ kj7) ∧ Aside0 (Kd.R (Kd.int .i64) 3 wc w.heap.size (fun _ => True) (.slice Ao12 t793.length co12) t793) ∧ Aside0 (wc.heap[gb802]? = some (.cells #[.int .i64 t790, .int .i64 t791, .int .i64 t792, (.slice Ao12 t793.length co12)] 28 (0, 0))) ∧ Aside0 (Below w.heap.size w wc))
     case first =>
      have H := HC23.out; clear HC23
      by_cases c24 : t806 = true
      ·subst c24
       rw [if_pos rfl] at H; have H' := am H; clear H
       go_wp2
       go_loopg [77] kj7 (fun kq v77 w' => ∃ (x77_2 : Int), v77 = .int .i64 x77_2 ∧ Aside0 (laws_FnFalseAnswers.l0 kq l1 t796 t803 t799 (t799.length : Int) x77_2 t790 t791 t792 t793 = some r) ∧ Aside0 (kq ≤ kj7) ∧ Aside0 (Kd.R Kd.string 9 w' w.heap.size (fun k_ => some k_ ≠ ((.slice Ao14 t799.length co14) : Value).ownBlock) (.slice Ao13 t796.length co13) t796) ∧ Aside0 (Kd.R (Kd.int .i64) 3 w' w.heap.size (fun k_ => some k_ ≠ ((.slice Ao12 t793.length co12) : Value).ownBlock) v804 t803) ∧ Aside0 (Kd.R Kd.string 9 w' w.heap.size (fun k_ => some k_ ≠ ((.slice Ao13 t796.length co13) : Value).ownBlock) (.slice Ao14 t799.length co14) t799) ∧ Aside0 (Kd.R (Kd.int .i64) 3 w' w.heap.size (fun k_ => some k_ ≠ (v804 : Value).ownBlock) (.slice Ao12 t793.length co12) t793) ∧ Aside0 (w'.heap[gb802]? = some (.cells #[.int .i64 t790, .int .i64 t791, .int .i64 t792, (.slice Ao12 t793.length co12)] 28 (0, 0))) ∧ Aside0 (Below w.heap.size w w'))
       case atStart => exact ⟨(0), wZ, H', ⟨Nat.le_refl _⟩, ⟨Rz HO_6.out⟩, ⟨Rz HO_8.out⟩, ⟨Rz HO_7.out⟩, ⟨Rz HO_803003.out⟩, ⟨Kz BK802.out⟩, ⟨Bq⟩⟩
       case round =>
        clear H'
        try clear c1
        try clear c2
        try clear p2
        try clear c3
        try clear c4
        try clear c7
        try clear c13
        try clear c18
        try clear c18b0
        try clear c18b1
        try clear c18b2
        try clear c22
        try clear c24
        try clear hcz11_0
        try clear hcz11_1
        try clear hcz11_2
        try clear hcz11_3
        try clear hcz16_0
        try clear hcz16_1
        try clear hcz16_2
        try clear hcz16_3
        try clear hfz11_0
        try clear hfz11_1
        try clear hfz11_2
        try clear hfz11_3
        try clear hfz16_0
        try clear hfz16_1
        try clear hfz16_2
        try clear hfz16_3
        try clear p2
        obtain ⟨x77_2, rfl, HA, HK2, HO_6, HO_8, HO_75, HO_803003, BK802, HB⟩ := hrel; cases gk with
        | zero => exact absurd HA.out (by simp [laws_FnFalseAnswers.l0])
        | succ k2 =>
         have H := HA.out; clear HA
         simp only [laws_FnFalseAnswers.l0] at H
         by_cases c25 : x77_2 < (t799.length : Int)
         ·rw [if_pos c25] at H
          have c25b0 : decide (x77_2 < (t799.length : Int)) = true := decide_eq_true c25; clear c25
          (first | rw [c25b0] | (simp only [i64_w, i32_w]; rw [c25b0]) | skip)
          by_cases c26 : 0 ≤ x77_2
          ·rw [if_pos c26] at H
           have c26b0 : decide (0 ≤ x77_2) = true := decide_eq_true c26; clear c26
           by_cases c27 : x77_2 < (t799.length : Int)
           ·rw [if_pos c27] at H
            have c27b0 : decide (x77_2 < (t799.length : Int)) = true := decide_eq_true c27; clear c27; replace H := Option.bind_eq_some_iff.mp H; obtain ⟨⟨t813, t814⟩, A280, H⟩ := H; (try dsimp -simprocs only at H); have A28 := am A280; clear A280
            by_cases c29 : t814 = true
            ·subst c29
             rw [if_pos rfl] at H; replace H := Option.bind_eq_some_iff.mp H; obtain ⟨t815, A300, H⟩ := H; (try dsimp -simprocs only at H); have A30 := am A300; clear A300
             by_cases c31 : t813 = true
             ·subst c31
              rw [if_pos rfl] at H; replace H := Option.bind_eq_some_iff.mp H; obtain ⟨t816, A320, H⟩ := H; (try dsimp -simprocs only at H); have A32 := am A320; clear A320
              by_cases c33 : (t815 != (!t816)) = true
              ·rw [if_pos c33] at H
               have c33b0 : (t815 != (!t816)) = true := c33
               (try (have c33b1 : decide (t815 = (!t816)) = false := by simpa using c33))
               (try (have c33b2 : (t815 == (!t816)) = false := by simpa using c33))
               (try (have c33b3 : ¬ (t815 = (!t816)) := by simpa using c33))
               (try (have c33b4 : (!(t815 == (!t816))) = true := c33b0))
               clear c33; exact absurd (Option.some.inj H) (by rw [HT_.out]; decide)
              ·rw [if_neg c33] at H
               have c33b0 : (t815 != (!t816)) = false := by simpa using c33
               (try (have c33b1 : decide (t815 = (!t816)) = true := by simpa using c33))
               (try (have c33b2 : (t815 == (!t816)) = true := by simpa using c33))
               (try (have c33b3 : (!(t815 == (!t816))) = false := c33b0))
               clear c33; have H' := am H; clear H; obtain ⟨ad812, e812, hx812_0⟩ := Kd.at_string (Kd.R_reads' HO_75.out).2.2 x77_2 dT dT; cases e812; have p812 := eT (0 ≤ (x77_2 : Int)); have q812 := eT (x77_2 < (t799.length : Int)); obtain ⟨hcz34_0, hcz34_1, hcz34_2, hcz34_3, hfz34_0, hfz34_1, hfz34_2, hfz34_3⟩ := cf4 (w := wr) BK802
               go_wp2_with (first | ((with_reducible refine gate_callee (f := 51) rfl ?_); refine gL (some 85) Try.func51 #[.agg #[.int .i64 t790, .int .i64 t791, .int .i64 t792, .slice Ao12 t793.length co12], .string (rdOf ByteArray.empty t799 x77_2)] ?_; (with_reducible refine (impl_BloomHas.calls k2 t790 t791 t792 _ _ t793 (rdOf ByteArray.empty t799 x77_2) true true _ ?side1 ?side2 A28.out).mono ?_); (case side1 => exact Cz ((Kd.R_reads' HO_803003.out).2.2)); (case side2 => exact (Kd.R_reads' HO_803003.out).2.1); rintro e w35 ⟨rfl, hb⟩; refine ⟨_, rfl, ?_⟩; have n0_ := Rb HO_6 hb; have n1_ := Rb HO_8 hb; have n2_ := Rb HO_75 hb; have n3_ := Rb HO_803003 hb; have n4_ := Kb BK802 hb; have n5_ := Bc HB hb; clear HO_6 HO_8 HO_75 HO_803003 BK802 HB; revert n0_ n1_ n2_ n3_ n4_ n5_; intro HO_6 HO_8 HO_75 HO_803003 BK802 HB; (try clear hb); (try clear hb2); (try clear hk); (try clear hi); obtain ⟨Ao36, co36, eo36⟩ := Kd.R_slice HO_8.out; subst eo36) | (go_at_call 78; (with_reducible refine (laws_pHas.calls k2 _ _ t803 x77_2 t815 _ ?side1 ?side2 A30.out).mono ?_); (case side1 => exact Cz ((Kd.R_reads' HO_8.out).2.2)); (case side2 => exact (Kd.R_reads' HO_8.out).2.1); rintro e w' ⟨rfl, ⟨nd, rfl⟩⟩) | (go_at_call 79; (with_reducible refine (laws_rHasText.calls k2 _ _ t796 (rdOf ByteArray.empty t799 x77_2) t816 _ ?side1 ?side2 A32.out).mono ?_); (case side1 => exact Cz ((Kd.R_reads' HO_6.out).2.2)); (case side2 => exact (Kd.R_reads' HO_6.out).2.1); rintro e w' ⟨rfl, ⟨nd, rfl⟩⟩))
               go_roundg k2
               case measure => have := HJ7.out; have := HK2.out; omega
               case rel => exact ⟨(wrap64 (x77_2 + 1)), wZ, H', ⟨by have := HJ7.out; have := HK2.out; omega⟩, ⟨Rz HO_6.out⟩, ⟨Rz HO_8.out⟩, ⟨Rz HO_75.out⟩, ⟨Rz HO_803003.out⟩, ⟨Kz BK802.out⟩, ⟨Bq⟩⟩
             ·replace c31 := Bool.eq_false_iff.mpr c31
              subst c31
              rw [if_neg (show ¬ (false = true) by decide)] at H
              by_cases c37 : (t815 != false) = true
              ·rw [if_pos c37] at H
               have c37b0 : (t815 != false) = true := c37
               (try (have c37b1 : decide (t815 = false) = false := by simpa using c37))
               (try (have c37b2 : (t815 == false) = false := by simpa using c37))
               (try (have c37b3 : ¬ (t815 = false) := by simpa using c37))
               (try (have c37b4 : (!(t815 == false)) = true := c37b0))
               clear c37; exact absurd (Option.some.inj H) (by rw [HT_.out]; decide)
              ·rw [if_neg c37] at H
               have c37b0 : (t815 != false) = false := by simpa using c37
               (try (have c37b1 : decide (t815 = false) = true := by simpa using c37))
               (try (have c37b2 : (t815 == false) = true := by simpa using c37))
               (try (have c37b3 : (!(t815 == false)) = false := c37b0))
               clear c37; have H' := am H; clear H; obtain ⟨ad812, e812, hx812_0⟩ := Kd.at_string (Kd.R_reads' HO_75.out).2.2 x77_2 dT dT; cases e812; have p812 := eT (0 ≤ (x77_2 : Int)); have q812 := eT (x77_2 < (t799.length : Int)); obtain ⟨hcz38_0, hcz38_1, hcz38_2, hcz38_3, hfz38_0, hfz38_1, hfz38_2, hfz38_3⟩ := cf4 (w := wr) BK802
               go_wp2_with (first | ((with_reducible refine gate_callee (f := 51) rfl ?_); refine gL (some 85) Try.func51 #[.agg #[.int .i64 t790, .int .i64 t791, .int .i64 t792, .slice Ao12 t793.length co12], .string (rdOf ByteArray.empty t799 x77_2)] ?_; (with_reducible refine (impl_BloomHas.calls k2 t790 t791 t792 _ _ t793 (rdOf ByteArray.empty t799 x77_2) false true _ ?side1 ?side2 A28.out).mono ?_); (case side1 => exact Cz ((Kd.R_reads' HO_803003.out).2.2)); (case side2 => exact (Kd.R_reads' HO_803003.out).2.1); rintro e w39 ⟨rfl, hb⟩; refine ⟨_, rfl, ?_⟩; have n0_ := Rb HO_6 hb; have n1_ := Rb HO_8 hb; have n2_ := Rb HO_75 hb; have n3_ := Rb HO_803003 hb; have n4_ := Kb BK802 hb; have n5_ := Bc HB hb; clear HO_6 HO_8 HO_75 HO_803003 BK802 HB; revert n0_ n1_ n2_ n3_ n4_ n5_; intro HO_6 HO_8 HO_75 HO_803003 BK802 HB; (try clear hb); (try clear hb2); (try clear hk); (try clear hi); obtain ⟨Ao40, co40, eo40⟩ := Kd.R_slice HO_8.out; subst eo40) | (go_at_call 78; (with_reducible refine (laws_pHas.calls k2 _ _ t803 x77_2 t815 _ ?side1 ?side2 A30.out).mono ?_); (case side1 => exact Cz ((Kd.R_reads' HO_8.out).2.2)); (case side2 => exact (Kd.R_reads' HO_8.out).2.1); rintro e w' ⟨rfl, ⟨nd, rfl⟩⟩))
               go_roundg k2
               case measure => have := HJ7.out; have := HK2.out; omega
               case rel => exact ⟨(wrap64 (x77_2 + 1)), wZ, H', ⟨by have := HJ7.out; have := HK2.out; omega⟩, ⟨Rz HO_6.out⟩, ⟨Rz HO_8.out⟩, ⟨Rz HO_75.out⟩, ⟨Rz HO_803003.out⟩, ⟨Kz BK802.out⟩, ⟨Bq⟩⟩
            ·replace c29 := Bool.eq_false_iff.mpr c29
             subst c29
             rw [if_neg (show ¬ (false = true) by decide)] at H; exact absurd (Option.some.inj H) (by rw [HT_.out]; decide)
           ·rw [if_neg c27] at H
            exact absurd H (by simp)
          ·rw [if_neg c26] at H
           exact absurd H (by simp)
         ·rw [if_neg c25] at H
          have c25b0 : decide (x77_2 < (t799.length : Int)) = false := decide_eq_false c25; clear c25
          (first | rw [c25b0] | (simp only [i64_w, i32_w]; rw [c25b0]) | skip)
          have H' := am H; clear H
          go_wp2
          go_meet
          case rel => exact ⟨_, H', ⟨by have := HJ7.out; have := HK2.out; first | omega | exact Nat.le_refl _⟩, ⟨Rz (Kd.R_mono HO_803003.out (fun _ hk => trivial))⟩, ⟨Kz BK802.out⟩, ⟨Bq⟩⟩
      ·replace c24 := Bool.eq_false_iff.mpr c24
       subst c24
       rw [if_neg (show ¬ (false = true) by decide)] at H; have H' := am H; clear H
       go_wp2
       go_meet
       case rel => exact ⟨_, H', ⟨by have := HJ7.out; first | omega | exact Nat.le_refl _⟩, ⟨Rz (Kd.R_mono HO_803003.out (fun _ hk => trivial))⟩, ⟨Kz BK802.out⟩, ⟨Bq⟩⟩
     case rest =>
      clear HC23
      try clear c1
      try clear c2
      try clear p2
      try clear c3
      try clear c4
      try clear c5
      try clear p6
      try clear c7
      try clear p8
      try clear q8
      try clear hx8
      try clear c13
      try clear c18
      try clear c18b0
      try clear c18b1
      try clear c18b2
      try clear c22
      try clear c24
      try clear c25
      try clear c25b0
      try clear c26
      try clear c26b0
      try clear c27
      try clear c27b0
      try clear c29
      try clear c31
      try clear c33
      try clear c33b0
      try clear c33b1
      try clear c33b2
      try clear c37
      try clear c37b0
      try clear c37b1
      try clear c37b2
      try clear c38
      try clear c39
      try clear hcz11_0
      try clear hcz11_1
      try clear hcz11_2
      try clear hcz11_3
      try clear hcz16_0
      try clear hcz16_1
      try clear hcz16_2
      try clear hcz16_3
      try clear hcz34_0
      try clear hcz34_1
      try clear hcz34_2
      try clear hcz34_3
      try clear hcz38_0
      try clear hcz38_1
      try clear hcz38_2
      try clear hcz38_3
      try clear hfz11_0
      try clear hfz11_1
      try clear hfz11_2
      try clear hfz11_3
      try clear hfz16_0
      try clear hfz16_1
      try clear hfz16_2
      try clear hfz16_3
      try clear hfz34_0
      try clear hfz34_1
      try clear hfz34_2
      try clear hfz34_3
      try clear hfz38_0
      try clear hfz38_1
      try clear hfz38_2
      try clear hfz38_3
      try clear hx812_0
      try clear p2
      try clear p812
      try clear q812
      obtain ⟨kq, HA, HJ22, HO_803003, BK802, HB⟩ := hcut; cases kq with
      | zero => exact absurd HA.out (by simp [laws_FnFalseAnswers.j2])
      | succ kj22 =>
       have H := HA.out; clear HA
       simp only [laws_FnFalseAnswers.j2] at H
       replace H := Option.bind_eq_some_iff.mp H; obtain ⟨⟨t817, t818, t819, t820, t823, t824⟩, A410, H⟩ := H; (try dsimp -simprocs only at H); have A41 := am A410; clear A410; replace H := Option.bind_eq_some_iff.mp H; obtain ⟨⟨t826, t827, t828⟩, A420, H⟩ := H; (try dsimp -simprocs only at H); have A42 := am A420; clear A420; replace H := Option.bind_eq_some_iff.mp H; obtain ⟨⟨t829, t830, t831⟩, A430, H⟩ := H; (try dsimp -simprocs only at H); have A43 := am A430; clear A430; replace H := Option.bind_eq_some_iff.mp H; obtain ⟨⟨t832, t833⟩, A440, H⟩ := H; (try dsimp -simprocs only at H); have A44 := am A440; clear A440; have HC45 := am H; clear H
       go_upto_region 20 with (first | ((with_reducible refine gate_callee (f := 80) rfl ?_); refine gL (some 106) Try.func80 #[.slice A1 l1.length c1] ?_; (with_reducible refine (spec_DrawShareOf.calls kj22 _ _ l1 t817 t818 t819 t820 t823 t824 _ ?side1 ?side2 A41.out).mono ?_); (case side1 => exact Cz (Kd.C_below HR1.out HB.out)); (case side2 => exact HC1.out); rintro e w46 ⟨v821, rfl, ho0, hb⟩; refine ⟨_, rfl, ?_⟩; have n0_ := Re HO_803003 (Kd.R_base ho0) hb; have n1_ := Rm (Kd.R_new' ho0 (Kd.R_lt (Rz HO_803003.out))) HB; have n2_ := Kb BK802 hb; have n3_ := Bc HB hb; clear HO_803003 BK802 HB; revert n0_ n1_ n2_ n3_; intro HO_803003 HO822 BK802 HB; (try clear hb); (try clear hb2); (try clear hk); (try clear hi); (try clear ho0)) | ((with_reducible refine gate_dst (N := 16) rfl ?_); (try (refine gate_guard (by rfl) ?_; dsimp only)); refine bE 16 #[.int .i64 0, .int .i64 0, .int .i64 0, .slice none 0 0] 28 ?_; intro gb825 hg w47 hbox hb; have n0_ := Rb HO_803003 hb; have n1_ := Rb HO822 hb; have n2_ := Kb BK802 hb; have n3_ := Bc HB hb; have n4_ := am (hbox); have n5_ := Gm HB hg; have n6_ := Gm HB hg; have n7_ := Nl BK802 hg; have n8_ := Ng BK802 hg; clear HO_803003 HO822 BK802 HB; revert n0_ n1_ n2_ n3_ n4_ n5_ n6_ n7_ n8_; intro HO_803003 HO822 BK802 HB BK825 GW825 GE825 NB802_825 NB825_802; clear hb hbox hg; have hnb48 := NB825_802.out; have hnc48 := NB802_825.out; obtain ⟨hcz49_0, hcz49_1, hcz49_2, hcz49_3, hfz49_0, hfz49_1, hfz49_2, hfz49_3⟩ := cf4 (w := w47) BK825; obtain ⟨Ao50, co50, eo50⟩ := Kd.R_slice HO822.out; subst eo50) | ((with_reducible refine gate_callee (f := 37) rfl ?_); refine gL (some 114) Try.func37 #[.agg #[.int .i64 t817, .int .i64 t818, .int .i64 t819, .slice Ao50 t820.length co50], .string t823, .int .i64 t824] ?_; (with_reducible refine (impl_ShareOf.calls kj22 t817 t818 t819 _ _ t820 t823 t824 t826 t827 t828 _ ?side1 ?side2 A42.out).mono ?_); (case side1 => refine (Kd.R_reads' (e := 3) (base := w.heap.size) (ok := fun k_ => (True ∧ some k_ ≠ (.slice Ao12 t793.length co12 : Value).ownBlock)) (n := t820.length) (c := co50) ?_).2.2; exact (Rz (Kd.R_mono (Kd.R_far (p := ⟨gb825, 3, none⟩) (Kd.R_far (p := ⟨gb825, 2, none⟩) (Kd.R_far (p := ⟨gb825, 1, none⟩) (Kd.R_far (p := ⟨gb825, 0, none⟩) (Kd.R_types HO822.out BK825.out (by decide)) (fun _ hk => hk.2) (.int .i64 t817)) (fun _ hk => hk.2) (.int .i64 t818)) (fun _ hk => hk.2) (.int .i64 t819)) (fun _ hk => hk.2) (.slice Ao50 t820.length co50)) (fun _ h_ => h_.1)))); (case side2 => exact (Kd.R_reads' HO822.out).2.1); rintro e w51 ⟨rfl, hb⟩; refine ⟨_, rfl, ?_⟩; have n0_ := am (Kd.R_below (Rz (Kd.R_mono (Kd.R_far (p := ⟨gb825, 3, none⟩) (Kd.R_far (p := ⟨gb825, 2, none⟩) (Kd.R_far (p := ⟨gb825, 1, none⟩) (Kd.R_far (p := ⟨gb825, 0, none⟩) (Kd.R_types HO_803003.out BK825.out (by decide)) (fun _ hk => hk.2) (.int .i64 t817)) (fun _ hk => hk.2) (.int .i64 t818)) (fun _ hk => hk.2) (.int .i64 t819)) (fun _ hk => hk.2) (.slice Ao50 t820.length co50)) (fun _ h_ => h_.1))) hb); have n1_ := am (Kd.R_below (Rz (Kd.R_mono (Kd.R_far (p := ⟨gb825, 3, none⟩) (Kd.R_far (p := ⟨gb825, 2, none⟩) (Kd.R_far (p := ⟨gb825, 1, none⟩) (Kd.R_far (p := ⟨gb825, 0, none⟩) (Kd.R_types HO822.out BK825.out (by decide)) (fun _ hk => hk.2) (.int .i64 t817)) (fun _ hk => hk.2) (.int .i64 t818)) (fun _ hk => hk.2) (.int .i64 t819)) (fun _ hk => hk.2) (.slice Ao50 t820.length co50)) (fun _ h_ => h_.1))) hb); have n2_ := am (blk_below (g := gb802) (o := .cells #[.int .i64 t790, .int .i64 t791, .int .i64 t792, .slice Ao12 t793.length co12] 28 (0, 0)) (by (with_reducible repeat (first | refine blk_drewN ?_ _ | refine blk_drew ?_ | refine blk_alloc ?_ _)); refine blk_far ?_ NB802_825.out _; (with_reducible repeat (first | refine blk_drewN ?_ _ | refine blk_drew ?_ | refine blk_alloc ?_ _)); refine blk_far ?_ NB802_825.out _; (with_reducible repeat (first | refine blk_drewN ?_ _ | refine blk_drew ?_ | refine blk_alloc ?_ _)); refine blk_far ?_ NB802_825.out _; (with_reducible repeat (first | refine blk_drewN ?_ _ | refine blk_drew ?_ | refine blk_alloc ?_ _)); refine blk_far ?_ NB802_825.out _; exact Kz BK802.out) hb); have n3_ := am (blk_below (g := gb825) (o := .cells #[.int .i64 t817, .int .i64 t818, .int .i64 t819, .slice Ao50 t820.length co50] 28 (0, 0)) (by (with_reducible repeat (first | refine blk_drewN ?_ _ | refine blk_drew ?_ | refine blk_alloc ?_ _)); refine blk_put (cs := #[.int .i64 t817, .int .i64 t818, .int .i64 t819, .slice none 0 0]) ?_ 3 _ rfl; (with_reducible repeat (first | refine blk_drewN ?_ _ | refine blk_drew ?_ | refine blk_alloc ?_ _)); refine blk_put (cs := #[.int .i64 t817, .int .i64 t818, .int .i64 0, .slice none 0 0]) ?_ 2 _ rfl; (with_reducible repeat (first | refine blk_drewN ?_ _ | refine blk_drew ?_ | refine blk_alloc ?_ _)); refine blk_put (cs := #[.int .i64 t817, .int .i64 0, .int .i64 0, .slice none 0 0]) ?_ 1 _ rfl; (with_reducible repeat (first | refine blk_drewN ?_ _ | refine blk_drew ?_ | refine blk_alloc ?_ _)); refine blk_put (cs := #[.int .i64 0, .int .i64 0, .int .i64 0, .slice none 0 0]) ?_ 0 _ rfl; exact Kz BK825.out) hb); have n4_ := Bc HB hb; clear HO_803003 HO822 BK802 BK825 HB; revert n0_ n1_ n2_ n3_ n4_; intro HO_803003 HO822 BK802 BK825 HB; (try clear hb); (try clear hb2); (try clear hk); (try clear hi); obtain ⟨hcz52_0, hcz52_1, hcz52_2, hcz52_3, hfz52_0, hfz52_1, hfz52_2, hfz52_3⟩ := cf4 (w := w51) BK825) | ((with_reducible refine gate_callee (f := 36) rfl ?_); refine gL (some 122) Try.func36 #[.agg #[.int .i64 t817, .int .i64 t818, .int .i64 t819, .slice Ao50 t820.length co50], .string t823, .int .i64 t824] ?_; (with_reducible refine (spec_ShareOf.calls kj22 t817 t818 t819 _ _ t820 t823 t824 t829 t830 t831 _ ?side1 ?side2 A43.out).mono ?_); (case side1 => exact Cz ((Kd.R_reads' HO822.out).2.2)); (case side2 => exact (Kd.R_reads' HO822.out).2.1); rintro e w53 ⟨rfl, hb⟩; refine ⟨_, rfl, ?_⟩; have n0_ := Rb HO_803003 hb; have n1_ := Rb HO822 hb; have n2_ := Kb BK802 hb; have n3_ := Kb BK825 hb; have n4_ := Bc HB hb; clear HO_803003 HO822 BK802 BK825 HB; revert n0_ n1_ n2_ n3_ n4_; intro HO_803003 HO822 BK802 BK825 HB; (try clear hb); (try clear hb2); (try clear hk); (try clear hi)) | ((with_reducible refine gate_callee (f := 81) rfl ?_); refine gL (some 129) Try.func81 #[.string t823, .int .i64 t824] ?_; (with_reducible refine (impl_TextsOver.calls kj22 t823 t824 t832 t833 _ A44.out).mono ?_); rintro e w54 ⟨v834, rfl, ho0, hb⟩; refine ⟨_, rfl, ?_⟩; have n0_ := Rb HO_803003 hb; have n1_ := Rb HO822 hb; have n2_ := Rm ho0 HB; have n3_ := Kb BK802 hb; have n4_ := Kb BK825 hb; have n5_ := Bc HB hb; clear HO_803003 HO822 BK802 BK825 HB; revert n0_ n1_ n2_ n3_ n4_ n5_; intro HO_803003 HO822 HO835 BK802 BK825 HB; (try clear hb); (try clear hb2); (try clear hk); (try clear hi); (try clear ho0)))
       (try simp only [aP])
       go_cut [144] (fun v144 wc => ∃ (kq : Nat) (x144_44 : Bool), v144 = .bool x144_44 ∧ Aside0 (laws_FnFalseAnswers.j3 kq l1 t826 t827 t828 t832 t833 x144_44 t817 t818 t819 t820 = some r) ∧ Aside0 (kq ≤ kj22) ∧ Aside0 (Kd.R Kd.string 9 wc w.heap.size (fun _ => True) v834 t832) ∧ Aside0 (Kd.R (Kd.int .i64) 3 wc w.heap.size (fun k_ => some k_ ≠ ((.slice Ao50 t820.length co50) : Value).ownBlock) (.slice Ao12 t793.length co12) t793) ∧ Aside0 (Kd.R (Kd.int .i64) 3 wc w.heap.size (fun k_ => some k_ ≠ ((.slice Ao12 t793.length co12) : Value).ownBlock) (.slice Ao50 t820.length co50) t820) ∧ Aside0 (wc.heap[gb802]? = some (.cells #[.int .i64 t790, .int .i64 t791, .int .i64 t792, (.slice Ao12 t793.length co12)] 28 (0, 0))) ∧ Aside0 (wc.heap[gb825]? = some (.cells #[.int .i64 t817, .int .i64 t818, .int .i64 t819, (.slice Ao50 t820.length co50)] 28 (0, 0))) ∧ Aside0 (Below w.heap.size w wc))
       case first =>
        have H := HC45.out; clear HC45
        by_cases c55 : (t828 != t831) = true
        ·rw [if_pos c55] at H
         have c55b0 : (t828 != t831) = true := c55
         (try (have c55b1 : decide (t828 = t831) = false := by simpa using c55))
         (try (have c55b2 : (t828 == t831) = false := by simpa using c55))
         (try (have c55b3 : ¬ (t828 = t831) := by simpa using c55))
         (try (have c55b4 : (!(t828 == t831)) = true := c55b0))
         clear c55
         (first | rw [c55b0] | (simp only [i64_w, i32_w]; rw [c55b0]) | skip)
         exact absurd (H.trans (congrArg some HT_.out)) (laws_FnFalseAnswers.j3.dead _ _ _ _ _ _ _ _ _ _ _)
        ·rw [if_neg c55] at H
         have c55b0 : (t828 != t831) = false := by simpa using c55
         (try (have c55b1 : decide (t828 = t831) = true := by simpa using c55))
         (try (have c55b2 : (t828 == t831) = true := by simpa using c55))
         (try (have c55b3 : (!(t828 == t831)) = false := c55b0))
         clear c55
         (first | rw [c55b0] | (simp only [i64_w, i32_w]; rw [c55b0]) | skip)
         by_cases c56 : t826 = t829
         ·rw [if_pos c56] at H
          have c56b0 : (t826 == t829) = true := beq_iff_eq.mpr c56; have c56b1 : (t826 != t829) = false := bne_eq_false_iff_eq.mpr c56; clear c56; have H' := am H; clear H
          go_wp2
          go_meet
          case rel => exact ⟨_, ((t827 != t830)), wZ, H', ⟨by have := HJ7.out; have := HJ22.out; first | omega | exact Nat.le_refl _⟩, ⟨Rz HO835.out⟩, ⟨Rz (Kd.R_mono HO_803003.out (fun _ hk => hk.2))⟩, ⟨Rz (Kd.R_mono HO822.out (fun _ hk => hk.2))⟩, ⟨Kz BK802.out⟩, ⟨Kz BK825.out⟩, ⟨Bq⟩⟩
         ·rw [if_neg c56] at H
          have c56b0 : (t826 == t829) = false := beq_eq_false_iff_ne.mpr c56; have c56b1 : (t826 != t829) = true := bne_iff_ne.mpr c56; exact absurd (H.trans (congrArg some HT_.out)) (laws_FnFalseAnswers.j3.dead _ _ _ _ _ _ _ _ _ _ _)
       case rest => as_aux_lemma =>
        clear HC45
        try clear c1
        try clear c2
        try clear p2
        try clear c3
        try clear c4
        try clear c5
        try clear p6
        try clear c7
        try clear c8
        try clear p8
        try clear q8
        try clear hx8
        try clear c13
        try clear c18
        try clear c18b0
        try clear c18b1
        try clear c18b2
        try clear c22
        try clear c24
        try clear c25
        try clear c25b0
        try clear c26
        try clear c26b0
        try clear c27
        try clear c27b0
        try clear c29
        try clear c31
        try clear c33
        try clear c33b0
        try clear c33b1
        try clear c33b2
        try clear c36
        try clear c37
        try clear c37b0
        try clear c37b1
        try clear c37b2
        try clear c38
        try clear c39
        try clear c48
        try clear c49
        try clear c51
        try clear c55
        try clear c55b0
        try clear c55b1
        try clear c55b2
        try clear c56
        try clear c56b0
        try clear c56b1
        try clear hcz11_0
        try clear hcz11_1
        try clear hcz11_2
        try clear hcz11_3
        try clear hcz16_0
        try clear hcz16_1
        try clear hcz16_2
        try clear hcz16_3
        try clear hcz34_0
        try clear hcz34_1
        try clear hcz34_2
        try clear hcz34_3
        try clear hcz38_0
        try clear hcz38_1
        try clear hcz38_2
        try clear hcz38_3
        try clear hcz49_0
        try clear hcz49_1
        try clear hcz49_2
        try clear hcz49_3
        try clear hcz52_0
        try clear hcz52_1
        try clear hcz52_2
        try clear hcz52_3
        try clear hfz11_0
        try clear hfz11_1
        try clear hfz11_2
        try clear hfz11_3
        try clear hfz16_0
        try clear hfz16_1
        try clear hfz16_2
        try clear hfz16_3
        try clear hfz34_0
        try clear hfz34_1
        try clear hfz34_2
        try clear hfz34_3
        try clear hfz38_0
        try clear hfz38_1
        try clear hfz38_2
        try clear hfz38_3
        try clear hfz49_0
        try clear hfz49_1
        try clear hfz49_2
        try clear hfz49_3
        try clear hfz52_0
        try clear hfz52_1
        try clear hfz52_2
        try clear hfz52_3
        try clear hx812_0
        try clear p2
        try clear p6
        try clear p8
        try clear p812
        try clear q8
        try clear q812
        obtain ⟨kq, x144_44, rfl, HA, HJ44, HO_25, HO_803003, HO_826003, BK802, BK825, HB⟩ := hcut; cases kq with
        | zero => exact absurd HA.out (by simp [laws_FnFalseAnswers.j3])
        | succ kj44 =>
         have H := HA.out; clear HA
         simp only [laws_FnFalseAnswers.j3] at H
         by_cases c57 : x144_44 = true
         ·subst c57
          rw [if_pos rfl] at H; exact absurd (Option.some.inj H) (by rw [HT_.out]; decide)
         ·replace c57 := Bool.eq_false_iff.mpr c57
          subst c57
          rw [if_neg (show ¬ (false = true) by decide)] at H; have HC58 := am H; clear H
          go_upto_if 145 with (fail)
          go_cut [] (fun wc => ∃ (kq : Nat), Aside0 (laws_FnFalseAnswers.j4 kq l1 = some r) ∧ Aside0 (kq ≤ kj44) ∧ Aside0 (Kd.R (Kd.int .i64) 3 wc w.heap.size (fun k_ => some k_ ≠ ((.slice Ao50 t820.length co50) : Value).ownBlock) (.slice Ao12 t793.length co12) t793) ∧ Aside0 (Kd.R (Kd.int .i64) 3 wc w.heap.size (fun k_ => some k_ ≠ ((.slice Ao12 t793.length co12) : Value).ownBlock) (.slice Ao50 t820.length co50) t820) ∧ Aside0 (wc.heap[gb802]? = some (.cells #[.int .i64 t790, .int .i64 t791, .int .i64 t792, (.slice Ao12 t793.length co12)] 28 (0, 0))) ∧ Aside0 (wc.heap[gb825]? = some (.cells #[.int .i64 t817, .int .i64 t818, .int .i64 t819, (.slice Ao50 t820.length co50)] 28 (0, 0))) ∧ Aside0 (Below w.heap.size w wc))
          case first =>
           have H := HC58.out; clear HC58
           by_cases c59 : t828 = true
           ·subst c59
            rw [if_pos rfl] at H; replace H := Option.bind_eq_some_iff.mp H; obtain ⟨⟨t836, t839⟩, A600, H⟩ := H; (try dsimp -simprocs only at H); have A60 := am A600; clear A600
            by_cases c61 : t833 = true
            ·subst c61
             rw [if_pos rfl] at H
             by_cases c62 : t827 = (t832.length : Int)
             ·rw [if_pos c62] at H
              have c62b0 : (t827 == (t832.length : Int)) = true := beq_iff_eq.mpr c62; have c62b1 : (t827 != (t832.length : Int)) = false := bne_eq_false_iff_eq.mpr c62; clear c62
              (first | rw [c62b0] | (simp only [i64_w, i32_w]; rw [c62b0]) | skip)
              by_cases c63 : t839 = true
              ·subst c63
               rw [if_pos rfl] at H
               by_cases c64 : (t836.length : Int) = t826
               ·rw [if_pos c64] at H
                have c64b0 : ((t836.length : Int) == t826) = true := beq_iff_eq.mpr c64; have c64b1 : ((t836.length : Int) != t826) = false := bne_eq_false_iff_eq.mpr c64; clear c64; have H' := am H; clear H; have hnb65 := NB825_802.out; have hnc65 := NB802_825.out; obtain ⟨hcz66_0, hcz66_1, hcz66_2, hcz66_3, hfz66_0, hfz66_1, hfz66_2, hfz66_3⟩ := cf4 (w := wc) BK825; obtain ⟨Ao67, co67, eo67⟩ := Kd.R_slice HO_25.out; subst eo67
                go_wp2_with (first | ((with_reducible refine gate_callee (f := 39) rfl ?_); refine gL (some 149) Try.func39 #[.agg #[.int .i64 t817, .int .i64 t818, .int .i64 t819, .slice Ao50 t820.length co50], .slice none 0 0, .slice Ao67 t832.length co67] ?_; (refine (impl_FalseAnswers.calls kj44 t817 t818 t819 _ _ t820 _ _ ([] : List ByteArray) _ _ t832 t836 true _ ?side1 ?side2 ?side3 ?side4 ?side5 ?side6 A60.out).mono ?_); (case side1 => exact Cz ((Kd.R_reads' HO_826003.out).2.2)); (case side2 => exact (Kd.R_reads' HO_826003.out).2.1); (case side3 => exact Kd.C_nil _ _); (case side4 => exact Nat.le_refl _); (case side5 => exact Cz ((Kd.R_reads' HO_25.out).2.2)); (case side6 => exact (Kd.R_reads' HO_25.out).2.1); rintro e w68 ⟨v837, rfl, ho0, hb⟩; refine ⟨_, rfl, ?_⟩; have n0_ := Rb HO_25 hb; have n1_ := Re HO_803003 (Kd.R_base ho0) hb; have n2_ := Re HO_826003 (Kd.R_base ho0) hb; have n3_ := Rm (Kd.R_new' (Kd.R_new' ho0 (Kd.R_lt (Rz HO_803003.out))) (Kd.R_lt (Rz HO_826003.out))) HB; have n4_ := Kb BK802 hb; have n5_ := Kb BK825 hb; have n6_ := Bc HB hb; clear HO_25 HO_803003 HO_826003 BK802 BK825 HB; revert n0_ n1_ n2_ n3_ n4_ n5_ n6_; intro HO_25 HO_803003 HO_826003 HO838 BK802 BK825 HB; (try clear hb); (try clear hb2); (try clear hk); (try clear hi); (try clear ho0); obtain ⟨Ao69, co69, eo69⟩ := Kd.R_slice HO838.out; subst eo69))
                go_meet
                case rel => exact ⟨_, H', ⟨by have := HJ7.out; have := HJ22.out; have := HJ44.out; first | omega | exact Nat.le_refl _⟩, ⟨Rz (Kd.R_mono HO_803003.out (fun _ hk => hk.1))⟩, ⟨Rz (Kd.R_mono HO_826003.out (fun _ hk => hk.1))⟩, ⟨Kz BK802.out⟩, ⟨Kz BK825.out⟩, ⟨Bq⟩⟩
               ·rw [if_neg c64] at H
                have c64b0 : ((t836.length : Int) == t826) = false := beq_eq_false_iff_ne.mpr c64; have c64b1 : ((t836.length : Int) != t826) = true := bne_iff_ne.mpr c64; exact absurd (Option.some.inj H) (by rw [HT_.out]; decide)
              ·replace c63 := Bool.eq_false_iff.mpr c63
               subst c63
               rw [if_neg (show ¬ (false = true) by decide)] at H; exact absurd (Option.some.inj H) (by rw [HT_.out]; decide)
             ·rw [if_neg c62] at H
              have c62b0 : (t827 == (t832.length : Int)) = false := beq_eq_false_iff_ne.mpr c62; have c62b1 : (t827 != (t832.length : Int)) = true := bne_iff_ne.mpr c62
              (first | rw [c62b0] | (simp only [i64_w, i32_w]; rw [c62b0]) | skip)
              exact absurd (Option.some.inj H) (by rw [HT_.out]; decide)
            ·replace c61 := Bool.eq_false_iff.mpr c61
             subst c61
             rw [if_neg (show ¬ (false = true) by decide)] at H; exact absurd (Option.some.inj H) (by rw [HT_.out]; decide)
           ·replace c59 := Bool.eq_false_iff.mpr c59
            subst c59
            rw [if_neg (show ¬ (false = true) by decide)] at H; have H' := am H; clear H
            go_wp2
            go_meet
            case rel => exact ⟨_, H', ⟨by have := HJ7.out; have := HJ22.out; have := HJ44.out; first | omega | exact Nat.le_refl _⟩, ⟨Rz HO_803003.out⟩, ⟨Rz HO_826003.out⟩, ⟨Kz BK802.out⟩, ⟨Kz BK825.out⟩, ⟨Bq⟩⟩
          case rest =>
           clear HC58
           try clear c1
           try clear c2
           try clear p2
           try clear c3
           try clear c4
           try clear c5
           try clear c6
           try clear p6
           try clear c7
           try clear c8
           try clear p8
           try clear q8
           try clear hx8
           try clear c13
           try clear c18
           try clear c18b0
           try clear c18b1
           try clear c18b2
           try clear c22
           try clear c24
           try clear c25
           try clear c25b0
           try clear c26
           try clear c26b0
           try clear c27
           try clear c27b0
           try clear c29
           try clear c31
           try clear c33
           try clear c33b0
           try clear c33b1
           try clear c33b2
           try clear c36
           try clear c37
           try clear c37b0
           try clear c37b1
           try clear c37b2
           try clear c38
           try clear c39
           try clear c48
           try clear c49
           try clear c51
           try clear c55
           try clear c55b0
           try clear c55b1
           try clear c55b2
           try clear c56
           try clear c56b0
           try clear c56b1
           try clear c57
           try clear c59
           try clear c61
           try clear c62
           try clear c62b0
           try clear c62b1
           try clear c63
           try clear c64
           try clear c64b0
           try clear c64b1
           try clear p64
           try clear c65
           try clear hcz11_0
           try clear hcz11_1
           try clear hcz11_2
           try clear hcz11_3
           try clear hcz16_0
           try clear hcz16_1
           try clear hcz16_2
           try clear hcz16_3
           try clear hcz34_0
           try clear hcz34_1
           try clear hcz34_2
           try clear hcz34_3
           try clear hcz38_0
           try clear hcz38_1
           try clear hcz38_2
           try clear hcz38_3
           try clear hcz49_0
           try clear hcz49_1
           try clear hcz49_2
           try clear hcz49_3
           try clear hcz52_0
           try clear hcz52_1
           try clear hcz52_2
           try clear hcz52_3
           try clear hcz66_0
           try clear hcz66_1
           try clear hcz66_2
           try clear hcz66_3
           try clear hfz11_0
           try clear hfz11_1
           try clear hfz11_2
           try clear hfz11_3
           try clear hfz16_0
           try clear hfz16_1
           try clear hfz16_2
           try clear hfz16_3
           try clear hfz34_0
           try clear hfz34_1
           try clear hfz34_2
           try clear hfz34_3
           try clear hfz38_0
           try clear hfz38_1
           try clear hfz38_2
           try clear hfz38_3
           try clear hfz49_0
           try clear hfz49_1
           try clear hfz49_2
           try clear hfz49_3
           try clear hfz52_0
           try clear hfz52_1
           try clear hfz52_2
           try clear hfz52_3
           try clear hfz66_0
           try clear hfz66_1
           try clear hfz66_2
           try clear hfz66_3
           try clear hx812_0
           try clear p2
           try clear p6
           try clear p8
           try clear p812
           try clear q8
           try clear q812
           obtain ⟨kq, HA, HJ57, HO_803003, HO_826003, BK802, BK825, HB⟩ := hcut; cases kq with
           | zero => exact absurd HA.out (by simp [laws_FnFalseAnswers.j4])
           | succ kj57 =>
            have H := HA.out; clear HA
            simp only [laws_FnFalseAnswers.j4] at H
            replace H := Option.bind_eq_some_iff.mp H; obtain ⟨⟨t840, t841, t842, t843, t844⟩, A700, H⟩ := H; (try dsimp -simprocs only at H); have A70 := am A700; clear A700; replace H := Option.bind_eq_some_iff.mp H; obtain ⟨⟨t849, t850⟩, A710, H⟩ := H; (try dsimp -simprocs only at H); have A71 := am A710; clear A710; replace H := Option.bind_eq_some_iff.mp H; obtain ⟨⟨t851, t852⟩, A720, H⟩ := H; (try dsimp -simprocs only at H); have A72 := am A720; clear A720; have HC73 := am H; clear H
            go_upto_region 29 with (first | ((with_reducible refine gate_callee (f := 82) rfl ?_); refine gL (some 172) Try.func82 #[.slice A1 l1.length c1] ?_; (with_reducible refine (spec_DrawLeastBloom.calls kj57 _ _ l1 t840 t841 t842 t843 t844 _ ?side1 ?side2 A70.out).mono ?_); (case side1 => exact Cz (Kd.C_below HR1.out HB.out)); (case side2 => exact HC1.out); rintro e w74 ⟨v845, v847, rfl, ho0, ho1, hb⟩; refine ⟨_, rfl, ?_⟩; have n0_ := Rb HO_803003 hb; have n1_ := Rb HO_826003 hb; have n2_ := Rm ho0 HB; have n3_ := Rm ho1 HB; have n4_ := Kb BK802 hb; have n5_ := Kb BK825 hb; have n6_ := Bc HB hb; clear HO_803003 HO_826003 BK802 BK825 HB; revert n0_ n1_ n2_ n3_ n4_ n5_ n6_; intro HO_803003 HO_826003 HO846 HO848 BK802 BK825 HB; (try clear hb); (try clear hb2); (try clear hk); (try clear hi); (try clear ho0); (try clear ho1); obtain ⟨Ao75, co75, eo75⟩ := Kd.R_slice HO846.out; subst eo75; obtain ⟨Ao76, co76, eo76⟩ := Kd.R_slice HO848.out; subst eo76) | ((with_reducible refine gate_callee (f := 28) rfl ?_); refine gL (some 184) Try.func28 #[.int .i64 t840, .int .i64 t841, .slice Ao75 t842.length co75, .slice Ao76 t843.length co76, .int .i64 t844] ?_; (with_reducible refine (impl_LeastBloom.calls kj57 t840 t841 _ _ t842 _ _ t843 t844 t849 t850 _ ?side1 ?side2 ?side3 ?side4 A71.out).mono ?_); (case side1 => exact Cz ((Kd.R_reads' HO846.out).2.2)); (case side2 => exact (Kd.R_reads' HO846.out).2.1); (case side3 => exact Cz ((Kd.R_reads' HO848.out).2.2)); (case side4 => exact (Kd.R_reads' HO848.out).2.1); rintro e w77 ⟨rfl, hb⟩; refine ⟨_, rfl, ?_⟩; have n0_ := Rb HO_803003 hb; have n1_ := Rb HO_826003 hb; have n2_ := Rb HO846 hb; have n3_ := Rb HO848 hb; have n4_ := Kb BK802 hb; have n5_ := Kb BK825 hb; have n6_ := Bc HB hb; clear HO_803003 HO_826003 HO846 HO848 BK802 BK825 HB; revert n0_ n1_ n2_ n3_ n4_ n5_ n6_; intro HO_803003 HO_826003 HO846 HO848 BK802 BK825 HB; (try clear hb); (try clear hb2); (try clear hk); (try clear hi)) | ((with_reducible refine gate_callee (f := 27) rfl ?_); refine gL (some 193) Try.func27 #[.int .i64 t840, .int .i64 t841, .slice Ao75 t842.length co75, .slice Ao76 t843.length co76, .int .i64 t844] ?_; (with_reducible refine (spec_LeastBloom.calls kj57 t840 t841 _ _ t842 _ _ t843 t844 t851 t852 _ ?side1 ?side2 ?side3 ?side4 A72.out).mono ?_); (case side1 => exact Cz ((Kd.R_reads' HO846.out).2.2)); (case side2 => exact (Kd.R_reads' HO846.out).2.1); (case side3 => exact Cz ((Kd.R_reads' HO848.out).2.2)); (case side4 => exact (Kd.R_reads' HO848.out).2.1); rintro e w78 ⟨rfl, hb⟩; refine ⟨_, rfl, ?_⟩; have n0_ := Rb HO_803003 hb; have n1_ := Rb HO_826003 hb; have n2_ := Rb HO846 hb; have n3_ := Rb HO848 hb; have n4_ := Kb BK802 hb; have n5_ := Kb BK825 hb; have n6_ := Bc HB hb; clear HO_803003 HO_826003 HO846 HO848 BK802 BK825 HB; revert n0_ n1_ n2_ n3_ n4_ n5_ n6_; intro HO_803003 HO_826003 HO846 HO848 BK802 BK825 HB; (try clear hb); (try clear hb2); (try clear hk); (try clear hi)))
            (try simp only [aP])
            go_cut [203] (fun v203 wc => ∃ (kq : Nat) (x203_72 : Bool), v203 = .bool x203_72 ∧ Aside0 (laws_FnFalseAnswers.j5 kq t840 t841 t842 t843 t844 t849 t850 x203_72 = some r) ∧ Aside0 (kq ≤ kj57) ∧ Aside0 (Kd.R Kd.string 9 wc w.heap.size (fun k_ => some k_ ≠ ((.slice Ao76 t843.length co76) : Value).ownBlock) (.slice Ao75 t842.length co75) t842) ∧ Aside0 (Kd.R Kd.string 9 wc w.heap.size (fun k_ => some k_ ≠ ((.slice Ao75 t842.length co75) : Value).ownBlock) (.slice Ao76 t843.length co76) t843) ∧ Aside0 (Kd.R (Kd.int .i64) 3 wc w.heap.size (fun k_ => some k_ ≠ ((.slice Ao50 t820.length co50) : Value).ownBlock) (.slice Ao12 t793.length co12) t793) ∧ Aside0 (Kd.R (Kd.int .i64) 3 wc w.heap.size (fun k_ => some k_ ≠ ((.slice Ao12 t793.length co12) : Value).ownBlock) (.slice Ao50 t820.length co50) t820) ∧ Aside0 (wc.heap[gb802]? = some (.cells #[.int .i64 t790, .int .i64 t791, .int .i64 t792, (.slice Ao12 t793.length co12)] 28 (0, 0))) ∧ Aside0 (wc.heap[gb825]? = some (.cells #[.int .i64 t817, .int .i64 t818, .int .i64 t819, (.slice Ao50 t820.length co50)] 28 (0, 0))) ∧ Aside0 (Below w.heap.size w wc))
            case first =>
             have H := HC73.out; clear HC73
             by_cases c79 : (t850 != t852) = true
             ·rw [if_pos c79] at H
              have c79b0 : (t850 != t852) = true := c79
              (try (have c79b1 : decide (t850 = t852) = false := by simpa using c79))
              (try (have c79b2 : (t850 == t852) = false := by simpa using c79))
              (try (have c79b3 : ¬ (t850 = t852) := by simpa using c79))
              (try (have c79b4 : (!(t850 == t852)) = true := c79b0))
              clear c79
              (first | rw [c79b0] | (simp only [i64_w, i32_w]; rw [c79b0]) | skip)
              exact absurd (H.trans (congrArg some HT_.out)) (laws_FnFalseAnswers.j5.dead _ _ _ _ _ _ _ _)
             ·rw [if_neg c79] at H
              have c79b0 : (t850 != t852) = false := by simpa using c79
              (try (have c79b1 : decide (t850 = t852) = true := by simpa using c79))
              (try (have c79b2 : (t850 == t852) = true := by simpa using c79))
              (try (have c79b3 : (!(t850 == t852)) = false := c79b0))
              clear c79
              (first | rw [c79b0] | (simp only [i64_w, i32_w]; rw [c79b0]) | skip)
              have H' := am H; clear H
              go_wp2
              go_meet
              case rel => exact ⟨_, ((t849 != t851)), wZ, H', ⟨by have := HJ7.out; have := HJ22.out; have := HJ44.out; have := HJ57.out; first | omega | exact Nat.le_refl _⟩, ⟨Rz HO846.out⟩, ⟨Rz HO848.out⟩, ⟨Rz HO_803003.out⟩, ⟨Rz HO_826003.out⟩, ⟨Kz BK802.out⟩, ⟨Kz BK825.out⟩, ⟨Bq⟩⟩
            case rest =>
             clear HC73
             try clear c1
             try clear c2
             try clear p2
             try clear c3
             try clear c4
             try clear c5
             try clear c6
             try clear p6
             try clear c7
             try clear c8
             try clear p8
             try clear q8
             try clear hx8
             try clear c13
             try clear c18
             try clear c18b0
             try clear c18b1
             try clear c18b2
             try clear c22
             try clear c24
             try clear c25
             try clear c25b0
             try clear c26
             try clear c26b0
             try clear c27
             try clear c27b0
             try clear c28
             try clear c29
             try clear c31
             try clear c33
             try clear c33b0
             try clear c33b1
             try clear c33b2
             try clear c36
             try clear c37
             try clear c37b0
             try clear c37b1
             try clear c37b2
             try clear c38
             try clear c39
             try clear c48
             try clear c49
             try clear c51
             try clear c55
             try clear c55b0
             try clear c55b1
             try clear c55b2
             try clear c56
             try clear c56b0
             try clear c56b1
             try clear c57
             try clear c59
             try clear c61
             try clear c62
             try clear c62b0
             try clear c62b1
             try clear c63
             try clear c64
             try clear c64b0
             try clear c64b1
             try clear p64
             try clear c65
             try clear c79
             try clear c79b0
             try clear c79b1
             try clear c79b2
             try clear hcz11_0
             try clear hcz11_1
             try clear hcz11_2
             try clear hcz11_3
             try clear hcz16_0
             try clear hcz16_1
             try clear hcz16_2
             try clear hcz16_3
             try clear hcz34_0
             try clear hcz34_1
             try clear hcz34_2
             try clear hcz34_3
             try clear hcz38_0
             try clear hcz38_1
             try clear hcz38_2
             try clear hcz38_3
             try clear hcz49_0
             try clear hcz49_1
             try clear hcz49_2
             try clear hcz49_3
             try clear hcz52_0
             try clear hcz52_1
             try clear hcz52_2
             try clear hcz52_3
             try clear hcz66_0
             try clear hcz66_1
             try clear hcz66_2
             try clear hcz66_3
             try clear hfz11_0
             try clear hfz11_1
             try clear hfz11_2
             try clear hfz11_3
             try clear hfz16_0
             try clear hfz16_1
             try clear hfz16_2
             try clear hfz16_3
             try clear hfz34_0
             try clear hfz34_1
             try clear hfz34_2
             try clear hfz34_3
             try clear hfz38_0
             try clear hfz38_1
             try clear hfz38_2
             try clear hfz38_3
             try clear hfz49_0
             try clear hfz49_1
             try clear hfz49_2
             try clear hfz49_3
             try clear hfz52_0
             try clear hfz52_1
             try clear hfz52_2
             try clear hfz52_3
             try clear hfz66_0
             try clear hfz66_1
             try clear hfz66_2
             try clear hfz66_3
             try clear hx812_0
             try clear p2
             try clear p6
             try clear p64
             try clear p8
             try clear p812
             try clear q8
             try clear q812
             obtain ⟨kq, x203_72, rfl, HA, HJ72, HO_31, HO_32, HO_803003, HO_826003, BK802, BK825, HB⟩ := hcut; cases kq with
             | zero => exact absurd HA.out (by simp [laws_FnFalseAnswers.j5])
             | succ kj72 =>
              have H := HA.out; clear HA
              simp only [laws_FnFalseAnswers.j5] at H
              by_cases c80 : x203_72 = true
              ·subst c80
               rw [if_pos rfl] at H; exact absurd (Option.some.inj H) (by rw [HT_.out]; decide)
              ·replace c80 := Bool.eq_false_iff.mpr c80
               subst c80
               rw [if_neg (show ¬ (false = true) by decide)] at H
               by_cases c81 : t850 = true
               ·subst c81
                rw [if_pos rfl] at H; replace H := Option.bind_eq_some_iff.mp H; obtain ⟨⟨t853, t854, t855, t856, t859⟩, A820, H⟩ := H; (try dsimp -simprocs only at H); have A82 := am A820; clear A820; replace H := Option.bind_eq_some_iff.mp H; obtain ⟨⟨t861, t864⟩, A830, H⟩ := H; (try dsimp -simprocs only at H); have A83 := am A830; clear A830
                by_cases c84 : t859 = true
                ·subst c84
                 rw [if_pos rfl] at H
                 by_cases c85 : t864 = true
                 ·subst c85
                  rw [if_pos rfl] at H
                  by_cases c86 : (t861.length : Int) = 0
                  ·rw [if_pos c86] at H
                   have c86b0 : ((t861.length : Int) == 0) = true := beq_iff_eq.mpr c86; have c86b1 : ((t861.length : Int) != 0) = false := bne_eq_false_iff_eq.mpr c86; clear c86; obtain rfl := Option.some.inj H
                   go_wp2_with (first | ((with_reducible refine gate_callee (f := 17) rfl ?_); refine gL (some 210) Try.func17 #[.int .i64 t840, .int .i64 t841, .int .i64 t849, .slice Ao75 t842.length co75] ?_; (with_reducible refine (impl_BloomOf.calls kj72 t840 t841 t849 _ _ t842 t853 t854 t855 t856 true _ ?side1 ?side2 A82.out).mono ?_); (case side1 => exact Cz ((Kd.R_reads' HO_31.out).2.2)); (case side2 => exact (Kd.R_reads' HO_31.out).2.1); rintro e w87 ⟨v857, rfl, ho0, hb⟩; refine ⟨_, rfl, ?_⟩; have n0_ := Rb HO_31 hb; have n1_ := Rb HO_32 hb; have n2_ := Re HO_803003 (Kd.R_base ho0) hb; have n3_ := Re HO_826003 (Kd.R_base ho0) hb; have n4_ := Rm (Kd.R_new' (Kd.R_new' ho0 (Kd.R_lt (Rz HO_803003.out))) (Kd.R_lt (Rz HO_826003.out))) HB; have n5_ := Kb BK802 hb; have n6_ := Kb BK825 hb; have n7_ := Bc HB hb; clear HO_31 HO_32 HO_803003 HO_826003 BK802 BK825 HB; revert n0_ n1_ n2_ n3_ n4_ n5_ n6_ n7_; intro HO_31 HO_32 HO_803003 HO_826003 HO858 BK802 BK825 HB; (try clear hb); (try clear hb2); (try clear hk); (try clear hi); (try clear ho0)) | ((with_reducible refine gate_dst (N := 38) rfl ?_); (try (refine gate_guard (by rfl) ?_; dsimp only)); refine bE 38 #[.int .i64 0, .int .i64 0, .int .i64 0, .slice none 0 0] 28 ?_; intro gb860 hg w88 hbox hb; have n0_ := Rb HO_31 hb; have n1_ := Rb HO_32 hb; have n2_ := Rb HO_803003 hb; have n3_ := Rb HO_826003 hb; have n4_ := Rb HO858 hb; have n5_ := Kb BK802 hb; have n6_ := Kb BK825 hb; have n7_ := Bc HB hb; have n8_ := am (hbox); have n9_ := Gm HB hg; have n10_ := Gm HB hg; have n11_ := Nl BK802 hg; have n12_ := Ng BK802 hg; have n13_ := Nl BK825 hg; have n14_ := Ng BK825 hg; clear HO_31 HO_32 HO_803003 HO_826003 HO858 BK802 BK825 HB; revert n0_ n1_ n2_ n3_ n4_ n5_ n6_ n7_ n8_ n9_ n10_ n11_ n12_ n13_ n14_; intro HO_31 HO_32 HO_803003 HO_826003 HO858 BK802 BK825 HB BK860 GW860 GE860 NB802_860 NB860_802 NB825_860 NB860_825; clear hb hbox hg; have hnb89 := NB860_802.out; have hnc89 := NB802_860.out; have hnb90 := NB860_825.out; have hnc90 := NB825_860.out; obtain ⟨hcz91_0, hcz91_1, hcz91_2, hcz91_3, hfz91_0, hfz91_1, hfz91_2, hfz91_3⟩ := cf4 (w := w88) BK860; obtain ⟨Ao92, co92, eo92⟩ := Kd.R_slice HO858.out; subst eo92) | ((with_reducible refine gate_callee (f := 39) rfl ?_); refine gL (some 217) Try.func39 #[.agg #[.int .i64 t853, .int .i64 t854, .int .i64 t855, .slice Ao92 t856.length co92], .slice Ao75 t842.length co75, .slice Ao76 t843.length co76] ?_; (with_reducible refine (impl_FalseAnswers.calls kj72 t853 t854 t855 _ _ t856 _ _ t842 _ _ t843 t861 true _ ?side1 ?side2 ?side3 ?side4 ?side5 ?side6 A83.out).mono ?_); (case side1 => refine (Kd.R_reads' (e := 3) (base := w.heap.size) (ok := fun k_ => ((True ∧ some k_ ≠ (.slice Ao12 t793.length co12 : Value).ownBlock) ∧ some k_ ≠ (.slice Ao50 t820.length co50 : Value).ownBlock)) (n := t856.length) (c := co92) ?_).2.2; exact (Rz (Kd.R_mono (Kd.R_far (p := ⟨gb860, 3, none⟩) (Kd.R_far (p := ⟨gb860, 2, none⟩) (Kd.R_far (p := ⟨gb860, 1, none⟩) (Kd.R_far (p := ⟨gb860, 0, none⟩) (Kd.R_types HO858.out BK860.out (by decide)) (fun _ hk => hk.2) (.int .i64 t853)) (fun _ hk => hk.2) (.int .i64 t854)) (fun _ hk => hk.2) (.int .i64 t855)) (fun _ hk => hk.2) (.slice Ao92 t856.length co92)) (fun _ h_ => h_.1)))); (case side2 => exact (Kd.R_reads' HO858.out).2.1); (case side3 => refine (Kd.R_reads' (e := 9) (base := w.heap.size) (ok := fun k_ => some k_ ≠ (.slice Ao76 t843.length co76 : Value).ownBlock) (n := t842.length) (c := co75) ?_).2.2; exact (Rz (Kd.R_mono (Kd.R_far (p := ⟨gb860, 3, none⟩) (Kd.R_far (p := ⟨gb860, 2, none⟩) (Kd.R_far (p := ⟨gb860, 1, none⟩) (Kd.R_far (p := ⟨gb860, 0, none⟩) (Kd.R_types HO_31.out BK860.out (by decide)) (fun _ hk => hk.2) (.int .i64 t853)) (fun _ hk => hk.2) (.int .i64 t854)) (fun _ hk => hk.2) (.int .i64 t855)) (fun _ hk => hk.2) (.slice Ao92 t856.length co92)) (fun _ h_ => h_.1)))); (case side4 => exact (Kd.R_reads' HO_31.out).2.1); (case side5 => refine (Kd.R_reads' (e := 9) (base := w.heap.size) (ok := fun k_ => some k_ ≠ (.slice Ao75 t842.length co75 : Value).ownBlock) (n := t843.length) (c := co76) ?_).2.2; exact (Rz (Kd.R_mono (Kd.R_far (p := ⟨gb860, 3, none⟩) (Kd.R_far (p := ⟨gb860, 2, none⟩) (Kd.R_far (p := ⟨gb860, 1, none⟩) (Kd.R_far (p := ⟨gb860, 0, none⟩) (Kd.R_types HO_32.out BK860.out (by decide)) (fun _ hk => hk.2) (.int .i64 t853)) (fun _ hk => hk.2) (.int .i64 t854)) (fun _ hk => hk.2) (.int .i64 t855)) (fun _ hk => hk.2) (.slice Ao92 t856.length co92)) (fun _ h_ => h_.1)))); (case side6 => exact (Kd.R_reads' HO_32.out).2.1); rintro e w93 ⟨v862, rfl, ho0, hb⟩; refine ⟨_, rfl, ?_⟩; have n0_ := am (Kd.R_below (Rz (Kd.R_mono (Kd.R_far (p := ⟨gb860, 3, none⟩) (Kd.R_far (p := ⟨gb860, 2, none⟩) (Kd.R_far (p := ⟨gb860, 1, none⟩) (Kd.R_far (p := ⟨gb860, 0, none⟩) (Kd.R_types HO_31.out BK860.out (by decide)) (fun _ hk => hk.2) (.int .i64 t853)) (fun _ hk => hk.2) (.int .i64 t854)) (fun _ hk => hk.2) (.int .i64 t855)) (fun _ hk => hk.2) (.slice Ao92 t856.length co92)) (fun _ h_ => h_.1))) hb); have n1_ := am (Kd.R_below (Rz (Kd.R_mono (Kd.R_far (p := ⟨gb860, 3, none⟩) (Kd.R_far (p := ⟨gb860, 2, none⟩) (Kd.R_far (p := ⟨gb860, 1, none⟩) (Kd.R_far (p := ⟨gb860, 0, none⟩) (Kd.R_types HO_32.out BK860.out (by decide)) (fun _ hk => hk.2) (.int .i64 t853)) (fun _ hk => hk.2) (.int .i64 t854)) (fun _ hk => hk.2) (.int .i64 t855)) (fun _ hk => hk.2) (.slice Ao92 t856.length co92)) (fun _ h_ => h_.1))) hb); have n2_ := am (Kd.R_elder' (Rz (Kd.R_mono (Kd.R_far (p := ⟨gb860, 3, none⟩) (Kd.R_far (p := ⟨gb860, 2, none⟩) (Kd.R_far (p := ⟨gb860, 1, none⟩) (Kd.R_far (p := ⟨gb860, 0, none⟩) (Kd.R_types HO_803003.out BK860.out (by decide)) (fun _ hk => hk.2) (.int .i64 t853)) (fun _ hk => hk.2) (.int .i64 t854)) (fun _ hk => hk.2) (.int .i64 t855)) (fun _ hk => hk.2) (.slice Ao92 t856.length co92)) (fun _ h_ => h_.1))) (Kd.R_base ho0) hb); have n3_ := am (Kd.R_elder' (Rz (Kd.R_mono (Kd.R_far (p := ⟨gb860, 3, none⟩) (Kd.R_far (p := ⟨gb860, 2, none⟩) (Kd.R_far (p := ⟨gb860, 1, none⟩) (Kd.R_far (p := ⟨gb860, 0, none⟩) (Kd.R_types HO_826003.out BK860.out (by decide)) (fun _ hk => hk.2) (.int .i64 t853)) (fun _ hk => hk.2) (.int .i64 t854)) (fun _ hk => hk.2) (.int .i64 t855)) (fun _ hk => hk.2) (.slice Ao92 t856.length co92)) (fun _ h_ => h_.1))) (Kd.R_base ho0) hb); have n4_ := am (Kd.R_elder' (Rz (Kd.R_mono (Kd.R_far (p := ⟨gb860, 3, none⟩) (Kd.R_far (p := ⟨gb860, 2, none⟩) (Kd.R_far (p := ⟨gb860, 1, none⟩) (Kd.R_far (p := ⟨gb860, 0, none⟩) (Kd.R_types HO858.out BK860.out (by decide)) (fun _ hk => hk.2) (.int .i64 t853)) (fun _ hk => hk.2) (.int .i64 t854)) (fun _ hk => hk.2) (.int .i64 t855)) (fun _ hk => hk.2) (.slice Ao92 t856.length co92)) (fun _ h_ => h_.1))) (Kd.R_base ho0) hb); have n5_ := am (Kd.R_lower (Kd.R_new' (Kd.R_new' (Kd.R_new' ho0 (Kd.R_lt (Rz (Kd.R_mono (Kd.R_far (p := ⟨gb860, 3, none⟩) (Kd.R_far (p := ⟨gb860, 2, none⟩) (Kd.R_far (p := ⟨gb860, 1, none⟩) (Kd.R_far (p := ⟨gb860, 0, none⟩) (Kd.R_types HO_803003.out BK860.out (by decide)) (fun _ hk => hk.2) (.int .i64 t853)) (fun _ hk => hk.2) (.int .i64 t854)) (fun _ hk => hk.2) (.int .i64 t855)) (fun _ hk => hk.2) (.slice Ao92 t856.length co92)) (fun _ h_ => h_.1))))) (Kd.R_lt (Rz (Kd.R_mono (Kd.R_far (p := ⟨gb860, 3, none⟩) (Kd.R_far (p := ⟨gb860, 2, none⟩) (Kd.R_far (p := ⟨gb860, 1, none⟩) (Kd.R_far (p := ⟨gb860, 0, none⟩) (Kd.R_types HO_826003.out BK860.out (by decide)) (fun _ hk => hk.2) (.int .i64 t853)) (fun _ hk => hk.2) (.int .i64 t854)) (fun _ hk => hk.2) (.int .i64 t855)) (fun _ hk => hk.2) (.slice Ao92 t856.length co92)) (fun _ h_ => h_.1))))) (Kd.R_lt (Rz (Kd.R_mono (Kd.R_far (p := ⟨gb860, 3, none⟩) (Kd.R_far (p := ⟨gb860, 2, none⟩) (Kd.R_far (p := ⟨gb860, 1, none⟩) (Kd.R_far (p := ⟨gb860, 0, none⟩) (Kd.R_types HO858.out BK860.out (by decide)) (fun _ hk => hk.2) (.int .i64 t853)) (fun _ hk => hk.2) (.int .i64 t854)) (fun _ hk => hk.2) (.int .i64 t855)) (fun _ hk => hk.2) (.slice Ao92 t856.length co92)) (fun _ h_ => h_.1))))) (below_size (w := w) (Bq))); have n6_ := am (blk_below (g := gb802) (o := .cells #[.int .i64 t790, .int .i64 t791, .int .i64 t792, .slice Ao12 t793.length co12] 28 (0, 0)) (by (with_reducible repeat (first | refine blk_drewN ?_ _ | refine blk_drew ?_ | refine blk_alloc ?_ _)); refine blk_far ?_ NB802_860.out _; (with_reducible repeat (first | refine blk_drewN ?_ _ | refine blk_drew ?_ | refine blk_alloc ?_ _)); refine blk_far ?_ NB802_860.out _; (with_reducible repeat (first | refine blk_drewN ?_ _ | refine blk_drew ?_ | refine blk_alloc ?_ _)); refine blk_far ?_ NB802_860.out _; (with_reducible repeat (first | refine blk_drewN ?_ _ | refine blk_drew ?_ | refine blk_alloc ?_ _)); refine blk_far ?_ NB802_860.out _; exact Kz BK802.out) hb); have n7_ := am (blk_below (g := gb825) (o := .cells #[.int .i64 t817, .int .i64 t818, .int .i64 t819, .slice Ao50 t820.length co50] 28 (0, 0)) (by (with_reducible repeat (first | refine blk_drewN ?_ _ | refine blk_drew ?_ | refine blk_alloc ?_ _)); refine blk_far ?_ NB825_860.out _; (with_reducible repeat (first | refine blk_drewN ?_ _ | refine blk_drew ?_ | refine blk_alloc ?_ _)); refine blk_far ?_ NB825_860.out _; (with_reducible repeat (first | refine blk_drewN ?_ _ | refine blk_drew ?_ | refine blk_alloc ?_ _)); refine blk_far ?_ NB825_860.out _; (with_reducible repeat (first | refine blk_drewN ?_ _ | refine blk_drew ?_ | refine blk_alloc ?_ _)); refine blk_far ?_ NB825_860.out _; exact Kz BK825.out) hb); have n8_ := am (blk_below (g := gb860) (o := .cells #[.int .i64 t853, .int .i64 t854, .int .i64 t855, .slice Ao92 t856.length co92] 28 (0, 0)) (by (with_reducible repeat (first | refine blk_drewN ?_ _ | refine blk_drew ?_ | refine blk_alloc ?_ _)); refine blk_put (cs := #[.int .i64 t853, .int .i64 t854, .int .i64 t855, .slice none 0 0]) ?_ 3 _ rfl; (with_reducible repeat (first | refine blk_drewN ?_ _ | refine blk_drew ?_ | refine blk_alloc ?_ _)); refine blk_put (cs := #[.int .i64 t853, .int .i64 t854, .int .i64 0, .slice none 0 0]) ?_ 2 _ rfl; (with_reducible repeat (first | refine blk_drewN ?_ _ | refine blk_drew ?_ | refine blk_alloc ?_ _)); refine blk_put (cs := #[.int .i64 t853, .int .i64 0, .int .i64 0, .slice none 0 0]) ?_ 1 _ rfl; (with_reducible repeat (first | refine blk_drewN ?_ _ | refine blk_drew ?_ | refine blk_alloc ?_ _)); refine blk_put (cs := #[.int .i64 0, .int .i64 0, .int .i64 0, .slice none 0 0]) ?_ 0 _ rfl; exact Kz BK860.out) hb); have n9_ := Bc HB hb; clear HO_31 HO_32 HO_803003 HO_826003 HO858 BK802 BK825 BK860 HB; revert n0_ n1_ n2_ n3_ n4_ n5_ n6_ n7_ n8_ n9_; intro HO_31 HO_32 HO_803003 HO_826003 HO858 HO863 BK802 BK825 BK860 HB; (try clear hb); (try clear hb2); (try clear hk); (try clear hi); (try clear ho0); obtain ⟨Ao94, co94, eo94⟩ := Kd.R_slice HO863.out; subst eo94))
                   go_ret
                   exact ⟨eZ, Bq⟩
                  ·rw [if_neg c86] at H
                   have c86b0 : ((t861.length : Int) == 0) = false := beq_eq_false_iff_ne.mpr c86; have c86b1 : ((t861.length : Int) != 0) = true := bne_iff_ne.mpr c86
                   have c86b2 : ¬ (t861 = []) := fun h_ => c86 (by rw [h_]; rfl)
                   exact absurd (Option.some.inj H) (by rw [HT_.out]; decide)
                 ·replace c85 := Bool.eq_false_iff.mpr c85
                  subst c85
                  rw [if_neg (show ¬ (false = true) by decide)] at H; exact absurd (Option.some.inj H) (by rw [HT_.out]; decide)
                ·replace c84 := Bool.eq_false_iff.mpr c84
                 subst c84
                 rw [if_neg (show ¬ (false = true) by decide)] at H; exact absurd (Option.some.inj H) (by rw [HT_.out]; decide)
               ·replace c81 := Bool.eq_false_iff.mpr c81
                subst c81
                rw [if_neg (show ¬ (false = true) by decide)] at H; obtain rfl := Option.some.inj H
                go_wp2
                go_ret
                exact ⟨eZ, Bq⟩

def laws_FnFalseAnswers.Pure : Prop := ∀ (l0 : List Int) (l1 : List Int), l0.length ≤ maxLen → l0.length * 1 ≤ 140737488351232 → (∀ x ∈ l0, (Lit.int .u8 x).wf = true) → l1.length ≤ maxLen → l1.length * 1 ≤ 140737488351232 → (∀ x ∈ l1, (Lit.int .u8 x).wf = true) → ∃ k, laws_FnFalseAnswers.f k l0 l1 = some true
theorem laws_FnFalseAnswers.walk (P : laws_FnFalseAnswers.Pure) (a0 : Option Addr) (len0 cap0 : Nat) (z0 : List Int) (a1 : Option Addr) (len1 cap1 : Nat) (z1 : List Int) (w : World) (w0 : (a0 = none ∧ len0 = 0 ∧ cap0 = 0 ∧ z0 = []) ∨ ∃ x, a0 = some x ∧ len0 ≤ cap0 ∧ cap0 ≤ maxLen ∧ z0.length = cap0 ∧ (∀ i, i < z0.length → w.cell? (x.add i) = some (.int .u8 (z0.getD i 0))) ∧ ∀ n ∈ z0, (Lit.int .u8 n).wf = true) (y0 : len0 * 1 ≤ 140737488351232) (w1 : (a1 = none ∧ len1 = 0 ∧ cap1 = 0 ∧ z1 = []) ∨ ∃ x, a1 = some x ∧ len1 ≤ cap1 ∧ cap1 ≤ maxLen ∧ z1.length = cap1 ∧ (∀ i, i < z1.length → w.cell? (x.add i) = some (.int .u8 (z1.getD i 0))) ∧ ∀ n ∈ z1, (Lit.int .u8 n).wf = true) (y1 : len1 * 1 ≤ 140737488351232) :
  Calls Try.prog 13 #[.slice a0 len0 cap0, .slice a1 len1 cap1] w fun e w' => e = .returned (.bool true) ∧ Below w.heap.size w w' := by
 obtain ⟨l0, rfl, hr0, hm0, hw0, hc0⟩ := ReadsInt.ofRowC w0; obtain ⟨l1, rfl, hr1, hm1, hw1, hc1⟩ := ReadsInt.ofRowC w1; obtain ⟨k, h⟩ := P l0 l1 hm0 y0 hw0 hm1 y1 hw1; refine (laws_FnFalseAnswers.calls k _ _ l0 _ _ l1 true w (Kd.C_of_reads (d := (0 : Int)) (h1 := fun _ => rfl) hr0) hc0 (Kd.C_of_reads (d := (0 : Int)) (h1 := fun _ => rfl) hr1) hc1 h rfl).mono ?_; rintro e w' ⟨rfl, hd⟩; exact ⟨rfl, hd⟩

end Go.Proofs.Ytpkpjikkfikejaa.PB
namespace Go.Proofs.YtpkpjikkfikejaaQ
open Go Go.RowKit Go.Proofs.YtpkpjikkfikejaaW.PrintWords Go.Proofs.YtpkpjikkfikejaaGp

theorem ev_succ {α : Type} {g : Nat → Option α} {r : α} (h : Ev (fun k => g (k + 1)) r) : Ev g r := Ev.step (f := fun k => g (k + 1)) (fun _ => rfl) h
theorem ev_some {α : Type} {a r : α} (h : a = r) : Ev (fun _ => some a) r := h ▸ Ev.now a
theorem ev_pos {α : Type} {c : Prop} [Decidable c] {f g : Nat → Option α} {r : α} (h : c) (k : Ev f r) : Ev (fun n => if c then f n else g n) r := by simpa only [if_pos h] using k
theorem ev_neg {α : Type} {c : Prop} [Decidable c] {f g : Nat → Option α} {r : α} (h : ¬ c) (k : Ev g r) : Ev (fun n => if c then f n else g n) r := by simpa only [if_neg h] using k
theorem ev_bind {α β : Type} {g : Nat → Option α} {f : Nat → α → Option β} {r : β} (a : α) (h : Ev g a) (k : Ev (fun n => f n a) r) : Ev (fun n => (g n).bind (f n)) r := Ev.bind h k
theorem w64 {x : Int} (h0 : -9223372036854775808 ≤ x) (h1 : x ≤ 9223372036854775807) : wrap64 x = x := by unfold wrap64; omega
theorem winc {i : Nat} (h : (i : Int) < 9223372036854775807) : wrap64 ((i : Int) + 1) = ((i + 1 : Nat) : Int) := by unfold wrap64; omega
theorem wdec {i : Nat} (h : (i : Int) < 9223372036854775807) : wrap64 (((i + 1 : Nat) : Int) - 1) = (i : Int) := by unfold wrap64; omega
theorem maxLen_eq : maxLen = 9223372036854775807 := by unfold maxLen; rfl
section
variable {α : Type} {d : α} {pre t : List α} {s : α}
theorem rdOf_mid : rdOf d (pre ++ s :: t) ((pre.length : Nat) : Int) = s := by simp [rdOf]
theorem rdOf_last {p : α} : rdOf d ((pre ++ [p]) ++ s :: t) ((pre.length : Nat) : Int) = p := by simp [rdOf]
theorem lt_mid : ((pre.length : Nat) : Int) < ((pre ++ s :: t).length : Int) := by simp; omega
theorem not_lt_end : ¬ ((pre.length : Nat) : Int) < ((pre ++ ([] : List α)).length : Int) := by simp
theorem len_one : ((pre ++ [s]).length : Int) = ((pre.length + 1 : Nat) : Int) := by simp
end
theorem rd_mid {pre t : List Int} {s : Int} : rd (pre ++ s :: t) ((pre.length : Nat) : Int) = s := by simp [rd]
theorem rd_get {xs : List Int} {i : Nat} (h : i < xs.length) : rd xs (i : Int) = xs[i] := by simp [rd, h]

theorem tl (s : ByteArray) : s.toList = s.data.toList := Lib.toList_data s
theorem tl_inj {x y : ByteArray} : x.toList = y.toList ↔ x = y := by
  rw [tl, tl]
  exact ⟨fun h => ByteArray.ext (Array.toList_inj.1 h), fun h => h ▸ rfl⟩
theorem size_len (s : ByteArray) : s.size = s.data.toList.length := (data_length s).symm
theorem bt_mid {s : ByteArray} {pre t : List UInt8} {c : UInt8} (h : s.data.toList = pre ++ c :: t) : bt s ((pre.length : Nat) : Int) = (c.toNat : Int) := by
  have hs : pre.length < s.size := by rw [size_len, h]; simp
  have hg : s[pre.length]'hs = c := by
    have : s.data.toList[pre.length]'(by rw [h]; simp) = c := by simp [h]
    rw [← this]; rfl
  unfold bt
  rw [dif_pos (by simpa using hs)]
  simp only [Int.toNat_natCast, hg]
theorem lt_size {s : ByteArray} {pre t : List UInt8} {c : UInt8} (h : s.data.toList = pre ++ c :: t) : ((pre.length : Nat) : Int) < (s.size : Int) := by rw [size_len, h]; simp; omega
theorem not_lt_size {s : ByteArray} {pre : List UInt8} (h : s.data.toList = pre ++ []) : ¬ ((pre.length : Nat) : Int) < (s.size : Int) := by rw [size_len, h]; simp
def lessS (a b : ByteArray) : Bool := Op.bytesLess a.toList b.toList
end Go.Proofs.YtpkpjikkfikejaaQ
namespace Go.Proofs.YtpkpjikkfikejaaQ
open Go Go.RowKit Go.Proofs.YtpkpjikkfikejaaW.PrintWords Go.Proofs.YtpkpjikkfikejaaGp Go.Proofs.Ytpkpjikkfikejaa.PB

def mm (x y : Int) : Int := Int.tmod (wrap64 (x * y)) 65521
theorem mul_range {x y : Int} (hx : 0 ≤ x) (hx1 : x ≤ 65520) (hy : 0 ≤ y) (hy1 : y ≤ 65520) : 0 ≤ x * y ∧ x * y ≤ 4292870400 :=
  ⟨Int.mul_nonneg hx hy, by have := Int.mul_le_mul hx1 hy1 hy (by omega); omega⟩
theorem emod_range (x : Int) : 0 ≤ x % 65521 ∧ x % 65521 ≤ 65520 := by omega
theorem mm_eq {x y : Int} (hx : 0 ≤ x) (hx1 : x ≤ 65520) (hy : 0 ≤ y) (hy1 : y ≤ 65520) : mm x y = x * y % 65521 := by
  obtain ⟨h0, h1⟩ := mul_range hx hx1 hy hy1
  unfold mm
  rw [w64 (by omega) (by omega)]
  exact Int.tmod_eq_emod_of_nonneg h0
theorem mm_mod (a b : Int) : mm (a % 65521) (b % 65521) = a * b % 65521 := by
  rw [mm_eq (emod_range a).1 (emod_range a).2 (emod_range b).1 (emod_range b).2]
  exact (Int.mul_emod a b 65521).symm
def pw (h : Int) : Nat → Int
  | 0 => 1
  | n + 1 => pw h n * h
theorem self_mod {h : Int} (h0 : 0 ≤ h) (h1 : h ≤ 65520) : h = h % 65521 := by omega
theorem mm11 {h : Int} (h0 : 0 ≤ h) (h1 : h ≤ 65520) : mm (mm (mm (mm (mm h h) (mm h h)) h) (mm (mm (mm h h) (mm h h)) h)) h = pw h 11 % 65521 := by
  have e := self_mod h0 h1
  have a2 : mm h h = h * h % 65521 := mm_eq h0 h1 h0 h1
  have a4 : mm (mm h h) (mm h h) = (h * h) * (h * h) % 65521 := by rw [a2, mm_mod]
  have a5 : mm (mm (mm h h) (mm h h)) h = (h * h) * (h * h) * h % 65521 := by
    rw [a4]; conv => lhs; arg 2; rw [e]
    rw [mm_mod]
  rw [a5, mm_mod]
  conv => lhs; arg 2; rw [e]
  rw [mm_mod]
  congr 1
  simp only [pw, Int.one_mul, Int.mul_assoc]
theorem mm_pw {h : Int} (h0 : 0 ≤ h) (h1 : h ≤ 65520) (n : Nat) : mm (pw h n % 65521) h = pw h (n + 1) % 65521 := by
  conv => lhs; arg 2; rw [self_mod h0 h1]
  rw [mm_mod]
  rfl

def hstep (h : Int) (c : UInt8) : Int := Int.tmod (wrap64 ((wrap64 (263 * h)) + (wrap64 (c.toNat : Int)))) 65521
def hfold (h : Int) (l : List UInt8) : Int := l.foldl hstep h
theorem hstep_range {h : Int} {c : UInt8} (h0 : 0 ≤ h) (h1 : h ≤ 65520) : 0 ≤ hstep h c ∧ hstep h c ≤ 65520 := by
  have hc : c.toNat < 256 := c.toNat_lt
  unfold hstep
  rw [w64 (x := 263 * h) (by omega) (by omega), w64 (x := (c.toNat : Int)) (by omega) (by omega), w64 (by omega) (by omega), Int.tmod_eq_emod_of_nonneg (by omega)]
  omega
def hstart (a0 a1 : Int) : Int := Int.tmod (wrap64 ((wrap64 ((wrap64 (31 * a0)) + (wrap64 (977 * a1)))) + 7)) 65521
theorem hstart_range {a0 a1 : Int} (h0 : 0 ≤ a0) (h0' : a0 ≤ 1000000) (h1 : 0 ≤ a1) (h1' : a1 ≤ 1000000) : 0 ≤ hstart a0 a1 ∧ hstart a0 a1 ≤ 65520 := by
  unfold hstart
  rw [w64 (x := 31 * a0) (by omega) (by omega), w64 (x := 977 * a1) (by omega) (by omega), w64 (x := 31 * a0 + 977 * a1) (by omega) (by omega), w64 (by omega) (by omega), Int.tmod_eq_emod_of_nonneg (by omega)]
  omega
def hashV (a0 a1 : Int) (s : ByteArray) : Int := pw (hfold (hstart a0 a1) s.data.toList) 11 % 65521
theorem hashV_range (a0 a1 : Int) (s : ByteArray) : 0 ≤ hashV a0 a1 s ∧ hashV a0 a1 s ≤ 65520 := emod_range _
theorem spec_biHash_l0 (x2 : ByteArray) (hz : (x2.size : Int) ≤ 9223372036854775806) : ∀ (t pre : List UInt8) (h : Int), x2.data.toList = pre ++ t → 0 ≤ h → h ≤ 65520 →
    Ev (fun k => spec_biHash.l0 k x2 h (pre.length : Int)) (pw (hfold h t) 11 % 65521) := by
  intro t
  induction t with
  | nil =>
    intro pre h e h0 h1
    refine ev_succ ?_
    simp only [spec_biHash.l0]
    refine ev_neg (not_lt_size e) (ev_some ?_)
    exact mm11 h0 h1
  | cons c t ih =>
    intro pre h e h0 h1
    have hm := lt_size e
    refine ev_succ ?_
    simp only [spec_biHash.l0, bt_mid e]
    refine ev_pos hm (ev_pos (by omega) ?_)
    rw [winc (by omega)]
    have := ih (pre ++ [c]) (hstep h c) (by rw [e]; simp) (hstep_range h0 h1).1 (hstep_range h0 h1).2
    rw [len_one] at this
    exact this
theorem spec_biHash_f (a0 a1 : Int) (s : ByteArray) (hz : (s.size : Int) ≤ 9223372036854775806) (h0 : 0 ≤ a0) (h0' : a0 ≤ 1000000) (h1 : 0 ≤ a1) (h1' : a1 ≤ 1000000) :
    Ev (fun k => spec_biHash.f k a0 a1 s) (hashV a0 a1 s) := by
  unfold spec_biHash.f
  exact spec_biHash_l0 s hz s.data.toList [] _ rfl (hstart_range h0 h0' h1 h1').1 (hstart_range h0 h0' h1 h1').2
theorem impl_hash_l1 {h : Int} (h0 : 0 ≤ h) (h1 : h ≤ 65520) : ∀ (m i : Nat), i + m = 11 → Ev (fun k => impl_hash.l1 k h (pw h i % 65521) (i : Int)) (pw h 11 % 65521) := by
  intro m
  induction m with
  | zero =>
    intro i e
    obtain rfl : i = 11 := by omega
    refine ev_succ ?_
    simp only [impl_hash.l1]
    exact ev_neg (by omega) (ev_some rfl)
  | succ m ih =>
    intro i e
    refine ev_succ ?_
    simp only [impl_hash.l1]
    refine ev_pos (by omega) ?_
    rw [winc (by omega)]
    have := ih (i + 1) (by omega)
    rw [← mm_pw h0 h1 i] at this
    exact this
theorem impl_hash_l0 (x2 : ByteArray) (hz : (x2.size : Int) ≤ 9223372036854775806) : ∀ (t pre : List UInt8) (h : Int), x2.data.toList = pre ++ t → 0 ≤ h → h ≤ 65520 →
    Ev (fun k => impl_hash.l0 k x2 h (x2.size : Int) (pre.length : Int)) (pw (hfold h t) 11 % 65521) := by
  intro t
  induction t with
  | nil =>
    intro pre h e h0 h1
    refine ev_succ ?_
    simp only [impl_hash.l0]
    exact ev_neg (not_lt_size e) (impl_hash_l1 h0 h1 11 0 rfl)
  | cons c t ih =>
    intro pre h e h0 h1
    have hm := lt_size e
    refine ev_succ ?_
    simp only [impl_hash.l0, bt_mid e]
    refine ev_pos hm (ev_pos (by omega) (ev_pos hm ?_))
    rw [winc (by omega)]
    have := ih (pre ++ [c]) (hstep h c) (by rw [e]; simp) (hstep_range h0 h1).1 (hstep_range h0 h1).2
    rw [len_one] at this
    exact this
theorem impl_hash_f (a0 a1 : Int) (s : ByteArray) (hz : (s.size : Int) ≤ 9223372036854775806) (h0 : 0 ≤ a0) (h0' : a0 ≤ 1000000) (h1 : 0 ≤ a1) (h1' : a1 ≤ 1000000) :
    Ev (fun k => impl_hash.f k a0 a1 s) (hashV a0 a1 s) := by
  unfold impl_hash.f
  exact impl_hash_l0 s hz s.data.toList [] _ rfl (hstart_range h0 h0' h1 h1').1 (hstart_range h0 h0' h1 h1').2

def placeV (a0 a1 : Int) (s : ByteArray) (n : Int) : Int := wrap64 (Int.tdiv (wrap64 (hashV a0 a1 s * n)) 65521)
theorem placeV_range (a0 a1 : Int) (s : ByteArray) {n : Int} (h0 : 1 ≤ n) (h1 : n ≤ 1000000) : 0 ≤ placeV a0 a1 s n ∧ placeV a0 a1 s n < n := by
  obtain ⟨a, b⟩ := hashV_range a0 a1 s
  have c := Int.mul_nonneg a (show (0 : Int) ≤ n by omega)
  have d := Int.mul_le_mul_of_nonneg_right b (show (0 : Int) ≤ n by omega)
  unfold placeV
  generalize hashV a0 a1 s * n = y at *
  rw [w64 (x := y) (by omega) (by omega), Int.tdiv_eq_ediv_of_nonneg (by omega), w64 (by omega) (by omega)]
  omega
theorem spec_biPlace_f (a0 a1 : Int) (s : ByteArray) (n : Int) (hz : (s.size : Int) ≤ 9223372036854775806) (h0 : 0 ≤ a0) (h0' : a0 ≤ 1000000) (h1 : 0 ≤ a1) (h1' : a1 ≤ 1000000) :
    Ev (fun k => spec_biPlace.f k a0 a1 s n) (placeV a0 a1 s n) := by
  unfold spec_biPlace.f
  exact ev_bind _ (spec_biHash_f a0 a1 s hz h0 h0' h1 h1') (Ev.now _)
theorem impl_place_f (a0 a1 : Int) (s : ByteArray) (n : Int) (hz : (s.size : Int) ≤ 9223372036854775806) (h0 : 0 ≤ a0) (h0' : a0 ≤ 1000000) (h1 : 0 ≤ a1) (h1' : a1 ≤ 1000000) :
    Ev (fun k => impl_place.f k a0 a1 s n) (placeV a0 a1 s n) := by
  unfold impl_place.f
  exact ev_bind _ (impl_hash_f a0 a1 s hz h0 h0' h1 h1') (Ev.now _)
end Go.Proofs.YtpkpjikkfikejaaQ
namespace Go.Proofs.YtpkpjikkfikejaaQ
open Go Go.RowKit Go.Proofs.YtpkpjikkfikejaaW.PrintWords Go.Proofs.YtpkpjikkfikejaaGp Go.Proofs.Ytpkpjikkfikejaa.PB

def probesL (a0 : Int) (s : ByteArray) (n : Int) : Nat → Nat → List Int
  | 0, _ => []
  | m + 1, i => placeV a0 (i : Int) s n :: probesL a0 s n m (i + 1)
theorem probesL_len (a0 : Int) (s : ByteArray) (n : Int) : ∀ m i, (probesL a0 s n m i).length = m
  | 0, _ => rfl
  | m + 1, i => by simp [probesL, probesL_len a0 s n m]
theorem probesL_range (a0 : Int) (s : ByteArray) {n : Int} (h0 : 1 ≤ n) (h1 : n ≤ 1000000) : ∀ m i, ∀ p ∈ probesL a0 s n m i, 0 ≤ p ∧ p < n
  | 0, _, p, h => by simp [probesL] at h
  | m + 1, i, p, h => by
    simp only [probesL, List.mem_cons] at h
    rcases h with rfl | h
    · exact placeV_range a0 _ s h0 h1
    · exact probesL_range a0 s h0 h1 m (i + 1) p h
theorem spec_fiProbes_l0 (a0 : Int) (n : Int) (s : ByteArray) (hz : (s.size : Int) ≤ 9223372036854775806) (h0 : 0 ≤ a0) (h0' : a0 ≤ 1000000) (x1 : Int) (hx : x1 ≤ 1000000) : ∀ (m i : Nat) (acc : List Int), ((i + m : Nat) : Int) = x1 → acc.length = i →
    Ev (fun k => spec_fiProbes.l0 k a0 x1 n s acc (i : Int)) (acc ++ probesL a0 s n m i) := by
  intro m
  induction m with
  | zero =>
    intro i acc e ha
    refine ev_succ ?_
    simp only [spec_fiProbes.l0, probesL]
    exact ev_neg (by omega) (ev_some (by simp))
  | succ m ih =>
    intro i acc e ha
    refine ev_succ ?_
    simp only [spec_fiProbes.l0, probesL]
    refine ev_pos (by omega) (ev_bind _ (spec_biPlace_f a0 (i : Int) s n hz h0 h0' (by omega) (by omega)) (ev_pos (by omega) ?_))
    rw [winc (by omega)]
    have := ih (i + 1) (acc ++ [placeV a0 (i : Int) s n]) (by omega) (by simp [ha])
    rw [List.append_assoc] at this
    exact this
theorem spec_fiProbes_f (a0 a1 n : Int) (s : ByteArray) (hz : (s.size : Int) ≤ 9223372036854775806) (h0 : 0 ≤ a0) (h0' : a0 ≤ 1000000) (h1 : 0 ≤ a1) (h1' : a1 ≤ 1000000) :
    Ev (fun k => spec_fiProbes.f k a0 a1 n s) (probesL a0 s n a1.toNat 0) := by
  unfold spec_fiProbes.f
  have := spec_fiProbes_l0 a0 n s hz h0 h0' a1 h1' a1.toNat 0 [] (by omega) rfl
  exact this
theorem impl_probesOf_l0 (a0 : Int) (n : Int) (s : ByteArray) (hz : (s.size : Int) ≤ 9223372036854775806) (h0 : 0 ≤ a0) (h0' : a0 ≤ 1000000) (x1 : Int) (hx : x1 ≤ 1000000) : ∀ (m i : Nat) (acc : List Int), ((i + m : Nat) : Int) = x1 → acc.length = i →
    Ev (fun k => impl_probesOf.l0 k a0 n s acc x1 (i : Int)) (acc ++ probesL a0 s n m i) := by
  intro m
  induction m with
  | zero =>
    intro i acc e ha
    refine ev_succ ?_
    simp only [impl_probesOf.l0, probesL]
    exact ev_neg (by omega) (ev_some (by simp))
  | succ m ih =>
    intro i acc e ha
    refine ev_succ ?_
    simp only [impl_probesOf.l0, probesL]
    refine ev_pos (by omega) (ev_bind _ (impl_place_f a0 (i : Int) s n hz h0 h0' (by omega) (by omega)) (ev_pos (by omega) ?_))
    rw [winc (by omega)]
    have := ih (i + 1) (acc ++ [placeV a0 (i : Int) s n]) (by omega) (by simp [ha])
    rw [List.append_assoc] at this
    exact this
theorem impl_probesOf_f (a0 a1 n : Int) (s : ByteArray) (hz : (s.size : Int) ≤ 9223372036854775806) (h0 : 0 ≤ a0) (h0' : a0 ≤ 1000000) (h1 : 0 ≤ a1) (h1' : a1 ≤ 1000000) :
    Ev (fun k => impl_probesOf.f k a0 a1 n s) (probesL a0 s n a1.toNat 0) := by
  unfold impl_probesOf.f
  have := impl_probesOf_l0 a0 n s hz h0 h0' a1 h1' a1.toNat 0 [] (by omega) rfl
  exact this
end Go.Proofs.YtpkpjikkfikejaaQ
namespace Go.Proofs.YtpkpjikkfikejaaQ
open Go Go.RowKit Go.Proofs.YtpkpjikkfikejaaW.PrintWords Go.Proofs.YtpkpjikkfikejaaGp Go.Proofs.Ytpkpjikkfikejaa.PB

theorem ofInt_wrap (a : BitVec 64) : BitVec.ofInt 64 (IntKind.i64.wrap (a.toNat : Int)) = a := by
  have h : a.toNat < 2 ^ 64 := a.isLt
  apply BitVec.eq_of_toNat_eq
  rw [BitVec.toNat_ofInt]
  show ((IntKind.i64.wrap (a.toNat : Int)) % ((2 ^ 64 : Nat) : Int)).toNat = a.toNat
  have e : IntKind.i64.wrap (a.toNat : Int) = if (a.toNat : Int) % 18446744073709551616 ≥ 9223372036854775808 then (a.toNat : Int) % 18446744073709551616 - 18446744073709551616 else (a.toNat : Int) % 18446744073709551616 := by
    unfold IntKind.wrap
    simp [IntKind.bits, IntKind.signed]
  rw [e]
  have h2 : (2 : Nat) ^ 64 = 18446744073709551616 := by decide
  rw [h2] at h ⊢
  split <;> omega
theorem or_andNot (x b : Int) : Go.bits .or .i64 (Go.bits .andNot .i64 x b) b = Go.bits .or .i64 x b := by
  have e : ∀ op y, Go.bits op .i64 y b = IntKind.i64.wrap (((match op with | .and => BitVec.ofInt 64 y &&& BitVec.ofInt 64 b | .or => BitVec.ofInt 64 y ||| BitVec.ofInt 64 b | .xor => BitVec.ofInt 64 y ^^^ BitVec.ofInt 64 b | _ => BitVec.ofInt 64 y &&& ~~~(BitVec.ofInt 64 b)) : BitVec 64).toNat : Int) := fun op y => by
    unfold Go.bits; cases op <;> rfl
  rw [e .or, e .or, e .andNot]
  simp only
  rw [ofInt_wrap]
  congr 2
  apply congrArg
  apply BitVec.eq_of_getLsbD_eq
  intro i hi
  simp only [BitVec.getLsbD_or, BitVec.getLsbD_and, BitVec.getLsbD_not, hi, decide_true, Bool.true_and]
  cases (BitVec.ofInt 64 x).getLsbD i <;> cases (BitVec.ofInt 64 b).getLsbD i <;> rfl

def setV (l : List Int) (p : Int) : List Int := l.set (p / 16).toNat (Go.bits .or .i64 (rd l (p / 16)) (shl .i64 1 (p % 16)))
theorem setV_len (l : List Int) (p : Int) : (setV l p).length = l.length := by simp [setV]
theorem div16 {p : Int} (h0 : 0 ≤ p) (h1 : p ≤ 1000000) : wrap64 (Int.tdiv p 16) = p / 16 ∧ Int.tmod p 16 = p % 16 := by
  rw [Int.tdiv_eq_ediv_of_nonneg h0, Int.tmod_eq_emod_of_nonneg h0, w64 (by omega) (by omega)]
  exact ⟨rfl, rfl⟩
theorem rd_set {l : List Int} {i : Nat} {v : Int} (h : i < l.length) : rd (l.set i v) (i : Int) = v := by simp [rd, h]
theorem spec_biSet_f (n : Int) (l : List Int) {p : Int} (h0 : 0 ≤ p) (h1 : p ≤ 1000000) (h2 : p / 16 < (l.length : Int)) : spec_biSet.f n l p = some (setV l p) := by
  unfold spec_biSet.f
  rw [(div16 h0 h1).1, (div16 h0 h1).2, if_pos (by omega), if_pos h2, if_pos (by omega)]
  rfl
theorem impl_Bits_set_f (n : Int) (l : List Int) {p : Int} (h0 : 0 ≤ p) (h1 : p ≤ 1000000) (h2 : p / 16 < (l.length : Int)) : impl_Bits_set.f n l p true = some (setV l p) := by
  unfold impl_Bits_set.f
  rw [(div16 h0 h1).1, (div16 h0 h1).2, if_pos (by omega), if_pos h2, if_pos (by omega)]
  simp only [Option.bind_some, if_true]
  obtain ⟨q, hq⟩ : ∃ q : Nat, p / 16 = (q : Int) := ⟨(p / 16).toNat, by omega⟩
  unfold setV
  rw [hq] at h2 ⊢
  simp only [Int.toNat_natCast]
  rw [rd_set (by omega), List.set_set, or_andNot]

def addP (l : List Int) (ps : List Int) : List Int := ps.foldl setV l
theorem addP_len : ∀ (ps l : List Int), (addP l ps).length = l.length
  | [], _ => rfl
  | p :: ps, l => (addP_len ps (setV l p)).trans (setV_len l p)
def addK (a0 : Int) (m : Nat) (n : Int) (l : List Int) (ks : List ByteArray) : List Int := ks.foldl (fun l s => addP l (probesL a0 s n m 0)) l
theorem addK_len (a0 : Int) (m : Nat) (n : Int) : ∀ (ks : List ByteArray) (l : List Int), (addK a0 m n l ks).length = l.length
  | [], _ => rfl
  | _ :: ks, l => (addK_len a0 m n ks _).trans (addP_len _ l)
theorem impl_put_l0 (a0 a1 n : Int) (x20 : List Int) (hl : (x20.length : Int) ≤ 9223372036854775806) : ∀ (t pre l : List Int), x20 = pre ++ t → (∀ p ∈ t, 0 ≤ p ∧ p ≤ 1000000 ∧ p / 16 < (l.length : Int)) →
    Ev (fun k => impl_Bloom_put.l0 k x20 (x20.length : Int) (pre.length : Int) a0 a1 n l) (addP l t) := by
  intro t
  induction t with
  | nil =>
    intro pre l e hp
    refine ev_succ ?_
    simp only [impl_Bloom_put.l0]
    exact ev_neg (by rw [e]; exact not_lt_end) (ev_some rfl)
  | cons s t ih =>
    intro pre l e hp
    have hm : ((pre.length : Nat) : Int) < (x20.length : Int) := by rw [e]; exact lt_mid
    have hg : rd x20 (pre.length : Int) = s := by rw [e]; exact rd_mid
    obtain ⟨p0, p1, p2⟩ := hp s (by simp)
    refine ev_succ ?_
    simp only [impl_Bloom_put.l0, hg]
    refine ev_pos hm (ev_pos (by omega) (ev_pos hm (ev_bind (setV l s) (by rw [impl_Bits_set_f n l p0 p1 p2]; exact Ev.now _) ?_)))
    rw [winc (by omega)]
    have := ih (pre ++ [s]) (setV l s) (by rw [e]; simp) (fun p h => by rw [setV_len]; exact hp p (by simp [h]))
    rw [len_one] at this
    exact this
theorem impl_put_f (a0 a1 n : Int) (l : List Int) (s : ByteArray) (hz : (s.size : Int) ≤ 9223372036854775806) (h0 : 0 ≤ a0) (h0' : a0 ≤ 1000000) (h1 : 0 ≤ a1) (h1' : a1 ≤ 1000000)
    (hn : 1 ≤ n) (hn' : n ≤ 1000000) (hl : (n + 15) / 16 ≤ (l.length : Int)) : Ev (fun k => impl_Bloom_put.f k a0 a1 n l s) (addP l (probesL a0 s n a1.toNat 0)) := by
  unfold impl_Bloom_put.f
  refine ev_bind _ (impl_probesOf_f a0 a1 n s hz h0 h0' h1 h1') ?_
  exact impl_put_l0 a0 a1 n _ (by rw [probesL_len]; omega) _ [] l rfl (fun p h => by
    obtain ⟨x, y⟩ := probesL_range a0 s hn hn' _ _ p h
    exact ⟨x, by omega, by omega⟩)
end Go.Proofs.YtpkpjikkfikejaaQ
namespace Go.Proofs.YtpkpjikkfikejaaQ
open Go Go.RowKit Go.Proofs.YtpkpjikkfikejaaW.PrintWords Go.Proofs.YtpkpjikkfikejaaGp Go.Proofs.Ytpkpjikkfikejaa.PB

theorem spec_in (n a b : Int) : spec_l1In.f n a b = some (decide (a ≤ n ∧ n ≤ b)) := by
  unfold spec_l1In.f
  by_cases h : a ≤ n <;> by_cases h' : n ≤ b <;> simp [h, h']
theorem impl_in (n a b : Int) : impl_in.f n a b = some (decide (a ≤ n ∧ n ≤ b)) := by
  unfold impl_in.f
  by_cases h : a ≤ n <;> by_cases h' : n ≤ b <;> simp [h, h']

def byteOk (c : UInt8) : Bool := decide (33 ≤ (c.toNat : Int) ∧ (c.toNat : Int) ≤ 125)
def isKeyB (s : ByteArray) : Bool := s.data.toList.all byteOk && decide (1 ≤ (s.size : Int) ∧ (s.size : Int) ≤ 12)
theorem spec_IsKey_l0 (x0 : ByteArray) (hz : (x0.size : Int) ≤ 9223372036854775806) : ∀ (t pre : List UInt8), x0.data.toList = pre ++ t →
    Ev (fun k => spec_IsKey.l0 k x0 (pre.length : Int)) (t.all byteOk && decide (1 ≤ (x0.size : Int) ∧ (x0.size : Int) ≤ 12)) := by
  intro t
  induction t with
  | nil =>
    intro pre h
    refine ev_succ ?_
    simp only [spec_IsKey.l0, spec_in, Option.bind_some]
    exact ev_neg (not_lt_size h) (ev_some (by simp))
  | cons c t ih =>
    intro pre h
    have hm := lt_size h
    refine ev_succ ?_
    simp only [spec_IsKey.l0, bt_mid h]
    refine ev_pos hm (ev_pos (by omega) ?_)
    by_cases c1 : (c.toNat : Int) < 33
    · exact ev_pos c1 (ev_some (by simp [byteOk]; omega))
    · refine ev_neg c1 ?_
      by_cases c2 : (c.toNat : Int) > 125
      · exact ev_pos c2 (ev_some (by simp [byteOk]; omega))
      · refine ev_neg c2 ?_
        rw [winc (by omega)]
        have := ih (pre ++ [c]) (by rw [h]; simp)
        rw [len_one] at this
        have hb : byteOk c = true := by simp [byteOk]; omega
        simpa [hb] using this
theorem spec_IsKey_f (s : ByteArray) (hz : (s.size : Int) ≤ 9223372036854775806) : Ev (fun k => spec_IsKey.f k s) (isKeyB s) := by
  unfold spec_IsKey.f
  exact spec_IsKey_l0 s hz s.data.toList [] rfl
theorem impl_IsKey_l0 (x0 : ByteArray) (hz : (x0.size : Int) ≤ 9223372036854775806) : ∀ (t pre : List UInt8), x0.data.toList = pre ++ t →
    Ev (fun k => impl_IsKey.l0 k x0 (x0.size : Int) (pre.length : Int)) (t.all byteOk && decide (1 ≤ (x0.size : Int) ∧ (x0.size : Int) ≤ 12)) := by
  intro t
  induction t with
  | nil =>
    intro pre h
    refine ev_succ ?_
    simp only [impl_IsKey.l0, impl_in, Option.bind_some]
    exact ev_neg (not_lt_size h) (ev_some (by simp))
  | cons c t ih =>
    intro pre h
    have hm := lt_size h
    refine ev_succ ?_
    simp only [impl_IsKey.l0, bt_mid h]
    refine ev_pos hm (ev_pos (by omega) (ev_pos hm ?_))
    by_cases c1 : (c.toNat : Int) < 33
    · exact ev_pos c1 (ev_some (by simp [byteOk]; omega))
    · refine ev_neg c1 ?_
      by_cases c2 : (c.toNat : Int) > 125
      · exact ev_pos c2 (ev_some (by simp [byteOk]; omega))
      · refine ev_neg c2 ?_
        rw [winc (by omega)]
        have := ih (pre ++ [c]) (by rw [h]; simp)
        rw [len_one] at this
        have hb : byteOk c = true := by simp [byteOk]; omega
        simpa [hb] using this
theorem impl_IsKey_f (s : ByteArray) (hz : (s.size : Int) ≤ 9223372036854775806) : Ev (fun k => impl_IsKey.f k s) (isKeyB s) := by
  unfold impl_IsKey.f
  exact impl_IsKey_l0 s hz s.data.toList [] rfl
theorem isKeyB_size {s : ByteArray} (h : isKeyB s = true) : 1 ≤ s.size ∧ s.size ≤ 12 := by
  simp [isKeyB] at h
  omega

def keysFrom : Option ByteArray → List ByteArray → Bool
  | _, [] => true
  | p, s :: t => isKeyB s && (match p with | none => true | some q => lessS q s) && keysFrom (some s) t
def areKeysB (l : List ByteArray) : Bool := keysFrom none l && decide ((l.length : Int) ≤ 40)
def lastOf (pre : List ByteArray) : Option ByteArray := pre.getLast?
theorem lastOf_one (pre : List ByteArray) (s : ByteArray) : lastOf (pre ++ [s]) = some s := by simp [lastOf]
theorem lastOf_nil : lastOf [] = none := rfl
theorem last_split {pre : List ByteArray} (h : 0 < pre.length) : ∃ q p, pre = q ++ [p] := by
  obtain ⟨x, hx⟩ : ∃ x, pre.getLast? = some x := by
    cases hp : pre.getLast? with
    | none => rw [List.getLast?_eq_none_iff] at hp; subst hp; simp at h
    | some x => exact ⟨x, rfl⟩
  obtain ⟨q, hq⟩ := List.getLast?_eq_some_iff.1 hx
  exact ⟨q, x, hq⟩

theorem spec_biKeys_l0 (x0 : List ByteArray) (hl : (x0.length : Int) ≤ 9223372036854775806) : ∀ (t pre : List ByteArray), x0 = pre ++ t → (∀ s ∈ t, (s.size : Int) ≤ 9223372036854775806) →
    Ev (fun k => spec_biKeys.l0 k x0 x0 (x0.length : Int) (pre.length : Int)) (keysFrom (lastOf pre) t && decide ((x0.length : Int) ≤ 40)) := by
  intro t
  induction t with
  | nil =>
    intro pre h hs
    refine ev_succ ?_
    simp only [spec_biKeys.l0]
    exact ev_neg (by rw [h]; exact not_lt_end) (ev_some (by simp [keysFrom]))
  | cons s t ih =>
    intro pre h hs
    have hm : ((pre.length : Nat) : Int) < (x0.length : Int) := by rw [h]; exact lt_mid
    have hg : rdOf ByteArray.empty x0 (pre.length : Int) = s := by rw [h]; exact rdOf_mid
    have next := ih (pre ++ [s]) (by rw [h]; simp) (fun x hx => hs x (by simp [hx]))
    rw [len_one, lastOf_one] at next
    refine ev_succ ?_
    simp only [spec_biKeys.l0, hg]
    refine ev_pos hm (ev_pos (by omega) (ev_pos hm (ev_bind _ (spec_IsKey_f s (hs s (by simp))) ?_)))
    cases hk : isKeyB s with
    | false => exact ev_neg (by simp) (ev_some (by simp [keysFrom, hk]))
    | true =>
      refine ev_pos rfl ?_
      by_cases c : 0 < pre.length
      · obtain ⟨q, p, rfl⟩ := last_split c
        have hp : rdOf ByteArray.empty x0 ((q.length : Nat) : Int) = p := by rw [h]; exact rdOf_last
        have hw : wrap64 (((q ++ [p]).length : Int) - 1) = (q.length : Int) := by rw [len_one]; exact wdec (by simp at hm; omega)
        simp only [hw, hp, lastOf_one, keysFrom, hk, Bool.true_and]
        refine ev_pos (by omega) (ev_pos (by omega) (ev_pos (by simp at hm; omega) ?_))
        by_cases c2 : lessS p s = true
        · refine ev_pos c2 ?_
          rw [winc (by omega), c2, Bool.true_and]
          exact next
        · refine ev_neg c2 (ev_some ?_)
          simp only [Bool.not_eq_true] at c2
          simp [c2]
      · obtain rfl := List.length_eq_zero_iff.1 (show pre.length = 0 by omega)
        refine ev_neg (by simp) ?_
        rw [winc (by omega)]
        simp only [lastOf_nil, keysFrom, hk, Bool.true_and]
        exact next
theorem spec_biKeys_f (l : List ByteArray) (hl : (l.length : Int) ≤ 9223372036854775806) (hs : ∀ s ∈ l, (s.size : Int) ≤ 9223372036854775806) : Ev (fun k => spec_biKeys.f k l) (areKeysB l) := by
  unfold spec_biKeys.f
  exact spec_biKeys_l0 l hl l [] rfl hs
theorem impl_AreKeys_l0 (x0 : List ByteArray) (hl : (x0.length : Int) ≤ 9223372036854775806) : ∀ (t pre : List ByteArray), x0 = pre ++ t → (∀ s ∈ t, (s.size : Int) ≤ 9223372036854775806) →
    Ev (fun k => impl_AreKeys.l0 k x0 x0 (x0.length : Int) (pre.length : Int)) (keysFrom (lastOf pre) t && decide ((x0.length : Int) ≤ 40)) := by
  intro t
  induction t with
  | nil =>
    intro pre h hs
    refine ev_succ ?_
    simp only [impl_AreKeys.l0]
    exact ev_neg (by rw [h]; exact not_lt_end) (ev_some (by simp [keysFrom]))
  | cons s t ih =>
    intro pre h hs
    have hm : ((pre.length : Nat) : Int) < (x0.length : Int) := by rw [h]; exact lt_mid
    have hg : rdOf ByteArray.empty x0 (pre.length : Int) = s := by rw [h]; exact rdOf_mid
    have next := ih (pre ++ [s]) (by rw [h]; simp) (fun x hx => hs x (by simp [hx]))
    rw [len_one, lastOf_one] at next
    refine ev_succ ?_
    simp only [impl_AreKeys.l0, hg]
    refine ev_pos hm (ev_pos (by omega) (ev_pos hm (ev_bind _ (impl_IsKey_f s (hs s (by simp))) ?_)))
    cases hk : isKeyB s with
    | false => exact ev_neg (by simp) (ev_some (by simp [keysFrom, hk]))
    | true =>
      refine ev_pos rfl ?_
      by_cases c : 0 < pre.length
      · obtain ⟨q, p, rfl⟩ := last_split c
        have hp : rdOf ByteArray.empty x0 ((q.length : Nat) : Int) = p := by rw [h]; exact rdOf_last
        have hw : wrap64 (((q ++ [p]).length : Int) - 1) = (q.length : Int) := by rw [len_one]; exact wdec (by simp at hm; omega)
        simp only [hw, hp, lastOf_one, keysFrom, hk, Bool.true_and]
        refine ev_pos (by omega) (ev_pos (by omega) (ev_pos (by simp at hm; omega) ?_))
        by_cases c2 : lessS p s = true
        · refine ev_pos c2 ?_
          rw [winc (by omega), c2, Bool.true_and]
          exact next
        · refine ev_neg c2 (ev_some ?_)
          simp only [Bool.not_eq_true] at c2
          simp [c2]
      · obtain rfl := List.length_eq_zero_iff.1 (show pre.length = 0 by omega)
        refine ev_neg (by simp) ?_
        rw [winc (by omega)]
        simp only [lastOf_nil, keysFrom, hk, Bool.true_and]
        exact next
theorem impl_AreKeys_f (l : List ByteArray) (hl : (l.length : Int) ≤ 9223372036854775806) (hs : ∀ s ∈ l, (s.size : Int) ≤ 9223372036854775806) : Ev (fun k => impl_AreKeys.f k l) (areKeysB l) := by
  unfold impl_AreKeys.f
  exact impl_AreKeys_l0 l hl l [] rfl hs
end Go.Proofs.YtpkpjikkfikejaaQ
namespace Go.Proofs.YtpkpjikkfikejaaQ
open Go Go.RowKit Go.Proofs.YtpkpjikkfikejaaW.PrintWords Go.Proofs.YtpkpjikkfikejaaGp Go.Proofs.Ytpkpjikkfikejaa.PB

def sizesB (a0 a1 a2 : Int) : Bool := decide (0 ≤ a0 ∧ a0 ≤ 9999) && decide (1 ≤ a1 ∧ a1 ≤ 8) && decide (1 ≤ a2 ∧ a2 ≤ 512)
theorem sizesB_ok {a0 a1 a2 : Int} (h : sizesB a0 a1 a2 = true) : (0 ≤ a0 ∧ a0 ≤ 9999) ∧ (1 ≤ a1 ∧ a1 ≤ 8) ∧ 1 ≤ a2 ∧ a2 ≤ 512 := by
  simp only [sizesB, Bool.and_eq_true, decide_eq_true_eq] at h
  exact ⟨h.1.1, h.1.2, h.2⟩
def blankV (n : Int) : List Int := List.replicate ((n + 15) / 16).toNat 0
theorem blankV_len {n : Int} (h : 1 ≤ n) : ((blankV n).length : Int) = (n + 15) / 16 := by simp [blankV]; omega
theorem words15 {n : Int} (h0 : 1 ≤ n) (h1 : n ≤ 512) : wrap64 (Int.tdiv (wrap64 (n + 15)) 16) = (n + 15) / 16 := by
  rw [w64 (x := n + 15) (by omega) (by omega), Int.tdiv_eq_ediv_of_nonneg (by omega), w64 (by omega) (by omega)]
def bloomV (a0 a1 a2 : Int) (l : List ByteArray) : Int × Int × Int × List Int × Bool :=
  if (sizesB a0 a1 a2 && areKeysB l) = true then (a0, a1, a2, addK a0 a1.toNat a2 (blankV a2) l, true) else (0, 0, 0, [], false)
theorem spec_fiSize_f (a0 a1 a2 : Int) : spec_fiSize.f a0 a1 a2 = some (sizesB a0 a1 a2) := by
  unfold spec_fiSize.f sizesB
  simp only [spec_in, Option.bind_some]
  by_cases h0 : 0 ≤ a0 ∧ a0 ≤ 9999 <;> by_cases h1 : 1 ≤ a1 ∧ a1 ≤ 8 <;> by_cases h2 : 1 ≤ a2 ∧ a2 ≤ 512 <;> simp [h0, h1, h2]
theorem spec_fiAdd_l1 (x18 : List ByteArray) (x19 x20 a0 a1 n : Int) (l' : List Int) (b0 b1 bn : Int) (x32 : List Int) (hl : (x32.length : Int) ≤ 9223372036854775806) {r : Int × Int × Int × List Int} : ∀ (t pre l : List Int), x32 = pre ++ t → (∀ p ∈ t, 0 ≤ p ∧ p ≤ 1000000 ∧ p / 16 < (l.length : Int)) →
    Ev (fun k => spec_fiAdd.l0 k x18 x19 (wrap64 (x20 + 1)) a0 a1 n l' b0 b1 bn (addP l t)) r →
    Ev (fun k => spec_fiAdd.l1 k x18 x19 x20 x32 (x32.length : Int) (pre.length : Int) a0 a1 n l' b0 b1 bn l) r := by
  intro t
  induction t with
  | nil =>
    intro pre l e hp H
    refine ev_succ ?_
    simp only [spec_fiAdd.l1]
    exact ev_neg (by rw [e]; exact not_lt_end) H
  | cons s t ih =>
    intro pre l e hp H
    have hm : ((pre.length : Nat) : Int) < (x32.length : Int) := by rw [e]; exact lt_mid
    have hg : rd x32 (pre.length : Int) = s := by rw [e]; exact rd_mid
    obtain ⟨p0, p1, p2⟩ := hp s (by simp)
    refine ev_succ ?_
    simp only [spec_fiAdd.l1, hg]
    refine ev_pos hm (ev_pos (by omega) (ev_pos hm (ev_bind (setV l s) (by rw [spec_biSet_f bn l p0 p1 p2]; exact Ev.now _) ?_)))
    rw [winc (by omega)]
    have := ih (pre ++ [s]) (setV l s) (by rw [e]; simp) (fun p h => by rw [setV_len]; exact hp p (by simp [h])) H
    rw [len_one] at this
    exact this
theorem spec_fiAdd_l0 (x18 : List ByteArray) (a0 a1 n : Int) (l' : List Int) (b0 b1 bn : Int) (hl : (x18.length : Int) ≤ 9223372036854775806) (h0 : 0 ≤ a0) (h0' : a0 ≤ 1000000) (h1 : 0 ≤ a1) (h1' : a1 ≤ 1000000) (hn : 1 ≤ n) (hn' : n ≤ 1000000) : ∀ (t pre : List ByteArray) (l : List Int), x18 = pre ++ t → (∀ s ∈ t, (s.size : Int) ≤ 9223372036854775806) → (n + 15) / 16 ≤ (l.length : Int) →
    Ev (fun k => spec_fiAdd.l0 k x18 (x18.length : Int) (pre.length : Int) a0 a1 n l' b0 b1 bn l) (b0, b1, bn, addK a0 a1.toNat n l t) := by
  intro t
  induction t with
  | nil =>
    intro pre l e hz hb
    refine ev_succ ?_
    simp only [spec_fiAdd.l0]
    exact ev_neg (by rw [e]; exact not_lt_end) (ev_some rfl)
  | cons s t ih =>
    intro pre l e hz hb
    have hm : ((pre.length : Nat) : Int) < (x18.length : Int) := by rw [e]; exact lt_mid
    have hg : rdOf ByteArray.empty x18 (pre.length : Int) = s := by rw [e]; exact rdOf_mid
    refine ev_succ ?_
    simp only [spec_fiAdd.l0, hg]
    refine ev_pos hm (ev_pos (by omega) (ev_pos hm (ev_bind _ (spec_fiProbes_f a0 a1 n s (hz s (by simp)) h0 h0' h1 h1') ?_)))
    refine spec_fiAdd_l1 _ _ _ _ _ _ _ _ _ _ _ (by rw [probesL_len]; omega) _ [] l rfl (fun p h => by
      obtain ⟨x, y⟩ := probesL_range a0 s hn hn' _ _ p h
      exact ⟨x, by omega, by omega⟩) ?_
    rw [winc (by omega)]
    have := ih (pre ++ [s]) (addP l (probesL a0 s n a1.toNat 0)) (by rw [e]; simp) (fun s h => hz s (by simp [h])) (by rw [addP_len]; exact hb)
    rw [len_one] at this
    exact this
theorem spec_fiAdd_f (a0 a1 n : Int) (l : List Int) (ks : List ByteArray) (hk : (ks.length : Int) ≤ 9223372036854775806) (hz : ∀ s ∈ ks, (s.size : Int) ≤ 9223372036854775806) (hl : (l.length : Int) ≤ 1000000) (h0 : 0 ≤ a0) (h0' : a0 ≤ 1000000) (h1 : 0 ≤ a1) (h1' : a1 ≤ 1000000) (hn : 1 ≤ n) (hn' : n ≤ 1000000) (hb : (n + 15) / 16 ≤ (l.length : Int)) :
    Ev (fun k => spec_fiAdd.f k a0 a1 n l ks) (a0, a1, n, addK a0 a1.toNat n l ks) := by
  have e : spec_biOwn.f n l = some (n, l) := by
    unfold spec_biOwn.f spec_l1Own.f
    simp only [Option.bind_some, List.length_nil, List.nil_append]
    rw [if_pos (by omega)]
    rfl
  unfold spec_fiAdd.f
  rw [e]
  have := spec_fiAdd_l0 ks a0 a1 n l a0 a1 n hk h0 h0' h1 h1' hn hn' ks [] l rfl hz hb
  exact this
end Go.Proofs.YtpkpjikkfikejaaQ
namespace Go.Proofs.YtpkpjikkfikejaaQ
open Go Go.RowKit Go.Proofs.YtpkpjikkfikejaaW.PrintWords Go.Proofs.YtpkpjikkfikejaaGp Go.Proofs.Ytpkpjikkfikejaa.PB

theorem impl_isSeed_f (a0 : Int) : impl_isSeed.f a0 = some (decide (0 ≤ a0 ∧ a0 ≤ 9999)) := by
  unfold impl_isSeed.f
  rw [impl_in]
  rfl
theorem impl_sizesOk_f (a0 a1 a2 : Int) : impl_sizesOk.f a0 a1 a2 = some (sizesB a0 a1 a2) := by
  unfold impl_sizesOk.f sizesB
  simp only [impl_isSeed_f, impl_in, Option.bind_some]
  by_cases h0 : 0 ≤ a0 ∧ a0 ≤ 9999 <;> by_cases h1 : 1 ≤ a1 ∧ a1 ≤ 8 <;> by_cases h2 : 1 ≤ a2 ∧ a2 ≤ 512 <;> simp [h0, h1, h2]
theorem impl_NewBloom_f (a0 a1 a2 : Int) : impl_NewBloom.f a0 a1 a2 = some (if sizesB a0 a1 a2 = true then (a0, a1, a2, blankV a2, true) else (0, 0, 0, [], false)) := by
  unfold impl_NewBloom.f
  rw [impl_sizesOk_f]
  simp only [Option.bind_some]
  by_cases hs : sizesB a0 a1 a2 = true
  · obtain ⟨_, _, p4, p5⟩ := sizesB_ok hs
    have hw : impl_words.f a2 = some ((a2 + 15) / 16) := by
      unfold impl_words.f
      rw [w64 (x := a2 + 16) (by omega) (by omega), w64 (x := a2 + 16 - 1) (by omega) (by omega), Int.tdiv_eq_ediv_of_nonneg (by omega), w64 (by omega) (by omega), show a2 + 16 - 1 = a2 + 15 from by omega]
    have hb : impl_blank.f a2 = some (a2, blankV a2) := by
      unfold impl_blank.f
      rw [hw]
      simp only [Option.bind_some]
      rw [if_pos (by omega), if_pos (by omega)]
      rfl
    rw [hb, if_pos hs, if_pos hs]
    rfl
  · rw [if_neg hs, if_neg hs]
theorem impl_BloomOf_l0 (x29 : List ByteArray) (a0 a1 n : Int) (hl : (x29.length : Int) ≤ 9223372036854775806) (h0 : 0 ≤ a0) (h0' : a0 ≤ 1000000) (h1 : 0 ≤ a1) (h1' : a1 ≤ 1000000) (hn : 1 ≤ n) (hn' : n ≤ 1000000) : ∀ (t pre : List ByteArray) (l : List Int), x29 = pre ++ t → (∀ s ∈ t, (s.size : Int) ≤ 9223372036854775806) → (n + 15) / 16 ≤ (l.length : Int) →
    Ev (fun k => impl_BloomOf.l0 k x29 (x29.length : Int) (pre.length : Int) a0 a1 n l) (a0, a1, n, addK a0 a1.toNat n l t, true) := by
  intro t
  induction t with
  | nil =>
    intro pre l e hz hb
    refine ev_succ ?_
    simp only [impl_BloomOf.l0]
    exact ev_neg (by rw [e]; exact not_lt_end) (ev_some rfl)
  | cons s t ih =>
    intro pre l e hz hb
    have hm : ((pre.length : Nat) : Int) < (x29.length : Int) := by rw [e]; exact lt_mid
    have hg : rdOf ByteArray.empty x29 (pre.length : Int) = s := by rw [e]; exact rdOf_mid
    refine ev_succ ?_
    simp only [impl_BloomOf.l0, hg]
    refine ev_pos hm (ev_pos (by omega) (ev_pos hm (ev_bind _ (impl_put_f a0 a1 n l s (hz s (by simp)) h0 h0' h1 h1' hn hn' hb) ?_)))
    rw [winc (by omega)]
    have := ih (pre ++ [s]) (addP l (probesL a0 s n a1.toNat 0)) (by rw [e]; simp) (fun s h => hz s (by simp [h])) (by rw [addP_len]; exact hb)
    rw [len_one] at this
    exact this
theorem impl_BloomOf_f (a0 a1 a2 : Int) (l : List ByteArray) (hl : (l.length : Int) ≤ 9223372036854775806) (hz : ∀ s ∈ l, (s.size : Int) ≤ 9223372036854775806) :
    Ev (fun k => impl_BloomOf.f k a0 a1 a2 l) (bloomV a0 a1 a2 l) := by
  unfold impl_BloomOf.f
  rw [impl_NewBloom_f]
  simp only [Option.bind_some]
  by_cases hs : sizesB a0 a1 a2 = true
  · obtain ⟨⟨p0, p1⟩, ⟨p2, p3⟩, p4, p5⟩ := sizesB_ok hs
    have hbl := blankV_len p4
    simp only [if_pos hs]
    refine ev_pos trivial (ev_bind _ (impl_AreKeys_f l hl hz) (ev_succ ?_))
    simp only [impl_BloomOf.j0]
    by_cases hk : areKeysB l = true
    · refine ev_neg (by simp [hk]) ?_
      have := impl_BloomOf_l0 l a0 a1 a2 hl p0 (by omega) (by omega) (by omega) p4 (by omega) l [] (blankV a2) rfl hz (by omega)
      simpa [bloomV, hs, hk] using this
    · exact ev_pos (by simp [hk]) (ev_some (by simp [bloomV, hk]))
  · simp only [if_neg hs]
    refine ev_neg (by simp) (ev_succ ?_)
    simp only [impl_BloomOf.j0]
    exact ev_pos trivial (ev_some (by simp [bloomV, hs]))
end Go.Proofs.YtpkpjikkfikejaaQ
namespace Go.Proofs.YtpkpjikkfikejaaQ
open Go Go.RowKit Go.Proofs.YtpkpjikkfikejaaW.PrintWords Go.Proofs.YtpkpjikkfikejaaGp Go.Proofs.Ytpkpjikkfikejaa.PB

def all16 (l : List Int) : Bool := l.all (fun x => decide (0 ≤ x ∧ x ≤ 65535))
def bitsB (n : Int) (l : List Int) : Bool :=
  decide (0 ≤ n ∧ n ≤ 4096) && (decide ((l.length : Int) = (n + 15) / 16) && (all16 l && (decide (n % 16 = 0) || (shr .i64 (rd l ((l.length : Int) - 1)) (n % 16) == 0))))
theorem bitsB_len {n : Int} {l : List Int} (h : bitsB n l = true) : 0 ≤ n ∧ n ≤ 4096 ∧ (l.length : Int) = (n + 15) / 16 := by
  simp only [bitsB, Bool.and_eq_true, decide_eq_true_eq] at h
  exact ⟨h.1.1, h.1.2, h.2.1⟩
theorem spec_l1All_l0 (x0 : List Int) (hl : (x0.length : Int) ≤ 9223372036854775806) : ∀ (t pre : List Int), x0 = pre ++ t →
    Ev (fun k => spec_l1All.l0 k 0 65535 x0 (x0.length : Int) (pre.length : Int)) (all16 t) := by
  intro t
  induction t with
  | nil =>
    intro pre h
    refine ev_succ ?_
    simp only [spec_l1All.l0]
    exact ev_neg (by rw [h]; exact not_lt_end) (ev_some (by simp [all16]))
  | cons s t ih =>
    intro pre h
    have hm : ((pre.length : Nat) : Int) < (x0.length : Int) := by rw [h]; exact lt_mid
    have hg : rd x0 (pre.length : Int) = s := by rw [h]; exact rd_mid
    refine ev_succ ?_
    simp only [spec_l1All.l0, hg, spec_in]
    refine ev_pos hm (ev_pos (by omega) (ev_pos hm (ev_bind _ (Ev.now _) ?_)))
    by_cases c : 0 ≤ s ∧ s ≤ 65535
    · refine ev_pos (by simpa using c) ?_
      rw [winc (by omega)]
      have := ih (pre ++ [s]) (by rw [h]; simp)
      rw [len_one] at this
      rw [show all16 (s :: t) = all16 t from by simp [all16, c]]
      exact this
    · refine ev_neg (by simpa using c) (ev_some ?_)
      have : decide (0 ≤ s ∧ s ≤ 65535) = false := decide_eq_false c
      simp only [all16, List.all_cons, this, Bool.false_and]
theorem spec_l1All_f (l : List Int) (hl : (l.length : Int) ≤ 9223372036854775806) : Ev (fun k => spec_l1All.f k l 0 65535) (all16 l) := by
  unfold spec_l1All.f
  exact spec_l1All_l0 l hl l [] rfl
theorem words_up {n : Int} (h0 : 0 ≤ n) (h1 : n ≤ 4096) : wrap64 (Int.tdiv (wrap64 (n + 15)) 16) = (n + 15) / 16 := by
  rw [w64 (x := n + 15) (by omega) (by omega), Int.tdiv_eq_ediv_of_nonneg (by omega), w64 (by omega) (by omega)]
theorem spec_biGood_f (n : Int) (l : List Int) (hl : (l.length : Int) ≤ 9223372036854775806) : Ev (fun k => spec_biGood.f k n l) (bitsB n l) := by
  unfold spec_biGood.f
  simp only [spec_in]
  refine ev_bind _ (Ev.now _) ?_
  by_cases c : 0 ≤ n ∧ n ≤ 4096
  · refine ev_pos (by simpa using c) ?_
    rw [words_up c.1 c.2]
    by_cases c2 : (l.length : Int) = (n + 15) / 16
    · refine ev_pos c2 (ev_bind _ (spec_l1All_f l hl) ?_)
      by_cases c3 : all16 l = true
      · refine ev_pos c3 ?_
        rw [Int.tmod_eq_emod_of_nonneg c.1]
        by_cases c4 : n % 16 = 0
        · exact ev_pos c4 (ev_some (by simp [bitsB, c, c2, c3, c4]))
        · refine ev_neg c4 ?_
          rw [w64 (x := (l.length : Int) - 1) (by omega) (by omega)]
          refine ev_pos (by omega) (ev_pos (by omega) (ev_pos (by omega) (ev_some ?_)))
          simp [bitsB, c, c2, c3, c4]
      · exact ev_neg c3 (ev_some (by simp [bitsB, c3]))
    · exact ev_neg c2 (ev_some (by simp [bitsB, c2]))
  · refine ev_neg (by simpa using c) (ev_some ?_)
    have : decide (0 ≤ n ∧ n ≤ 4096) = false := decide_eq_false c
    simp only [bitsB, this, Bool.false_and]
theorem impl_IsBits_l0 (n : Int) (x20 : List Int) (c : 0 ≤ n ∧ n ≤ 4096) (c2 : (x20.length : Int) = (n + 15) / 16) : ∀ (t pre : List Int), x20 = pre ++ t →
    Ev (fun k => impl_IsBits.l0 k x20 (x20.length : Int) (pre.length : Int) n x20) (all16 t && (decide (n % 16 = 0) || (shr .i64 (rd x20 ((x20.length : Int) - 1)) (n % 16) == 0))) := by
  intro t
  induction t with
  | nil =>
    intro pre h
    refine ev_succ ?_
    simp only [impl_IsBits.l0]
    refine ev_neg (by rw [h]; exact not_lt_end) ?_
    rw [Int.tmod_eq_emod_of_nonneg c.1]
    by_cases c4 : n % 16 = 0
    · exact ev_pos c4 (ev_some (by simp [all16, c4]))
    · refine ev_neg c4 ?_
      rw [w64 (x := (x20.length : Int) - 1) (by omega) (by omega)]
      refine ev_pos (by omega) (ev_pos (by omega) (ev_pos (by omega) (ev_some ?_)))
      simp [all16, c4]
  | cons s t ih =>
    intro pre h
    have hm : ((pre.length : Nat) : Int) < (x20.length : Int) := by rw [h]; exact lt_mid
    have hg : rd x20 (pre.length : Int) = s := by rw [h]; exact rd_mid
    refine ev_succ ?_
    simp only [impl_IsBits.l0, hg, impl_in]
    refine ev_pos hm (ev_pos (by omega) (ev_pos hm (ev_bind _ (Ev.now _) ?_)))
    by_cases c5 : 0 ≤ s ∧ s ≤ 65535
    · refine ev_pos (by simpa using c5) ?_
      rw [winc (by omega)]
      have := ih (pre ++ [s]) (by rw [h]; simp)
      rw [len_one] at this
      rw [show all16 (s :: t) = all16 t from by simp [all16, c5]]
      exact this
    · refine ev_neg (by simpa using c5) (ev_some ?_)
      have : decide (0 ≤ s ∧ s ≤ 65535) = false := decide_eq_false c5
      simp only [all16, List.all_cons, this, Bool.false_and]
theorem impl_words_f {n : Int} (h0 : 0 ≤ n) (h1 : n ≤ 4096) : impl_words.f n = some ((n + 15) / 16) := by
  unfold impl_words.f
  rw [w64 (x := n + 16) (by omega) (by omega), w64 (x := n + 16 - 1) (by omega) (by omega), Int.tdiv_eq_ediv_of_nonneg (by omega), w64 (by omega) (by omega), show n + 16 - 1 = n + 15 from by omega]
theorem impl_IsBits_f (n : Int) (l : List Int) : Ev (fun k => impl_IsBits.f k n l) (bitsB n l) := by
  unfold impl_IsBits.f
  simp only [impl_in]
  refine ev_bind _ (Ev.now _) ?_
  by_cases c : 0 ≤ n ∧ n ≤ 4096
  · refine ev_pos (by simpa using c) ?_
    rw [impl_words_f c.1 c.2]
    simp only [Option.bind_some]
    refine ev_succ ?_
    simp only [impl_IsBits.j0]
    by_cases c2 : (l.length : Int) = (n + 15) / 16
    · refine ev_neg (by simp [c2]) ?_
      have := impl_IsBits_l0 n l c c2 l [] rfl
      rw [show bitsB n l = (all16 l && (decide (n % 16 = 0) || (shr .i64 (rd l ((l.length : Int) - 1)) (n % 16) == 0))) from by simp [bitsB, c, c2]]
      exact this
    · exact ev_pos (by simpa using c2) (ev_some (by simp [bitsB, c2]))
  · refine ev_neg (by simpa using c) (ev_succ ?_)
    simp only [impl_IsBits.j0]
    refine ev_pos (by trivial) (ev_some ?_)
    have : decide (0 ≤ n ∧ n ≤ 4096) = false := decide_eq_false c
    simp only [bitsB, this, Bool.false_and]
def isBloomB (a0 a1 a2 : Int) (l : List Int) : Bool := sizesB a0 a1 a2 && bitsB a2 l
theorem isBloomB_ok {a0 a1 a2 : Int} {l : List Int} (h : isBloomB a0 a1 a2 l = true) : (0 ≤ a0 ∧ a0 ≤ 9999) ∧ (1 ≤ a1 ∧ a1 ≤ 8) ∧ (1 ≤ a2 ∧ a2 ≤ 512) ∧ (l.length : Int) = (a2 + 15) / 16 := by
  rw [isBloomB, Bool.and_eq_true] at h
  obtain ⟨x, y, z⟩ := sizesB_ok h.1
  exact ⟨x, y, z, (bitsB_len h.2).2.2⟩
theorem spec_fiGood_f (a0 a1 a2 : Int) (l : List Int) (hl : (l.length : Int) ≤ 9223372036854775806) : Ev (fun k => spec_fiGood.f k a0 a1 a2 l) (isBloomB a0 a1 a2 l) := by
  unfold spec_fiGood.f
  refine ev_bind _ (spec_biGood_f a2 l hl) ?_
  rw [spec_fiSize_f]
  by_cases c : bitsB a2 l = true
  · exact ev_pos c (ev_bind _ (Ev.now _) (ev_some (by simp [isBloomB, c])))
  · exact ev_neg c (ev_some (by simp [isBloomB, c]))
theorem impl_IsBloom_f (a0 a1 a2 : Int) (l : List Int) : Ev (fun k => impl_IsBloom.f k a0 a1 a2 l) (isBloomB a0 a1 a2 l) := by
  unfold impl_IsBloom.f
  rw [impl_sizesOk_f]
  simp only [Option.bind_some]
  by_cases c : sizesB a0 a1 a2 = true
  · exact ev_pos c (ev_bind _ (impl_IsBits_f a2 l) (ev_some (by simp [isBloomB, c])))
  · exact ev_neg c (ev_some (by simp [isBloomB, c]))
end Go.Proofs.YtpkpjikkfikejaaQ
namespace Go.Proofs.YtpkpjikkfikejaaQ
open Go Go.RowKit Go.Proofs.YtpkpjikkfikejaaW.PrintWords Go.Proofs.YtpkpjikkfikejaaGp Go.Proofs.Ytpkpjikkfikejaa.PB

def atV (l : List Int) (p : Int) : Bool := Go.bits .and .i64 (shr .i64 (rd l (p / 16)) (p % 16)) 1 == 1
theorem div16' {p : Int} (h0 : 0 ≤ p) (h1 : p ≤ 1000000) : wrap64 (Int.tdiv p 16) = p / 16 ∧ Int.tmod p 16 = p % 16 := by
  rw [Int.tdiv_eq_ediv_of_nonneg h0, Int.tmod_eq_emod_of_nonneg h0, w64 (by omega) (by omega)]
  exact ⟨rfl, rfl⟩
theorem spec_biAt_f (n : Int) (l : List Int) {p : Int} (h0 : 0 ≤ p) (h1 : p ≤ 1000000) (h2 : p / 16 < (l.length : Int)) : spec_biAt.f n l p = some (atV l p) := by
  unfold spec_biAt.f
  rw [(div16' h0 h1).1, (div16' h0 h1).2, if_pos (by omega), if_pos h2, if_pos (by omega)]
  rfl
theorem impl_Bits_at_f (n : Int) (l : List Int) {p : Int} (h0 : 0 ≤ p) (h1 : p ≤ 1000000) (h2 : p / 16 < (l.length : Int)) : impl_Bits_at.f n l p = some (atV l p) := by
  unfold impl_Bits_at.f
  rw [(div16' h0 h1).1, (div16' h0 h1).2, if_pos (by omega), if_pos h2, if_pos (by omega)]
  rfl
def saysV (a0 a1 n : Int) (l : List Int) (s : ByteArray) : Bool := (probesL a0 s n a1.toNat 0).all (atV l)
theorem spec_fiHas_l0 (a0 a1 n : Int) (l : List Int) (x20 : List Int) (hl : (x20.length : Int) ≤ 9223372036854775806) : ∀ (t pre : List Int), x20 = pre ++ t → (∀ p ∈ t, 0 ≤ p ∧ p ≤ 1000000 ∧ p / 16 < (l.length : Int)) →
    Ev (fun k => spec_fiHas.l0 k x20 (x20.length : Int) (pre.length : Int) a0 a1 n l) (t.all (atV l)) := by
  intro t
  induction t with
  | nil =>
    intro pre e hp
    refine ev_succ ?_
    simp only [spec_fiHas.l0]
    exact ev_neg (by rw [e]; exact not_lt_end) (ev_some rfl)
  | cons s t ih =>
    intro pre e hp
    have hm : ((pre.length : Nat) : Int) < (x20.length : Int) := by rw [e]; exact lt_mid
    have hg : rd x20 (pre.length : Int) = s := by rw [e]; exact rd_mid
    obtain ⟨p0, p1, p2⟩ := hp s (by simp)
    refine ev_succ ?_
    simp only [spec_fiHas.l0, hg]
    refine ev_pos hm (ev_pos (by omega) (ev_pos hm (ev_bind (atV l s) (by rw [spec_biAt_f n l p0 p1 p2]; exact Ev.now _) ?_)))
    by_cases c : atV l s = true
    · refine ev_pos c ?_
      rw [winc (by omega)]
      have := ih (pre ++ [s]) (by rw [e]; simp) (fun p h => hp p (by simp [h]))
      rw [len_one] at this
      simpa [c] using this
    · exact ev_neg c (ev_some (by simp [c]))
theorem spec_fiHas_f (a0 a1 n : Int) (l : List Int) (s : ByteArray) (hz : (s.size : Int) ≤ 9223372036854775806) (h0 : 0 ≤ a0) (h0' : a0 ≤ 1000000) (h1 : 0 ≤ a1) (h1' : a1 ≤ 1000000)
    (hn : 1 ≤ n) (hn' : n ≤ 1000000) (hl : (n + 15) / 16 ≤ (l.length : Int)) : Ev (fun k => spec_fiHas.f k a0 a1 n l s) (saysV a0 a1 n l s) := by
  unfold spec_fiHas.f
  refine ev_bind _ (spec_fiProbes_f a0 a1 n s hz h0 h0' h1 h1') ?_
  exact spec_fiHas_l0 a0 a1 n l _ (by rw [probesL_len]; omega) _ [] rfl (fun p h => by
    obtain ⟨x, y⟩ := probesL_range a0 s hn hn' _ _ p h
    exact ⟨x, by omega, by omega⟩)
theorem impl_says_l0 (a0 a1 n : Int) (l : List Int) (s : ByteArray) (hz : (s.size : Int) ≤ 9223372036854775806) (h0 : 0 ≤ a0) (h0' : a0 ≤ 1000000) (h1' : a1 ≤ 1000000)
    (hn : 1 ≤ n) (hn' : n ≤ 1000000) (hl : (n + 15) / 16 ≤ (l.length : Int)) : ∀ (m i : Nat), ((i + m : Nat) : Int) = a1 → Ev (fun k => impl_Bloom_says.l0 k s a1 (i : Int) a0 a1 n l) ((probesL a0 s n m i).all (atV l)) := by
  intro m
  induction m with
  | zero =>
    intro i e
    refine ev_succ ?_
    simp only [impl_Bloom_says.l0, probesL]
    exact ev_neg (by omega) (ev_some rfl)
  | succ m ih =>
    intro i e
    obtain ⟨p0, p1⟩ := placeV_range a0 (i : Int) s hn hn'
    refine ev_succ ?_
    simp only [impl_Bloom_says.l0, probesL]
    refine ev_pos (by omega) (ev_bind _ (impl_place_f a0 (i : Int) s n hz h0 h0' (by omega) (by omega)) (ev_bind (atV l (placeV a0 (i : Int) s n)) (by rw [impl_Bits_at_f n l p0 (by omega) (by omega)]; exact Ev.now _) ?_))
    by_cases c : atV l (placeV a0 (i : Int) s n) = true
    · refine ev_pos c ?_
      rw [winc (by omega)]
      have := ih (i + 1) (by omega)
      simpa [c] using this
    · exact ev_neg c (ev_some (by simp [c]))
theorem impl_says_f (a0 a1 n : Int) (l : List Int) (s : ByteArray) (hz : (s.size : Int) ≤ 9223372036854775806) (h0 : 0 ≤ a0) (h0' : a0 ≤ 1000000) (h1 : 0 ≤ a1) (h1' : a1 ≤ 1000000)
    (hn : 1 ≤ n) (hn' : n ≤ 1000000) (hl : (n + 15) / 16 ≤ (l.length : Int)) : Ev (fun k => impl_Bloom_says.f k a0 a1 n l s) (saysV a0 a1 n l s) := by
  unfold impl_Bloom_says.f
  have := impl_says_l0 a0 a1 n l s hz h0 h0' h1' hn hn' hl a1.toNat 0 (by omega)
  exact this
end Go.Proofs.YtpkpjikkfikejaaQ
namespace Go.Proofs.YtpkpjikkfikejaaQ
open Go Go.RowKit Go.Proofs.YtpkpjikkfikejaaW.PrintWords Go.Proofs.YtpkpjikkfikejaaGp Go.Proofs.Ytpkpjikkfikejaa.PB

def hasS (l : List ByteArray) (s : ByteArray) : Bool := l.any fun x => decide (x = s)
theorem hasS_iff {l : List ByteArray} {s : ByteArray} : hasS l s = true ↔ s ∈ l := by simp [hasS]
theorem spec_l1HasS_l0 (x0 : List ByteArray) (s : ByteArray) (hl : (x0.length : Int) ≤ 9223372036854775806) : ∀ (t pre : List ByteArray), x0 = pre ++ t →
    Ev (fun k => spec_l1HasS.l0 k s x0 (x0.length : Int) (pre.length : Int)) (hasS t s) := by
  intro t
  induction t with
  | nil =>
    intro pre h
    refine ev_succ ?_
    simp only [spec_l1HasS.l0]
    exact ev_neg (by rw [h]; exact not_lt_end) (ev_some (by simp [hasS]))
  | cons x t ih =>
    intro pre h
    have hm : ((pre.length : Nat) : Int) < (x0.length : Int) := by rw [h]; exact lt_mid
    have hg : rdOf ByteArray.empty x0 (pre.length : Int) = x := by rw [h]; exact rdOf_mid
    refine ev_succ ?_
    simp only [spec_l1HasS.l0, hg, tl_inj]
    refine ev_pos hm (ev_pos (by omega) (ev_pos hm ?_))
    by_cases c : x = s
    · exact ev_pos c (ev_some (by simp [hasS, c]))
    · refine ev_neg c ?_
      rw [winc (by omega)]
      have := ih (pre ++ [x]) (by rw [h]; simp)
      rw [len_one] at this
      have e : hasS (x :: t) s = hasS t s := by simp [hasS, c]
      rw [e]
      exact this
theorem spec_l1HasS_f (l : List ByteArray) (s : ByteArray) (hl : (l.length : Int) ≤ 9223372036854775806) : Ev (fun k => spec_l1HasS.f k l s) (hasS l s) := by
  unfold spec_l1HasS.f
  exact spec_l1HasS_l0 l s hl l [] rfl
def idxS : List ByteArray → ByteArray → Nat → Int
  | [], _, _ => -1
  | x :: t, s, i => if x = s then (i : Int) else idxS t s (i + 1)
theorem idxS_mem : ∀ (l : List ByteArray) (s : ByteArray) (i : Nat), 0 ≤ idxS l s i ↔ s ∈ l
  | [], s, i => by simp [idxS]
  | x :: t, s, i => by
    simp only [idxS]
    split
    · rename_i c; simp [c]
    · rename_i c; rw [idxS_mem t s (i + 1)]; simp [Ne.symm c]
theorem slices_Index_string_string_l0 (x0 : List ByteArray) (s : ByteArray) (hl : (x0.length : Int) ≤ 9223372036854775806) : ∀ (t pre : List ByteArray), x0 = pre ++ t →
    Ev (fun k => slices_Index_string_string.l0 k x0 s (x0.length : Int) (pre.length : Int)) (idxS t s pre.length) := by
  intro t
  induction t with
  | nil =>
    intro pre h
    refine ev_succ ?_
    simp only [slices_Index_string_string.l0]
    exact ev_neg (by rw [h]; exact not_lt_end) (ev_some (by simp [idxS]))
  | cons x t ih =>
    intro pre h
    have hm : ((pre.length : Nat) : Int) < (x0.length : Int) := by rw [h]; exact lt_mid
    have hg : rdOf ByteArray.empty x0 (pre.length : Int) = x := by rw [h]; exact rdOf_mid
    refine ev_succ ?_
    simp only [slices_Index_string_string.l0, hg, tl_inj]
    refine ev_pos hm (ev_pos (by omega) (ev_pos hm ?_))
    by_cases c : s = x
    · exact ev_pos c (ev_some (by simp [idxS, c]))
    · refine ev_neg c ?_
      rw [winc (by omega)]
      have := ih (pre ++ [x]) (by rw [h]; simp)
      rw [len_one] at this
      have e : idxS (x :: t) s pre.length = idxS t s (pre ++ [x]).length := by simp [idxS, Ne.symm c]
      rw [e]
      exact this
theorem slices_Index_string_string_f (l : List ByteArray) (s : ByteArray) (hl : (l.length : Int) ≤ 9223372036854775806) : Ev (fun k => slices_Index_string_string.f k l s) (idxS l s 0) := by
  unfold slices_Index_string_string.f
  exact slices_Index_string_string_l0 l s hl l [] rfl
theorem slices_Contains_string_string_f (l : List ByteArray) (s : ByteArray) (hl : (l.length : Int) ≤ 9223372036854775806) : Ev (fun k => slices_Contains_string_string.f k l s) (hasS l s) := by
  unfold slices_Contains_string_string.f
  refine ev_bind _ (slices_Index_string_string_f l s hl) (ev_some ?_)
  rw [Bool.eq_iff_iff, hasS_iff, decide_eq_true_eq]
  exact idxS_mem l s 0
end Go.Proofs.YtpkpjikkfikejaaQ
namespace Go.Proofs.YtpkpjikkfikejaaQ
open Go Go.RowKit Go.Proofs.YtpkpjikkfikejaaW.PrintWords Go.Proofs.YtpkpjikkfikejaaGp Go.Proofs.Ytpkpjikkfikejaa.PB

def textsB (l : List ByteArray) : Bool := l.all isKeyB && decide ((l.length : Int) ≤ 300)
theorem textsB_len {l : List ByteArray} (h : textsB l = true) : l.length ≤ 300 := by
  simp only [textsB, Bool.and_eq_true, decide_eq_true_eq] at h
  omega
theorem spec_fiKeys_l0 (x0 : List ByteArray) (hl : (x0.length : Int) ≤ 9223372036854775806) : ∀ (t pre : List ByteArray), x0 = pre ++ t → (∀ s ∈ t, (s.size : Int) ≤ 9223372036854775806) →
    Ev (fun k => spec_fiKeys.l0 k x0 x0 (x0.length : Int) (pre.length : Int)) (t.all isKeyB && decide ((x0.length : Int) ≤ 300)) := by
  intro t
  induction t with
  | nil =>
    intro pre h hs
    refine ev_succ ?_
    simp only [spec_fiKeys.l0]
    exact ev_neg (by rw [h]; exact not_lt_end) (ev_some (by simp))
  | cons x t ih =>
    intro pre h hs
    have hm : ((pre.length : Nat) : Int) < (x0.length : Int) := by rw [h]; exact lt_mid
    have hg : rdOf ByteArray.empty x0 (pre.length : Int) = x := by rw [h]; exact rdOf_mid
    refine ev_succ ?_
    simp only [spec_fiKeys.l0, hg]
    refine ev_pos hm (ev_pos (by omega) (ev_pos hm (ev_bind _ (spec_IsKey_f x (hs x (by simp))) ?_)))
    by_cases c : isKeyB x = true
    · refine ev_pos c ?_
      rw [winc (by omega)]
      have := ih (pre ++ [x]) (by rw [h]; simp) (fun s h => hs s (by simp [h]))
      rw [len_one] at this
      simpa [c] using this
    · exact ev_neg c (ev_some (by simp [c]))
theorem spec_fiKeys_f (l : List ByteArray) (hl : (l.length : Int) ≤ 9223372036854775806) (hs : ∀ s ∈ l, (s.size : Int) ≤ 9223372036854775806) : Ev (fun k => spec_fiKeys.f k l) (textsB l) := by
  unfold spec_fiKeys.f
  exact spec_fiKeys_l0 l hl l [] rfl hs
theorem impl_areTexts_1_f (s : ByteArray) (hz : (s.size : Int) ≤ 9223372036854775806) : Ev (fun k => impl_areTexts_1.f k s) (!isKeyB s) := by
  unfold impl_areTexts_1.f
  exact ev_bind _ (impl_IsKey_f s hz) (Ev.now _)
theorem IndexFunc_areTexts_l0 (x0 : List ByteArray) (hl : (x0.length : Int) ≤ 9223372036854775806) : ∀ (t pre : List ByteArray), x0 = pre ++ t → (∀ s ∈ t, (s.size : Int) ≤ 9223372036854775806) →
    ∃ r : Int, Ev (fun k => slices_IndexFunc_string_string_at_impl_areTexts_1.l0 k x0 (x0.length : Int) (pre.length : Int)) r ∧ decide (r ≥ 0) = !(t.all isKeyB) := by
  intro t
  induction t with
  | nil =>
    intro pre h hs
    refine ⟨-1, ev_succ ?_, by simp⟩
    simp only [slices_IndexFunc_string_string_at_impl_areTexts_1.l0]
    exact ev_neg (by rw [h]; exact not_lt_end) (ev_some rfl)
  | cons x t ih =>
    intro pre h hs
    have hm : ((pre.length : Nat) : Int) < (x0.length : Int) := by rw [h]; exact lt_mid
    have hg : rdOf ByteArray.empty x0 (pre.length : Int) = x := by rw [h]; exact rdOf_mid
    by_cases c : isKeyB x = true
    · obtain ⟨r, h1, h2⟩ := ih (pre ++ [x]) (by rw [h]; simp) (fun s h => hs s (by simp [h]))
      refine ⟨r, ev_succ ?_, by simpa [c] using h2⟩
      simp only [slices_IndexFunc_string_string_at_impl_areTexts_1.l0, hg]
      refine ev_pos hm (ev_pos (by omega) (ev_pos hm (ev_bind _ (impl_areTexts_1_f x (hs x (by simp))) (ev_neg (by simp [c]) ?_))))
      rw [winc (by omega)]
      rw [len_one] at h1
      exact h1
    · refine ⟨(pre.length : Int), ev_succ ?_, by simp [c]⟩
      simp only [slices_IndexFunc_string_string_at_impl_areTexts_1.l0, hg]
      exact ev_pos hm (ev_pos (by omega) (ev_pos hm (ev_bind _ (impl_areTexts_1_f x (hs x (by simp))) (ev_pos (by simp [c]) (Ev.now _)))))
theorem impl_areTexts_f (l : List ByteArray) (hs : ∀ s ∈ l, (s.size : Int) ≤ 9223372036854775806) : Ev (fun k => impl_areTexts.f k l) (textsB l) := by
  unfold impl_areTexts.f
  by_cases c : (l.length : Int) ≤ 300
  · obtain ⟨r, h1, h2⟩ := IndexFunc_areTexts_l0 l (by omega) l [] rfl hs
    refine ev_pos c (ev_bind (!(l.all isKeyB)) ?_ (ev_some (by simp [textsB, c])))
    unfold slices_ContainsFunc_string_string_at_impl_areTexts_1.f slices_IndexFunc_string_string_at_impl_areTexts_1.f
    exact ev_bind _ h1 (ev_some h2)
  · exact ev_neg c (ev_some (by simp [textsB, c]))

def wrongL (f : ByteArray → Bool) (ks : List ByteArray) : List ByteArray → Nat → List Int
  | [], _ => []
  | s :: t, i => if hasS ks s = true then wrongL f ks t (i + 1) else if f s = true then (i : Int) :: wrongL f ks t (i + 1) else wrongL f ks t (i + 1)
theorem wrongL_len (f : ByteArray → Bool) (ks : List ByteArray) : ∀ t i, (wrongL f ks t i).length ≤ t.length
  | [], _ => by simp [wrongL]
  | s :: t, i => by
    have := wrongL_len f ks t (i + 1)
    simp only [wrongL]
    split
    · simp; omega
    · split <;> simp <;> omega
end Go.Proofs.YtpkpjikkfikejaaQ
namespace Go.Proofs.YtpkpjikkfikejaaQ
open Go Go.RowKit Go.Proofs.YtpkpjikkfikejaaW.PrintWords Go.Proofs.YtpkpjikkfikejaaGp Go.Proofs.Ytpkpjikkfikejaa.PB

theorem spec_fiFalse_l0 (a0 a1 n : Int) (l : List Int) (ks : List ByteArray) (hk : (ks.length : Int) ≤ 9223372036854775806) (h0 : 0 ≤ a0) (h0' : a0 ≤ 1000000) (h1 : 0 ≤ a1) (h1' : a1 ≤ 1000000)
    (hn : 1 ≤ n) (hn' : n ≤ 1000000) (hl : (n + 15) / 16 ≤ (l.length : Int)) (x0 : List ByteArray) (hx : x0.length ≤ 300) : ∀ (t pre : List ByteArray) (acc : List Int), x0 = pre ++ t → (∀ s ∈ t, (s.size : Int) ≤ 9223372036854775806) → acc.length ≤ pre.length →
    Ev (fun k => spec_fiFalse.l0 k ks acc x0 (x0.length : Int) (pre.length : Int) a0 a1 n l) (acc ++ wrongL (saysV a0 a1 n l) ks t pre.length) := by
  intro t
  induction t with
  | nil =>
    intro pre acc h hs ha
    refine ev_succ ?_
    simp only [spec_fiFalse.l0]
    exact ev_neg (by rw [h]; exact not_lt_end) (ev_some (by simp [wrongL]))
  | cons x t ih =>
    intro pre acc h hs ha
    have hm : ((pre.length : Nat) : Int) < (x0.length : Int) := by rw [h]; exact lt_mid
    have hg : rdOf ByteArray.empty x0 (pre.length : Int) = x := by rw [h]; exact rdOf_mid
    have e : wrongL (saysV a0 a1 n l) ks (x :: t) pre.length = if hasS ks x = true then wrongL (saysV a0 a1 n l) ks t (pre ++ [x]).length else if saysV a0 a1 n l x = true then (pre.length : Int) :: wrongL (saysV a0 a1 n l) ks t (pre ++ [x]).length else wrongL (saysV a0 a1 n l) ks t (pre ++ [x]).length := by simp [wrongL]
    have hI := fun acc ha => ih (pre ++ [x]) acc (by rw [h]; simp) (fun s h => hs s (by simp [h])) ha
    rw [e]
    refine ev_succ ?_
    simp only [spec_fiFalse.l0, hg]
    refine ev_pos hm (ev_pos (by omega) (ev_pos hm (ev_bind _ (spec_l1HasS_f ks x hk) ?_)))
    rw [winc (by omega), ← len_one]
    by_cases c : hasS ks x = true
    · rw [if_pos c]
      exact ev_pos c (hI acc (by simp; omega))
    · rw [if_neg c]
      refine ev_neg c (ev_bind _ (spec_fiHas_f a0 a1 n l x (hs x (by simp)) h0 h0' h1 h1' hn hn' hl) ?_)
      by_cases c2 : saysV a0 a1 n l x = true
      · rw [if_pos c2]
        refine ev_pos c2 (ev_pos (by omega) ?_)
        have := hI (acc ++ [(pre.length : Int)]) (by simp; omega)
        rw [List.append_assoc] at this
        exact this
      · rw [if_neg c2]
        exact ev_neg c2 (hI acc (by simp; omega))
theorem spec_fiFalse_f (a0 a1 n : Int) (l : List Int) (ks ts : List ByteArray) (hk : (ks.length : Int) ≤ 9223372036854775806) (h0 : 0 ≤ a0) (h0' : a0 ≤ 1000000) (h1 : 0 ≤ a1) (h1' : a1 ≤ 1000000)
    (hn : 1 ≤ n) (hn' : n ≤ 1000000) (hl : (n + 15) / 16 ≤ (l.length : Int)) (hx : ts.length ≤ 300) (hs : ∀ s ∈ ts, (s.size : Int) ≤ 9223372036854775806) :
    Ev (fun k => spec_fiFalse.f k a0 a1 n l ks ts) (wrongL (saysV a0 a1 n l) ks ts 0) := by
  unfold spec_fiFalse.f
  exact spec_fiFalse_l0 a0 a1 n l ks hk h0 h0' h1 h1' hn hn' hl ts hx ts [] [] rfl hs (by simp)
theorem impl_wrong_l0 (a0 a1 n : Int) (l : List Int) (ks : List ByteArray) (hk : (ks.length : Int) ≤ 9223372036854775806) (h0 : 0 ≤ a0) (h0' : a0 ≤ 1000000) (h1 : 0 ≤ a1) (h1' : a1 ≤ 1000000)
    (hn : 1 ≤ n) (hn' : n ≤ 1000000) (hl : (n + 15) / 16 ≤ (l.length : Int)) (x0 : List ByteArray) (hx : x0.length ≤ 300) : ∀ (t pre : List ByteArray) (acc : List Int), x0 = pre ++ t → (∀ s ∈ t, (s.size : Int) ≤ 9223372036854775806) → acc.length ≤ pre.length →
    Ev (fun k => impl_wrong_at_impl_Bloom_says.l0 k ks acc x0 (x0.length : Int) (pre.length : Int) a0 a1 n l) (acc ++ wrongL (saysV a0 a1 n l) ks t pre.length) := by
  intro t
  induction t with
  | nil =>
    intro pre acc h hs ha
    refine ev_succ ?_
    simp only [impl_wrong_at_impl_Bloom_says.l0]
    exact ev_neg (by rw [h]; exact not_lt_end) (ev_some (by simp [wrongL]))
  | cons x t ih =>
    intro pre acc h hs ha
    have hm : ((pre.length : Nat) : Int) < (x0.length : Int) := by rw [h]; exact lt_mid
    have hg : rdOf ByteArray.empty x0 (pre.length : Int) = x := by rw [h]; exact rdOf_mid
    have e : wrongL (saysV a0 a1 n l) ks (x :: t) pre.length = if hasS ks x = true then wrongL (saysV a0 a1 n l) ks t (pre ++ [x]).length else if saysV a0 a1 n l x = true then (pre.length : Int) :: wrongL (saysV a0 a1 n l) ks t (pre ++ [x]).length else wrongL (saysV a0 a1 n l) ks t (pre ++ [x]).length := by simp [wrongL]
    have hI := fun acc ha => ih (pre ++ [x]) acc (by rw [h]; simp) (fun s h => hs s (by simp [h])) ha
    rw [e]
    refine ev_succ ?_
    simp only [impl_wrong_at_impl_Bloom_says.l0, hg]
    refine ev_pos hm (ev_pos (by omega) (ev_pos hm (ev_bind _ (slices_Contains_string_string_f ks x hk) ?_)))
    rw [winc (by omega), ← len_one]
    by_cases c : hasS ks x = true
    · rw [if_pos c]
      exact ev_pos c (hI acc (by simp; omega))
    · rw [if_neg c]
      refine ev_neg c (ev_bind _ (impl_says_f a0 a1 n l x (hs x (by simp)) h0 h0' h1 h1' hn hn' hl) ?_)
      by_cases c2 : saysV a0 a1 n l x = true
      · rw [if_pos c2]
        refine ev_pos c2 (ev_pos (by omega) ?_)
        have := hI (acc ++ [(pre.length : Int)]) (by simp; omega)
        rw [List.append_assoc] at this
        exact this
      · rw [if_neg c2]
        exact ev_neg c2 (hI acc (by simp; omega))
theorem impl_wrong_f (a0 a1 n : Int) (l : List Int) (ks ts : List ByteArray) (hk : (ks.length : Int) ≤ 9223372036854775806) (h0 : 0 ≤ a0) (h0' : a0 ≤ 1000000) (h1 : 0 ≤ a1) (h1' : a1 ≤ 1000000)
    (hn : 1 ≤ n) (hn' : n ≤ 1000000) (hl : (n + 15) / 16 ≤ (l.length : Int)) (hx : ts.length ≤ 300) (hs : ∀ s ∈ ts, (s.size : Int) ≤ 9223372036854775806) :
    Ev (fun k => impl_wrong_at_impl_Bloom_says.f k ks ts a0 a1 n l) (wrongL (saysV a0 a1 n l) ks ts 0) := by
  unfold impl_wrong_at_impl_Bloom_says.f
  exact impl_wrong_l0 a0 a1 n l ks hk h0 h0' h1 h1' hn hn' hl ts hx ts [] [] rfl hs (by simp)
end Go.Proofs.YtpkpjikkfikejaaQ
namespace Go.Proofs.YtpkpjikkfikejaaQ
open Go Go.RowKit Go.Proofs.YtpkpjikkfikejaaW.PrintWords Go.Proofs.YtpkpjikkfikejaaGp Go.Proofs.Ytpkpjikkfikejaa.PB

def falseV (a0 a1 a2 : Int) (l : List Int) (ks ts : List ByteArray) : List Int × Bool :=
  if (isBloomB a0 a1 a2 l && (areKeysB ks && textsB ts)) = true then (wrongL (saysV a0 a1 a2 l) ks ts 0, true) else ([], false)
theorem falseV_len (a0 a1 a2 : Int) (l : List Int) (ks ts : List ByteArray) : (falseV a0 a1 a2 l ks ts).1.length ≤ 300 := by
  unfold falseV
  split
  · rename_i h
    rw [Bool.and_eq_true, Bool.and_eq_true] at h
    have := textsB_len h.2.2
    have := wrongL_len (saysV a0 a1 a2 l) ks ts 0
    simp only
    omega
  · simp
section
variable (a0 a1 a2 : Int) (l : List Int) (ks ts : List ByteArray) (hk : (ks.length : Int) ≤ 9223372036854775806) (hks : ∀ s ∈ ks, (s.size : Int) ≤ 9223372036854775806) (hts : ∀ s ∈ ts, (s.size : Int) ≤ 9223372036854775806)
include hk hks hts
theorem spec_FalseAnswers_f (hl : (l.length : Int) ≤ 9223372036854775806) (ht : (ts.length : Int) ≤ 9223372036854775806) : Ev (fun k => spec_FalseAnswers.f k a0 a1 a2 l ks ts) (falseV a0 a1 a2 l ks ts) := by
  unfold spec_FalseAnswers.f
  refine ev_bind _ (spec_fiGood_f a0 a1 a2 l hl) ?_
  by_cases c : isBloomB a0 a1 a2 l = true
  · obtain ⟨⟨p0, p1⟩, ⟨p2, p3⟩, ⟨p4, p5⟩, p6⟩ := isBloomB_ok c
    refine ev_pos c (ev_bind _ (spec_biKeys_f ks hk hks) ?_)
    by_cases c2 : areKeysB ks = true
    · refine ev_pos c2 (ev_bind _ (spec_fiKeys_f ts ht hts) ?_)
      by_cases c3 : textsB ts = true
      · exact ev_pos c3 (ev_bind _ (spec_fiFalse_f a0 a1 a2 l ks ts hk p0 (by omega) (by omega) (by omega) p4 (by omega) (by omega) (textsB_len c3) hts) (ev_some (by simp [falseV, c, c2, c3])))
      · exact ev_neg c3 (ev_some (by simp [falseV, c3]))
    · exact ev_neg c2 (ev_some (by simp [falseV, c2]))
  · exact ev_neg c (ev_some (by simp [falseV, c]))
theorem impl_FalseAnswers_f : Ev (fun k => impl_FalseAnswers.f k a0 a1 a2 l ks ts) (falseV a0 a1 a2 l ks ts) := by
  unfold impl_FalseAnswers.f
  refine ev_bind _ (impl_IsBloom_f a0 a1 a2 l) ?_
  by_cases c : isBloomB a0 a1 a2 l = true
  · obtain ⟨⟨p0, p1⟩, ⟨p2, p3⟩, ⟨p4, p5⟩, p6⟩ := isBloomB_ok c
    refine ev_pos c (ev_bind _ (impl_AreKeys_f ks hk hks) ?_)
    by_cases c2 : areKeysB ks = true
    · refine ev_pos c2 (ev_bind _ (impl_areTexts_f ts hts) ?_)
      by_cases c3 : textsB ts = true
      · exact ev_pos c3 (ev_bind _ (impl_wrong_f a0 a1 a2 l ks ts hk p0 (by omega) (by omega) (by omega) p4 (by omega) (by omega) (textsB_len c3) hts) (ev_some (by simp [falseV, c, c2, c3])))
      · exact ev_neg c3 (ev_some (by simp [falseV, c3]))
    · exact ev_neg c2 (ev_some (by simp [falseV, c2]))
  · exact ev_neg c (ev_some (by simp [falseV, c]))
end
end Go.Proofs.YtpkpjikkfikejaaQ
namespace Go.Proofs.YtpkpjikkfikejaaQ
open Go Go.RowKit Go.Proofs.YtpkpjikkfikejaaW.PrintWords Go.Proofs.YtpkpjikkfikejaaGp Go.Proofs.Ytpkpjikkfikejaa.PB

namespace LW
theorem has_l0 (x0 : List Int) (a : Int) (hl : (x0.length : Int) ≤ 9223372036854775806) : ∀ (t pre : List Int), x0 = pre ++ t →
    Ev (fun k => laws_pHas.l0 k a x0 (x0.length : Int) (pre.length : Int)) (t.contains a) := by
  intro t
  induction t with
  | nil =>
    intro pre h
    refine ev_succ ?_
    simp only [laws_pHas.l0]
    exact ev_neg (by rw [h]; exact not_lt_end) (ev_some (by simp))
  | cons x t ih =>
    intro pre h
    have hm : ((pre.length : Nat) : Int) < (x0.length : Int) := by rw [h]; exact lt_mid
    have hg : rd x0 (pre.length : Int) = x := by rw [h]; exact rd_mid
    refine ev_succ ?_
    simp only [laws_pHas.l0, hg]
    refine ev_pos hm (ev_pos (by omega) (ev_pos hm ?_))
    by_cases c : x = a
    · exact ev_pos c (ev_some (by simp [c]))
    · refine ev_neg c ?_
      rw [winc (by omega)]
      have := ih (pre ++ [x]) (by rw [h]; simp)
      rw [len_one] at this
      have e : (x :: t).contains a = t.contains a := by simp [Ne.symm c]
      rw [e]
      exact this
theorem has_f (l : List Int) (a : Int) (hl : (l.length : Int) ≤ 9223372036854775806) : Ev (fun k => laws_pHas.f k l a) (l.contains a) := by
  unfold laws_pHas.f
  exact has_l0 l a hl l [] rfl
theorem hasT_l0 (x0 : List ByteArray) (a : ByteArray) (hl : (x0.length : Int) ≤ 9223372036854775806) : ∀ (t pre : List ByteArray), x0 = pre ++ t →
    Ev (fun k => laws_rHasText.l0 k a x0 (x0.length : Int) (pre.length : Int)) (hasS t a) := by
  intro t
  induction t with
  | nil =>
    intro pre h
    refine ev_succ ?_
    simp only [laws_rHasText.l0]
    exact ev_neg (by rw [h]; exact not_lt_end) (ev_some (by simp [hasS]))
  | cons x t ih =>
    intro pre h
    have hm : ((pre.length : Nat) : Int) < (x0.length : Int) := by rw [h]; exact lt_mid
    have hg : rdOf ByteArray.empty x0 (pre.length : Int) = x := by rw [h]; exact rdOf_mid
    refine ev_succ ?_
    simp only [laws_rHasText.l0, hg, tl_inj]
    refine ev_pos hm (ev_pos (by omega) (ev_pos hm ?_))
    by_cases c : x = a
    · exact ev_pos c (ev_some (by simp [hasS, c]))
    · refine ev_neg c ?_
      rw [winc (by omega)]
      have := ih (pre ++ [x]) (by rw [h]; simp)
      rw [len_one] at this
      have e : hasS (x :: t) a = hasS t a := by simp [hasS, c]
      rw [e]
      exact this
theorem hasT_f (l : List ByteArray) (a : ByteArray) (hl : (l.length : Int) ≤ 9223372036854775806) : Ev (fun k => laws_rHasText.f k l a) (hasS l a) := by
  unfold laws_rHasText.f
  exact hasT_l0 l a hl l [] rfl
theorem same_l0 (x0 y0 : List Int) (hl : (x0.length : Int) ≤ 9223372036854775806) (hy : y0.length = x0.length) : ∀ (t pre u pru : List Int), x0 = pre ++ t → y0 = pru ++ u → pru.length = pre.length →
    Ev (fun k => laws_pSameInts.l0 k x0 y0 (x0.length : Int) (pre.length : Int)) (decide (t = u)) := by
  intro t
  induction t with
  | nil =>
    intro pre u pru h h2 hp
    have : u = [] := by
      have e1 : y0.length = pru.length + u.length := by rw [h2]; simp
      have e2 : x0.length = pre.length := by rw [h]; simp
      exact List.length_eq_zero_iff.1 (by omega)
    subst this
    refine ev_succ ?_
    simp only [laws_pSameInts.l0]
    exact ev_neg (by rw [h]; exact not_lt_end) (ev_some (by simp))
  | cons x t ih =>
    intro pre u pru h h2 hp
    have hm : ((pre.length : Nat) : Int) < (x0.length : Int) := by rw [h]; exact lt_mid
    have hg : rd x0 (pre.length : Int) = x := by rw [h]; exact rd_mid
    cases u with
    | nil =>
      have e1 : y0.length = pru.length := by rw [h2]; simp
      omega
    | cons y u =>
      have hg2 : rd y0 (pre.length : Int) = y := by rw [h2, ← hp]; exact rd_mid
      refine ev_succ ?_
      simp only [laws_pSameInts.l0, hg, hg2]
      by_cases c : x = y
      · subst c
        have := ih (pre ++ [x]) u (pru ++ [x]) (by rw [h]; simp) (by rw [h2]; simp) (by simp [hp])
        rw [len_one] at this
        rw [show decide (x :: t = x :: u) = decide (t = u) from by simp, winc (by omega)]
        exact ev_pos hm (ev_pos (by omega) (ev_pos hm (ev_pos (by omega) (ev_pos rfl this))))
      · rw [decide_eq_false (fun e => c (List.cons.inj e).1)]
        exact ev_pos hm (ev_pos (by omega) (ev_pos hm (ev_pos (by omega) (ev_neg c (Ev.now _)))))
theorem same_f (l l' : List Int) (hl : (l.length : Int) ≤ 9223372036854775806) (h : l'.length = l.length) : Ev (fun k => laws_pSameInts.f k l l') (decide (l = l')) := by
  unfold laws_pSameInts.f
  exact ev_pos (by omega) (same_l0 l l' hl h l [] l' [] rfl rfl rfl)
theorem sameI_f (l l' : List Int) (hl : (l.length : Int) ≤ 9223372036854775806) : Ev (fun k => laws_pSameInts.f k l l') (decide (l = l')) := by
  by_cases h : l'.length = l.length
  · exact same_f l l' hl h
  · unfold laws_pSameInts.f
    exact ev_neg (by omega) (ev_some (decide_eq_false (fun e => h (by rw [e]))).symm)
end LW
end Go.Proofs.YtpkpjikkfikejaaQ
namespace Go.Proofs.YtpkpjikkfikejaaQ
open Go Go.RowKit Go.Proofs.YtpkpjikkfikejaaW.PrintWords Go.Proofs.YtpkpjikkfikejaaW.PrintMore Go.Proofs.YtpkpjikkfikejaaGp

theorem wraps_i64 (n : Int) (h0 : 0 ≤ n) (h1 : n < 2 ^ 62) : IntKind.i64.wrap n = n := by
  rw [IntKind.wrap_i64]
  have : (2 : Int) ^ 62 = 4611686018427387904 := by decide
  omega
theorem bits64 (a b : Nat) (ha : a < 2 ^ 62) (hb : b < 2 ^ 62) : Go.bits .and .i64 a b = ((a &&& b : Nat) : Int) ∧ Go.bits .or .i64 a b = ((a ||| b : Nat) : Int) :=
  bits_nat .i64 62 (by decide) wraps_i64 a b ha hb
theorem two62 : (2 : Nat) ^ 62 = 4611686018427387904 := by decide
theorem pow16 {j : Nat} (h : j < 16) : 2 ^ j < 65536 := by
  have : 2 ^ j ≤ 2 ^ 15 := Nat.pow_le_pow_right (by decide) (by omega)
  have e : (2 : Nat) ^ 15 = 32768 := by decide
  omega
theorem shl1 {j : Nat} (h : j < 16) : shl .i64 1 (j : Int) = ((2 ^ j : Nat) : Int) := by
  unfold shl
  have hj : min (j : Int).toNat IntKind.i64.bits = j := by simp [IntKind.bits]; omega
  rw [hj, Int.one_mul, show ((2 : Int) ^ j) = ((2 ^ j : Nat) : Int) from by simp]
  have hp := pow16 h
  generalize 2 ^ j = z at hp ⊢
  refine wraps_i64 _ (by omega) ?_
  have : (2 : Int) ^ 62 = 4611686018427387904 := by decide
  omega
theorem shrN {w j : Nat} (h : j < 16) : shr .i64 (w : Int) (j : Int) = ((w / 2 ^ j : Nat) : Int) := by
  unfold shr
  have hj : min (j : Int).toNat IntKind.i64.bits = j := by simp [IntKind.bits]; omega
  rw [hj]
  simp
theorem or1 {w j : Nat} (hw : w < 65536) (h : j < 16) : Go.bits .or .i64 (w : Int) (shl .i64 1 (j : Int)) = ((w ||| 2 ^ j : Nat) : Int) := by
  have := pow16 h
  rw [shl1 h]
  exact (bits64 _ _ (by rw [two62]; omega) (by rw [two62]; omega)).2
theorem or1_lt {w j : Nat} (hw : w < 65536) (h : j < 16) : w ||| 2 ^ j < 65536 := by
  have e : (65536 : Nat) = 2 ^ 16 := by decide
  rw [e] at hw ⊢
  have := pow16 h
  exact Nat.or_lt_two_pow hw (by omega)
def okW (l : List Int) : Prop := ∀ w ∈ l, 0 ≤ w ∧ w ≤ 65535
theorem rdN {l : List Int} {p : Nat} (h : p / 16 < l.length) : rd l ((p : Int) / 16) = l.getD (p / 16) 0 := by
  have : ((p : Int) / 16) = ((p / 16 : Nat) : Int) := by omega
  rw [this, rd_get h, List.getD_eq_getElem?_getD, List.getElem?_eq_getElem h]
  rfl
theorem okW_get {l : List Int} (hl : okW l) {i : Nat} (h : i < l.length) : ∃ w : Nat, l.getD i 0 = (w : Int) ∧ w < 65536 := by
  have hm := hl _ (List.getElem_mem h)
  rw [List.getD_eq_getElem?_getD, List.getElem?_eq_getElem h]
  exact ⟨l[i].toNat, by simp; omega, by omega⟩
theorem setV_get {l : List Int} (hl : okW l) {p : Nat} (h : p / 16 < l.length) : ∃ w : Nat, w < 65536 ∧ l.getD (p / 16) 0 = (w : Int) ∧ setV l (p : Int) = l.set (p / 16) ((w ||| 2 ^ (p % 16) : Nat) : Int) := by
  obtain ⟨w, hw, hw2⟩ := okW_get hl h
  refine ⟨w, hw2, hw, ?_⟩
  unfold setV
  rw [rdN h, hw, show ((p : Int) % 16) = ((p % 16 : Nat) : Int) from by omega, or1 hw2 (by omega)]
  congr 1
theorem okW_setV {l : List Int} (hl : okW l) {p : Nat} (h : p / 16 < l.length) : okW (setV l (p : Int)) := by
  obtain ⟨w, hw, _, e⟩ := setV_get hl h
  rw [e]
  intro x hx
  rcases List.mem_or_eq_of_mem_set hx with hx | rfl
  · exact hl x hx
  · have := or1_lt hw (show p % 16 < 16 by omega)
    omega
end Go.Proofs.YtpkpjikkfikejaaQ
namespace Go.Proofs.YtpkpjikkfikejaaQ
open Go Go.RowKit Go.Proofs.YtpkpjikkfikejaaW.PrintWords Go.Proofs.YtpkpjikkfikejaaW.PrintMore Go.Proofs.YtpkpjikkfikejaaGp

theorem all16_ok {l : List Int} : all16 l = true ↔ okW l := by
  unfold all16 okW
  rw [List.all_eq_true]
  simp
theorem bitsB_setV {n : Int} {l : List Int} (h : bitsB n l = true) {p : Int} (h0 : 0 ≤ p) (h1 : p < n) : bitsB n (setV l p) = true := by
  obtain ⟨n0, n1, hlen⟩ := bitsB_len h
  have hl : okW l := by
    simp only [bitsB, Bool.and_eq_true] at h
    exact all16_ok.1 h.2.2.1
  have hp16 : p.toNat / 16 < l.length := by omega
  have e : setV l p = setV l ((p.toNat : Nat) : Int) := by rw [Int.toNat_of_nonneg h0]
  have hl2 : okW (setV l p) := by rw [e]; exact okW_setV hl hp16
  simp only [bitsB, Bool.and_eq_true, decide_eq_true_eq, Bool.or_eq_true, beq_iff_eq] at h ⊢
  refine ⟨h.1, by rw [setV_len]; exact h.2.1, all16_ok.2 hl2, ?_⟩
  rcases h.2.2.2 with c | c
  · exact .inl c
  · by_cases cm : n % 16 = 0
    · exact .inl cm
    right
    rw [setV_len]
    obtain ⟨w, hw, hg, e2⟩ := setV_get hl hp16
    rw [← e] at e2
    obtain ⟨k, hk⟩ : ∃ k : Nat, (l.length : Int) - 1 = (k : Int) := ⟨l.length - 1, by omega⟩
    have hkl : k < l.length := by omega
    obtain ⟨v, hv, _⟩ := okW_get hl hkl
    have hm : n % 16 = (((n % 16).toNat : Nat) : Int) := by omega
    have rv : rd l (k : Int) = (v : Int) := by rw [← hv]; rfl
    rw [hk, hm] at c ⊢
    rw [rv, shrN (by omega)] at c
    rw [e2]
    by_cases ck : p.toNat / 16 = k
    · subst ck
      have hwv : w = v := by rw [hg] at hv; exact Int.ofNat.inj hv
      subst hwv
      have r : rd (l.set (p.toNat / 16) ((w ||| 2 ^ (p.toNat % 16) : Nat) : Int)) ((p.toNat / 16 : Nat) : Int) = ((w ||| 2 ^ (p.toNat % 16) : Nat) : Int) := rd_set hkl
      rw [r, shrN (by omega)]
      have hlt : w < 2 ^ (n % 16).toNat := by
        have hz : w / 2 ^ (n % 16).toNat = 0 := by omega
        rcases (Nat.div_eq_zero_iff).1 hz with hz | hz
        · have := Nat.two_pow_pos (n % 16).toNat
          omega
        · exact hz
      have hpm : p.toNat % 16 < (n % 16).toNat := by omega
      have hlt2 : 2 ^ (p.toNat % 16) < 2 ^ (n % 16).toNat := Nat.pow_lt_pow_right (by decide) hpm
      have := Nat.or_lt_two_pow hlt hlt2
      rw [Nat.div_eq_of_lt this]
      rfl
    · have r : rd (l.set (p.toNat / 16) ((w ||| 2 ^ (p.toNat % 16) : Nat) : Int)) (k : Int) = rd l (k : Int) := by
        simp [rd, List.getElem?_set_ne ck]
      rw [r, rv, shrN (by omega)]
      exact c
theorem bitsB_addP {n : Int} : ∀ (ps : List Int) {l : List Int}, bitsB n l = true → (∀ p ∈ ps, 0 ≤ p ∧ p < n) → bitsB n (addP l ps) = true
  | [], _, h, _ => h
  | p :: ps, l, h, hp => bitsB_addP ps (bitsB_setV h (hp p (by simp)).1 (hp p (by simp)).2) (fun x hx => hp x (by simp [hx]))
end Go.Proofs.YtpkpjikkfikejaaQ
namespace Go.Proofs.YtpkpjikkfikejaaQ
open Go Go.RowKit Go.Proofs.YtpkpjikkfikejaaW.PrintWords Go.Proofs.YtpkpjikkfikejaaGp Go.Proofs.Ytpkpjikkfikejaa.PB

structure Bys (s : List Int) : Prop where
  len : (s.length : Int) ≤ 1048576
  all : ∀ x ∈ s, 0 ≤ x ∧ x ≤ 255
theorem and255 (x : Int) : 0 ≤ Go.bits .and .u64 x 255 ∧ Go.bits .and .u64 x 255 ≤ 255 := by
  have e : Go.bits .and .u64 x 255 = IntKind.u64.wrap (((BitVec.ofInt 64 x &&& BitVec.ofInt 64 255 : BitVec 64)).toNat : Int) := by unfold Go.bits; rfl
  have h : ((BitVec.ofInt 64 x &&& BitVec.ofInt 64 255 : BitVec 64)).toNat ≤ 255 := by
    rw [BitVec.toNat_and]
    exact Nat.and_le_right
  rw [e]
  unfold IntKind.wrap
  simp only [IntKind.bits, IntKind.signed]
  generalize (BitVec.ofInt 64 x &&& BitVec.ofInt 64 255 : BitVec 64).toNat = m at h
  simp
  omega
theorem rd_by {s : List Int} (hs : Bys s) (i : Int) : 0 ≤ rd s i ∧ rd s i ≤ 255 := by
  unfold rd
  by_cases c : i.toNat < s.length
  · rw [List.getD_eq_getElem?_getD, List.getElem?_eq_getElem c]
    exact hs.all _ (List.getElem_mem c)
  · rw [List.getD_eq_getElem?_getD, List.getElem?_eq_none (by omega)]
    simp
theorem next_ok {s : List Int} (hs : Bys s) {p : Int} (sd : Int) (h0 : 0 ≤ p) (h1 : p ≤ 4000000000000000000) :
    ∃ v p' sd', spec_l1Cur_next.f s p sd = some (v, p', sd') ∧ (0 ≤ v ∧ v ≤ 255) ∧ 0 ≤ p' ∧ p' ≤ p + 1 := by
  have hb := rd_by hs p
  have w1 : wrap64 (p + 1) = p + 1 := w64 (by omega) (by omega)
  have w2 : wrap64 (rd s p) = rd s p := w64 (by omega) (by omega)
  unfold spec_l1Cur_next.f
  rw [w1, w2]
  by_cases c : p < (s.length : Int)
  · rw [if_pos c, if_pos h0]
    split
    · exact ⟨_, _, _, rfl, hb, by omega, by omega⟩
    · omega
  · rw [if_neg c, if_neg (by omega)]
    refine ⟨_, _, _, rfl, ?_, by omega, by omega⟩
    have := and255 ((IntKind.u64.wrap ((IntKind.u64.wrap (IntKind.u64.wrap (sd * 6364136223846793005))) + 1442695040888963407)) / 1099511627776)
    rw [w64 (by omega) (by omega)]
    exact this
theorem pick_ok {s : List Int} (hs : Bys s) {p : Int} (sd : Int) {n : Int} (h0 : 0 ≤ p) (h1 : p ≤ 3000000000000000000) :
    ∃ v p' sd', spec_l1Cur_pick.f s p sd n = some (v, p', sd') ∧ (0 ≤ v ∧ (v < n ∨ v = 0)) ∧ 0 ≤ p' ∧ p' ≤ p + 2 := by
  unfold spec_l1Cur_pick.f
  by_cases c : n ≤ 1
  · rw [if_pos c]; exact ⟨_, _, _, rfl, ⟨by omega, .inr rfl⟩, h0, by omega⟩
  obtain ⟨v, p', sd', e, hv, q0, q1⟩ := next_ok hs sd h0 (by omega)
  have hn : ¬ n = 0 := by omega
  rw [if_neg c, e]
  simp only [Option.bind_some, if_neg hn]
  by_cases d : n > 200
  · obtain ⟨u, p2, sd2, e2, hu, r0, r1⟩ := next_ok hs sd' q0 (by omega)
    rw [if_pos d, e2]
    simp only [Option.bind_some]
    refine ⟨_, _, _, rfl, ?_, r0, by omega⟩
    rw [w64 (x := v * 256) (by omega) (by omega), w64 (x := v * 256 + u) (by omega) (by omega), Int.tmod_eq_emod_of_nonneg (by omega)]
    exact ⟨Int.emod_nonneg _ hn, .inl (Int.emod_lt_of_pos _ (by omega))⟩
  · rw [if_neg d]
    refine ⟨_, _, _, rfl, ?_, q0, by omega⟩
    rw [Int.tmod_eq_emod_of_nonneg hv.1]
    exact ⟨Int.emod_nonneg _ hn, .inl (Int.emod_lt_of_pos _ (by omega))⟩
theorem one_ok {s : List Int} (hs : Bys s) {p : Int} (sd : Int) (n : Int) (h0 : 0 ≤ p) (h1 : p ≤ 3000000000000000000) :
    ∃ v p' sd', spec_l1Cur_one.f s p sd n = some (v, p', sd') ∧ 0 ≤ p' ∧ p' ≤ p + 2 := by
  obtain ⟨v, p', sd', e, _, q0, q1⟩ := pick_ok hs sd (n := n) h0 h1
  unfold spec_l1Cur_one.f
  rw [e]
  exact ⟨_, _, _, rfl, q0, q1⟩
theorem among_ok {s : List Int} (hs : Bys s) {p : Int} (sd : Int) {l : List Int} (hl : 0 < l.length) (h0 : 0 ≤ p) (h1 : p ≤ 3000000000000000000) :
    ∃ v p' sd', spec_l1Cur_among.f s p sd l = some (v, p', sd') ∧ v ∈ l ∧ 0 ≤ p' ∧ p' ≤ p + 2 := by
  obtain ⟨v, p', sd', e, hv, q0, q1⟩ := pick_ok hs sd (n := (l.length : Int)) h0 h1
  have hm : rd l v ∈ l := by
    unfold rd
    have : v.toNat < l.length := by omega
    rw [List.getD_eq_getElem?_getD, List.getElem?_eq_getElem this]
    exact List.getElem_mem this
  unfold spec_l1Cur_among.f
  rw [e]
  simp only [Option.bind_some]
  rw [if_pos (by omega), if_pos (by omega)]
  exact ⟨_, _, _, rfl, hm, q0, q1⟩
theorem strOf_size (l : List Int) : (strOfNums l).size = l.length := by simp [strOfNums, ByteArray.size]

def Dr {α : Type} (g : Nat → Option (α × Int × Int)) (p c : Int) (P : α → Prop) : Prop := ∃ v p' sd', Ev g (v, p', sd') ∧ P v ∧ 0 ≤ p' ∧ p' ≤ p + c
theorem key_l1 (s : List Int) (p sd : Int) : ∀ (d : Nat) (x : List Int), 12 - x.length ≤ d → x.length ≤ 12 →
    ∃ v, Ev (fun k => spec_l1Cur_key.l1 k x s p sd) (v, p, sd) ∧ v.size ≤ 12 := by
  intro d
  induction d with
  | zero =>
    intro x h1 h2
    refine ⟨strOfNums x, ev_succ ?_, by rw [strOf_size]; omega⟩
    simp only [spec_l1Cur_key.l1]
    exact ev_neg (by omega) (Ev.now _)
  | succ d ih =>
    intro x h1 h2
    by_cases c : (x.length : Int) < 12
    · obtain ⟨v, e, hv⟩ := ih (x ++ [97]) (by simp; omega) (by simp; omega)
      refine ⟨v, ev_succ ?_, hv⟩
      simp only [spec_l1Cur_key.l1]
      exact ev_pos c (ev_pos (by omega) e)
    · refine ⟨strOfNums x, ev_succ ?_, by rw [strOf_size]; omega⟩
      simp only [spec_l1Cur_key.l1]
      exact ev_neg c (Ev.now _)
theorem key_l0 {s : List Int} (hs : Bys s) : ∀ (n : Nat) (x : List Int) (p sd : Int), x.length + n ≤ 12 → 0 ≤ p → p + 2 * (n : Int) ≤ 2000000000000000000 →
    Dr (fun k => spec_l1Cur_key.l0 k x (n : Int) s p sd) p (2 * (n : Int) + 2) (fun v => v.size ≤ 12) := by
  intro n
  induction n with
  | zero =>
    intro x p sd hx h0 h1
    obtain ⟨v, p', sd', e, q0, q1⟩ := one_ok hs sd 12 h0 (by omega)
    by_cases c : v = true
    · obtain ⟨u, eu, hu⟩ := key_l1 s p' sd' 12 x (by omega) (by omega)
      refine ⟨u, p', sd', ev_succ ?_, hu, q0, by omega⟩
      simp only [spec_l1Cur_key.l0, e]
      exact ev_neg (by omega) (ev_bind _ (Ev.now _) (ev_pos c eu))
    · refine ⟨strOfNums x, p', sd', ev_succ ?_, (by rw [strOf_size]; omega : (strOfNums x).size ≤ 12), q0, by omega⟩
      simp only [spec_l1Cur_key.l0, e]
      exact ev_neg (by omega) (ev_bind _ (Ev.now _) (ev_neg c (Ev.now _)))
  | succ n ih =>
    intro x p sd hx h0 h1
    obtain ⟨v, p', sd', e, hv, q0, q1⟩ := pick_ok hs sd (n := 11) h0 (by omega)
    obtain ⟨u, p2, sd2, eu, hu, r0, r1⟩ := ih (x ++ [bt (⟨#[97, 97, 98, 98, 99, 120, 121, 122, 33, 125, 48]⟩ : ByteArray) v]) p' sd' (by simp; omega) q0 (by omega)
    refine ⟨u, p2, sd2, ev_succ ?_, hu, r0, by omega⟩
    simp only [spec_l1Cur_key.l0, e]
    refine ev_pos (by omega) (ev_bind _ (Ev.now _) (ev_pos hv.1 (ev_pos (by omega) (ev_pos (by omega) ?_))))
    rw [wdec (by omega)]
    exact eu
theorem key_ok {s : List Int} (hs : Bys s) {p : Int} (sd : Int) (h0 : 0 ≤ p) (h1 : p ≤ 1000000000000000000) : Dr (fun k => spec_l1Cur_key.f k s p sd) p 12 (fun v => v.size ≤ 12) := by
  obtain ⟨v, p', sd', e, hv, q0, q1⟩ := pick_ok hs sd (n := 4) h0 (by omega)
  obtain ⟨u, p2, sd2, eu, hu, r0, r1⟩ := key_l0 hs (v.toNat + 1) [] p' sd' (by simp; omega) q0 (by omega)
  refine ⟨u, p2, sd2, ?_, hu, r0, by omega⟩
  unfold spec_l1Cur_key.f
  rw [e]
  refine ev_bind _ (Ev.now _) ?_
  rw [w64 (by omega) (by omega), show 1 + v = ((v.toNat + 1 : Nat) : Int) from by omega]
  exact eu
def insK (s : ByteArray) : List ByteArray → List ByteArray
  | [] => [s]
  | q :: t => if lessS q s = true then q :: insK s t else if q = s then q :: t else s :: q :: t
theorem insK_len (s : ByteArray) : ∀ l, (insK s l).length ≤ l.length + 1
  | [] => by simp [insK]
  | q :: t => by
    have := insK_len s t
    unfold insK
    split
    · simp; omega
    · split <;> simp
theorem insK_mem (s : ByteArray) : ∀ l, ∀ x ∈ insK s l, x = s ∨ x ∈ l
  | [], x, h => by simp [insK] at h; exact .inl h
  | q :: t, x, h => by
    unfold insK at h
    split at h
    · rcases List.mem_cons.1 h with e | e
      · exact .inr (by simp [e])
      · rcases insK_mem s t x e with e | e
        · exact .inl e
        · exact .inr (by simp [e])
    · split at h
      · exact .inr h
      · rcases List.mem_cons.1 h with e | e
        · exact .inl e
        · exact .inr e
theorem putS_l0 (x0 : List ByteArray) (s : ByteArray) (hx : x0.length ≤ 1000000) : ∀ (t pre : List ByteArray), x0 = pre ++ t →
    Ev (fun k => spec_l1PutS.l0 k x0 s (pre.length : Int)) (pre ++ insK s t) := by
  intro t
  induction t with
  | nil =>
    intro pre h
    have hp : x0 = pre := by rw [h, List.append_nil]
    subst hp
    refine ev_succ ?_
    simp only [spec_l1PutS.l0]
    refine ev_neg (by omega) (ev_bind _ (Ev.now _) (ev_pos (by omega) (ev_pos (by omega) (ev_bind _ (Ev.now _) ?_))))
    rw [Int.toNat_natCast, List.take_length, List.nil_append]
    refine ev_pos (by simp; omega) (ev_bind _ (Ev.now _) (ev_pos (by omega) (ev_bind _ (Ev.now _) (ev_bind _ (Ev.now _) (ev_pos (by simp; omega) (ev_some ?_))))))
    simp [insK]
  | cons q t ih =>
    intro pre h
    have hm : ((pre.length : Nat) : Int) < (x0.length : Int) := by rw [h]; exact lt_mid
    have hg : rdOf ByteArray.empty x0 (pre.length : Int) = q := by rw [h]; exact rdOf_mid
    refine ev_succ ?_
    simp only [spec_l1PutS.l0, hg]
    refine ev_pos hm (ev_pos (by omega) ?_)
    unfold insK
    by_cases c : lessS q s = true
    · refine ev_pos c ?_
      rw [winc (by omega), if_pos c]
      have := ih (pre ++ [q]) (by rw [h]; simp)
      rw [len_one] at this
      simpa using this
    · refine ev_neg c ?_
      rw [if_neg c]
      by_cases d : q = s
      · refine ev_pos (tl_inj.2 d) (ev_some ?_)
        rw [if_pos d, h]
      · refine ev_neg (fun e => d (tl_inj.1 e)) (ev_bind _ (Ev.now _) (ev_pos (by omega) (ev_bind _ (Ev.now _) ?_)))
        have et : x0.take pre.length = pre := by rw [h]; simp
        have ed : x0.drop pre.length = q :: t := by rw [h]; simp
        have hl : x0.length = pre.length + (t.length + 1) := by rw [h]; simp
        rw [Int.toNat_natCast, et, ed, List.nil_append, if_neg d]
        refine ev_pos (by simp; omega) (ev_bind _ (Ev.now _) (ev_pos (by omega) (ev_bind _ (Ev.now _) (ev_bind _ (Ev.now _) (ev_pos (by simp; omega) (ev_some ?_))))))
        simp
theorem putS_f (l : List ByteArray) (s : ByteArray) (h : l.length ≤ 1000000) : Ev (fun k => spec_l1PutS.f k l s) (insK s l) := putS_l0 l s h l [] rfl
def Kys (m : Nat) (l : List ByteArray) : Prop := l.length ≤ m ∧ ∀ s ∈ l, s.size ≤ 13
theorem Kys.ins {m : Nat} {l : List ByteArray} (h : Kys m l) {s : ByteArray} (hs : s.size ≤ 13) : Kys (m + 1) (insK s l) :=
  ⟨by have := insK_len s l; have := h.1; omega, fun x hx => by exact (insK_mem s l x hx).elim (fun e => e ▸ hs) (h.2 x)⟩
theorem Kys.one {m : Nat} {l : List ByteArray} (h : Kys m l) {s : ByteArray} (hs : s.size ≤ 13) : Kys (m + 1) (l ++ [s]) :=
  ⟨by have := h.1; simp; omega, fun x hx => by exact (List.mem_append.1 hx).elim (h.2 x) (fun e => List.mem_singleton.1 e ▸ hs)⟩
theorem Kys.mono {m m' : Nat} {l : List ByteArray} (h : Kys m l) (hm : m ≤ m') : Kys m' l := ⟨Nat.le_trans h.1 hm, h.2⟩
theorem keys_l0 {s : List Int} (hs : Bys s) : ∀ (n m : Nat) (x : List ByteArray) (p sd : Int), Kys m x → m + n ≤ 1000 → 0 ≤ p → p + 12 * (n : Int) ≤ 500000000000000000 →
    Dr (fun k => spec_l1Cur_keys.l0 k x (n : Int) s p sd) p (12 * (n : Int)) (Kys (m + n)) := by
  intro n
  induction n with
  | zero =>
    intro m x p sd hx hm h0 h1
    refine ⟨x, p, sd, ev_succ ?_, hx, h0, by omega⟩
    simp only [spec_l1Cur_keys.l0]
    exact ev_neg (by omega) (Ev.now _)
  | succ n ih =>
    intro m x p sd hx hm h0 h1
    obtain ⟨v, p', sd', e, hv, q0, q1⟩ := key_ok hs sd h0 (by omega)
    have hl := hx.1
    obtain ⟨u, p2, sd2, eu, hu, r0, r1⟩ := ih (m + 1) (insK v x) p' sd' (hx.ins (by omega)) (by omega) q0 (by omega)
    refine ⟨u, p2, sd2, ev_succ ?_, hu.mono (by omega), r0, by omega⟩
    simp only [spec_l1Cur_keys.l0]
    refine ev_pos (by omega) (ev_bind _ e (ev_bind _ (putS_f x v (by omega)) ?_))
    rw [wdec (by omega)]
    exact eu
theorem keys_ok {s : List Int} (hs : Bys s) {p : Int} (sd : Int) {n : Nat} (hn : n ≤ 100) (h0 : 0 ≤ p) (h1 : p ≤ 400000000000000000) : Dr (fun k => spec_l1Cur_keys.f k s p sd (n : Int)) p (12 * (n : Int) + 2) (Kys n) := by
  obtain ⟨v, p', sd', e, hv, q0, q1⟩ := pick_ok hs sd (n := (n : Int) + 1) h0 (by omega)
  obtain ⟨u, p2, sd2, eu, hu, r0, r1⟩ := keys_l0 hs v.toNat 0 [] p' sd' ⟨by simp, by simp⟩ (by omega) q0 (by omega)
  refine ⟨u, p2, sd2, ?_, hu.mono (by omega), r0, by omega⟩
  unfold spec_l1Cur_keys.f
  rw [w64 (x := (n : Int) + 1) (by omega) (by omega), e]
  refine ev_bind _ (Ev.now _) ?_
  rw [show ((v.toNat : Nat) : Int) = v from by omega] at eu
  exact eu
end Go.Proofs.YtpkpjikkfikejaaQ
namespace Go.Proofs.YtpkpjikkfikejaaQ
open Go Go.RowKit Go.Proofs.YtpkpjikkfikejaaW.PrintWords Go.Proofs.YtpkpjikkfikejaaGp Go.Proofs.Ytpkpjikkfikejaa.PB

theorem Dr.mono {α : Type} {g : Nat → Option (α × Int × Int)} {p c c' : Int} {P P' : α → Prop} (h : Dr g p c P) (hc : c ≤ c') (hP : ∀ x, P x → P' x) : Dr g p c' P' := by
  obtain ⟨v, p', sd', e, hv, q0, q1⟩ := h
  exact ⟨v, p', sd', e, hP v hv, q0, by omega⟩
theorem seed9_ok {s : List Int} (hs : Bys s) {p : Int} (sd : Int) (h0 : 0 ≤ p) (h1 : p ≤ 1000000000000000000) :
    ∃ v p' sd', spec_l1Cur_seed9.f s p sd = some (v, p', sd') ∧ (-1 ≤ v ∧ v ≤ 10000) ∧ 0 ≤ p' ∧ p' ≤ p + 4 := by
  obtain ⟨v, p', sd', e, hv, q0, q1⟩ := pick_ok hs sd (n := 12) h0 (by omega)
  unfold spec_l1Cur_seed9.f
  rw [e]
  simp only [Option.bind_some]
  by_cases c : v = 0
  · obtain ⟨u, p2, sd2, eu, hu, r0, r1⟩ := among_ok hs sd' (l := [(-1), 9999, 10000]) (by simp) q0 (by omega)
    rw [if_pos c, eu]
    refine ⟨u, p2, sd2, rfl, ?_, r0, by omega⟩
    simp only [List.mem_cons, List.not_mem_nil, or_false] at hu
    omega
  · rw [if_neg c]
    by_cases d : v = 1
    · obtain ⟨u, p2, sd2, eu, hu, r0, r1⟩ := pick_ok hs sd' (n := 10000) q0 (by omega)
      rw [if_pos d, eu]
      exact ⟨u, p2, sd2, rfl, by omega, r0, by omega⟩
    · obtain ⟨u, p2, sd2, eu, hu, r0, r1⟩ := pick_ok hs sd' (n := 20) q0 (by omega)
      rw [if_neg d, eu]
      exact ⟨u, p2, sd2, rfl, by omega, r0, by omega⟩
theorem of_ok {s : List Int} (hs : Bys s) {p : Int} (sd : Int) {l : List ByteArray} (hl : 0 < l.length) (h0 : 0 ≤ p) (h1 : p ≤ 3000000000000000000) :
    ∃ v p' sd', spec_l1Cur_of.f s p sd l = some (v, p', sd') ∧ v ∈ l ∧ 0 ≤ p' ∧ p' ≤ p + 2 := by
  obtain ⟨v, p', sd', e, hv, q0, q1⟩ := pick_ok hs sd (n := (l.length : Int)) h0 h1
  have hm : rdOf ByteArray.empty l v ∈ l := by
    unfold rdOf
    have : v.toNat < l.length := by omega
    rw [List.getD_eq_getElem?_getD, List.getElem?_eq_getElem this]
    exact List.getElem_mem this
  unfold spec_l1Cur_of.f
  rw [e]
  simp only [Option.bind_some]
  rw [if_pos (by omega), if_pos (by omega)]
  exact ⟨_, _, _, rfl, hm, q0, q1⟩
theorem text_ok {s : List Int} (hs : Bys s) {p : Int} (sd : Int) (h0 : 0 ≤ p) (h1 : p ≤ 500000000000000000) : Dr (fun k => spec_l1Cur_text.f k s p sd) p 14 (fun v => v.size ≤ 13) := by
  obtain ⟨v, p', sd', e, hv, q0, q1⟩ := pick_ok hs sd (n := 16) h0 (by omega)
  obtain ⟨u, p2, sd2, eu, hu, r0, r1⟩ := key_ok hs sd' q0 (by omega)
  unfold spec_l1Cur_text.f
  rw [e]
  simp only [Option.bind_some]
  by_cases c0 : v = 0
  · exact ⟨_, p', sd', ev_pos c0 (Ev.now _), by decide, q0, by omega⟩
  · by_cases c1 : v = 1
    · have h1 : (⟨#[32]⟩ : ByteArray).size = 1 := rfl
      refine ⟨u ++ ⟨#[32]⟩, p2, sd2, ev_neg c0 (ev_pos c1 (ev_bind _ eu (ev_pos (by simp only []; omega) (Ev.now _)))), ?_, r0, by omega⟩
      show (u ++ ⟨#[32]⟩ : ByteArray).size ≤ 13
      rw [ByteArray.size_append]
      omega
    · by_cases c2 : v = 2
      · exact ⟨_, p', sd', ev_neg c0 (ev_neg c1 (ev_pos c2 (Ev.now _))), by decide, q0, by omega⟩
      · by_cases c3 : v = 3
        · obtain ⟨x, p3, sd3, ex, hx, t0, t1⟩ := of_ok hs sd' (l := [(⟨#[126]⟩ : ByteArray), (⟨#[125]⟩ : ByteArray), (⟨#[97, 126]⟩ : ByteArray), (⟨#[127]⟩ : ByteArray)]) (by simp) q0 (by omega)
          refine ⟨x, p3, sd3, ev_neg c0 (ev_neg c1 (ev_neg c2 (ev_pos c3 ?_))), ?_, t0, by omega⟩
          · rw [ex]; exact ev_bind _ (Ev.now _) (Ev.now _)
          · simp only [List.mem_cons, List.not_mem_nil, or_false] at hx
            rcases hx with rfl | rfl | rfl | rfl <;> decide
        · exact ⟨u, p2, sd2, ev_neg c0 (ev_neg c1 (ev_neg c2 (ev_neg c3 (ev_bind _ eu (Ev.now _))))), by omega, r0, by omega⟩
theorem many_l0 (s : List Int) (p sd : Int) : ∀ (d i m : Nat) (x : List ByteArray), Kys m x → m + d ≤ 1000 → i + d ≤ 1000 →
    ∃ v, Ev (fun k => spec_l1Cur_many.l0 k ((i + d : Nat) : Int) x (i : Int) s p sd) (v, p, sd) ∧ Kys (m + d) v := by
  intro d
  induction d with
  | zero =>
    intro i m x hx hm hi
    refine ⟨x, ev_succ ?_, hx⟩
    simp only [spec_l1Cur_many.l0]
    exact ev_neg (by omega) (Ev.now _)
  | succ d ih =>
    intro i m x hx hm hi
    have hl := hx.1
    have hz : (strOfNums [(wrap64 (97 + (wrap64 (Int.tdiv (i : Int) 10)))) % 256, (wrap64 (48 + (Int.tmod (i : Int) 10))) % 256]).size ≤ 13 := by rw [strOf_size]; simp
    obtain ⟨v, e, hv⟩ := ih (i + 1) (m + 1) (insK (strOfNums [(wrap64 (97 + (wrap64 (Int.tdiv (i : Int) 10)))) % 256, (wrap64 (48 + (Int.tmod (i : Int) 10))) % 256]) x) (hx.ins hz) (by omega) (by omega)
    refine ⟨v, ev_succ ?_, hv.mono (by omega)⟩
    simp only [spec_l1Cur_many.l0]
    refine ev_pos (by omega) (ev_bind _ (putS_f x _ (by omega)) ?_)
    rw [winc (by omega), show i + (d + 1) = i + 1 + d from by omega]
    exact e
theorem anyKeys_ok {s : List Int} (hs : Bys s) {p : Int} (sd : Int) {n : Nat} (hn : n ≤ 40) (h0 : 0 ≤ p) (h1 : p ≤ 100000000000000000) : Dr (fun k => spec_l1Cur_anyKeys.f k s p sd (n : Int)) p 600 (Kys 42) := by
  obtain ⟨ks, p', sd', e, hv, q0, q1⟩ := keys_ok hs sd (by omega : n ≤ 100) h0 (by omega)
  obtain ⟨v, p2, sd2, e2, hv2, r0, r1⟩ := pick_ok hs sd' (n := 14) q0 (by omega)
  have hl := hv.1
  unfold spec_l1Cur_anyKeys.f
  by_cases c0 : v = 0
  · obtain ⟨u, p3, sd3, eu, hu, t0, t1⟩ := text_ok hs sd2 r0 (by omega)
    refine ⟨ks ++ [u], p3, sd3, ev_bind _ e ?_, (hv.one hu).mono (by omega), t0, by omega⟩
    simp only [e2]
    exact ev_bind _ (Ev.now _) (ev_pos c0 (ev_bind _ eu (ev_pos (by omega) (Ev.now _))))
  · by_cases c1 : v = 1
    · by_cases c : (ks.length : Int) > 0
      · obtain ⟨u, p3, sd3, eu, hu, t0, t1⟩ := pick_ok hs sd2 (n := (ks.length : Int)) r0 (by omega)
        have hm : rdOf ByteArray.empty ks u ∈ ks := by
          unfold rdOf
          have : u.toNat < ks.length := by omega
          rw [List.getD_eq_getElem?_getD, List.getElem?_eq_getElem this]
          exact List.getElem_mem this
        refine ⟨ks ++ [rdOf ByteArray.empty ks u], p3, sd3, ev_bind _ e ?_, (hv.one (hv.2 _ hm)).mono (by omega), t0, by omega⟩
        simp only [e2]
        refine ev_bind _ (Ev.now _) (ev_neg c0 (ev_pos c1 (ev_pos c ?_)))
        simp only [eu]
        exact ev_bind _ (Ev.now _) (ev_pos (by omega) (ev_pos (by omega) (ev_pos (by omega) (Ev.now _))))
      · refine ⟨ks, p2, sd2, ev_bind _ e ?_, hv.mono (by omega), r0, by omega⟩
        simp only [e2]
        exact ev_bind _ (Ev.now _) (ev_neg c0 (ev_pos c1 (ev_neg c (Ev.now _))))
    · by_cases c2 : v = 2
      · obtain ⟨u, p3, sd3, eu, hu, t0, t1⟩ := pick_ok hs sd2 (n := 2) r0 (by omega)
        obtain ⟨y, ey, hy⟩ := many_l0 s p3 sd3 (40 + u.toNat) 0 0 [] ⟨by simp, by simp⟩ (by omega) (by omega)
        refine ⟨y, p3, sd3, ev_bind _ e ?_, hy.mono (by omega), t0, by omega⟩
        simp only [e2]
        refine ev_bind _ (Ev.now _) (ev_neg c0 (ev_neg c1 (ev_pos c2 ?_)))
        simp only [eu]
        refine ev_bind _ (Ev.now _) (ev_bind (y, p3, sd3) ?_ (Ev.now _))
        unfold spec_l1Cur_many.f
        simp only []
        rw [w64 (by omega) (by omega), show 40 + u = ((0 + (40 + u.toNat) : Nat) : Int) from by omega]
        exact ey
      · refine ⟨ks, p2, sd2, ev_bind _ e ?_, hv.mono (by omega), r0, by omega⟩
        simp only [e2]
        exact ev_bind _ (Ev.now _) (ev_neg c0 (ev_neg c1 (ev_neg c2 (Ev.now _))))
theorem big_f {l0 l1 : List Int} (h0 : l0.length ≤ maxLen) (h1 : l1.length ≤ maxLen) : ∃ b, laws_big.f l0 l1 = some b ∧ (b = false → (l0.length : Int) ≤ 1048576 ∧ (l1.length : Int) ≤ 1048576) := by
  rw [maxLen_eq] at h0 h1
  unfold laws_big.f
  by_cases c : (l0.length : Int) > 1048576
  · exact ⟨true, if_pos c, by simp⟩
  · refine ⟨_, if_neg c, fun h => ?_⟩
    rw [decide_eq_false_iff_not, w64 (by omega) (by omega)] at h
    omega
theorem bys {l : List Int} (h : (l.length : Int) ≤ 1048576) (hw : ∀ x ∈ l, (Lit.int .u8 x).wf = true) : Bys l := by
  refine ⟨h, fun x hx => ?_⟩
  have := hw x hx
  simp only [Lit.wf, Bool.and_eq_true, decide_eq_true_eq] at this
  exact this
end Go.Proofs.YtpkpjikkfikejaaQ
namespace Go.Proofs.YtpkpjikkfikejaaQ
open Go Go.RowKit Go.Proofs.YtpkpjikkfikejaaW.PrintWords Go.Proofs.YtpkpjikkfikejaaGp Go.Proofs.Ytpkpjikkfikejaa.PB

theorem biNew_ok {n : Int} (h0 : 0 ≤ n) (h1 : n ≤ 100000) : spec_biNew.f n = some (n, blankV n) := by
  unfold spec_biNew.f
  rw [w64 (x := n + 15) (by omega) (by omega), Int.tdiv_eq_ediv_of_nonneg (by omega), w64 (by omega) (by omega), if_pos (by omega), if_pos (by omega)]
  rfl
theorem blankV_le {n : Int} (h0 : 0 ≤ n) : ((blankV n).length : Int) = (n + 15) / 16 := by simp [blankV]; omega
theorem biSome_l0 (B : List Bool) (n : Int) (hB : B.length ≤ 1000000) : ∀ (t pre : List Bool) (l : List Int), B = pre ++ t → B.length ≤ 16 * l.length →
    ∃ l', Ev (fun k => spec_biSome.l0 k B (B.length : Int) (pre.length : Int) n l) (n, l') ∧ l'.length = l.length := by
  intro t
  induction t with
  | nil =>
    intro pre l h hl
    refine ⟨l, ev_succ ?_, rfl⟩
    simp only [spec_biSome.l0]
    exact ev_neg (by rw [h]; exact not_lt_end) (Ev.now _)
  | cons b t ih =>
    intro pre l h hl
    have hm : ((pre.length : Nat) : Int) < (B.length : Int) := by rw [h]; exact lt_mid
    have hg : rdOf false B (pre.length : Int) = b := by rw [h]; exact rdOf_mid
    by_cases c : b = true
    · obtain ⟨l', e, el⟩ := ih (pre ++ [b]) (setV l (pre.length : Int)) (by rw [h]; simp) (by rw [setV_len]; exact hl)
      rw [len_one] at e
      refine ⟨l', ev_succ ?_, by rw [el, setV_len]⟩
      simp only [spec_biSome.l0, hg]
      rw [winc (by omega)]
      exact ev_pos hm (ev_pos (by omega) (ev_pos hm (ev_pos c (ev_bind (setV l (pre.length : Int)) (by rw [spec_biSet_f n l (by omega) (by omega) (by omega)]; exact Ev.now _) e))))
    · obtain ⟨l', e, el⟩ := ih (pre ++ [b]) l (by rw [h]; simp) hl
      rw [len_one] at e
      refine ⟨l', ev_succ ?_, el⟩
      simp only [spec_biSome.l0, hg]
      rw [winc (by omega)]
      exact ev_pos hm (ev_pos (by omega) (ev_pos hm (ev_neg c e)))
theorem biSome_ok (B : List Bool) (hB : B.length ≤ 1000) : ∃ l, Ev (fun k => spec_biSome.f k B) ((B.length : Int), l) ∧ l.length ≤ 100 := by
  have hb := blankV_le (n := (B.length : Int)) (by omega)
  obtain ⟨l, e, el⟩ := biSome_l0 B (B.length : Int) (by omega) B [] (blankV (B.length : Int)) rfl (by omega)
  refine ⟨l, ?_, by omega⟩
  unfold spec_biSome.f
  rw [biNew_ok (by omega) (by omega)]
  exact ev_bind _ (Ev.now _) e
def DrB (g : Nat → Option (Int × List Int × Int × Int)) (p c : Int) : Prop := ∃ n l p' sd', Ev g (n, l, p', sd') ∧ ((-10 ≤ n ∧ n ≤ 5000) ∧ (l : List Int).length ≤ 1000) ∧ 0 ≤ p' ∧ p' ≤ p + c
theorem bits_l0 {s : List Int} (hs : Bys s) : ∀ (n : Nat) (x : List Bool) (p sd : Int), x.length + n ≤ 1000 → 0 ≤ p → p + 2 * (n : Int) ≤ 900000000000000000 →
    ∃ m l p' sd', Ev (fun k => spec_l1Cur_bits.l0 k x (n : Int) s p sd) (m, l, p', sd') ∧ ((0 ≤ m ∧ m ≤ 1000) ∧ (l : List Int).length ≤ 100) ∧ 0 ≤ p' ∧ p' ≤ p + 2 * (n : Int) := by
  intro n
  induction n with
  | zero =>
    intro x p sd hx h0 h1
    obtain ⟨l, e, hl⟩ := biSome_ok x (by omega)
    refine ⟨(x.length : Int), l, p, sd, ev_succ ?_, ⟨by omega, hl⟩, h0, by omega⟩
    simp only [spec_l1Cur_bits.l0]
    exact ev_neg (by omega) (ev_bind _ e (Ev.now _))
  | succ n ih =>
    intro x p sd hx h0 h1
    obtain ⟨v, p', sd', e, q0, q1⟩ := one_ok hs sd 2 h0 (by omega)
    obtain ⟨m, l, p2, sd2, e2, hm, r0, r1⟩ := ih (x ++ [v]) p' sd' (by simp; omega) q0 (by omega)
    refine ⟨m, l, p2, sd2, ev_succ ?_, hm, r0, by omega⟩
    simp only [spec_l1Cur_bits.l0, e]
    refine ev_pos (by omega) (ev_bind _ (Ev.now _) (ev_pos (by omega) ?_))
    rw [wdec (by omega)]
    exact e2
theorem bits_ok {s : List Int} (hs : Bys s) {p : Int} (sd : Int) {n : Nat} (hn : n ≤ 200) (h0 : 0 ≤ p) (h1 : p ≤ 500000000000000000) :
    ∃ m l p' sd', Ev (fun k => spec_l1Cur_bits.f k s p sd (n : Int)) (m, l, p', sd') ∧ ((0 ≤ m ∧ m ≤ 1000) ∧ (l : List Int).length ≤ 100) ∧ 0 ≤ p' ∧ p' ≤ p + 500 := by
  unfold spec_l1Cur_bits.f
  rw [winc (by omega)]
  obtain ⟨v, p', sd', e, hv, q0, q1⟩ := pick_ok hs sd (n := ((n + 1 : Nat) : Int)) h0 (by omega)
  obtain ⟨m, l, p2, sd2, e2, hm, r0, r1⟩ := bits_l0 hs v.toNat [] p' sd' (by simp; omega) q0 (by omega)
  refine ⟨m, l, p2, sd2, ?_, hm, r0, by omega⟩
  rw [e]
  refine ev_bind _ (Ev.now _) ?_
  rw [show ((v.toNat : Nat) : Int) = v from by omega] at e2
  exact e2
theorem anyBits_j0 (s : List Int) (p sd n : Int) (l : List Int) : Ev (fun k => spec_l1Cur_anyBits.j0 k s p sd n l) (n, l, p, sd) := ev_succ (by simp only [spec_l1Cur_anyBits.j0]; exact Ev.now _)
theorem anyBits_ok {s : List Int} (hs : Bys s) {p : Int} (sd : Int) (h0 : 0 ≤ p) (h1 : p ≤ 400000000000000000) : DrB (fun k => spec_l1Cur_anyBits.f k s p sd) p 600 := by
  obtain ⟨m, l, p1, sd1, e1, ⟨hm, hl⟩, q0, q1⟩ := bits_ok hs sd (n := 40) (by omega) h0 (by omega)
  obtain ⟨v, p2, sd2, e2, hv, r0, r1⟩ := pick_ok hs sd1 (n := 16) q0 (by omega)
  have first : ∀ {r : Int × List Int × Int × Int} {g : Nat → Int × List Int × Int × Int → Option (Int × List Int × Int × Int)}, Ev (fun k => g k (m, l, p1, sd1)) r → Ev (fun k => (spec_l1Cur_bits.f k s p sd 40).bind (g k)) r := fun h => ev_bind _ e1 h
  unfold spec_l1Cur_anyBits.f
  by_cases c0 : v = 0
  · obtain ⟨u, p3, sd3, e3, hu, t0, t1⟩ := pick_ok hs sd2 (n := 2) r0 (by omega)
    refine ⟨m, l ++ [u], p3, sd3, first ?_, ⟨by omega, by simp; omega⟩, t0, by omega⟩
    simp only [e2]
    refine ev_bind _ (Ev.now _) (ev_pos c0 ?_)
    simp only [e3]
    exact ev_bind _ (Ev.now _) (ev_pos (by omega) (anyBits_j0 _ _ _ _ _))
  by_cases c1 : v = 1
  · obtain ⟨u, p3, sd3, e3, hu, t0, t1⟩ := pick_ok hs sd2 (n := 3) r0 (by omega)
    refine ⟨wrap64 (m + wrap64 (u - 1)), l, p3, sd3, first ?_, ⟨?_, by omega⟩, t0, by omega⟩
    · simp only [e2]
      refine ev_bind _ (Ev.now _) (ev_neg c0 (ev_pos c1 ?_))
      simp only [e3]
      exact ev_bind _ (Ev.now _) (anyBits_j0 _ _ _ _ _)
    · rw [w64 (x := u - 1) (by omega) (by omega), w64 (by omega) (by omega)]
      omega
  by_cases c2 : v = 2
  · by_cases cl : (l.length : Int) > 0
    · obtain ⟨u, p3, sd3, e3, hu, t0, t1⟩ := pick_ok hs sd2 (n := (l.length : Int)) r0 (by omega)
      obtain ⟨x, p4, sd4, e4, hx, z0, z1⟩ := among_ok hs sd3 (l := [(-1), 65535, 65536, 40000]) (by simp) t0 (by omega)
      refine ⟨m, l.set u.toNat x, p4, sd4, first ?_, ⟨by omega, by simp; omega⟩, z0, by omega⟩
      simp only [e2]
      refine ev_bind _ (Ev.now _) (ev_neg c0 (ev_neg c1 (ev_pos c2 (ev_pos cl ?_))))
      simp only [e3]
      refine ev_bind _ (Ev.now _) ?_
      simp only [e4]
      exact ev_bind _ (Ev.now _) (ev_pos (by omega) (ev_pos (by omega) (anyBits_j0 _ _ _ _ _)))
    · refine ⟨m, l, p2, sd2, first ?_, ⟨by omega, by omega⟩, r0, by omega⟩
      simp only [e2]
      exact ev_bind _ (Ev.now _) (ev_neg c0 (ev_neg c1 (ev_pos c2 (ev_neg cl (anyBits_j0 _ _ _ _ _)))))
  by_cases c3 : v = 3
  · obtain ⟨u, p3, sd3, e3, hu, t0, t1⟩ := pick_ok hs sd2 (n := 2) r0 (by omega)
    have hw : wrap64 (4096 - u) = 4096 - u := w64 (by omega) (by omega)
    have hb := blankV_le (n := 4096 - u) (by omega)
    refine ⟨4096 - u, blankV (4096 - u), p3, sd3, first ?_, ⟨by omega, by omega⟩, t0, by omega⟩
    simp only [e2]
    refine ev_bind _ (Ev.now _) (ev_neg c0 (ev_neg c1 (ev_neg c2 (ev_pos c3 ?_))))
    simp only [e3]
    refine ev_bind _ (Ev.now _) ?_
    rw [hw, biNew_ok (by omega) (by omega)]
    exact ev_bind _ (Ev.now _) (anyBits_j0 _ _ _ _ _)
  by_cases c4 : v = 4
  · obtain ⟨u, p3, sd3, e3, hu, t0, t1⟩ := pick_ok hs sd2 (n := 5) r0 (by omega)
    have hw : wrap64 (16 * u) = 16 * u := w64 (by omega) (by omega)
    have hb := blankV_le (n := 16 * u) (by omega)
    refine ⟨16 * u, blankV (16 * u), p3, sd3, first ?_, ⟨by omega, by omega⟩, t0, by omega⟩
    simp only [e2]
    refine ev_bind _ (Ev.now _) (ev_neg c0 (ev_neg c1 (ev_neg c2 (ev_neg c3 (ev_pos c4 ?_)))))
    simp only [e3]
    refine ev_bind _ (Ev.now _) ?_
    rw [hw, biNew_ok (by omega) (by omega)]
    exact ev_bind _ (Ev.now _) (anyBits_j0 _ _ _ _ _)
  · refine ⟨m, l, p2, sd2, first ?_, ⟨by omega, by omega⟩, r0, by omega⟩
    simp only [e2]
    exact ev_bind _ (Ev.now _) (ev_neg c0 (ev_neg c1 (ev_neg c2 (ev_neg c3 (ev_neg c4 (anyBits_j0 _ _ _ _ _))))))
theorem probes_ok {s : List Int} (hs : Bys s) {p : Int} (sd : Int) (h0 : 0 ≤ p) (h1 : p ≤ 400000000000000000) : ∃ v p' sd', spec_l1Cur_probes.f s p sd = some (v, p', sd') ∧ 0 ≤ p' ∧ p' ≤ p + 10 := by
  obtain ⟨b, p1, sd1, e1, q0, q1⟩ := one_ok hs sd 10 h0 (by omega)
  unfold spec_l1Cur_probes.f
  rw [e1]
  simp only [Option.bind_some]
  by_cases c : b = true
  · obtain ⟨u, p2, sd2, e2, hu, r0, r1⟩ := among_ok hs sd1 (l := [(-1), 0, 8, 9]) (by simp) q0 (by omega)
    rw [if_pos c, e2]
    exact ⟨u, p2, sd2, rfl, r0, by omega⟩
  · obtain ⟨u, p2, sd2, e2, hu, r0, r1⟩ := pick_ok hs sd1 (n := 4) q0 (by omega)
    rw [if_neg c, e2]
    exact ⟨wrap64 (1 + u), p2, sd2, rfl, r0, by omega⟩
def DrF (g : Nat → Option (Int × Int × Int × List Int × Int × Int)) (p c : Int) : Prop := ∃ a b n l p' sd', Ev g (a, b, n, l, p', sd') ∧ (l : List Int).length ≤ 1000 ∧ 0 ≤ p' ∧ p' ≤ p + c
theorem bloom_j0 (s : List Int) (p sd a b n : Int) (l : List Int) : Ev (fun k => spec_l1Cur_bloom.j0 k s p sd a b n l) (a, b, n, l, p, sd) := ev_succ (by simp only [spec_l1Cur_bloom.j0]; exact Ev.now _)
theorem bloom_ok {s : List Int} (hs : Bys s) {p : Int} (sd : Int) (h0 : 0 ≤ p) (h1 : p ≤ 100000000000000000) : DrF (fun k => spec_l1Cur_bloom.f k s p sd) p 1000 := by
  obtain ⟨v1, p1, sd1, e1, hv1, q0, q1⟩ := pick_ok hs sd (n := 20) h0 (by omega)
  obtain ⟨v2, p2, sd2, e2, hv2, r0, r1⟩ := pick_ok hs sd1 (n := 4) q0 (by omega)
  obtain ⟨v3, p3, sd3, e3, hv3, t0, t1⟩ := among_ok hs sd2 (l := [4, 16, 40, 120]) (by simp) r0 (by omega)
  obtain ⟨v4, p4, sd4, e4, hv4, z0, z1⟩ := pick_ok hs sd3 (n := v3) t0 (by omega)
  obtain ⟨v5, p5, sd5, e5, hv5, y0, y1⟩ := among_ok hs sd4 (l := [2, 5, 9]) (by simp) z0 (by omega)
  simp only [List.mem_cons, List.not_mem_nil, or_false] at hv3 hv5
  obtain ⟨ks, p6, sd6, e6, hk, x0, x1⟩ := keys_ok hs sd5 (n := v5.toNat) (by omega) y0 (by omega)
  rw [show ((v5.toNat : Nat) : Int) = v5 from by omega] at e6
  obtain ⟨v7, p7, sd7, e7, hv7, o0, o1⟩ := pick_ok hs sd6 (n := 30) x0 (by omega)
  have hw2 : wrap64 (1 + v2) = 1 + v2 := w64 (by omega) (by omega)
  have hw4 : wrap64 (1 + v4) = 1 + v4 := w64 (by omega) (by omega)
  have hb := blankV_le (n := 1 + v4) (by omega)
  have hnew : spec_fiNew.f v1 (1 + v2) (1 + v4) = some (v1, 1 + v2, 1 + v4, blankV (1 + v4)) := by
    unfold spec_fiNew.f
    rw [biNew_ok (by omega) (by omega)]
    rfl
  have hadd := spec_fiAdd_f v1 (1 + v2) (1 + v4) (blankV (1 + v4)) ks (by have := hk.1; omega) (fun x hx => by have := hk.2 x hx; omega) (by omega) (by omega) (by omega) (by omega) (by omega) (by omega) (by omega) (by omega)
  have hal : (addK v1 (1 + v2).toNat (1 + v4) (blankV (1 + v4)) ks).length ≤ 100 := by rw [addK_len]; omega
  generalize hL : addK v1 (1 + v2).toNat (1 + v4) (blankV (1 + v4)) ks = L at hadd hal
  have go : ∀ {r : Int × Int × Int × List Int × Int × Int}, Ev (fun k => (if v7 = 0 then ((spec_l1Cur_seed9.f s p7 sd7).bind fun bt436 => (spec_l1Cur_bloom.j0 k s bt436.2.1 bt436.2.2 bt436.1 (1 + v2) (1 + v4) L)) else (if v7 = 1 then ((spec_l1Cur_probes.f s p7 sd7).bind fun bt439 => (spec_l1Cur_bloom.j0 k s bt439.2.1 bt439.2.2 v1 bt439.1 (1 + v4) L)) else (if v7 = 2 then ((spec_l1Cur_anyBits.f k s p7 sd7).bind fun bt442 => (spec_l1Cur_bloom.j0 k s bt442.2.2.1 bt442.2.2.2 v1 (1 + v2) bt442.1 bt442.2.1)) else (if v7 = 3 then (spec_l1Cur_bloom.j0 k s p7 sd7 v1 (1 + v2) (wrap64 (1 + v4 + 1)) L) else (spec_l1Cur_bloom.j0 k s p7 sd7 v1 (1 + v2) (1 + v4) L)))))) r →
      Ev (fun k => spec_l1Cur_bloom.f k s p sd) r := fun {r} h => by
    unfold spec_l1Cur_bloom.f
    simp only [e1, Option.bind_some, e2, e3, e4, hw2, hw4, hnew, e5]
    refine ev_bind _ e6 (ev_bind _ hadd ?_)
    simp only [e7, Option.bind_some]
    exact h
  by_cases c0 : v7 = 0
  · obtain ⟨u, p8, sd8, e8, _, w0, w1⟩ := seed9_ok hs sd7 o0 (by omega)
    refine ⟨u, 1 + v2, 1 + v4, L, p8, sd8, go (ev_pos c0 ?_), by omega, w0, by omega⟩
    rw [e8]
    exact ev_bind _ (Ev.now _) (bloom_j0 _ _ _ _ _ _ _)
  by_cases c1 : v7 = 1
  · obtain ⟨u, p8, sd8, e8, w0, w1⟩ := probes_ok hs sd7 o0 (by omega)
    refine ⟨v1, u, 1 + v4, L, p8, sd8, go (ev_neg c0 (ev_pos c1 ?_)), by omega, w0, by omega⟩
    rw [e8]
    exact ev_bind _ (Ev.now _) (bloom_j0 _ _ _ _ _ _ _)
  by_cases c2 : v7 = 2
  · obtain ⟨n, l, p8, sd8, e8, hl, w0, w1⟩ := anyBits_ok hs sd7 o0 (by omega)
    exact ⟨v1, 1 + v2, n, l, p8, sd8, go (ev_neg c0 (ev_neg c1 (ev_pos c2 (ev_bind _ e8 (bloom_j0 _ _ _ _ _ _ _))))), hl.2, w0, by omega⟩
  by_cases c3 : v7 = 3
  · exact ⟨v1, 1 + v2, wrap64 (1 + v4 + 1), L, p7, sd7, go (ev_neg c0 (ev_neg c1 (ev_neg c2 (ev_pos c3 (bloom_j0 _ _ _ _ _ _ _))))), by omega, o0, by omega⟩
  · exact ⟨v1, 1 + v2, 1 + v4, L, p7, sd7, go (ev_neg c0 (ev_neg c1 (ev_neg c2 (ev_neg c3 (bloom_j0 _ _ _ _ _ _ _))))), by omega, o0, by omega⟩
end Go.Proofs.YtpkpjikkfikejaaQ
namespace Go.Proofs.YtpkpjikkfikejaaQ
open Go Go.RowKit Go.Proofs.YtpkpjikkfikejaaW.PrintWords Go.Proofs.YtpkpjikkfikejaaGp Go.Proofs.Ytpkpjikkfikejaa.PB

theorem texts_l1 {s : List Int} (hs : Bys s) {N : Nat} (hN : N ≤ 400) : ∀ (d : Nat) (x : List ByteArray) (p sd : Int), N - x.length ≤ d → Kys 400 x → 0 ≤ p → p + 12 * (d : Int) ≤ 500000000000000000 →
    Dr (fun k => spec_l1Cur_texts.l1 k x (N : Int) s p sd) p (12 * (d : Int)) (Kys 400) := by
  intro d
  induction d with
  | zero =>
    intro x p sd h1 hx h0 hp
    refine ⟨x, p, sd, ev_succ ?_, hx, h0, by omega⟩
    simp only [spec_l1Cur_texts.l1]
    exact ev_neg (by omega) (Ev.now _)
  | succ d ih =>
    intro x p sd h1 hx h0 hp
    by_cases c : (x.length : Int) < (N : Int)
    · obtain ⟨v, p', sd', e, hv, q0, q1⟩ := key_ok hs sd h0 (by omega)
      obtain ⟨u, p2, sd2, eu, hu, r0, r1⟩ := ih (x ++ [v]) p' sd' (by simp; omega) ⟨by simp; omega, (hx.one (by omega)).2⟩ q0 (by omega)
      refine ⟨u, p2, sd2, ev_succ ?_, hu, r0, by omega⟩
      simp only [spec_l1Cur_texts.l1]
      exact ev_pos c (ev_bind _ e (ev_pos (by omega) eu))
    · refine ⟨x, p, sd, ev_succ ?_, hx, h0, by omega⟩
      simp only [spec_l1Cur_texts.l1]
      exact ev_neg c (Ev.now _)
theorem texts_j2 {s : List Int} (hs : Bys s) {x : List ByteArray} (hx : Kys 60 x) {p : Int} (sd : Int) (h0 : 0 ≤ p) (h1 : p ≤ 100000000000000000) :
    Dr (fun k => spec_l1Cur_texts.j2 k x s p sd) p 6000 (Kys 400) := by
  obtain ⟨b, p1, sd1, e1, q0, q1⟩ := one_ok hs sd 20 h0 (by omega)
  by_cases c : b = true
  · obtain ⟨v, p2, sd2, e2, hv, r0, r1⟩ := pick_ok hs sd1 (n := 2) q0 (by omega)
    obtain ⟨u, p3, sd3, e3, hu, t0, t1⟩ := texts_l1 hs (N := 300 + v.toNat) (by omega) 400 x p2 sd2 (by omega) (hx.mono (by omega)) r0 (by omega)
    refine ⟨u, p3, sd3, ev_succ ?_, hu, t0, by omega⟩
    simp only [spec_l1Cur_texts.j2, e1]
    refine ev_bind _ (Ev.now _) (ev_pos c ?_)
    simp only [e2]
    refine ev_bind _ (Ev.now _) ?_
    rw [w64 (by omega) (by omega), show 300 + v = ((300 + v.toNat : Nat) : Int) from by omega]
    exact e3
  · refine ⟨x, p1, sd1, ev_succ ?_, hx.mono (by omega), q0, by omega⟩
    simp only [spec_l1Cur_texts.j2, e1]
    exact ev_bind _ (Ev.now _) (ev_neg c (Ev.now _))
theorem texts_l0 {s : List Int} (hs : Bys s) {ks : List ByteArray} (hk : ∀ x ∈ ks, x.size ≤ 13) : ∀ (n m : Nat) (x : List ByteArray) (p sd : Int), Kys m x → m + n ≤ 50 → 0 ≤ p → p + 20 * (n : Int) ≤ 50000000000000000 →
    Dr (fun k => spec_l1Cur_texts.l0 k ks x (n : Int) s p sd) p (20 * (n : Int) + 7000) (Kys 400) := by
  intro n
  induction n with
  | zero =>
    intro m x p sd hx hm h0 h1
    obtain ⟨b, p1, sd1, e1, q0, q1⟩ := one_ok hs sd 12 h0 (by omega)
    have hl := hx.1
    by_cases c : b = true
    · obtain ⟨v, p2, sd2, e2, hv, r0, r1⟩ := text_ok hs sd1 q0 (by omega)
      obtain ⟨u, p3, sd3, e3, hu, t0, t1⟩ := texts_j2 hs (x := x ++ [v]) ((hx.one hv).mono (by omega)) sd2 r0 (by omega)
      refine ⟨u, p3, sd3, ev_succ ?_, hu, t0, by omega⟩
      simp only [spec_l1Cur_texts.l0, e1]
      exact ev_neg (by omega) (ev_bind _ (Ev.now _) (ev_pos c (ev_bind _ e2 (ev_pos (by omega) e3))))
    · obtain ⟨u, p3, sd3, e3, hu, t0, t1⟩ := texts_j2 hs (x := x) (hx.mono (by omega)) sd1 q0 (by omega)
      refine ⟨u, p3, sd3, ev_succ ?_, hu, t0, by omega⟩
      simp only [spec_l1Cur_texts.l0, e1]
      exact ev_neg (by omega) (ev_bind _ (Ev.now _) (ev_neg c e3))
  | succ n ih =>
    intro m x p sd hx hm h0 h1
    have hl := hx.1
    have key : ∀ (p1 sd1 : Int), 0 ≤ p1 → p1 ≤ p + 2 → Dr (fun k => spec_l1Cur_texts.j1 k ks x ((n + 1 : Nat) : Int) false s p1 sd1) p (20 * ((n + 1 : Nat) : Int) + 7000) (Kys 400) := fun p1 sd1 g0 g1 => by
      obtain ⟨v, p2, sd2, e2, hv, r0, r1⟩ := key_ok hs sd1 g0 (by omega)
      obtain ⟨u, p3, sd3, e3, hu, t0, t1⟩ := ih (m + 1) (x ++ [v]) p2 sd2 (hx.one (by omega)) (by omega) r0 (by omega)
      refine ⟨u, p3, sd3, ev_succ ?_, hu, t0, by omega⟩
      simp only [spec_l1Cur_texts.j1]
      refine ev_neg (by simp) (ev_bind _ e2 (ev_pos (by omega) ?_))
      rw [wdec (by omega)]
      exact e3
    by_cases c0 : (ks.length : Int) > 0
    · obtain ⟨b, p1, sd1, e1, q0, q1⟩ := one_ok hs sd 4 h0 (by omega)
      by_cases c : b = true
      · obtain ⟨v, p2, sd2, e2, hv, r0, r1⟩ := of_ok hs sd1 (l := ks) (by omega) q0 (by omega)
        obtain ⟨u, p3, sd3, e3, hu, t0, t1⟩ := ih (m + 1) (x ++ [v]) p2 sd2 (hx.one (hk v hv)) (by omega) r0 (by omega)
        refine ⟨u, p3, sd3, ev_succ ?_, hu, t0, by omega⟩
        simp only [spec_l1Cur_texts.l0, e1]
        refine ev_pos (by omega) (ev_pos c0 (ev_bind _ (Ev.now _) (ev_succ ?_)))
        simp only [spec_l1Cur_texts.j1, e2]
        refine ev_pos c (ev_bind _ (Ev.now _) (ev_pos (by omega) ?_))
        rw [wdec (by omega)]
        exact e3
      · obtain ⟨u, p3, sd3, e3, hu, t0, t1⟩ := key p1 sd1 q0 q1
        refine ⟨u, p3, sd3, ev_succ ?_, hu, t0, t1⟩
        simp only [spec_l1Cur_texts.l0, e1]
        refine ev_pos (by omega) (ev_pos c0 (ev_bind _ (Ev.now _) ?_))
        simp only [Bool.not_eq_true] at c
        simp only [c]
        exact e3
    · obtain ⟨u, p3, sd3, e3, hu, t0, t1⟩ := key p sd h0 (by omega)
      refine ⟨u, p3, sd3, ev_succ ?_, hu, t0, t1⟩
      simp only [spec_l1Cur_texts.l0]
      exact ev_pos (by omega) (ev_neg c0 e3)
theorem texts_ok {s : List Int} (hs : Bys s) {ks : List ByteArray} (hk : ∀ x ∈ ks, x.size ≤ 13) {p : Int} (sd : Int) (h0 : 0 ≤ p) (h1 : p ≤ 10000000000000000) : Dr (fun k => spec_l1Cur_texts.f k s p sd ks) p 8000 (Kys 400) := by
  obtain ⟨v, p1, sd1, e1, hv, q0, q1⟩ := among_ok hs sd (l := [4, 12, 30]) (by simp) h0 (by omega)
  simp only [List.mem_cons, List.not_mem_nil, or_false] at hv
  obtain ⟨n, p2, sd2, e2, hn, r0, r1⟩ := pick_ok hs sd1 (n := v) q0 (by omega)
  obtain ⟨u, p3, sd3, e3, hu, t0, t1⟩ := texts_l0 hs hk n.toNat 0 [] p2 sd2 ⟨by simp, by simp⟩ (by omega) r0 (by omega)
  refine ⟨u, p3, sd3, ?_, hu, t0, by omega⟩
  unfold spec_l1Cur_texts.f
  simp only [e1, Option.bind_some, e2]
  rw [show ((n.toNat : Nat) : Int) = n from by omega] at e3
  exact e3
theorem letters_ok {s : List Int} (hs : Bys s) {p : Int} (sd : Int) (h0 : 0 ≤ p) (h1 : p ≤ 10000000000000000) : ∃ v p' sd', spec_l1Cur_letters.f s p sd = some (v, p', sd') ∧ v.size ≤ 13 ∧ 0 ≤ p' ∧ p' ≤ p + 2 := by
  obtain ⟨v, p1, sd1, e1, hv, q0, q1⟩ := of_ok hs sd (l := [(⟨#[97]⟩ : ByteArray), (⟨#[97, 98]⟩ : ByteArray), (⟨#[98, 97]⟩ : ByteArray), (⟨#[97, 98, 99]⟩ : ByteArray), (⟨#[120, 121, 122, 33]⟩ : ByteArray), (⟨#[97, 98, 99, 100, 101, 102, 103, 104]⟩ : ByteArray), (⟨#[]⟩ : ByteArray), (⟨#[97, 97]⟩ : ByteArray), (⟨#[97, 32, 98]⟩ : ByteArray), (⟨#[97, 98, 99, 100, 101, 102, 103, 104, 105, 106, 107, 108]⟩ : ByteArray), (⟨#[97, 98, 99, 100, 101, 102, 103, 104, 105, 106, 107, 108, 109]⟩ : ByteArray)]) (by simp) h0 (by omega)
  refine ⟨v, p1, sd1, ?_, ?_, q0, q1⟩
  · unfold spec_l1Cur_letters.f
    rw [e1]; rfl
  · simp only [List.mem_cons, List.not_mem_nil, or_false] at hv
    rcases hv with rfl | rfl | rfl | rfl | rfl | rfl | rfl | rfl | rfl | rfl | rfl <;> decide
theorem size2_ok {s : List Int} (hs : Bys s) {p : Int} (sd : Int) (h0 : 0 ≤ p) (h1 : p ≤ 10000000000000000) : ∃ v p' sd', spec_l1Cur_size2.f s p sd = some (v, p', sd') ∧ (-1 ≤ v ∧ v ≤ 513) ∧ 0 ≤ p' ∧ p' ≤ p + 10 := by
  obtain ⟨b, p1, sd1, e1, q0, q1⟩ := one_ok hs sd 10 h0 (by omega)
  unfold spec_l1Cur_size2.f
  rw [e1]
  simp only [Option.bind_some]
  by_cases c : b = true
  · obtain ⟨u, p2, sd2, e2, hu, r0, r1⟩ := among_ok hs sd1 (l := [(-1), 0, 512, 513]) (by simp) q0 (by omega)
    rw [if_pos c, e2]
    simp only [List.mem_cons, List.not_mem_nil, or_false] at hu
    exact ⟨u, p2, sd2, rfl, by omega, r0, by omega⟩
  · obtain ⟨u, p2, sd2, e2, hu, r0, r1⟩ := among_ok hs sd1 (l := [4, 16, 40, 120]) (by simp) q0 (by omega)
    simp only [List.mem_cons, List.not_mem_nil, or_false] at hu
    obtain ⟨v, p3, sd3, e3, hv, t0, t1⟩ := pick_ok hs sd2 (n := u) r0 (by omega)
    rw [if_neg c, e2]
    simp only [Option.bind_some, e3]
    refine ⟨wrap64 (1 + v), p3, sd3, rfl, ?_, t0, by omega⟩
    rw [w64 (by omega) (by omega)]
    omega
theorem DrawFalseAnswers_ok {s : List Int} (hs : Bys s) : ∃ a b n l ks ts, Ev (fun k => spec_DrawFalseAnswers.f k s) (a, b, n, l, ks, ts) ∧ (l : List Int).length ≤ 1000 ∧ Kys 42 ks ∧ Kys 400 ts := by
  obtain ⟨a, b, n, l, p1, sd1, e1, hl, q0, q1⟩ := bloom_ok hs 0 (p := 0) (by omega) (by omega)
  obtain ⟨ks, p2, sd2, e2, hk, r0, r1⟩ := anyKeys_ok hs sd1 (n := 6) (by omega) q0 (by omega)
  have g1 := spec_fiGood_f a b n l (by omega)
  have g2 := spec_biKeys_f ks (by have := hk.1; omega) (fun x hx => by have := hk.2 x hx; omega)
  have off : ∀ (p sd : Int), 0 ≤ p → p ≤ 10000 → ∃ ts, Ev (fun k => spec_DrawFalseAnswers.j0 k ks false s p sd a b n l) (a, b, n, l, ks, ts) ∧ Kys 400 ts := fun p sd h0 h1 => by
    obtain ⟨ts, p3, sd3, e3, ht, t0, t1⟩ := texts_ok hs hk.2 sd h0 (by omega)
    refine ⟨ts, ev_succ ?_, ht⟩
    simp only [spec_DrawFalseAnswers.j0]
    exact ev_neg (by simp) (ev_bind _ e3 (Ev.now _))
  unfold spec_DrawFalseAnswers.f
  by_cases c : isBloomB a b n l = true
  · obtain ⟨⟨z0, z1⟩, ⟨z2, z3⟩, ⟨z4, z5⟩, z6⟩ := isBloomB_ok c
    by_cases c2 : areKeysB ks = true
    · obtain ⟨v, p3, sd3, e3, t0, t1⟩ := one_ok hs sd2 2 r0 (by omega)
      by_cases c3 : v = true
      · have hadd := spec_fiAdd_f a b n l ks (by have := hk.1; omega) (fun x hx => by have := hk.2 x hx; omega) (by omega) z0 (by omega) (by omega) (by omega) z4 (by omega) (by omega)
        obtain ⟨ts, p4, sd4, e4, ht, w0, w1⟩ := texts_ok hs hk.2 sd3 t0 (by omega)
        refine ⟨a, b, n, addK a b.toNat n l ks, ks, ts, ev_bind _ e1 (ev_bind _ e2 (ev_bind _ g1 (ev_pos c (ev_bind _ g2 (ev_pos c2 ?_))))), by rw [addK_len]; exact hl, hk, ht⟩
        simp only [e3]
        refine ev_bind _ (Ev.now _) (ev_succ ?_)
        simp only [spec_DrawFalseAnswers.j0]
        exact ev_pos c3 (ev_bind _ hadd (ev_bind _ e4 (Ev.now _)))
      · obtain ⟨ts, e4, ht⟩ := off p3 sd3 t0 (by omega)
        refine ⟨a, b, n, l, ks, ts, ev_bind _ e1 (ev_bind _ e2 (ev_bind _ g1 (ev_pos c (ev_bind _ g2 (ev_pos c2 ?_))))), hl, hk, ht⟩
        simp only [Bool.not_eq_true] at c3
        simp only [e3, c3]
        exact ev_bind _ (Ev.now _) e4
    · obtain ⟨ts, e4, ht⟩ := off p2 sd2 r0 (by omega)
      exact ⟨a, b, n, l, ks, ts, ev_bind _ e1 (ev_bind _ e2 (ev_bind _ g1 (ev_pos c (ev_bind _ g2 (ev_neg c2 e4))))), hl, hk, ht⟩
  · obtain ⟨ts, e4, ht⟩ := off p2 sd2 r0 (by omega)
    exact ⟨a, b, n, l, ks, ts, ev_bind _ e1 (ev_bind _ e2 (ev_bind _ g1 (ev_neg c e4))), hl, hk, ht⟩
theorem DrawShareOf_ok {s : List Int} (hs : Bys s) : ∃ a b n l t m, Ev (fun k => spec_DrawShareOf.f k s) (a, b, n, l, t, m) ∧ (l : List Int).length ≤ 1000 ∧ (t : ByteArray).size ≤ 13 := by
  obtain ⟨a, b, n, l, p1, sd1, e1, hl, q0, q1⟩ := bloom_ok hs 0 (p := 0) (by omega) (by omega)
  obtain ⟨t, p2, sd2, e2, ht, r0, r1⟩ := letters_ok hs sd1 q0 (by omega)
  obtain ⟨m, p3, sd3, e3, hm, t0, t1⟩ := among_ok hs sd2 (l := [1, 2, 2, 3, 4, 0, 9]) (by simp) r0 (by omega)
  refine ⟨a, b, n, l, t, m, ?_, hl, ht⟩
  unfold spec_DrawShareOf.f
  refine ev_bind _ e1 ?_
  simp only [e2, Option.bind_some, e3]
  exact Ev.now _
theorem DrawLeastBloom_ok {s : List Int} (hs : Bys s) : ∃ a b ks ts n, Ev (fun k => spec_DrawLeastBloom.f k s) (a, b, ks, ts, n) ∧ Kys 42 ks ∧ Kys 400 ts ∧ -1 ≤ n ∧ n ≤ 513 := by
  obtain ⟨ks, p1, sd1, e1, hk, q0, q1⟩ := anyKeys_ok hs 0 (n := 6) (p := 0) (by omega) (by omega) (by omega)
  obtain ⟨a, p2, sd2, e2, _, r0, r1⟩ := seed9_ok hs sd1 q0 (by omega)
  obtain ⟨b, p3, sd3, e3, t0, t1⟩ := probes_ok hs sd2 r0 (by omega)
  obtain ⟨ts, p4, sd4, e4, ht, w0, w1⟩ := texts_ok hs hk.2 sd3 t0 (by omega)
  obtain ⟨n, p5, sd5, e5, hn, y0, y1⟩ := size2_ok hs sd4 w0 (by omega)
  refine ⟨a, b, ks, ts, n, ?_, hk, ht, hn⟩
  unfold spec_DrawLeastBloom.f
  refine ev_bind _ e1 ?_
  simp only [e2, Option.bind_some, e3]
  refine ev_bind _ e4 ?_
  simp only [e5, Option.bind_some]
  exact Ev.now _
end Go.Proofs.YtpkpjikkfikejaaQ
namespace Go.Proofs.YtpkpjikkfikejaaQ
open Go Go.RowKit Go.Proofs.YtpkpjikkfikejaaW.PrintWords Go.Proofs.YtpkpjikkfikejaaGp Go.Proofs.Ytpkpjikkfikejaa.PB

end Go.Proofs.YtpkpjikkfikejaaQ
namespace Go.Proofs.Ytpkpjikkfikejaa.Pure
open Go Go.RowKit Go.Proofs.YtpkpjikkfikejaaW.PrintWords Go.Proofs.YtpkpjikkfikejaaW.PrintMore Go.Proofs.YtpkpjikkfikejaaGp Go.Proofs.Ytpkpjikkfikejaa.PB Go.Proofs.YtpkpjikkfikejaaQ

theorem same_l0 (x0 y0 : List Int) (hl : (x0.length : Int) ≤ 9223372036854775806) (hy : y0.length = x0.length) : ∀ (t pre u pru : List Int), x0 = pre ++ t → y0 = pru ++ u → pru.length = pre.length →
    Ev (fun k => laws_pSameInts.l0 k x0 y0 (x0.length : Int) (pre.length : Int)) (decide (t = u)) := by
  intro t
  induction t with
  | nil =>
    intro pre u pru h h2 hp
    have : u = [] := by
      have e1 : y0.length = pru.length + u.length := by rw [h2]; simp
      have e2 : x0.length = pre.length := by rw [h]; simp
      exact List.length_eq_zero_iff.1 (by omega)
    subst this
    refine ev_succ ?_
    simp only [laws_pSameInts.l0]
    exact ev_neg (by rw [h]; exact not_lt_end) (ev_some (by simp))
  | cons x t ih =>
    intro pre u pru h h2 hp
    have hm : ((pre.length : Nat) : Int) < (x0.length : Int) := by rw [h]; exact lt_mid
    have hg : rd x0 (pre.length : Int) = x := by rw [h]; exact rd_mid
    cases u with
    | nil =>
      have e1 : y0.length = pru.length := by rw [h2]; simp
      omega
    | cons y u =>
      have hg2 : rd y0 (pre.length : Int) = y := by rw [h2, ← hp]; exact rd_mid
      refine ev_succ ?_
      simp only [laws_pSameInts.l0, hg, hg2]
      by_cases c : x = y
      · subst c
        have := ih (pre ++ [x]) u (pru ++ [x]) (by rw [h]; simp) (by rw [h2]; simp) (by simp [hp])
        rw [len_one] at this
        rw [show decide (x :: t = x :: u) = decide (t = u) from by simp, winc (by omega)]
        exact ev_pos hm (ev_pos (by omega) (ev_pos hm (ev_pos (by omega) (ev_pos rfl this))))
      · rw [decide_eq_false (fun e => c (List.cons.inj e).1)]
        exact ev_pos hm (ev_pos (by omega) (ev_pos hm (ev_pos (by omega) (ev_neg c (Ev.now _)))))
theorem same_f (l l' : List Int) (hl : (l.length : Int) ≤ 9223372036854775806) (h : l'.length = l.length) : Ev (fun k => laws_pSameInts.f k l l') (decide (l = l')) := by
  unfold laws_pSameInts.f
  exact ev_pos (by omega) (same_l0 l l' hl h l [] l' [] rfl rfl rfl)
def hasV (a0 a1 a2 : Int) (l : List Int) (s : ByteArray) : Bool × Bool := if (isBloomB a0 a1 a2 l && isKeyB s) = true then (saysV a0 a1 a2 l s, true) else (false, false)
theorem impl_BloomHas_f (a0 a1 a2 : Int) (l : List Int) (s : ByteArray) (hz : (s.size : Int) ≤ 9223372036854775806) : Ev (fun k => impl_BloomHas.f k a0 a1 a2 l s) (hasV a0 a1 a2 l s) := by
  unfold impl_BloomHas.f
  refine ev_bind _ (impl_IsBloom_f a0 a1 a2 l) ?_
  by_cases c : isBloomB a0 a1 a2 l = true
  · obtain ⟨⟨p0, p1⟩, ⟨p2, p3⟩, ⟨p4, p5⟩, p6⟩ := isBloomB_ok c
    refine ev_pos c (ev_bind _ (impl_IsKey_f s hz) ?_)
    by_cases c2 : isKeyB s = true
    · exact ev_pos c2 (ev_bind _ (impl_says_f a0 a1 a2 l s hz p0 (by omega) (by omega) (by omega) p4 (by omega) (by omega)) (ev_some (by simp [hasV, c, c2])))
    · exact ev_neg c2 (ev_some (by simp [hasV, c2]))
  · exact ev_neg c (ev_some (by simp [hasV, c]))
end Go.Proofs.Ytpkpjikkfikejaa.Pure
namespace Go.Proofs.YtpkpjikkfikejaaQ
open Go Go.RowKit Go.Proofs.YtpkpjikkfikejaaW.PrintWords Go.Proofs.YtpkpjikkfikejaaGp Go.Proofs.Ytpkpjikkfikejaa.PB

end Go.Proofs.YtpkpjikkfikejaaQ
namespace Go.Proofs.YtpkpjikkfikejaaQ
open Go Go.RowKit Go.Proofs.YtpkpjikkfikejaaW.PrintWords Go.Proofs.YtpkpjikkfikejaaGp Go.Proofs.Ytpkpjikkfikejaa.PB

end Go.Proofs.YtpkpjikkfikejaaQ
namespace Go.Proofs.YtpkpjikkfikejaaQ
open Go Go.RowKit Go.Proofs.YtpkpjikkfikejaaW.PrintWords Go.Proofs.YtpkpjikkfikejaaGp Go.Proofs.Ytpkpjikkfikejaa.PB

end Go.Proofs.YtpkpjikkfikejaaQ
namespace Go.Proofs.YtpkpjikkfikejaaQ
open Go Go.RowKit Go.Proofs.YtpkpjikkfikejaaW.PrintWords Go.Proofs.YtpkpjikkfikejaaGp Go.Proofs.Ytpkpjikkfikejaa.PB

end Go.Proofs.YtpkpjikkfikejaaQ
namespace Go.Proofs.YtpkpjikkfikejaaQ
open Go Go.RowKit Go.Proofs.YtpkpjikkfikejaaW.PrintWords Go.Proofs.YtpkpjikkfikejaaGp Go.Proofs.Ytpkpjikkfikejaa.PB

end Go.Proofs.YtpkpjikkfikejaaQ
namespace Go.Proofs.YtpkpjikkfikejaaQ
open Go Go.RowKit Go.Proofs.YtpkpjikkfikejaaW.PrintWords Go.Proofs.YtpkpjikkfikejaaGp Go.Proofs.Ytpkpjikkfikejaa.PB

theorem letsLen (a0 : ByteArray) : (lets a0).length = a0.size := by simp [lets]
theorem letsDrop (a0 : ByteArray) {k : Nat} (h : k < a0.size) : (lets a0).drop k = bt a0 (k : Int) :: (lets a0).drop (k + 1) := by
  have hl : k < (lets a0).length := by rw [letsLen]; exact h
  rw [List.drop_eq_getElem_cons hl]
  simp [lets]
theorem letsTake (a0 : ByteArray) {k : Nat} (h : k < a0.size) : ((lets a0).take (k + 1)).reverse = bt a0 (k : Int) :: ((lets a0).take k).reverse := by
  have hl : k < (lets a0).length := by rw [letsLen]; exact h
  rw [List.take_succ_eq_append_getElem hl]
  simp [lets]
theorem lets_has (a0 : ByteArray) {i : Nat} (h : i ≤ a0.size) (x : Int) : ((lets a0).take i).reverse.contains x = true ↔ ∃ q, q < i ∧ bt a0 (q : Int) = x := by
  rw [List.contains_iff_mem, List.mem_reverse, List.mem_take_iff_getElem]
  constructor
  · rintro ⟨q, hq, rfl⟩
    exact ⟨q, by omega, by simp [lets]⟩
  · rintro ⟨q, hq, rfl⟩
    exact ⟨q, by rw [letsLen]; omega, by simp [lets]⟩
def lettersB (a0 : ByteArray) : Bool := goesL [] (lets a0) && isKeyB a0
theorem spec_fiLetters_l1 (a0 : ByteArray) (hz : (a0.size : Int) ≤ 9223372036854775806) {i : Nat} (hi : i < a0.size) {r : Bool} (H : Ev (fun k => spec_fiLetters.l0 k a0 ((i + 1 : Nat) : Int)) r) : ∀ (m j : Nat), j + m = i → (∀ q, q < j → bt a0 (q : Int) ≠ bt a0 (i : Int)) →
    Ev (fun k => spec_fiLetters.l1 k a0 (i : Int) (j : Int)) (!(((lets a0).take i).reverse.contains (bt a0 (i : Int))) && r) := by
  intro m
  induction m with
  | zero =>
    intro j e hq
    obtain rfl : j = i := by omega
    have : ((lets a0).take j).reverse.contains (bt a0 (j : Int)) = false := by
      rw [← Bool.not_eq_true, lets_has a0 (by omega)]
      rintro ⟨q, h1, h2⟩
      exact hq q h1 h2
    refine ev_succ ?_
    simp only [spec_fiLetters.l1]
    refine ev_neg (by omega) ?_
    rw [winc (by omega), this]
    simpa using H
  | succ m ih =>
    intro j e hq
    refine ev_succ ?_
    simp only [spec_fiLetters.l1]
    refine ev_pos (by omega) (ev_pos (by omega) (ev_pos (by omega) (ev_pos (by omega) (ev_pos (by omega) ?_))))
    by_cases c : bt a0 (i : Int) = bt a0 (j : Int)
    · have : ((lets a0).take i).reverse.contains (bt a0 (i : Int)) = true := (lets_has a0 (by omega) _).2 ⟨j, by omega, c.symm⟩
      rw [this]
      exact ev_pos c (ev_some rfl)
    · refine ev_neg c ?_
      rw [winc (by omega)]
      exact ih (j + 1) (by omega) (fun q h => by
        by_cases e' : q = j
        · subst e'; exact fun h' => c h'.symm
        · exact hq q (by omega))
theorem spec_fiLetters_l0 (a0 : ByteArray) (hz : (a0.size : Int) ≤ 9223372036854775806) : ∀ (m i : Nat), i + m = a0.size →
    Ev (fun k => spec_fiLetters.l0 k a0 (i : Int)) (goesL ((lets a0).take i).reverse ((lets a0).drop i) && isKeyB a0) := by
  intro m
  induction m with
  | zero =>
    intro i e
    obtain rfl : i = a0.size := by omega
    refine ev_succ ?_
    simp only [spec_fiLetters.l0]
    refine ev_neg (by omega) (ev_bind _ (spec_IsKey_f a0 hz) (ev_some ?_))
    rw [show (lets a0).drop a0.size = [] from by rw [← letsLen, List.drop_length]]
    simp [goesL]
  | succ m ih =>
    intro i e
    have := spec_fiLetters_l1 a0 hz (i := i) (by omega) (ih (i + 1) (by omega)) i 0 (by omega) (fun q h => by omega)
    refine ev_succ ?_
    simp only [spec_fiLetters.l0]
    refine ev_pos (by omega) ?_
    rw [letsDrop a0 (by omega), goesL, Bool.and_assoc, ← letsTake a0 (by omega)]
    exact this
theorem spec_fiLetters_f (a0 : ByteArray) (hz : (a0.size : Int) ≤ 9223372036854775806) : Ev (fun k => spec_fiLetters.f k a0) (lettersB a0) := by
  unfold spec_fiLetters.f
  have := spec_fiLetters_l0 a0 hz a0.size 0 (by omega)
  simpa [lettersB] using this
theorem impl_areLetters_f (a0 : ByteArray) (hz : a0.size ≤ 4000000) : Ev (fun k => impl_areLetters.f k a0) (lettersB a0) := by
  unfold impl_areLetters.f
  refine ev_pos hz ?_
  by_cases c : goesL [] (lets a0) = true
  · refine ev_pos c ?_
    have := impl_IsKey_f a0 (by omega)
    simpa [lettersB, c] using this
  · refine ev_neg c (ev_some ?_)
    simp only [Bool.not_eq_true] at c
    simp [lettersB, c]

def longer (a0 t : ByteArray) (i : Nat) : ByteArray := t ++ a0.extract i (i + 1)
def extT (a0 t : ByteArray) : List ByteArray := (List.range a0.size).map (longer a0 t)
def extAll (a0 : ByteArray) (out : List ByteArray) : List ByteArray := out.flatMap (extT a0)
def textsV (a0 : ByteArray) : Nat → List ByteArray → List ByteArray × Bool
  | 0, out => (out, true)
  | m + 1, out => if 300 < (extAll a0 out).length then ([], false) else textsV a0 m (extAll a0 out)
def TextOk (a0 : ByteArray) (n : Nat) (t : ByteArray) : Prop := t.size = n ∧ ∀ c ∈ t.data.toList, c ∈ a0.data.toList
theorem longer_ok {a0 t : ByteArray} {n i : Nat} (h : TextOk a0 n t) (hi : i < a0.size) : TextOk a0 (n + 1) (longer a0 t i) := by
  obtain ⟨h1, h2⟩ := h
  refine ⟨by simp [longer, h1]; omega, fun c hc => ?_⟩
  rw [longer, ByteArray.data_append, Array.toList_append, List.mem_append] at hc
  rcases hc with hc | hc
  · exact h2 c hc
  · rw [ByteArray.data_extract, Array.toList_extract] at hc
    exact List.mem_of_mem_drop (List.mem_of_mem_take hc)
theorem extAll_ok {a0 : ByteArray} {n : Nat} {out : List ByteArray} (h : ∀ t ∈ out, TextOk a0 n t) : ∀ t ∈ extAll a0 out, TextOk a0 (n + 1) t := by
  intro t ht
  simp only [extAll, extT, List.mem_flatMap, List.mem_map, List.mem_range] at ht
  obtain ⟨s, hs, i, hi, rfl⟩ := ht
  exact longer_ok (h s hs) hi
theorem textsV_ok (a0 : ByteArray) : ∀ (m n : Nat) (out : List ByteArray), out.length ≤ 300 → (∀ t ∈ out, TextOk a0 n t) → (textsV a0 m out).1.length ≤ 300 ∧ ((textsV a0 m out).2 = true → ∀ t ∈ (textsV a0 m out).1, TextOk a0 (n + m) t) ∧ ((textsV a0 m out).2 = false → (textsV a0 m out).1 = [])
  | 0, n, out, hl, h => ⟨hl, fun _ => h, fun h => by simp [textsV] at h⟩
  | m + 1, n, out, hl, h => by
    rw [textsV]
    split
    · exact ⟨by simp, fun h => by simp at h, fun _ => rfl⟩
    · have := textsV_ok a0 m (n + 1) (extAll a0 out) (by omega) (extAll_ok h)
      rw [show n + 1 + m = n + (m + 1) from by omega] at this
      exact this
section
variable (a0 : ByteArray) (hz : a0.size ≤ 12)
include hz
theorem spec_fiTexts_l2 (x1 : Int) (x16 : List ByteArray) (x17 x18 : Int) (t : ByteArray) (ht : t.size ≤ 1000) {r : List ByteArray × Bool} : ∀ (m i : Nat) (acc : List ByteArray), i + m = a0.size → acc.length + m ≤ 10000 →
    Ev (fun k => spec_fiTexts.l1 k a0 x1 (acc ++ ((List.range' i m).map (longer a0 t))) x16 x17 (wrap64 (x18 + 1))) r →
    Ev (fun k => spec_fiTexts.l2 k a0 x1 acc t (i : Int) x16 x17 x18) r := by
  intro m
  induction m with
  | zero =>
    intro i acc e ha H
    refine ev_succ ?_
    simp only [spec_fiTexts.l2]
    refine ev_neg (by omega) ?_
    simpa using H
  | succ m ih =>
    intro i acc e ha H
    refine ev_succ ?_
    simp only [spec_fiTexts.l2]
    refine ev_pos (by omega) (ev_pos (by omega) ?_)
    rw [winc (by omega)]
    refine ev_pos (by omega) (ev_pos (by omega) (ev_pos (by simp; omega) (ev_pos (by omega) ?_)))
    simp only [Int.toNat_natCast]
    refine ih (i + 1) (acc ++ [t ++ a0.extract i (i + 1)]) (by omega) (by simp; omega) ?_
    rw [List.append_assoc]
    exact H
theorem impl_TextsOver_l2 (x20 x21 : Int) (x24 : List ByteArray) (x25 x26 : Int) (t : ByteArray) (ht : t.size ≤ 1000) {r : List ByteArray × Bool} : ∀ (m i : Nat) (acc : List ByteArray), i + m = a0.size → acc.length + m ≤ 10000 →
    Ev (fun k => impl_TextsOver.l1 k a0 (acc ++ ((List.range' i m).map (longer a0 t))) x20 x21 x24 x25 (wrap64 (x26 + 1))) r →
    Ev (fun k => impl_TextsOver.l2 k a0 acc t x20 x21 x24 x25 x26 (a0.size : Int) (i : Int)) r := by
  intro m
  induction m with
  | zero =>
    intro i acc e ha H
    refine ev_succ ?_
    simp only [impl_TextsOver.l2]
    refine ev_neg (by omega) ?_
    simpa using H
  | succ m ih =>
    intro i acc e ha H
    refine ev_succ ?_
    simp only [impl_TextsOver.l2]
    refine ev_pos (by omega) (ev_pos (by omega) ?_)
    rw [winc (by omega)]
    refine ev_pos (by omega) (ev_pos (by omega) (ev_pos (by simp; omega) (ev_pos (by omega) ?_)))
    simp only [Int.toNat_natCast]
    refine ih (i + 1) (acc ++ [t ++ a0.extract i (i + 1)]) (by omega) (by simp; omega) ?_
    rw [List.append_assoc]
    exact H
omit hz in
theorem extT_range (t : ByteArray) : (List.range' 0 a0.size).map (longer a0 t) = extT a0 t := by rw [extT, List.range_eq_range']
theorem spec_fiTexts_l1 (x1 : Int) (x16 : List ByteArray) (hl : x16.length ≤ 300) {r : List ByteArray × Bool} : ∀ (u pre acc : List ByteArray), x16 = pre ++ u → (∀ s ∈ u, s.size ≤ 1000) → acc.length + u.length * a0.size ≤ 10000 →
    (if 300 < (acc ++ extAll a0 u).length then r = ([], false) else Ev (fun k => spec_fiTexts.l0 k a0 (wrap64 (x1 - 1)) (acc ++ extAll a0 u)) r) →
    Ev (fun k => spec_fiTexts.l1 k a0 x1 acc x16 (x16.length : Int) (pre.length : Int)) r := by
  intro u
  induction u with
  | nil =>
    intro pre acc e hs ha H
    refine ev_succ ?_
    simp only [spec_fiTexts.l1]
    refine ev_neg (by rw [e]; exact not_lt_end) ?_
    simp only [extAll, List.flatMap_nil, List.append_nil] at H
    by_cases c : 300 < acc.length
    · rw [if_pos c] at H
      exact ev_pos (by omega) (ev_some H.symm)
    · rw [if_neg c] at H
      exact ev_neg (by omega) H
  | cons s u ih =>
    intro pre acc e hs ha H
    have hm : ((pre.length : Nat) : Int) < (x16.length : Int) := by rw [e]; exact lt_mid
    have hg : rdOf ByteArray.empty x16 (pre.length : Int) = s := by rw [e]; exact rdOf_mid
    have hx : (s :: u).length * a0.size = u.length * a0.size + a0.size := by rw [List.length_cons, Nat.succ_mul]
    refine ev_succ ?_
    simp only [spec_fiTexts.l1, hg]
    refine ev_pos hm (ev_pos (by omega) (ev_pos hm ?_))
    refine spec_fiTexts_l2 a0 hz x1 x16 _ _ s (hs s (by simp)) a0.size 0 acc (by omega) (by omega) ?_
    rw [winc (by omega), extT_range a0]
    have := ih (pre ++ [s]) (acc ++ extT a0 s) (by rw [e]; simp) (fun x h => hs x (by simp [h])) (by simp [extT]; omega) (by
      rw [List.append_assoc]
      exact H)
    rw [len_one] at this
    exact this
theorem impl_TextsOver_l1 (x20 x21 : Int) (x24 : List ByteArray) (hl : x24.length ≤ 300) {r : List ByteArray × Bool} : ∀ (u pre acc : List ByteArray), x24 = pre ++ u → (∀ s ∈ u, s.size ≤ 1000) → acc.length + u.length * a0.size ≤ 10000 →
    (if 300 < (acc ++ extAll a0 u).length then r = ([], false) else Ev (fun k => impl_TextsOver.l0 k a0 (acc ++ extAll a0 u) x20 (wrap64 (x21 + 1))) r) →
    Ev (fun k => impl_TextsOver.l1 k a0 acc x20 x21 x24 (x24.length : Int) (pre.length : Int)) r := by
  intro u
  induction u with
  | nil =>
    intro pre acc e hs ha H
    refine ev_succ ?_
    simp only [impl_TextsOver.l1]
    refine ev_neg (by rw [e]; exact not_lt_end) ?_
    simp only [extAll, List.flatMap_nil, List.append_nil] at H
    by_cases c : 300 < acc.length
    · rw [if_pos c] at H
      exact ev_pos (by omega) (ev_some H.symm)
    · rw [if_neg c] at H
      exact ev_neg (by omega) H
  | cons s u ih =>
    intro pre acc e hs ha H
    have hm : ((pre.length : Nat) : Int) < (x24.length : Int) := by rw [e]; exact lt_mid
    have hg : rdOf ByteArray.empty x24 (pre.length : Int) = s := by rw [e]; exact rdOf_mid
    have hx : (s :: u).length * a0.size = u.length * a0.size + a0.size := by rw [List.length_cons, Nat.succ_mul]
    refine ev_succ ?_
    simp only [impl_TextsOver.l1, hg]
    refine ev_pos hm (ev_pos (by omega) (ev_pos hm ?_))
    refine impl_TextsOver_l2 a0 hz x20 x21 x24 _ _ s (hs s (by simp)) a0.size 0 acc (by omega) (by omega) ?_
    rw [winc (by omega), extT_range a0]
    have := ih (pre ++ [s]) (acc ++ extT a0 s) (by rw [e]; simp) (fun x h => hs x (by simp [h])) (by simp [extT]; omega) (by
      rw [List.append_assoc]
      exact H)
    rw [len_one] at this
    exact this
theorem ext_fits {out : List ByteArray} (hl : out.length ≤ 300) : ([] : List ByteArray).length + out.length * a0.size ≤ 10000 := by
  have := Nat.mul_le_mul hl hz
  simp; omega
theorem spec_fiTexts_l0 : ∀ (m n : Nat) (out : List ByteArray), out.length ≤ 300 → n + m ≤ 1000 → (∀ s ∈ out, TextOk a0 n s) → Ev (fun k => spec_fiTexts.l0 k a0 (m : Int) out) (textsV a0 m out) := by
  intro m
  induction m with
  | zero =>
    intro n out hl hn hs
    refine ev_succ ?_
    simp only [spec_fiTexts.l0]
    exact ev_neg (by omega) (ev_some rfl)
  | succ m ih =>
    intro n out hl hn hs
    refine ev_succ ?_
    simp only [spec_fiTexts.l0]
    refine ev_pos (by omega) ?_
    refine spec_fiTexts_l1 a0 hz _ out hl out [] [] rfl (fun s h => by have := (hs s h).1; omega) (ext_fits a0 hz hl) ?_
    rw [List.nil_append]
    by_cases c : 300 < (extAll a0 out).length
    · rw [if_pos c, textsV, if_pos c]
    · rw [if_neg c, textsV, if_neg c, wdec (by omega)]
      exact ih (n + 1) (extAll a0 out) (by omega) (by omega) (extAll_ok hs)
theorem impl_TextsOver_l0 (x20 : Int) (hx : x20 ≤ 1000) : ∀ (m n : Nat) (out : List ByteArray), ((n + m : Nat) : Int) = x20 → out.length ≤ 300 → (∀ s ∈ out, TextOk a0 n s) → Ev (fun k => impl_TextsOver.l0 k a0 out x20 (n : Int)) (textsV a0 m out) := by
  intro m
  induction m with
  | zero =>
    intro n out hn hl hs
    refine ev_succ ?_
    simp only [impl_TextsOver.l0]
    exact ev_neg (by omega) (ev_some rfl)
  | succ m ih =>
    intro n out hn hl hs
    refine ev_succ ?_
    simp only [impl_TextsOver.l0]
    refine ev_pos (by omega) ?_
    refine impl_TextsOver_l1 a0 hz _ _ out hl out [] [] rfl (fun s h => by have := (hs s h).1; omega) (ext_fits a0 hz hl) ?_
    rw [List.nil_append]
    by_cases c : 300 < (extAll a0 out).length
    · rw [if_pos c, textsV, if_pos c]
    · rw [if_neg c, textsV, if_neg c, winc (by omega)]
      exact ih (n + 1) (extAll a0 out) (by omega) (by omega) (extAll_ok hs)
end
def overV (a0 : ByteArray) (n : Int) : List ByteArray × Bool :=
  if (lettersB a0 && decide (1 ≤ n ∧ n ≤ 8)) = true then textsV a0 n.toNat [⟨#[]⟩] else ([], false)
theorem lettersB_size {a0 : ByteArray} (h : lettersB a0 = true) : a0.size ≤ 12 := by
  rw [lettersB, Bool.and_eq_true] at h
  exact (isKeyB_size h.2).2
theorem text0_ok (a0 : ByteArray) : ∀ t ∈ [(⟨#[]⟩ : ByteArray)], TextOk a0 0 t := by
  intro t ht
  rw [List.mem_singleton] at ht
  subst ht
  exact ⟨rfl, fun c hc => by simp at hc⟩
theorem spec_TextsOver_f (a0 : ByteArray) (n : Int) (hz : (a0.size : Int) ≤ 9223372036854775806) : Ev (fun k => spec_TextsOver.f k a0 n) (overV a0 n) := by
  unfold spec_TextsOver.f
  refine ev_bind _ (spec_fiLetters_f a0 hz) ?_
  by_cases c : lettersB a0 = true
  · refine ev_pos c ?_
    simp only [spec_in, Option.bind_some]
    by_cases c2 : 1 ≤ n ∧ n ≤ 8
    · refine ev_pos (by simpa using c2) ?_
      have := spec_fiTexts_l0 a0 (lettersB_size c) n.toNat 0 [⟨#[]⟩] (by simp) (by omega) (text0_ok a0)
      rw [Int.toNat_of_nonneg (by omega)] at this
      refine ev_bind (textsV a0 n.toNat [⟨#[]⟩]) (by unfold spec_fiTexts.f; exact this) (ev_some ?_)
      simp [overV, c, c2]
    · exact ev_neg (by simpa using c2) (ev_some (by rw [overV, if_neg (by simp [c]; omega)]))
  · exact ev_neg c (ev_some (by rw [overV, if_neg (by simp [c])]))
theorem impl_TextsOver_f (a0 : ByteArray) (n : Int) (hz : a0.size ≤ 4000000) : Ev (fun k => impl_TextsOver.f k a0 n) (overV a0 n) := by
  unfold impl_TextsOver.f
  refine ev_bind _ (impl_areLetters_f a0 hz) ?_
  by_cases c : lettersB a0 = true
  · refine ev_pos c ?_
    simp only [impl_in, Option.bind_some]
    refine ev_succ ?_
    simp only [impl_TextsOver.j0]
    by_cases c2 : 1 ≤ n ∧ n ≤ 8
    · refine ev_neg (by simpa using c2) ?_
      have := impl_TextsOver_l0 a0 (lettersB_size c) n (by omega) n.toNat 0 [⟨#[]⟩] (by omega) (by simp) (text0_ok a0)
      rw [overV, if_pos (by simp [c]; omega)]
      exact this
    · exact ev_pos (by simp; omega) (ev_some (by rw [overV, if_neg (by simp [c]; omega)]))
  · refine ev_neg c (ev_succ ?_)
    simp only [impl_TextsOver.j0]
    exact ev_pos (by trivial) (ev_some (by rw [overV, if_neg (by simp [c])]))
theorem overV_ok (a0 : ByteArray) (n : Int) : (overV a0 n).1.length ≤ 300 ∧ (∀ t ∈ (overV a0 n).1, isKeyB t = true) ∧ ((overV a0 n).2 = false → (overV a0 n).1 = []) := by
  unfold overV
  split
  · rename_i c
    rw [Bool.and_eq_true, decide_eq_true_eq] at c
    obtain ⟨h1, h2, h3⟩ := textsV_ok a0 n.toNat 0 [⟨#[]⟩] (by simp) (text0_ok a0)
    refine ⟨h1, fun t ht => ?_, h3⟩
    have ho : (textsV a0 n.toNat [⟨#[]⟩]).2 = true := by
      cases h : (textsV a0 n.toNat [⟨#[]⟩]).2
      · rw [h3 h] at ht; simp at ht
      · rfl
    obtain ⟨e1, e2⟩ := h2 ho t ht
    have hk := c.1
    rw [lettersB, Bool.and_eq_true] at hk
    have hb := hk.2
    simp only [isKeyB, Bool.and_eq_true, List.all_eq_true, decide_eq_true_eq] at hb ⊢
    exact ⟨fun x hx => hb.1 x (e2 x hx), by omega⟩
  · exact ⟨by simp, fun t ht => by simp at ht, fun _ => rfl⟩
end Go.Proofs.YtpkpjikkfikejaaQ
namespace Go.Proofs.Ytpkpjikkfikejaa.Pure
open Go Go.RowKit Go.Proofs.YtpkpjikkfikejaaW.PrintWords Go.Proofs.YtpkpjikkfikejaaGp Go.Proofs.Ytpkpjikkfikejaa.PB Go.Proofs.YtpkpjikkfikejaaQ

def shareV (a0 a1 a2 : Int) (l : List Int) (s : ByteArray) (n : Int) : Int × Int × Bool :=
  if ((overV s n).2 && isBloomB a0 a1 a2 l) = true then ((((overV s n).1.filter (saysV a0 a1 a2 l)).length : Int), ((overV s n).1.length : Int), true) else (0, 0, false)
theorem wrongL_nil (f : ByteArray → Bool) : ∀ (t : List ByteArray) (i : Nat), (wrongL f [] t i).length = (t.filter f).length
  | [], _ => rfl
  | s :: t, i => by
    simp only [wrongL, hasS, List.any_nil, Bool.false_eq_true, if_false]
    by_cases c : f s = true
    · simp [c, wrongL_nil f t]
    · simp [c, wrongL_nil f t]
section
variable (a0 a1 a2 : Int) (l : List Int)
theorem spec_ShareOf_l0 (h0 : 0 ≤ a0) (h0' : a0 ≤ 1000000) (h1 : 0 ≤ a1) (h1' : a1 ≤ 1000000) (hn : 1 ≤ a2) (hn' : a2 ≤ 1000000) (hl : (a2 + 15) / 16 ≤ (l.length : Int)) (x9 x27 : List ByteArray) (hx : x27.length ≤ 300) : ∀ (t pre : List ByteArray) (m : Nat), x27 = pre ++ t → (∀ s ∈ t, (s.size : Int) ≤ 9223372036854775806) → m ≤ pre.length →
    Ev (fun k => spec_ShareOf.l0 k x9 (m : Int) x27 (x27.length : Int) (pre.length : Int) a0 a1 a2 l) (((m + (t.filter (saysV a0 a1 a2 l)).length : Nat) : Int), (x9.length : Int), true) := by
  intro t
  induction t with
  | nil =>
    intro pre m h hs hm
    refine ev_succ ?_
    simp only [spec_ShareOf.l0]
    exact ev_neg (by rw [h]; exact not_lt_end) (ev_some (by simp))
  | cons x t ih =>
    intro pre m h hs hm
    have hlt : ((pre.length : Nat) : Int) < (x27.length : Int) := by rw [h]; exact lt_mid
    have hg : rdOf ByteArray.empty x27 (pre.length : Int) = x := by rw [h]; exact rdOf_mid
    refine ev_succ ?_
    simp only [spec_ShareOf.l0, hg]
    refine ev_pos hlt (ev_pos (by omega) (ev_pos hlt (ev_bind _ (spec_fiHas_f a0 a1 a2 l x (hs x (by simp)) h0 h0' h1 h1' hn hn' hl) ?_)))
    rw [winc (i := pre.length) (by omega), ← len_one]
    by_cases c : saysV a0 a1 a2 l x = true
    · refine ev_pos c ?_
      rw [winc (by omega)]
      have := ih (pre ++ [x]) (m + 1) (by rw [h]; simp) (fun s h => hs s (by simp [h])) (by simp; omega)
      rw [show m + (List.filter (saysV a0 a1 a2 l) (x :: t)).length = m + 1 + (List.filter (saysV a0 a1 a2 l) t).length from by simp [c]; omega]
      exact this
    · refine ev_neg c ?_
      have := ih (pre ++ [x]) m (by rw [h]; simp) (fun s h => hs s (by simp [h])) (by simp; omega)
      rw [show m + (List.filter (saysV a0 a1 a2 l) (x :: t)).length = m + (List.filter (saysV a0 a1 a2 l) t).length from by simp [c]]
      exact this
theorem over_size (s : ByteArray) (n : Int) : ∀ t ∈ (overV s n).1, (t.size : Int) ≤ 9223372036854775806 := fun t h => by
  have := (isKeyB_size ((overV_ok s n).2.1 t h)).2
  omega
theorem spec_ShareOf_f (s : ByteArray) (n : Int) (hl : (l.length : Int) ≤ 9223372036854775806) (hz : (s.size : Int) ≤ 9223372036854775806) : Ev (fun k => spec_ShareOf.f k a0 a1 a2 l s n) (shareV a0 a1 a2 l s n) := by
  unfold spec_ShareOf.f
  refine ev_bind _ (spec_TextsOver_f s n hz) (ev_bind _ (spec_fiGood_f a0 a1 a2 l hl) ?_)
  by_cases c : isBloomB a0 a1 a2 l = true
  · obtain ⟨⟨p0, p1⟩, ⟨p2, p3⟩, ⟨p4, p5⟩, p6⟩ := isBloomB_ok c
    refine ev_pos c (ev_succ ?_)
    simp only [spec_ShareOf.j0]
    by_cases c2 : (overV s n).2 = true
    · refine ev_neg (by simp [c2]) ?_
      rw [shareV, if_pos (by simp [c, c2])]
      have := spec_ShareOf_l0 a0 a1 a2 l p0 (by omega) (by omega) (by omega) p4 (by omega) (by omega) (overV s n).1 (overV s n).1 (overV_ok s n).1 (overV s n).1 [] 0 rfl (over_size s n) (by simp)
      simpa using this
    · exact ev_pos (by simp [c2]) (ev_some (by rw [shareV, if_neg (by simp [c2])]))
  · refine ev_neg c (ev_succ ?_)
    simp only [spec_ShareOf.j0]
    exact ev_pos (by trivial) (ev_some (by rw [shareV, if_neg (by simp [c])]))
theorem impl_ShareOf_f (s : ByteArray) (n : Int) (hz : s.size ≤ 4000000) : Ev (fun k => impl_ShareOf.f k a0 a1 a2 l s n) (shareV a0 a1 a2 l s n) := by
  unfold impl_ShareOf.f
  refine ev_bind _ (impl_TextsOver_f s n hz) ?_
  by_cases c2 : (overV s n).2 = true
  · refine ev_pos c2 (ev_bind _ (impl_IsBloom_f a0 a1 a2 l) ?_)
    by_cases c : isBloomB a0 a1 a2 l = true
    · obtain ⟨⟨p0, p1⟩, ⟨p2, p3⟩, ⟨p4, p5⟩, p6⟩ := isBloomB_ok c
      refine ev_pos c (ev_bind _ (impl_wrong_f a0 a1 a2 l [] (overV s n).1 (by simp) p0 (by omega) (by omega) (by omega) p4 (by omega) (by omega) (overV_ok s n).1 (over_size s n)) (ev_some ?_))
      rw [shareV, if_pos (by simp [c, c2]), wrongL_nil]
    · exact ev_neg c (ev_some (by rw [shareV, if_neg (by simp [c])]))
  · exact ev_neg c2 (ev_some (by rw [shareV, if_neg (by simp [c2])]))
end
end Go.Proofs.Ytpkpjikkfikejaa.Pure
namespace Go.Proofs.Ytpkpjikkfikejaa.Pure
open Go Go.RowKit Go.Proofs.YtpkpjikkfikejaaW.PrintWords Go.Proofs.YtpkpjikkfikejaaGp Go.Proofs.Ytpkpjikkfikejaa.PB Go.Proofs.YtpkpjikkfikejaaQ

def noWrong (a0 a1 n : Int) (ks ts : List ByteArray) : Bool := decide ((wrongL (saysV a0 a1 n (addK a0 a1.toNat n (blankV n) ks)) ks ts 0).length = 0)
def leastL (a0 a1 : Int) (ks ts : List ByteArray) : Nat → Nat → Int × Bool
  | 0, _ => (0, false)
  | m + 1, n => if noWrong a0 a1 (n : Int) ks ts = true then ((n : Int), true) else leastL a0 a1 ks ts m (n + 1)
def leastV (a0 a1 a4 : Int) (ks ts : List ByteArray) : Int × Bool :=
  if (sizesB a0 a1 a4 && (areKeysB ks && textsB ts)) = true then leastL a0 a1 ks ts a4.toNat 1 else (0, false)

section
variable (a0 a1 a4 : Int) (ks ts : List ByteArray) (hk : (ks.length : Int) ≤ 9223372036854775806) (hks : ∀ s ∈ ks, (s.size : Int) ≤ 9223372036854775806) (hts : ∀ s ∈ ts, (s.size : Int) ≤ 9223372036854775806)
include hk hks hts
theorem spec_LeastBloom_l0 (hs : sizesB a0 a1 a4 = true) (ht : ts.length ≤ 300) : ∀ (m n : Nat), 1 ≤ n → ((n + m : Nat) : Int) = a4 + 1 → Ev (fun k => spec_LeastBloom.l0 k a0 a1 ks ts a4 (n : Int)) (leastL a0 a1 ks ts m n) := by
  obtain ⟨⟨p0, p1⟩, ⟨p2, p3⟩, p4, p5⟩ := sizesB_ok hs
  intro m
  induction m with
  | zero =>
    intro n h1 e
    refine ev_succ ?_
    simp only [spec_LeastBloom.l0, leastL]
    exact ev_neg (by omega) (ev_some rfl)
  | succ m ih =>
    intro n h1 e
    have hb : spec_biNew.f (n : Int) = some ((n : Int), blankV (n : Int)) := by
      unfold spec_biNew.f
      rw [words15 (by omega) (by omega), if_pos (by omega), if_pos (by omega)]
      rfl
    have hn : spec_fiNew.f a0 a1 (n : Int) = some (a0, a1, (n : Int), blankV (n : Int)) := by
      unfold spec_fiNew.f
      rw [hb]
      rfl
    have hbl := blankV_len (n := (n : Int)) (by omega)
    have hal := addK_len a0 a1.toNat (n : Int) ks (blankV (n : Int))
    refine ev_succ ?_
    simp only [spec_LeastBloom.l0, leastL, hn, Option.bind_some]
    refine ev_pos (by omega) (ev_bind _ (spec_fiAdd_f a0 a1 (n : Int) (blankV (n : Int)) ks hk hks (by omega) p0 (by omega) (by omega) (by omega) (by omega) (by omega) (by omega)) ?_)
    refine ev_bind _ (spec_fiFalse_f a0 a1 (n : Int) (addK a0 a1.toNat (n : Int) (blankV (n : Int)) ks) ks ts hk p0 (by omega) (by omega) (by omega) (by omega) (by omega) (by omega) ht hts) ?_
    by_cases c : noWrong a0 a1 (n : Int) ks ts = true
    · rw [if_pos c]
      simp only [noWrong, decide_eq_true_eq] at c
      exact ev_pos (by omega) (ev_some rfl)
    · rw [if_neg c]
      simp only [noWrong, decide_eq_true_eq] at c
      refine ev_neg (by omega) ?_
      rw [winc (by omega)]
      exact ih (n + 1) (by omega) (by omega)
theorem impl_LeastBloom_l0 (hs : sizesB a0 a1 a4 = true) (hkk : areKeysB ks = true) (ht : ts.length ≤ 300) : ∀ (m n : Nat), 1 ≤ n → ((n + m : Nat) : Int) = a4 + 1 → Ev (fun k => impl_LeastBloom.l0 k a0 a1 ks ts a4 (n : Int)) (leastL a0 a1 ks ts m n) := by
  obtain ⟨⟨p0, p1⟩, ⟨p2, p3⟩, p4, p5⟩ := sizesB_ok hs
  intro m
  induction m with
  | zero =>
    intro n h1 e
    refine ev_succ ?_
    simp only [impl_LeastBloom.l0, leastL]
    exact ev_neg (by omega) (ev_some rfl)
  | succ m ih =>
    intro n h1 e
    have hv : bloomV a0 a1 (n : Int) ks = (a0, a1, (n : Int), addK a0 a1.toNat (n : Int) (blankV (n : Int)) ks, true) := by
      have : sizesB a0 a1 (n : Int) = true := by
        simp only [sizesB, Bool.and_eq_true, decide_eq_true_eq]
        omega
      simp [bloomV, this, hkk]
    have hbl := blankV_len (n := (n : Int)) (by omega)
    have hal := addK_len a0 a1.toNat (n : Int) ks (blankV (n : Int))
    have hI := impl_BloomOf_f a0 a1 (n : Int) ks hk hks
    rw [hv] at hI
    refine ev_succ ?_
    simp only [impl_LeastBloom.l0, leastL]
    refine ev_pos (by omega) (ev_bind _ hI ?_)
    refine ev_bind _ (impl_wrong_f a0 a1 (n : Int) (addK a0 a1.toNat (n : Int) (blankV (n : Int)) ks) ks ts hk p0 (by omega) (by omega) (by omega) (by omega) (by omega) (by omega) ht hts) ?_
    by_cases c : noWrong a0 a1 (n : Int) ks ts = true
    · rw [if_pos c]
      simp only [noWrong, decide_eq_true_eq] at c
      exact ev_pos (by omega) (ev_some rfl)
    · rw [if_neg c]
      simp only [noWrong, decide_eq_true_eq] at c
      refine ev_neg (by omega) ?_
      rw [winc (by omega)]
      exact ih (n + 1) (by omega) (by omega)
theorem spec_LeastBloom_f (ht : (ts.length : Int) ≤ 9223372036854775806) : Ev (fun k => spec_LeastBloom.f k a0 a1 ks ts a4) (leastV a0 a1 a4 ks ts) := by
  unfold spec_LeastBloom.f
  rw [spec_fiSize_f]
  simp only [Option.bind_some]
  by_cases hs : sizesB a0 a1 a4 = true
  · obtain ⟨⟨p0, p1⟩, ⟨p2, p3⟩, p4, p5⟩ := sizesB_ok hs
    refine ev_pos hs (ev_bind _ (spec_biKeys_f ks hk hks) ?_)
    by_cases hkk : areKeysB ks = true
    · refine ev_pos hkk (ev_bind _ (spec_fiKeys_f ts ht hts) (ev_succ ?_))
      simp only [spec_LeastBloom.j0]
      by_cases htt : textsB ts = true
      · refine ev_neg (by simp [htt]) ?_
        have := spec_LeastBloom_l0 a0 a1 a4 ks ts hk hks hts hs (textsB_len htt) a4.toNat 1 (by omega) (by omega)
        simpa [leastV, hs, hkk, htt] using this
      · exact ev_pos (by simp [htt]) (ev_some (by simp [leastV, htt]))
    · refine ev_neg hkk (ev_succ ?_)
      simp only [spec_LeastBloom.j0]
      exact ev_pos (by trivial) (ev_some (by simp [leastV, hkk]))
  · refine ev_neg hs (ev_succ ?_)
    simp only [spec_LeastBloom.j0]
    exact ev_pos (by trivial) (ev_some (by simp [leastV, hs]))
theorem impl_LeastBloom_f : Ev (fun k => impl_LeastBloom.f k a0 a1 ks ts a4) (leastV a0 a1 a4 ks ts) := by
  unfold impl_LeastBloom.f
  rw [impl_sizesOk_f]
  simp only [Option.bind_some]
  by_cases hs : sizesB a0 a1 a4 = true
  · obtain ⟨⟨p0, p1⟩, ⟨p2, p3⟩, p4, p5⟩ := sizesB_ok hs
    refine ev_pos hs (ev_bind _ (impl_AreKeys_f ks hk hks) ?_)
    by_cases hkk : areKeysB ks = true
    · refine ev_pos hkk (ev_bind _ (impl_areTexts_f ts hts) (ev_succ ?_))
      simp only [impl_LeastBloom.j0]
      by_cases htt : textsB ts = true
      · refine ev_neg (by simp [htt]) ?_
        have := impl_LeastBloom_l0 a0 a1 a4 ks ts hk hks hts hs hkk (textsB_len htt) a4.toNat 1 (by omega) (by omega)
        simpa [leastV, hs, hkk, htt] using this
      · exact ev_pos (by simp [htt]) (ev_some (by simp [leastV, htt]))
    · refine ev_neg hkk (ev_succ ?_)
      simp only [impl_LeastBloom.j0]
      exact ev_pos (by trivial) (ev_some (by simp [leastV, hkk]))
  · refine ev_neg hs (ev_succ ?_)
    simp only [impl_LeastBloom.j0]
    exact ev_pos (by trivial) (ev_some (by simp [leastV, hs]))
end

end Go.Proofs.Ytpkpjikkfikejaa.Pure
namespace Go.Proofs.Ytpkpjikkfikejaa.Pure
open Go Go.RowKit Go.Proofs.YtpkpjikkfikejaaW.PrintWords Go.Proofs.YtpkpjikkfikejaaW.PrintMore Go.Proofs.YtpkpjikkfikejaaGp Go.Proofs.Ytpkpjikkfikejaa.PB Go.Proofs.YtpkpjikkfikejaaQ

theorem wrongL_has (f : ByteArray → Bool) (ks : List ByteArray) : ∀ (t : List ByteArray) (i m : Nat), (wrongL f ks t i).contains ((m : Nat) : Int) = (decide (i ≤ m) && (match t[m - i]? with | none => false | some s => !hasS ks s && f s))
  | [], i, m => by simp [wrongL]
  | s :: t, i, m => by
    have ih := wrongL_has f ks t (i + 1) m
    have e1 : i < m → (s :: t)[m - i]? = t[m - (i + 1)]? := fun h => by
      rw [show m - i = (m - (i + 1)) + 1 from by omega, List.getElem?_cons_succ]
    simp only [wrongL]
    by_cases c : hasS ks s = true
    · rw [if_pos c, ih]
      by_cases h : i = m
      · subst h; simp [c]; intro h; omega
      · by_cases h2 : i < m
        · rw [e1 h2, decide_eq_true (show i + 1 ≤ m by omega), decide_eq_true (show i ≤ m by omega)]
        · rw [decide_eq_false (show ¬ i + 1 ≤ m by omega), decide_eq_false (show ¬ i ≤ m by omega)]; rfl
    · rw [if_neg c]
      by_cases c2 : f s = true
      · rw [if_pos c2, List.contains_cons, ih]
        by_cases h : i = m
        · subst h; simp [c, c2]
        · have : (((m : Nat) : Int) == (i : Int)) = false := by simp; omega
          rw [this, Bool.false_or]
          by_cases h2 : i < m
          · rw [e1 h2, decide_eq_true (show i + 1 ≤ m by omega), decide_eq_true (show i ≤ m by omega)]
          · rw [decide_eq_false (show ¬ i + 1 ≤ m by omega), decide_eq_false (show ¬ i ≤ m by omega)]; rfl
      · rw [if_neg c2, ih]
        by_cases h : i = m
        · subst h; simp [c, c2]; intro h; omega
        · by_cases h2 : i < m
          · rw [e1 h2, decide_eq_true (show i + 1 ≤ m by omega), decide_eq_true (show i ≤ m by omega)]
          · rw [decide_eq_false (show ¬ i + 1 ≤ m by omega), decide_eq_false (show ¬ i ≤ m by omega)]; rfl
theorem textsB_all {l : List ByteArray} (h : textsB l = true) : ∀ s ∈ l, isKeyB s = true := by
  simp only [textsB, Bool.and_eq_true, List.all_eq_true] at h
  exact h.1
theorem falses_l0 {a0 a1 a2 : Int} {l : List Int} {ks ts : List ByteArray} {x1 : List Int} (hB : isBloomB a0 a1 a2 l = true) (hk : (ks.length : Int) ≤ 9223372036854775806) (ht : textsB ts = true) (H : Ev (fun k => laws_FnFalseAnswers.j2 k x1) true) : ∀ (t pre : List ByteArray), ts = pre ++ t →
    Ev (fun k => laws_FnFalseAnswers.l0 k x1 ks (wrongL (saysV a0 a1 a2 l) ks ts 0) ts (ts.length : Int) (pre.length : Int) a0 a1 a2 l) true := by
  have hlen := textsB_len ht
  have hwl := wrongL_len (saysV a0 a1 a2 l) ks ts 0
  intro t
  induction t with
  | nil =>
    intro pre h
    refine ev_succ ?_
    simp only [laws_FnFalseAnswers.l0]
    exact ev_neg (by rw [h]; exact not_lt_end) H
  | cons s t ih =>
    intro pre h
    have hm : ((pre.length : Nat) : Int) < (ts.length : Int) := by rw [h]; exact lt_mid
    have hg : rdOf ByteArray.empty ts (pre.length : Int) = s := by rw [h]; exact rdOf_mid
    have hsk := textsB_all ht s (by rw [h]; simp)
    have hsz := isKeyB_size hsk
    have hB' := impl_BloomHas_f a0 a1 a2 l s (by omega)
    have hw := wrongL_has (saysV a0 a1 a2 l) ks ts 0 pre.length
    have next := ih (pre ++ [s]) (by rw [h]; simp)
    rw [show ts[pre.length - 0]? = some s from by rw [h]; simp, decide_eq_true (Nat.zero_le _), Bool.true_and] at hw
    have hh := LW.has_f (wrongL (saysV a0 a1 a2 l) ks ts 0) (pre.length : Int) (by omega)
    rw [hw] at hh
    have hv : hasV a0 a1 a2 l s = (saysV a0 a1 a2 l s, true) := by rw [hasV, if_pos (by rw [hB, hsk]; rfl)]
    rw [hv] at hB'
    rw [len_one] at next
    refine ev_succ ?_
    simp only [laws_FnFalseAnswers.l0, hg]
    refine ev_pos hm (ev_pos (by omega) (ev_pos hm (ev_bind _ hB' (ev_pos rfl (ev_bind _ hh ?_)))))
    rw [winc (by omega)]
    by_cases c : saysV a0 a1 a2 l s = true
    · refine ev_pos c (ev_bind _ (LW.hasT_f ks s hk) (ev_neg ?_ next))
      simp [c]
    · refine ev_neg c (ev_neg ?_ next)
      simp [c]
theorem leastL_ok (a0 a1 : Int) (ks ts : List ByteArray) : ∀ (m n : Nat) (r : Int), leastL a0 a1 ks ts m n = (r, true) → (n : Int) ≤ r ∧ r < ((n + m : Nat) : Int) ∧ noWrong a0 a1 r ks ts = true
  | 0, n, r, h => by simp [leastL] at h
  | m + 1, n, r, h => by
    rw [leastL] at h
    split at h
    · rename_i c
      obtain rfl : (n : Int) = r := (Prod.mk.inj h).1
      exact ⟨by omega, by omega, c⟩
    · obtain ⟨p, q, s⟩ := leastL_ok a0 a1 ks ts m (n + 1) r h
      exact ⟨by omega, by omega, s⟩
theorem bitsB_blank {n : Int} (h0 : 1 ≤ n) (h1 : n ≤ 512) : bitsB n (blankV n) = true := by
  have hb := blankV_len h0
  have hr : ∀ i : Int, rd (blankV n) i = 0 := fun i => by
    unfold rd blankV
    rw [List.getD_eq_getElem?_getD, List.getElem?_replicate]
    split <;> rfl
  have ha : all16 (blankV n) = true := by
    rw [all16_ok]
    intro x hx
    rw [List.eq_of_mem_replicate hx]; omega
  simp only [bitsB, ha, hr, Bool.and_eq_true, Bool.or_eq_true, decide_eq_true_eq, beq_iff_eq, Bool.true_and]
  refine ⟨by omega, hb, .inr ?_⟩
  obtain ⟨j, hj⟩ : ∃ j : Nat, n % 16 = (j : Int) := ⟨(n % 16).toNat, by omega⟩
  rw [hj]
  have := shrN (w := 0) (j := j) (by omega)
  simpa using this
theorem bitsB_addK {a0 n : Int} (m : Nat) (h0 : 1 ≤ n) (h1 : n ≤ 512) : ∀ (ks : List ByteArray) {l : List Int}, bitsB n l = true → bitsB n (addK a0 m n l ks) = true
  | [], _, h => h
  | s :: ks, l, h => bitsB_addK m h0 h1 ks (bitsB_addP _ h (probesL_range a0 s h0 (by omega) m 0))

theorem FnFalseAnswers : laws_FnFalseAnswers.Pure := by
  intro l0 l1 h0 _ hw0 h1 _ hw1
  refine Ev.rounds (r := true) ?_
  unfold laws_FnFalseAnswers.f
  obtain ⟨b, eb, hb⟩ := big_f h0 h1
  rw [eb]
  refine ev_bind _ (Ev.now _) ?_
  by_cases c : b = true
  · exact ev_pos c (Ev.now _)
  obtain ⟨g0, g1⟩ := hb (by simpa using c)
  have hs := bys g0 hw0
  have hs1 := bys g1 hw1
  -- the least size
  have J4 : Ev (fun k => laws_FnFalseAnswers.j4 k l1) true := by
    obtain ⟨a0, a1, ks, ts, n, ed, hk, ht, hn0, hn1⟩ := DrawLeastBloom_ok hs1
    have hk9 : (ks.length : Int) ≤ 9223372036854775806 := by have := hk.1; omega
    have ht9 : (ts.length : Int) ≤ 9223372036854775806 := by have := ht.1; omega
    have hks : ∀ s ∈ ks, (s.size : Int) ≤ 9223372036854775806 := fun s h => by have := hk.2 s h; omega
    have hts : ∀ s ∈ ts, (s.size : Int) ≤ 9223372036854775806 := fun s h => by have := ht.2 s h; omega
    refine ev_succ ?_
    simp only [laws_FnFalseAnswers.j4]
    refine ev_bind _ ed (ev_bind _ (impl_LeastBloom_f a0 a1 n ks ts hk9 hks hts) (ev_bind _ (spec_LeastBloom_f a0 a1 n ks ts hk9 hks hts ht9) (ev_neg (by simp) (ev_succ ?_))))
    simp only [laws_FnFalseAnswers.j5]
    refine ev_neg (by simp) ?_
    by_cases c2 : (leastV a0 a1 n ks ts).2 = true
    · have hl : leastV a0 a1 n ks ts = ((leastV a0 a1 n ks ts).1, true) := by rw [← c2]
      generalize hr : (leastV a0 a1 n ks ts).1 = r at hl
      unfold leastV at hl
      split at hl
      case isFalse => cases hl
      case isTrue g =>
        rw [Bool.and_eq_true, Bool.and_eq_true] at g
        obtain ⟨gs, gk, gt⟩ := g
        obtain ⟨⟨p0, p1⟩, ⟨p2, p3⟩, p4, p5⟩ := sizesB_ok gs
        obtain ⟨q0, q1, q2⟩ := leastL_ok a0 a1 ks ts n.toNat 1 r hl
        have hz : sizesB a0 a1 r = true := by
          simp only [sizesB, Bool.and_eq_true, decide_eq_true_eq]
          omega
        have hI := impl_BloomOf_f a0 a1 r ks hk9 hks
        rw [show bloomV a0 a1 r ks = (a0, a1, r, addK a0 a1.toNat r (blankV r) ks, true) from by rw [bloomV, if_pos (by rw [hz, gk]; rfl)]] at hI
        have hBl : isBloomB a0 a1 r (addK a0 a1.toNat r (blankV r) ks) = true := by
          rw [isBloomB, hz, Bool.true_and]
          exact bitsB_addK a1.toNat (by omega) (by omega) ks (bitsB_blank (by omega) (by omega))
        have hF := impl_FalseAnswers_f a0 a1 r (addK a0 a1.toNat r (blankV r) ks) ks ts hk9 hks hts
        rw [show falseV a0 a1 r (addK a0 a1.toNat r (blankV r) ks) ks ts = (wrongL (saysV a0 a1 r (addK a0 a1.toNat r (blankV r) ks)) ks ts 0, true) from by rw [falseV, if_pos (by rw [hBl, gk, gt]; rfl)]] at hF
        simp only [noWrong, decide_eq_true_eq] at q2
        exact ev_pos c2 (ev_bind _ hI (ev_bind _ hF (ev_pos rfl (ev_pos rfl (ev_pos (by simp only []; omega) (ev_some (decide_eq_true (by omega))))))))
    · exact ev_neg c2 (Ev.now _)
  -- the share
  have J2 : Ev (fun k => laws_FnFalseAnswers.j2 k l1) true := by
    obtain ⟨a0, a1, a2, l, s, m, ed, hl, hz⟩ := DrawShareOf_ok hs1
    have hI := impl_ShareOf_f a0 a1 a2 l s m (by omega)
    have hS := spec_ShareOf_f a0 a1 a2 l s m (by omega) (by omega)
    have hO := impl_TextsOver_f s m (by omega)
    have hF := impl_FalseAnswers_f a0 a1 a2 l [] (overV s m).1 (by simp) (by simp) (over_size s m)
    refine ev_succ ?_
    simp only [laws_FnFalseAnswers.j2]
    refine ev_bind _ ed (ev_bind _ hI (ev_bind _ hS (ev_bind _ hO (ev_neg (by simp) (ev_pos rfl (ev_succ ?_))))))
    simp only [laws_FnFalseAnswers.j3]
    refine ev_neg (by simp) ?_
    by_cases c2 : ((overV s m).2 && isBloomB a0 a1 a2 l) = true
    · have e : shareV a0 a1 a2 l s m = ((((overV s m).1.filter (saysV a0 a1 a2 l)).length : Int), ((overV s m).1.length : Int), true) := if_pos c2
      rw [Bool.and_eq_true] at c2
      obtain ⟨o1, o2, _⟩ := overV_ok s m
      have ht : textsB (overV s m).1 = true := by
        simp only [textsB, Bool.and_eq_true, List.all_eq_true, decide_eq_true_eq]
        exact ⟨o2, by omega⟩
      rw [show falseV a0 a1 a2 l [] (overV s m).1 = (wrongL (saysV a0 a1 a2 l) [] (overV s m).1 0, true) from by rw [falseV, if_pos (by rw [c2.2, ht]; rfl)]] at hF
      rw [e]
      exact ev_pos rfl (ev_bind _ hF (ev_pos c2.1 (ev_pos rfl (ev_pos rfl (ev_pos (by simp only []; rw [wrongL_nil]) J4)))))
    · have e : shareV a0 a1 a2 l s m = (0, 0, false) := if_neg c2
      rw [e]
      exact ev_neg (by simp) J4
  obtain ⟨a0, a1, a2, l, ks, ts, ed, hl, hk, ht⟩ := DrawFalseAnswers_ok hs
  have hk9 : (ks.length : Int) ≤ 9223372036854775806 := by have := hk.1; omega
  have ht9 : (ts.length : Int) ≤ 9223372036854775806 := by have := ht.1; omega
  have hks : ∀ s ∈ ks, (s.size : Int) ≤ 9223372036854775806 := fun s h => by have := hk.2 s h; omega
  have hts : ∀ s ∈ ts, (s.size : Int) ≤ 9223372036854775806 := fun s h => by have := ht.2 s h; omega
  have hfl := falseV_len a0 a1 a2 l ks ts
  refine ev_neg c (ev_bind _ ed (ev_bind _ (impl_FalseAnswers_f a0 a1 a2 l ks ts hk9 hks hts) (ev_bind _ (spec_FalseAnswers_f a0 a1 a2 l ks ts hk9 hks hts (by omega) ht9) (ev_neg (by simp) (ev_bind _ (LW.sameI_f _ _ (by omega)) (ev_succ ?_))))))
  simp only [laws_FnFalseAnswers.j0]
  refine ev_neg (by simp) ?_
  by_cases g : (isBloomB a0 a1 a2 l && (areKeysB ks && textsB ts)) = true
  · rw [show falseV a0 a1 a2 l ks ts = (wrongL (saysV a0 a1 a2 l) ks ts 0, true) from if_pos g]
    rw [Bool.and_eq_true, Bool.and_eq_true] at g
    refine ev_pos rfl ?_
    exact falses_l0 g.1 hk9 g.2.2 J2 ts [] rfl
  · rw [show falseV a0 a1 a2 l ks ts = ([], false) from if_neg g]
    exact ev_neg (by simp) J2
end Go.Proofs.Ytpkpjikkfikejaa.Pure
