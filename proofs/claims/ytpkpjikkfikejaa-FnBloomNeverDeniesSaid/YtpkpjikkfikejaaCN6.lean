import Derived.Test.YtpkpjikkfikejaaCN1
import Derived.Test.YtpkpjikkfikejaaCN2
import Derived.Test.YtpkpjikkfikejaaCN3
import Derived.Test.YtpkpjikkfikejaaCN4
import Derived.Test.YtpkpjikkfikejaaCN5
import Derived.Test.YtpkpjikkfikejaaCN0
import Derived.Lib.Bytes
import Derived.Laws.BitsLemmas
-- printed by a program of this session (wip/gp) out of the translation; Lean checks it
namespace Go.Proofs.Ytpkpjikkfikejaa.PN
open Go.RowKit Go.Proofs.YtpkpjikkfikejaaW.PrintWords Go.Proofs.YtpkpjikkfikejaaW.PrintLast Go.Proofs.YtpkpjikkfikejaaW.PrintMore Go.Proofs.YtpkpjikkfikejaaSq
attribute [local go_sem] max2_int min2_int max_two min_two max_three min_three max_four min_four   -- for this text's walks alone
attribute [local go_sem] Go.Proofs.YtpkpjikkfikejaaGp.str_geq Go.Proofs.YtpkpjikkfikejaaGp.str_gtr Go.Proofs.YtpkpjikkfikejaaGp.str_leq
set_option linter.unusedVariables false
set_option linter.unusedSimpArgs false

set_option maxHeartbeats 8000000
set_option maxRecDepth 100000
mutual
def laws_FnBloomNeverDenies.j0 : Nat → List Int → Int → Int → Int → List ByteArray → Bool → Bool → Int → Int → Int → List Int → Option (Bool)
 | 0, _, _, _, _, _, _, _, _, _, _, _ => none
 | k + 1, x1, x5, x6, x7, x8, x10, x77, x744000, x744001, x744002, x744003 => if x77 = true then (some false) else (if x10 = true then ((impl_NewBloom.f x5 x6 x7).bind fun bt753 => (laws_FnBloomNeverDenies.l0 k x1 bt753.2.2.2.2 x8 (x8.length : Int) 0 x744000 x744001 x744002 x744003 bt753.1 bt753.2.1 bt753.2.2.1 bt753.2.2.2.1)) else (laws_FnBloomNeverDenies.j2 k x1))
def laws_FnBloomNeverDenies.j2 : Nat → List Int → Option (Bool)
 | 0, _ => none
 | k + 1, x1 => (spec_DrawUnionBloom.f k x1).bind fun bt773 => ((impl_UnionBloom.f k bt773.1 bt773.2.1 bt773.2.2.1 bt773.2.2.2.1 bt773.2.2.2.2.1 bt773.2.2.2.2.2.1 bt773.2.2.2.2.2.2.1 bt773.2.2.2.2.2.2.2).bind fun bt787 => ((spec_UnionBloom.f k bt773.1 bt773.2.1 bt773.2.2.1 bt773.2.2.2.1 bt773.2.2.2.2.1 bt773.2.2.2.2.2.1 bt773.2.2.2.2.2.2.1 bt773.2.2.2.2.2.2.2).bind fun bt795 => (if (bt787.2.2.2.2 != bt795.2.2.2.2) = true then (laws_FnBloomNeverDenies.j3 k x1 bt787.2.2.2.2 true bt773.1 bt773.2.1 bt773.2.2.1 bt773.2.2.2.1 bt773.2.2.2.2.1 bt773.2.2.2.2.2.1 bt773.2.2.2.2.2.2.1 bt773.2.2.2.2.2.2.2 bt787.1 bt787.2.1 bt787.2.2.1 bt787.2.2.2.1) else ((laws_rSameBloom.f k bt787.1 bt787.2.1 bt787.2.2.1 bt787.2.2.2.1 bt795.1 bt795.2.1 bt795.2.2.1 bt795.2.2.2.1).bind fun t803 => (laws_FnBloomNeverDenies.j3 k x1 bt787.2.2.2.2 (!t803) bt773.1 bt773.2.1 bt773.2.2.1 bt773.2.2.2.1 bt773.2.2.2.2.1 bt773.2.2.2.2.2.1 bt773.2.2.2.2.2.2.1 bt773.2.2.2.2.2.2.2 bt787.1 bt787.2.1 bt787.2.2.1 bt787.2.2.2.1)))))
def laws_FnBloomNeverDenies.j3 : Nat → List Int → Bool → Bool → Int → Int → Int → List Int → Int → Int → Int → List Int → Int → Int → Int → List Int → Option (Bool)
 | 0, _, _, _, _, _, _, _, _, _, _, _, _, _, _, _ => none
 | k + 1, x1, x24, x149, x786000, x786001, x786002, x786003, x787000, x787001, x787002, x787003, x795000, x795001, x795002, x795003 => if x149 = true then (some false) else (if x24 = true then ((impl_CoversBloom.f k x795000 x795001 x795002 x795003 x786000 x786001 x786002 x786003).bind fun bt804 => ((impl_CoversBloom.f k x795000 x795001 x795002 x795003 x787000 x787001 x787002 x787003).bind fun bt806 => ((impl_BloomLoad.f k x786000 x786001 x786002 x786003).bind fun bt808 => ((impl_BloomLoad.f k x787000 x787001 x787002 x787003).bind fun bt810 => ((impl_BloomLoad.f k x795000 x795001 x795002 x795003).bind fun bt812 => (if bt804.2 = true then (if bt804.1 = true then (if bt806.2 = true then (if bt806.1 = true then (if bt808.2 = true then (if bt810.2 = true then (if bt812.2 = true then (if bt812.1 > (wrap64 (bt808.1 + bt810.1)) then (some false) else (if bt812.1 < bt808.1 then (some false) else (if bt812.1 < bt810.1 then (some false) else (laws_FnBloomNeverDenies.j4 k x1)))) else (some false)) else (some false)) else (some false)) else (some false)) else (some false)) else (some false)) else (some false))))))) else (laws_FnBloomNeverDenies.j4 k x1))
def laws_FnBloomNeverDenies.j4 : Nat → List Int → Option (Bool)
 | 0, _ => none
 | k + 1, x1 => (spec_DrawCoversBloom.f k x1).bind fun bt814 => ((impl_CoversBloom.f k bt814.1 bt814.2.1 bt814.2.2.1 bt814.2.2.2.1 bt814.2.2.2.2.1 bt814.2.2.2.2.2.1 bt814.2.2.2.2.2.2.1 bt814.2.2.2.2.2.2.2).bind fun bt828 => ((spec_CoversBloom.f k bt814.1 bt814.2.1 bt814.2.2.1 bt814.2.2.2.1 bt814.2.2.2.2.1 bt814.2.2.2.2.2.1 bt814.2.2.2.2.2.2.1 bt814.2.2.2.2.2.2.2).bind fun bt830 => (if (bt828.2 == bt830.2) = true then (some (bt828.1 == bt830.1)) else (some false))))
def laws_FnBloomNeverDenies.l0 : Nat → List Int → Bool → List ByteArray → Int → Int → Int → Int → Int → List Int → Int → Int → Int → List Int → Option (Bool)
 | 0, _, _, _, _, _, _, _, _, _, _, _, _, _ => none
 | k + 1, x1, x14, x86, x87, x88, x744000, x744001, x744002, x744003, x761000, x761001, x761002, x761003 => if x88 < x87 then (if 0 ≤ x88 then (if x88 < (x86.length : Int) then ((impl_BloomAdd.f k x761000 x761001 x761002 x761003 (rdOf ByteArray.empty x86 x88)).bind fun bt763 => ((impl_BloomHas.f k x744000 x744001 x744002 x744003 (rdOf ByteArray.empty x86 x88)).bind fun bt771 => (if x14 = true then (if bt763.2.2.2.2 = true then (if bt771.2 = true then (if bt771.1 = true then (laws_FnBloomNeverDenies.l0 k x1 x14 x86 x87 (wrap64 (x88 + 1)) x744000 x744001 x744002 x744003 bt763.1 bt763.2.1 bt763.2.2.1 bt763.2.2.2.1) else (some false)) else (some false)) else (some false)) else (some false)))) else (none)) else (none)) else ((laws_rSameBloom.f k x761000 x761001 x761002 x761003 x744000 x744001 x744002 x744003).bind fun t761 => (if t761 = true then (laws_FnBloomNeverDenies.j2 k x1) else (some false)))
end
def laws_FnBloomNeverDenies.f (k : Nat) (l0 : List Int) (l1 : List Int) : Option (Bool) := (laws_big.f l0 l1).bind fun t729 => (if t729 = true then (some true) else ((spec_DrawBloomOf.f k l0).bind fun bt730 => ((impl_BloomOf.f k bt730.1 bt730.2.1 bt730.2.2.1 bt730.2.2.2).bind fun bt736 => ((spec_BloomOf.f k bt730.1 bt730.2.1 bt730.2.2.1 bt730.2.2.2).bind fun bt744 => (if (bt736.2.2.2.2 != bt744.2.2.2.2) = true then (laws_FnBloomNeverDenies.j0 k l1 bt730.1 bt730.2.1 bt730.2.2.1 bt730.2.2.2 bt736.2.2.2.2 true bt736.1 bt736.2.1 bt736.2.2.1 bt736.2.2.2.1) else ((laws_rSameBloom.f k bt736.1 bt736.2.1 bt736.2.2.1 bt736.2.2.2.1 bt744.1 bt744.2.1 bt744.2.2.1 bt744.2.2.2.1).bind fun t752 => (laws_FnBloomNeverDenies.j0 k l1 bt730.1 bt730.2.1 bt730.2.2.1 bt730.2.2.2 bt736.2.2.2.2 (!t752) bt736.1 bt736.2.1 bt736.2.2.1 bt736.2.2.2.1)))))))
theorem laws_FnBloomNeverDenies.j0.dead (k : Nat) (y0 : List Int) (y1 : Int) (y2 : Int) (y3 : Int) (y4 : List ByteArray) (y5 : Bool) (y7 : Int) (y8 : Int) (y9 : Int) (y10 : List Int) : laws_FnBloomNeverDenies.j0 k y0 y1 y2 y3 y4 y5 true y7 y8 y9 y10 ≠ some true := by cases k <;> simp [laws_FnBloomNeverDenies.j0]
theorem laws_FnBloomNeverDenies.j3.dead (k : Nat) (y0 : List Int) (y1 : Bool) (y3 : Int) (y4 : Int) (y5 : Int) (y6 : List Int) (y7 : Int) (y8 : Int) (y9 : Int) (y10 : List Int) (y11 : Int) (y12 : Int) (y13 : Int) (y14 : List Int) : laws_FnBloomNeverDenies.j3 k y0 y1 true y3 y4 y5 y6 y7 y8 y9 y10 y11 y12 y13 y14 ≠ some true := by cases k <;> simp [laws_FnBloomNeverDenies.j3]
theorem laws_FnBloomNeverDenies.calls (k : Nat) (A0 : Option Addr) (c0 : Nat) (l0 : List Int) (A1 : Option Addr) (c1 : Nat) (l1 : List Int) (r : Bool) (w : World) (hr0 : Kd.C (Kd.int .u8) w A0 l0.length l0) (hc0 : l0.length ≤ c0) (hr1 : Kd.C (Kd.int .u8) w A1 l1.length l1) (hc1 : l1.length ≤ c1) (h : laws_FnBloomNeverDenies.f k l0 l1 = some r) (hT_ : r = true) :
  Calls Try.prog 12 #[.slice A0 l0.length c0, .slice A1 l1.length c1] w fun e w' => e = .returned (.bool r) ∧ Below w.heap.size w w' := by
 have hu28 := Try.underlying28; have HR0 := am hr0; have HC0 := am hc0; clear hr0 hc0; have HR1 := am hr1; have HC1 := am hc1; clear hr1 hc1; have HB := am (Below.refl w.heap.size w); have H : ((laws_big.f l0 l1).bind fun t729 => (if t729 = true then (some true) else ((spec_DrawBloomOf.f k l0).bind fun bt730 => ((impl_BloomOf.f k bt730.1 bt730.2.1 bt730.2.2.1 bt730.2.2.2).bind fun bt736 => ((spec_BloomOf.f k bt730.1 bt730.2.1 bt730.2.2.1 bt730.2.2.2).bind fun bt744 => (if (bt736.2.2.2.2 != bt744.2.2.2.2) = true then (laws_FnBloomNeverDenies.j0 k l1 bt730.1 bt730.2.1 bt730.2.2.1 bt730.2.2.2 bt736.2.2.2.2 true bt736.1 bt736.2.1 bt736.2.2.1 bt736.2.2.2.1) else ((laws_rSameBloom.f k bt736.1 bt736.2.1 bt736.2.2.1 bt736.2.2.2.1 bt744.1 bt744.2.1 bt744.2.2.1 bt744.2.2.2.1).bind fun t752 => (laws_FnBloomNeverDenies.j0 k l1 bt730.1 bt730.2.1 bt730.2.2.1 bt730.2.2.2 bt736.2.2.2.2 (!t752) bt736.1 bt736.2.1 bt736.2.2.1 bt736.2.2.2.1)))))))) = some r := h; clear h; have HT_ := am hT_; clear hT_; obtain ⟨t729, A3, H⟩ := ob H; (try dsimp -simprocs only at H)
 by_cases c4 : t729 = true
 ·subst c4
  rw [if_pos rfl] at H; obtain rfl := Option.some.inj H
  go_enter Try.func12, Try.ntmps12
  go_wp2_with (first | ((with_reducible refine gate_callee (f := 49) rfl ?_); refine gL (some 45) Try.func49 #[.slice A0 l0.length c0, .slice A1 l1.length c1] ?_; (with_reducible refine (laws_big.calls _ _ l0 _ _ l1 true _ ?side1 ?side2 ?side3 ?side4 A3.out).mono ?_); (case side1 => exact Cz HR0.out); (case side2 => exact HC0.out); (case side3 => exact Cz HR1.out); (case side4 => exact HC1.out); rintro e w' ⟨rfl, ⟨nd, rfl⟩⟩; refine ⟨_, rfl, ?_⟩))
  go_ret
  exact ⟨eZ, Bz HB.out⟩
 ·replace c4 := Bool.eq_false_iff.mpr c4
  subst c4
  rw [if_neg (show ¬ (false = true) by decide)] at H; obtain ⟨⟨t730, t731, t732, t733⟩, A5, H⟩ := ob H; (try dsimp -simprocs only at H); obtain ⟨⟨t736, t737, t738, t739, t742⟩, A6, H⟩ := ob H; (try dsimp -simprocs only at H); obtain ⟨⟨t744, t745, t746, t747, t750⟩, A7, H⟩ := ob H; (try dsimp -simprocs only at H); have HC8 := am H; clear H
  go_enter Try.func12, Try.ntmps12
  go_upto_region 6 with (first | ((with_reducible refine gate_callee (f := 49) rfl ?_); refine gL (some 45) Try.func49 #[.slice A0 l0.length c0, .slice A1 l1.length c1] ?_; (with_reducible refine (laws_big.calls _ _ l0 _ _ l1 false _ ?side1 ?side2 ?side3 ?side4 A3.out).mono ?_); (case side1 => exact Cz HR0.out); (case side2 => exact HC0.out); (case side3 => exact Cz HR1.out); (case side4 => exact HC1.out); rintro e w' ⟨rfl, ⟨nd, rfl⟩⟩; refine ⟨_, rfl, ?_⟩) | ((with_reducible refine gate_callee (f := 68) rfl ?_); refine gL (some 48) Try.func68 #[.slice A0 l0.length c0] ?_; (with_reducible refine (spec_DrawBloomOf.calls k _ _ l0 t730 t731 t732 t733 _ ?side1 ?side2 A5.out).mono ?_); (case side1 => exact Cz HR0.out); (case side2 => exact HC0.out); rintro e w9 ⟨v734, rfl, ho0, hb⟩; refine ⟨_, rfl, ?_⟩; have n0_ := Rl ho0 HB; have n1_ := Bb HB hb; clear HB; revert n0_ n1_; intro HO735 HB; (try clear hb); (try clear hb2); (try clear hk); (try clear hi); (try clear ho0); obtain ⟨Ao10, co10, eo10⟩ := Kd.R_slice HO735.out; subst eo10) | ((with_reducible refine gate_callee (f := 17) rfl ?_); refine gL (some 58) Try.func17 #[.int .i64 t730, .int .i64 t731, .int .i64 t732, .slice Ao10 t733.length co10] ?_; (with_reducible refine (impl_BloomOf.calls k t730 t731 t732 _ _ t733 t736 t737 t738 t739 t742 _ ?side1 ?side2 A6.out).mono ?_); (case side1 => exact Cz ((Kd.R_reads' HO735.out).2.2)); (case side2 => exact (Kd.R_reads' HO735.out).2.1); rintro e w11 ⟨v740, rfl, ho0, hb⟩; refine ⟨_, rfl, ?_⟩; have n0_ := Rb HO735 hb; have n1_ := Rl ho0 HB; have n2_ := Bb HB hb; clear HO735 HB; revert n0_ n1_ n2_; intro HO735 HO741 HB; (try clear hb); (try clear hb2); (try clear hk); (try clear hi); (try clear ho0)) | ((with_reducible refine gate_dst (N := 9) rfl ?_); refine bE 9 #[.int .i64 0, .int .i64 0, .int .i64 0, .slice none 0 0] 28 ?_; intro gb743 hg w12 hbox hb; have n0_ := Rb HO735 hb; have n1_ := Rb HO741 hb; have n2_ := Bb HB hb; have n3_ := am (hbox); have n4_ := Gl HB hg; have n5_ := Gl HB hg; clear HO735 HO741 HB; revert n0_ n1_ n2_ n3_ n4_ n5_; intro HO735 HO741 HB BK743 GW743 GE743; clear hb hbox hg; obtain ⟨hcz13_0, hcz13_1, hcz13_2, hcz13_3, hfz13_0, hfz13_1, hfz13_2, hfz13_3⟩ := cf4 (w := w12) BK743; obtain ⟨Ao14, co14, eo14⟩ := Kd.R_slice HO741.out; subst eo14) | ((with_reducible refine gate_callee (f := 15) rfl ?_); refine gL (some 66) Try.func15 #[.int .i64 t730, .int .i64 t731, .int .i64 t732, .slice Ao10 t733.length co10] ?_; (with_reducible refine (spec_BloomOf.calls k t730 t731 t732 _ _ t733 t744 t745 t746 t747 t750 _ ?side1 ?side2 A7.out).mono ?_); (case side1 => refine (Kd.R_reads' (e := 9) (base := w.heap.size) (ok := fun k_ => True) (n := t733.length) (c := co10) ?_).2.2; exact (Rz (Kd.R_mono (Kd.R_far (p := ⟨gb743, 3, none⟩) (Kd.R_far (p := ⟨gb743, 2, none⟩) (Kd.R_far (p := ⟨gb743, 1, none⟩) (Kd.R_far (p := ⟨gb743, 0, none⟩) (Kd.R_types HO735.out BK743.out (by decide)) (fun _ hk => hk.2) (.int .i64 t736)) (fun _ hk => hk.2) (.int .i64 t737)) (fun _ hk => hk.2) (.int .i64 t738)) (fun _ hk => hk.2) (.slice Ao14 t739.length co14)) (fun _ h_ => h_.1)))); (case side2 => exact (Kd.R_reads' HO735.out).2.1); rintro e w15 ⟨v748, rfl, ho0, hb⟩; refine ⟨_, rfl, ?_⟩; have n0_ := am (Kd.R_below (Rz (Kd.R_mono (Kd.R_far (p := ⟨gb743, 3, none⟩) (Kd.R_far (p := ⟨gb743, 2, none⟩) (Kd.R_far (p := ⟨gb743, 1, none⟩) (Kd.R_far (p := ⟨gb743, 0, none⟩) (Kd.R_types HO735.out BK743.out (by decide)) (fun _ hk => hk.2) (.int .i64 t736)) (fun _ hk => hk.2) (.int .i64 t737)) (fun _ hk => hk.2) (.int .i64 t738)) (fun _ hk => hk.2) (.slice Ao14 t739.length co14)) (fun _ h_ => h_.1))) hb); have n1_ := am (Kd.R_elder' (Rz (Kd.R_mono (Kd.R_far (p := ⟨gb743, 3, none⟩) (Kd.R_far (p := ⟨gb743, 2, none⟩) (Kd.R_far (p := ⟨gb743, 1, none⟩) (Kd.R_far (p := ⟨gb743, 0, none⟩) (Kd.R_types HO741.out BK743.out (by decide)) (fun _ hk => hk.2) (.int .i64 t736)) (fun _ hk => hk.2) (.int .i64 t737)) (fun _ hk => hk.2) (.int .i64 t738)) (fun _ hk => hk.2) (.slice Ao14 t739.length co14)) (fun _ h_ => h_.1))) (Kd.R_base ho0) hb); have n2_ := am (Kd.R_lower (Kd.R_new' ho0 (Kd.R_lt (Rz (Kd.R_mono (Kd.R_far (p := ⟨gb743, 3, none⟩) (Kd.R_far (p := ⟨gb743, 2, none⟩) (Kd.R_far (p := ⟨gb743, 1, none⟩) (Kd.R_far (p := ⟨gb743, 0, none⟩) (Kd.R_types HO741.out BK743.out (by decide)) (fun _ hk => hk.2) (.int .i64 t736)) (fun _ hk => hk.2) (.int .i64 t737)) (fun _ hk => hk.2) (.int .i64 t738)) (fun _ hk => hk.2) (.slice Ao14 t739.length co14)) (fun _ h_ => h_.1))))) (below_size (w := w) (Bq))); have n3_ := am (blk_below (g := gb743) (o := .cells #[.int .i64 t736, .int .i64 t737, .int .i64 t738, .slice Ao14 t739.length co14] 28 (0, 0)) (by refine bp ?_; refine blk_put (cs := #[.int .i64 t736, .int .i64 t737, .int .i64 t738, .slice none 0 0]) ?_ 3 _ rfl; refine bp ?_; refine blk_put (cs := #[.int .i64 t736, .int .i64 t737, .int .i64 0, .slice none 0 0]) ?_ 2 _ rfl; refine bp ?_; refine blk_put (cs := #[.int .i64 t736, .int .i64 0, .int .i64 0, .slice none 0 0]) ?_ 1 _ rfl; refine bp ?_; refine blk_put (cs := #[.int .i64 0, .int .i64 0, .int .i64 0, .slice none 0 0]) ?_ 0 _ rfl; exact Kz BK743.out) hb); have n4_ := Bc HB hb; clear HO735 HO741 BK743 HB; revert n0_ n1_ n2_ n3_ n4_; intro HO735 HO741 HO749 BK743 HB; (try clear hb); (try clear hb2); (try clear hk); (try clear hi); (try clear ho0)) | ((with_reducible refine gate_dst (N := 11) rfl ?_); refine bE 11 #[.int .i64 0, .int .i64 0, .int .i64 0, .slice none 0 0] 28 ?_; intro gb751 hg w16 hbox hb; have n0_ := Rb HO735 hb; have n1_ := Rb HO741 hb; have n2_ := Rb HO749 hb; have n3_ := Kb BK743 hb; have n4_ := Bc HB hb; have n5_ := am (hbox); have n6_ := Gm HB hg; have n7_ := Gm HB hg; have n8_ := Nl BK743 hg; have n9_ := Ng BK743 hg; clear HO735 HO741 HO749 BK743 HB; revert n0_ n1_ n2_ n3_ n4_ n5_ n6_ n7_ n8_ n9_; intro HO735 HO741 HO749 BK743 HB BK751 GW751 GE751 NB743_751 NB751_743; clear hb hbox hg; have hnb17 := NB751_743.out; have hnc17 := NB743_751.out; obtain ⟨hcz18_0, hcz18_1, hcz18_2, hcz18_3, hfz18_0, hfz18_1, hfz18_2, hfz18_3⟩ := cf4 (w := w16) BK751; obtain ⟨Ao19, co19, eo19⟩ := Kd.R_slice HO749.out; subst eo19))
  (try simp only [aP])
  go_cut [77] (fun v77 wc => ∃ (kq : Nat) (x77_7 : Bool), v77 = .bool x77_7 ∧ Aside0 (laws_FnBloomNeverDenies.j0 kq l1 t730 t731 t732 t733 t742 x77_7 t736 t737 t738 t739 = some r) ∧ Aside0 (kq ≤ k) ∧ Aside0 (Kd.R Kd.string 9 wc w.heap.size (fun _ => True) (.slice Ao10 t733.length co10) t733) ∧ Aside0 (Kd.R (Kd.int .i64) 3 wc w.heap.size (fun k_ => some k_ ≠ ((.slice Ao19 t747.length co19) : Value).ownBlock) (.slice Ao14 t739.length co14) t739) ∧ Aside0 (Kd.R (Kd.int .i64) 3 wc w.heap.size (fun k_ => some k_ ≠ ((.slice Ao14 t739.length co14) : Value).ownBlock) (.slice Ao19 t747.length co19) t747) ∧ Aside0 (wc.heap[gb743]? = some (.cells #[.int .i64 t736, .int .i64 t737, .int .i64 t738, (.slice Ao14 t739.length co14)] 28 (0, 0))) ∧ Aside0 (wc.heap[gb751]? = some (.cells #[.int .i64 t744, .int .i64 t745, .int .i64 t746, (.slice Ao19 t747.length co19)] 28 (0, 0))) ∧ Aside0 (Below w.heap.size w wc))
  case first =>
   have H := HC8.out; clear HC8
   by_cases c20 : (t742 != t750) = true
   ·rw [if_pos c20] at H
    have c20b0 : (t742 != t750) = true := c20
    (try (have c20b1 : decide (t742 = t750) = false := by simpa using c20))
    (try (have c20b2 : (t742 == t750) = false := by simpa using c20))
    (try (have c20b3 : ¬ (t742 = t750) := by simpa using c20))
    (try (have c20b4 : (!(t742 == t750)) = true := c20b0))
    clear c20
    (first | rw [c20b0] | (simp only [i64_w, i32_w]; rw [c20b0]) | skip)
    exact absurd (H.trans (congrArg some HT_.out)) (laws_FnBloomNeverDenies.j0.dead _ _ _ _ _ _ _ _ _ _ _)
   ·rw [if_neg c20] at H
    have c20b0 : (t742 != t750) = false := by simpa using c20
    (try (have c20b1 : decide (t742 = t750) = true := by simpa using c20))
    (try (have c20b2 : (t742 == t750) = true := by simpa using c20))
    (try (have c20b3 : (!(t742 == t750)) = false := c20b0))
    clear c20
    (first | rw [c20b0] | (simp only [i64_w, i32_w]; rw [c20b0]) | skip)
    obtain ⟨t752, A21, H⟩ := ob H; (try dsimp -simprocs only at H); have H' := am H; clear H; have hnb22 := NB743_751.out; have hnc22 := NB751_743.out; obtain ⟨hcz23_0, hcz23_1, hcz23_2, hcz23_3, hfz23_0, hfz23_1, hfz23_2, hfz23_3⟩ := cf4 (w := w16) BK743; obtain ⟨hcz24_0, hcz24_1, hcz24_2, hcz24_3, hfz24_0, hfz24_1, hfz24_2, hfz24_3⟩ := cf4 (w := w16) BK751
    go_wp2_with (first | (go_at_call 53; (with_reducible refine (laws_rSameBloom.calls k t736 t737 t738 _ _ t739 t744 t745 t746 _ _ t747 t752 _ ?side1 ?side2 ?side3 ?side4 A21.out).mono ?_); (case side1 => refine (Kd.R_reads' (e := 3) (base := w.heap.size) (ok := fun k_ => (True ∧ some k_ ≠ (.slice Ao19 t747.length co19 : Value).ownBlock)) (n := t739.length) (c := co14) ?_).2.2; exact (Rz (Kd.R_mono (Kd.R_far (p := ⟨gb751, 3, none⟩) (Kd.R_far (p := ⟨gb751, 2, none⟩) (Kd.R_far (p := ⟨gb751, 1, none⟩) (Kd.R_far (p := ⟨gb751, 0, none⟩) (Kd.R_types HO741.out BK751.out (by decide)) (fun _ hk => hk.2) (.int .i64 t744)) (fun _ hk => hk.2) (.int .i64 t745)) (fun _ hk => hk.2) (.int .i64 t746)) (fun _ hk => hk.2) (.slice Ao19 t747.length co19)) (fun _ h_ => h_.1)))); (case side2 => exact (Kd.R_reads' HO741.out).2.1); (case side3 => refine (Kd.R_reads' (e := 3) (base := w.heap.size) (ok := fun k_ => (True ∧ some k_ ≠ (.slice Ao14 t739.length co14 : Value).ownBlock)) (n := t747.length) (c := co19) ?_).2.2; exact (Rz (Kd.R_mono (Kd.R_far (p := ⟨gb751, 3, none⟩) (Kd.R_far (p := ⟨gb751, 2, none⟩) (Kd.R_far (p := ⟨gb751, 1, none⟩) (Kd.R_far (p := ⟨gb751, 0, none⟩) (Kd.R_types HO749.out BK751.out (by decide)) (fun _ hk => hk.2) (.int .i64 t744)) (fun _ hk => hk.2) (.int .i64 t745)) (fun _ hk => hk.2) (.int .i64 t746)) (fun _ hk => hk.2) (.slice Ao19 t747.length co19)) (fun _ h_ => h_.1)))); (case side4 => exact (Kd.R_reads' HO749.out).2.1); rintro e w25 ⟨rfl, hb⟩; have n0_ := am (Kd.R_below (Rz (Kd.R_mono (Kd.R_far (p := ⟨gb751, 3, none⟩) (Kd.R_far (p := ⟨gb751, 2, none⟩) (Kd.R_far (p := ⟨gb751, 1, none⟩) (Kd.R_far (p := ⟨gb751, 0, none⟩) (Kd.R_types HO735.out BK751.out (by decide)) (fun _ hk => hk.2) (.int .i64 t744)) (fun _ hk => hk.2) (.int .i64 t745)) (fun _ hk => hk.2) (.int .i64 t746)) (fun _ hk => hk.2) (.slice Ao19 t747.length co19)) (fun _ h_ => h_.1))) hb); have n1_ := am (Kd.R_below (Rz (Kd.R_mono (Kd.R_far (p := ⟨gb751, 3, none⟩) (Kd.R_far (p := ⟨gb751, 2, none⟩) (Kd.R_far (p := ⟨gb751, 1, none⟩) (Kd.R_far (p := ⟨gb751, 0, none⟩) (Kd.R_types HO741.out BK751.out (by decide)) (fun _ hk => hk.2) (.int .i64 t744)) (fun _ hk => hk.2) (.int .i64 t745)) (fun _ hk => hk.2) (.int .i64 t746)) (fun _ hk => hk.2) (.slice Ao19 t747.length co19)) (fun _ h_ => h_.1))) hb); have n2_ := am (Kd.R_below (Rz (Kd.R_mono (Kd.R_far (p := ⟨gb751, 3, none⟩) (Kd.R_far (p := ⟨gb751, 2, none⟩) (Kd.R_far (p := ⟨gb751, 1, none⟩) (Kd.R_far (p := ⟨gb751, 0, none⟩) (Kd.R_types HO749.out BK751.out (by decide)) (fun _ hk => hk.2) (.int .i64 t744)) (fun _ hk => hk.2) (.int .i64 t745)) (fun _ hk => hk.2) (.int .i64 t746)) (fun _ hk => hk.2) (.slice Ao19 t747.length co19)) (fun _ h_ => h_.1))) hb); have n3_ := am (blk_below (g := gb743) (o := .cells #[.int .i64 t736, .int .i64 t737, .int .i64 t738, .slice Ao14 t739.length co14] 28 (0, 0)) (by refine bp ?_; refine blk_far ?_ NB743_751.out _; refine bp ?_; refine blk_far ?_ NB743_751.out _; refine bp ?_; refine blk_far ?_ NB743_751.out _; refine bp ?_; refine blk_far ?_ NB743_751.out _; exact Kz BK743.out) hb); have n4_ := am (blk_below (g := gb751) (o := .cells #[.int .i64 t744, .int .i64 t745, .int .i64 t746, .slice Ao19 t747.length co19] 28 (0, 0)) (by refine bp ?_; refine blk_put (cs := #[.int .i64 t744, .int .i64 t745, .int .i64 t746, .slice none 0 0]) ?_ 3 _ rfl; refine bp ?_; refine blk_put (cs := #[.int .i64 t744, .int .i64 t745, .int .i64 0, .slice none 0 0]) ?_ 2 _ rfl; refine bp ?_; refine blk_put (cs := #[.int .i64 t744, .int .i64 0, .int .i64 0, .slice none 0 0]) ?_ 1 _ rfl; refine bp ?_; refine blk_put (cs := #[.int .i64 0, .int .i64 0, .int .i64 0, .slice none 0 0]) ?_ 0 _ rfl; exact Kz BK751.out) hb); have n5_ := Bc HB hb; clear HO735 HO741 HO749 BK743 BK751 HB; revert n0_ n1_ n2_ n3_ n4_ n5_; intro HO735 HO741 HO749 BK743 BK751 HB; (try clear hb); (try clear hb2); (try clear hk); (try clear hi)))
    go_meet
    case rel => exact ⟨_, (!t752), wZ, H', ⟨by first | omega | exact Nat.le_refl _⟩, ⟨Rz HO735.out⟩, ⟨Rz (Kd.R_mono HO741.out (fun _ hk => hk.2))⟩, ⟨Rz (Kd.R_mono HO749.out (fun _ hk => hk.2))⟩, ⟨Kz BK743.out⟩, ⟨Kz BK751.out⟩, ⟨Bq⟩⟩
  case rest =>
   refine Nonempty.elim ?_ id
   refine (letI hh_ : Nonempty (_ : Prop) := ?apart1; (?close1 : type_of% hh_))
   case apart1 =>
    refine Nonempty.intro ?_
    clear HC8
    try clear c1
    try clear c2
    try clear p2
    try clear c4
    try clear c6
    try clear c12
    try clear c15
    try clear c17
    try clear c20
    try clear c20b0
    try clear c20b1
    try clear c20b2
    try clear c22
    obtain ⟨kq, x77_7, rfl, HA, HJ7, HO_8, HO_744003, HO_752003, BK743, BK751, HB⟩ := hcut; cases kq with
    | zero => exact absurd HA.out (by simp [laws_FnBloomNeverDenies.j0])
    | succ kj7 =>
     have H := HA.out; clear HA
     simp only [laws_FnBloomNeverDenies.j0] at H
     by_cases c26 : x77_7 = true
     ·subst c26
      rw [if_pos rfl] at H; exact absurd (Option.some.inj H) (by rw [HT_.out]; decide)
     ·replace c26 := Bool.eq_false_iff.mpr c26
      subst c26
      rw [if_neg (show ¬ (false = true) by decide)] at H; have HC27 := am H; clear H
      go_upto_if 78 with (fail)
      go_cut [] (fun wc => ∃ (kq : Nat), Aside0 (laws_FnBloomNeverDenies.j2 kq l1 = some r) ∧ Aside0 (kq ≤ kj7) ∧ Aside0 (Kd.R (Kd.int .i64) 3 wc w.heap.size (fun k_ => some k_ ≠ ((.slice Ao19 t747.length co19) : Value).ownBlock) (.slice Ao14 t739.length co14) t739) ∧ Aside0 (Kd.R (Kd.int .i64) 3 wc w.heap.size (fun k_ => some k_ ≠ ((.slice Ao14 t739.length co14) : Value).ownBlock) (.slice Ao19 t747.length co19) t747) ∧ Aside0 (wc.heap[gb743]? = some (.cells #[.int .i64 t736, .int .i64 t737, .int .i64 t738, (.slice Ao14 t739.length co14)] 28 (0, 0))) ∧ Aside0 (wc.heap[gb751]? = some (.cells #[.int .i64 t744, .int .i64 t745, .int .i64 t746, (.slice Ao19 t747.length co19)] 28 (0, 0))) ∧ Aside0 (Below w.heap.size w wc))
      case first =>
       have H := HC27.out; clear HC27
       by_cases c28 : t742 = true
       ·subst c28
        rw [if_pos rfl] at H; obtain ⟨⟨t753, t754, t755, t756, t759⟩, A29, H⟩ := ob H; (try dsimp -simprocs only at H); have H' := am H; clear H
        go_wp2_with (first | ((with_reducible refine gate_callee (f := 69) rfl ?_); refine gL (some 83) Try.func69 #[.int .i64 t730, .int .i64 t731, .int .i64 t732] ?_; (with_reducible refine (impl_NewBloom.calls t730 t731 t732 t753 t754 t755 t756 t759 _ A29.out).mono ?_); rintro e w30 ⟨v757, rfl, ho0, hb⟩; refine ⟨_, rfl, ?_⟩; have n0_ := Rb HO_8 hb; have n1_ := Re HO_744003 (Kd.R_base ho0) hb; have n2_ := Re HO_752003 (Kd.R_base ho0) hb; have n3_ := Rm (Kd.R_new' (Kd.R_new' ho0 (Kd.R_lt (Rz HO_744003.out))) (Kd.R_lt (Rz HO_752003.out))) HB; have n4_ := Kb BK743 hb; have n5_ := Kb BK751 hb; have n6_ := Bc HB hb; clear HO_8 HO_744003 HO_752003 BK743 BK751 HB; revert n0_ n1_ n2_ n3_ n4_ n5_ n6_; intro HO_8 HO_744003 HO_752003 HO758 BK743 BK751 HB; (try clear hb); (try clear hb2); (try clear hk); (try clear hi); (try clear ho0)) | ((with_reducible refine gate_dst (N := 13) rfl ?_); refine bE 13 #[.int .i64 0, .int .i64 0, .int .i64 0, .slice none 0 0] 28 ?_; intro gb760 hg w31 hbox hb; have n0_ := Rb HO_8 hb; have n1_ := Rb HO_744003 hb; have n2_ := Rb HO_752003 hb; have n3_ := Rb HO758 hb; have n4_ := Kb BK743 hb; have n5_ := Kb BK751 hb; have n6_ := Bc HB hb; have n7_ := am (hbox); have n8_ := Gm HB hg; have n9_ := Gm HB hg; have n10_ := Nl BK743 hg; have n11_ := Ng BK743 hg; have n12_ := Nl BK751 hg; have n13_ := Ng BK751 hg; clear HO_8 HO_744003 HO_752003 HO758 BK743 BK751 HB; revert n0_ n1_ n2_ n3_ n4_ n5_ n6_ n7_ n8_ n9_ n10_ n11_ n12_ n13_; intro HO_8 HO_744003 HO_752003 HO758 BK743 BK751 HB BK760 GW760 GE760 NB743_760 NB760_743 NB751_760 NB760_751; clear hb hbox hg; have hnb32 := NB760_743.out; have hnc32 := NB743_760.out; have hnb33 := NB760_751.out; have hnc33 := NB751_760.out; obtain ⟨hcz34_0, hcz34_1, hcz34_2, hcz34_3, hfz34_0, hfz34_1, hfz34_2, hfz34_3⟩ := cf4 (w := w31) BK760; obtain ⟨Ao35, co35, eo35⟩ := Kd.R_slice HO758.out; subst eo35))
        (try simp only [aP])
        go_loopg [88] kj7 (fun kq v88 w' => ∃ (x88_2 : Int) (x761000_2 : Int) (x761001_2 : Int) (x761002_2 : Int) (x761003_2 : List Int) (u761003 : Value), v88 = .int .i64 x88_2 ∧ Aside0 (laws_FnBloomNeverDenies.l0 kq l1 t759 t733 (t733.length : Int) x88_2 t736 t737 t738 t739 x761000_2 x761001_2 x761002_2 x761003_2 = some r) ∧ Aside0 (kq ≤ kj7) ∧ Aside0 (Kd.R Kd.string 9 w' w.heap.size (fun _ => True) (.slice Ao10 t733.length co10) t733) ∧ Aside0 (Kd.R (Kd.int .i64) 3 w' w.heap.size (fun k_ => some k_ ≠ ((.slice Ao19 t747.length co19) : Value).ownBlock ∧ some k_ ≠ (u761003 : Value).ownBlock) (.slice Ao14 t739.length co14) t739) ∧ Aside0 (Kd.R (Kd.int .i64) 3 w' w.heap.size (fun k_ => some k_ ≠ ((.slice Ao14 t739.length co14) : Value).ownBlock ∧ some k_ ≠ (u761003 : Value).ownBlock) (.slice Ao19 t747.length co19) t747) ∧ Aside0 (Kd.R (Kd.int .i64) 3 w' w.heap.size (fun k_ => some k_ ≠ ((.slice Ao14 t739.length co14) : Value).ownBlock ∧ some k_ ≠ ((.slice Ao19 t747.length co19) : Value).ownBlock) u761003 x761003_2) ∧ Aside0 (w'.heap[gb743]? = some (.cells #[.int .i64 t736, .int .i64 t737, .int .i64 t738, (.slice Ao14 t739.length co14)] 28 (0, 0))) ∧ Aside0 (w'.heap[gb751]? = some (.cells #[.int .i64 t744, .int .i64 t745, .int .i64 t746, (.slice Ao19 t747.length co19)] 28 (0, 0))) ∧ Aside0 (w'.heap[gb760]? = some (.cells #[.int .i64 x761000_2, .int .i64 x761001_2, .int .i64 x761002_2, u761003] 28 (0, 0))) ∧ Aside0 (Below w.heap.size w w'))
        case atStart => exact ⟨(0), (t753), (t754), (t755), (t756), (.slice Ao35 t756.length co35), wZ, H', ⟨Nat.le_refl _⟩, ⟨Rz (Kd.R_mono (Kd.R_far (p := ⟨gb760, 3, none⟩) (Kd.R_far (p := ⟨gb760, 2, none⟩) (Kd.R_far (p := ⟨gb760, 1, none⟩) (Kd.R_far (p := ⟨gb760, 0, none⟩) (Kd.R_types HO_8.out BK760.out (by decide)) (fun _ hk => hk.2) (.int .i64 t753)) (fun _ hk => hk.2) (.int .i64 t754)) (fun _ hk => hk.2) (.int .i64 t755)) (fun _ hk => hk.2) (.slice Ao35 t756.length co35)) (fun _ hk => trivial))⟩, ⟨Rz (Kd.R_mono (Kd.R_far (p := ⟨gb760, 3, none⟩) (Kd.R_far (p := ⟨gb760, 2, none⟩) (Kd.R_far (p := ⟨gb760, 1, none⟩) (Kd.R_far (p := ⟨gb760, 0, none⟩) (Kd.R_types HO_744003.out BK760.out (by decide)) (fun _ hk => hk.2) (.int .i64 t753)) (fun _ hk => hk.2) (.int .i64 t754)) (fun _ hk => hk.2) (.int .i64 t755)) (fun _ hk => hk.2) (.slice Ao35 t756.length co35)) (fun _ hk => ⟨hk.1.1, hk.1.2⟩))⟩, ⟨Rz (Kd.R_mono (Kd.R_far (p := ⟨gb760, 3, none⟩) (Kd.R_far (p := ⟨gb760, 2, none⟩) (Kd.R_far (p := ⟨gb760, 1, none⟩) (Kd.R_far (p := ⟨gb760, 0, none⟩) (Kd.R_types HO_752003.out BK760.out (by decide)) (fun _ hk => hk.2) (.int .i64 t753)) (fun _ hk => hk.2) (.int .i64 t754)) (fun _ hk => hk.2) (.int .i64 t755)) (fun _ hk => hk.2) (.slice Ao35 t756.length co35)) (fun _ hk => ⟨hk.1.1, hk.1.2⟩))⟩, ⟨Rz (Kd.R_mono (Kd.R_far (p := ⟨gb760, 3, none⟩) (Kd.R_far (p := ⟨gb760, 2, none⟩) (Kd.R_far (p := ⟨gb760, 1, none⟩) (Kd.R_far (p := ⟨gb760, 0, none⟩) (Kd.R_types HO758.out BK760.out (by decide)) (fun _ hk => hk.2) (.int .i64 t753)) (fun _ hk => hk.2) (.int .i64 t754)) (fun _ hk => hk.2) (.int .i64 t755)) (fun _ hk => hk.2) (.slice Ao35 t756.length co35)) (fun _ hk => ⟨hk.1.1.2, hk.1.2⟩))⟩, ⟨by refine bp ?_; refine blk_far ?_ NB743_760.out _; refine bp ?_; refine blk_far ?_ NB743_760.out _; refine bp ?_; refine blk_far ?_ NB743_760.out _; refine bp ?_; refine blk_far ?_ NB743_760.out _; refine bp ?_; exact BK743.out⟩, ⟨by refine bp ?_; refine blk_far ?_ NB751_760.out _; refine bp ?_; refine blk_far ?_ NB751_760.out _; refine bp ?_; refine blk_far ?_ NB751_760.out _; refine bp ?_; refine blk_far ?_ NB751_760.out _; refine bp ?_; exact BK751.out⟩, ⟨by refine bp ?_; refine blk_put (cs := #[.int .i64 t753, .int .i64 t754, .int .i64 t755, .slice none 0 0]) ?_ 3 _ rfl; refine bp ?_; refine blk_put (cs := #[.int .i64 t753, .int .i64 t754, .int .i64 0, .slice none 0 0]) ?_ 2 _ rfl; refine bp ?_; refine blk_put (cs := #[.int .i64 t753, .int .i64 0, .int .i64 0, .slice none 0 0]) ?_ 1 _ rfl; refine bp ?_; refine blk_put (cs := #[.int .i64 0, .int .i64 0, .int .i64 0, .slice none 0 0]) ?_ 0 _ rfl; refine bp ?_; exact BK760.out⟩, ⟨Bq⟩⟩
        case round =>
         clear H'
         try clear c1
         try clear c2
         try clear p2
         try clear c3
         try clear c4
         try clear c6
         try clear c12
         try clear c15
         try clear c17
         try clear c20
         try clear c20b0
         try clear c20b1
         try clear c20b2
         try clear c22
         try clear c26
         try clear c28
         try clear c32
         try clear c33
         try clear p2
         obtain ⟨x88_2, x761000_2, x761001_2, x761002_2, x761003_2, u761003, rfl, HA, HK2, HO_86, HO_744003, HO_752003, HO_761003, BK743, BK751, BK760, HB⟩ := hrel; cases gk with
         | zero => exact absurd HA.out (by simp [laws_FnBloomNeverDenies.l0])
         | succ k2 =>
          have H := HA.out; clear HA
          simp only [laws_FnBloomNeverDenies.l0] at H
          by_cases c36 : x88_2 < (t733.length : Int)
          ·rw [if_pos c36] at H
           have c36b0 : decide (x88_2 < (t733.length : Int)) = true := decide_eq_true c36; clear c36
           (first | rw [c36b0] | (simp only [i64_w, i32_w]; rw [c36b0]) | skip)
           by_cases c37 : 0 ≤ x88_2
           ·rw [if_pos c37] at H
            have c37b0 : decide (0 ≤ x88_2) = true := decide_eq_true c37; clear c37
            by_cases c38 : x88_2 < (t733.length : Int)
            ·rw [if_pos c38] at H
             have c38b0 : decide (x88_2 < (t733.length : Int)) = true := decide_eq_true c38; clear c38; obtain ⟨⟨t763, t764, t765, t766, t769⟩, A39, H⟩ := ob H; (try dsimp -simprocs only at H); obtain ⟨⟨t771, t772⟩, A40, H⟩ := ob H; (try dsimp -simprocs only at H)
             by_cases c41 : t759 = true
             ·subst c41
              rw [if_pos rfl] at H
              by_cases c42 : t769 = true
              ·subst c42
               rw [if_pos rfl] at H
               by_cases c43 : t772 = true
               ·subst c43
                rw [if_pos rfl] at H
                by_cases c44 : t771 = true
                ·subst c44
                 rw [if_pos rfl] at H; have H' := am H; clear H; obtain ⟨ad762, e762, hx762_0⟩ := Kd.at_string (Kd.R_reads' HO_86.out).2.2 x88_2 dT dT; cases e762; have p762 := eT (0 ≤ (x88_2 : Int)); have q762 := eT (x88_2 < (t733.length : Int)); have hnb45 := NB760_743.out; have hnc45 := NB743_760.out; have hnb46 := NB760_751.out; have hnc46 := NB751_760.out; obtain ⟨hcz47_0, hcz47_1, hcz47_2, hcz47_3, hfz47_0, hfz47_1, hfz47_2, hfz47_3⟩ := cf4 (w := wr) BK760; obtain ⟨Ao48, co48, eo48⟩ := Kd.R_slice HO_761003.out; subst eo48
                 go_wp2_with (first | ((with_reducible refine gate_callee (f := 26) rfl ?_); refine gL (some 95) Try.func26 #[.agg #[.int .i64 x761000_2, .int .i64 x761001_2, .int .i64 x761002_2, .slice Ao48 x761003_2.length co48], .string (rdOf ByteArray.empty t733 x88_2)] ?_; (with_reducible refine (impl_BloomAdd.calls k2 x761000_2 x761001_2 x761002_2 _ _ x761003_2 (rdOf ByteArray.empty t733 x88_2) t763 t764 t765 t766 true _ ?side1 ?side2 A39.out).mono ?_); (case side1 => exact Cz ((Kd.R_reads' HO_761003.out).2.2)); (case side2 => exact (Kd.R_reads' HO_761003.out).2.1); rintro e w49 ⟨v767, rfl, ho0, hb⟩; refine ⟨_, rfl, ?_⟩; have n0_ := Rb HO_86 hb; have n1_ := Re HO_744003 (Kd.R_base ho0) hb; have n2_ := Re HO_752003 (Kd.R_base ho0) hb; have n3_ := Re HO_761003 (Kd.R_base ho0) hb; have n4_ := am (Kd.R_lower (Kd.R_new' (Kd.R_new' (Kd.R_new' ho0 (Kd.R_lt (Rz HO_744003.out))) (Kd.R_lt (Rz HO_752003.out))) (Kd.R_lt (Rz HO_761003.out))) (below_size (w := w) (Bq))); have n5_ := Kb BK743 hb; have n6_ := Kb BK751 hb; have n7_ := Kb BK760 hb; have n8_ := Bc HB hb; clear HO_86 HO_744003 HO_752003 HO_761003 BK743 BK751 BK760 HB; revert n0_ n1_ n2_ n3_ n4_ n5_ n6_ n7_ n8_; intro HO_86 HO_744003 HO_752003 HO_761003 HO768 BK743 BK751 BK760 HB; (try clear hb); (try clear hb2); (try clear hk); (try clear hi); (try clear ho0)) | ((with_reducible refine gate_dst (N := 17) rfl ?_); refine bE 17 #[.int .i64 0, .int .i64 0, .int .i64 0, .slice none 0 0] 28 ?_; intro gb770 hg w50 hbox hb; have n0_ := Rb HO_86 hb; have n1_ := Rb HO_744003 hb; have n2_ := Rb HO_752003 hb; have n3_ := Rb HO_761003 hb; have n4_ := Rb HO768 hb; have n5_ := Kb BK743 hb; have n6_ := Kb BK751 hb; have n7_ := Kb BK760 hb; have n8_ := Bc HB hb; have n9_ := am (hbox); have n10_ := Gm HB hg; have n11_ := Gm HB hg; have n12_ := Nl BK743 hg; have n13_ := Ng BK743 hg; have n14_ := Nl BK751 hg; have n15_ := Ng BK751 hg; have n16_ := Nl BK760 hg; have n17_ := Ng BK760 hg; clear HO_86 HO_744003 HO_752003 HO_761003 HO768 BK743 BK751 BK760 HB; revert n0_ n1_ n2_ n3_ n4_ n5_ n6_ n7_ n8_ n9_ n10_ n11_ n12_ n13_ n14_ n15_ n16_ n17_; intro HO_86 HO_744003 HO_752003 HO_761003 HO768 BK743 BK751 BK760 HB BK770 GW770 GE770 NB743_770 NB770_743 NB751_770 NB770_751 NB760_770 NB770_760; clear hb hbox hg; have hnb51 := NB770_743.out; have hnc51 := NB743_770.out; have hnb52 := NB770_751.out; have hnc52 := NB751_770.out; have hnb53 := NB770_760.out; have hnc53 := NB760_770.out; obtain ⟨hcz54_0, hcz54_1, hcz54_2, hcz54_3, hfz54_0, hfz54_1, hfz54_2, hfz54_3⟩ := cf4 (w := w50) BK770; obtain ⟨Ao55, co55, eo55⟩ := Kd.R_slice HO768.out; subst eo55; have hnb56 := NB743_751.out; have hnc56 := NB751_743.out; obtain ⟨hcz57_0, hcz57_1, hcz57_2, hcz57_3, hfz57_0, hfz57_1, hfz57_2, hfz57_3⟩ := cf4 (w := w50) BK743) | ((with_reducible refine gate_callee (f := 51) rfl ?_); refine gL (some 101) Try.func51 #[.agg #[.int .i64 t736, .int .i64 t737, .int .i64 t738, .slice Ao14 t739.length co14], .string (rdOf ByteArray.empty t733 x88_2)] ?_; (with_reducible refine (impl_BloomHas.calls k2 t736 t737 t738 _ _ t739 (rdOf ByteArray.empty t733 x88_2) true true _ ?side1 ?side2 A40.out).mono ?_); (case side1 => refine (Kd.R_reads' (e := 3) (base := w.heap.size) (ok := fun k_ => ((some k_ ≠ (.slice Ao19 t747.length co19 : Value).ownBlock ∧ some k_ ≠ (.slice Ao48 x761003_2.length co48 : Value).ownBlock) ∧ some k_ ≠ (.slice Ao55 t766.length co55 : Value).ownBlock)) (n := t739.length) (c := co14) ?_).2.2; exact (Rz (Kd.R_mono (Kd.R_far (p := ⟨gb770, 3, none⟩) (Kd.R_far (p := ⟨gb770, 2, none⟩) (Kd.R_far (p := ⟨gb770, 1, none⟩) (Kd.R_far (p := ⟨gb770, 0, none⟩) (Kd.R_types HO_744003.out BK770.out (by decide)) (fun _ hk => hk.2) (.int .i64 t763)) (fun _ hk => hk.2) (.int .i64 t764)) (fun _ hk => hk.2) (.int .i64 t765)) (fun _ hk => hk.2) (.slice Ao55 t766.length co55)) (fun _ h_ => h_.1)))); (case side2 => exact (Kd.R_reads' HO_744003.out).2.1); rintro e w58 ⟨rfl, hb⟩; refine ⟨_, rfl, ?_⟩; have n0_ := am (Kd.R_below (Rz (Kd.R_mono (Kd.R_far (p := ⟨gb770, 3, none⟩) (Kd.R_far (p := ⟨gb770, 2, none⟩) (Kd.R_far (p := ⟨gb770, 1, none⟩) (Kd.R_far (p := ⟨gb770, 0, none⟩) (Kd.R_types HO_86.out BK770.out (by decide)) (fun _ hk => hk.2) (.int .i64 t763)) (fun _ hk => hk.2) (.int .i64 t764)) (fun _ hk => hk.2) (.int .i64 t765)) (fun _ hk => hk.2) (.slice Ao55 t766.length co55)) (fun _ h_ => h_.1))) hb); have n1_ := am (Kd.R_below (Rz (Kd.R_mono (Kd.R_far (p := ⟨gb770, 3, none⟩) (Kd.R_far (p := ⟨gb770, 2, none⟩) (Kd.R_far (p := ⟨gb770, 1, none⟩) (Kd.R_far (p := ⟨gb770, 0, none⟩) (Kd.R_types HO_744003.out BK770.out (by decide)) (fun _ hk => hk.2) (.int .i64 t763)) (fun _ hk => hk.2) (.int .i64 t764)) (fun _ hk => hk.2) (.int .i64 t765)) (fun _ hk => hk.2) (.slice Ao55 t766.length co55)) (fun _ h_ => h_.1))) hb); have n2_ := am (Kd.R_below (Rz (Kd.R_mono (Kd.R_far (p := ⟨gb770, 3, none⟩) (Kd.R_far (p := ⟨gb770, 2, none⟩) (Kd.R_far (p := ⟨gb770, 1, none⟩) (Kd.R_far (p := ⟨gb770, 0, none⟩) (Kd.R_types HO_752003.out BK770.out (by decide)) (fun _ hk => hk.2) (.int .i64 t763)) (fun _ hk => hk.2) (.int .i64 t764)) (fun _ hk => hk.2) (.int .i64 t765)) (fun _ hk => hk.2) (.slice Ao55 t766.length co55)) (fun _ h_ => h_.1))) hb); have n3_ := am (Kd.R_below (Rz (Kd.R_mono (Kd.R_far (p := ⟨gb770, 3, none⟩) (Kd.R_far (p := ⟨gb770, 2, none⟩) (Kd.R_far (p := ⟨gb770, 1, none⟩) (Kd.R_far (p := ⟨gb770, 0, none⟩) (Kd.R_types HO_761003.out BK770.out (by decide)) (fun _ hk => hk.2) (.int .i64 t763)) (fun _ hk => hk.2) (.int .i64 t764)) (fun _ hk => hk.2) (.int .i64 t765)) (fun _ hk => hk.2) (.slice Ao55 t766.length co55)) (fun _ h_ => h_.1))) hb); have n4_ := am (Kd.R_below (Rz (Kd.R_mono (Kd.R_far (p := ⟨gb770, 3, none⟩) (Kd.R_far (p := ⟨gb770, 2, none⟩) (Kd.R_far (p := ⟨gb770, 1, none⟩) (Kd.R_far (p := ⟨gb770, 0, none⟩) (Kd.R_types HO768.out BK770.out (by decide)) (fun _ hk => hk.2) (.int .i64 t763)) (fun _ hk => hk.2) (.int .i64 t764)) (fun _ hk => hk.2) (.int .i64 t765)) (fun _ hk => hk.2) (.slice Ao55 t766.length co55)) (fun _ h_ => h_.1))) hb); have n5_ := am (blk_below (g := gb743) (o := .cells #[.int .i64 t736, .int .i64 t737, .int .i64 t738, .slice Ao14 t739.length co14] 28 (0, 0)) (by refine bp ?_; refine blk_far ?_ NB743_770.out _; refine bp ?_; refine blk_far ?_ NB743_770.out _; refine bp ?_; refine blk_far ?_ NB743_770.out _; refine bp ?_; refine blk_far ?_ NB743_770.out _; exact Kz BK743.out) hb); have n6_ := am (blk_below (g := gb751) (o := .cells #[.int .i64 t744, .int .i64 t745, .int .i64 t746, .slice Ao19 t747.length co19] 28 (0, 0)) (by refine bp ?_; refine blk_far ?_ NB751_770.out _; refine bp ?_; refine blk_far ?_ NB751_770.out _; refine bp ?_; refine blk_far ?_ NB751_770.out _; refine bp ?_; refine blk_far ?_ NB751_770.out _; exact Kz BK751.out) hb); have n7_ := am (blk_below (g := gb760) (o := .cells #[.int .i64 x761000_2, .int .i64 x761001_2, .int .i64 x761002_2, .slice Ao48 x761003_2.length co48] 28 (0, 0)) (by refine bp ?_; refine blk_far ?_ NB760_770.out _; refine bp ?_; refine blk_far ?_ NB760_770.out _; refine bp ?_; refine blk_far ?_ NB760_770.out _; refine bp ?_; refine blk_far ?_ NB760_770.out _; exact Kz BK760.out) hb); have n8_ := am (blk_below (g := gb770) (o := .cells #[.int .i64 t763, .int .i64 t764, .int .i64 t765, .slice Ao55 t766.length co55] 28 (0, 0)) (by refine bp ?_; refine blk_put (cs := #[.int .i64 t763, .int .i64 t764, .int .i64 t765, .slice none 0 0]) ?_ 3 _ rfl; refine bp ?_; refine blk_put (cs := #[.int .i64 t763, .int .i64 t764, .int .i64 0, .slice none 0 0]) ?_ 2 _ rfl; refine bp ?_; refine blk_put (cs := #[.int .i64 t763, .int .i64 0, .int .i64 0, .slice none 0 0]) ?_ 1 _ rfl; refine bp ?_; refine blk_put (cs := #[.int .i64 0, .int .i64 0, .int .i64 0, .slice none 0 0]) ?_ 0 _ rfl; exact Kz BK770.out) hb); have n9_ := Bc HB hb; clear HO_86 HO_744003 HO_752003 HO_761003 HO768 BK743 BK751 BK760 BK770 HB; revert n0_ n1_ n2_ n3_ n4_ n5_ n6_ n7_ n8_ n9_; intro HO_86 HO_744003 HO_752003 HO_761003 HO768 BK743 BK751 BK760 BK770 HB; (try clear hb); (try clear hb2); (try clear hk); (try clear hi); obtain ⟨hcz59_0, hcz59_1, hcz59_2, hcz59_3, hfz59_0, hfz59_1, hfz59_2, hfz59_3⟩ := cf4 (w := w58) BK770; obtain ⟨hcz60_0, hcz60_1, hcz60_2, hcz60_3, hfz60_0, hfz60_1, hfz60_2, hfz60_3⟩ := cf4 (w := w58) BK760))
                 go_roundg k2
                 case measure => have := HJ7.out; have := HK2.out; omega
                 case rel => exact ⟨(wrap64 (x88_2 + 1)), (t763), (t764), (t765), (t766), (.slice Ao55 t766.length co55), wZ, H', ⟨by have := HJ7.out; have := HK2.out; omega⟩, ⟨Rz (Kd.R_mono (Kd.R_far (p := ⟨gb760, 3, none⟩) (Kd.R_far (p := ⟨gb760, 2, none⟩) (Kd.R_far (p := ⟨gb760, 1, none⟩) (Kd.R_far (p := ⟨gb760, 0, none⟩) (Kd.R_types HO_86.out BK760.out (by decide)) (fun _ hk => hk.2) (.int .i64 t763)) (fun _ hk => hk.2) (.int .i64 t764)) (fun _ hk => hk.2) (.int .i64 t765)) (fun _ hk => hk.2) (.slice Ao55 t766.length co55)) (fun _ hk => trivial))⟩, ⟨Rz (Kd.R_mono (Kd.R_far (p := ⟨gb760, 3, none⟩) (Kd.R_far (p := ⟨gb760, 2, none⟩) (Kd.R_far (p := ⟨gb760, 1, none⟩) (Kd.R_far (p := ⟨gb760, 0, none⟩) (Kd.R_types HO_744003.out BK760.out (by decide)) (fun _ hk => hk.2) (.int .i64 t763)) (fun _ hk => hk.2) (.int .i64 t764)) (fun _ hk => hk.2) (.int .i64 t765)) (fun _ hk => hk.2) (.slice Ao55 t766.length co55)) (fun _ hk => ⟨hk.1.1.1, hk.1.2⟩))⟩, ⟨Rz (Kd.R_mono (Kd.R_far (p := ⟨gb760, 3, none⟩) (Kd.R_far (p := ⟨gb760, 2, none⟩) (Kd.R_far (p := ⟨gb760, 1, none⟩) (Kd.R_far (p := ⟨gb760, 0, none⟩) (Kd.R_types HO_752003.out BK760.out (by decide)) (fun _ hk => hk.2) (.int .i64 t763)) (fun _ hk => hk.2) (.int .i64 t764)) (fun _ hk => hk.2) (.int .i64 t765)) (fun _ hk => hk.2) (.slice Ao55 t766.length co55)) (fun _ hk => ⟨hk.1.1.1, hk.1.2⟩))⟩, ⟨Rz (Kd.R_mono (Kd.R_far (p := ⟨gb760, 3, none⟩) (Kd.R_far (p := ⟨gb760, 2, none⟩) (Kd.R_far (p := ⟨gb760, 1, none⟩) (Kd.R_far (p := ⟨gb760, 0, none⟩) (Kd.R_types HO768.out BK760.out (by decide)) (fun _ hk => hk.2) (.int .i64 t763)) (fun _ hk => hk.2) (.int .i64 t764)) (fun _ hk => hk.2) (.int .i64 t765)) (fun _ hk => hk.2) (.slice Ao55 t766.length co55)) (fun _ hk => ⟨hk.1.1.1.2, hk.1.1.2⟩))⟩, ⟨by refine bp ?_; refine blk_far ?_ NB743_760.out _; refine bp ?_; refine blk_far ?_ NB743_760.out _; refine bp ?_; refine blk_far ?_ NB743_760.out _; refine bp ?_; refine blk_far ?_ NB743_760.out _; refine bp ?_; exact BK743.out⟩, ⟨by refine bp ?_; refine blk_far ?_ NB751_760.out _; refine bp ?_; refine blk_far ?_ NB751_760.out _; refine bp ?_; refine blk_far ?_ NB751_760.out _; refine bp ?_; refine blk_far ?_ NB751_760.out _; refine bp ?_; exact BK751.out⟩, ⟨by refine bp ?_; refine blk_put (cs := #[.int .i64 t763, .int .i64 t764, .int .i64 t765, .slice Ao48 x761003_2.length co48]) ?_ 3 _ rfl; refine bp ?_; refine blk_put (cs := #[.int .i64 t763, .int .i64 t764, .int .i64 x761002_2, .slice Ao48 x761003_2.length co48]) ?_ 2 _ rfl; refine bp ?_; refine blk_put (cs := #[.int .i64 t763, .int .i64 x761001_2, .int .i64 x761002_2, .slice Ao48 x761003_2.length co48]) ?_ 1 _ rfl; refine bp ?_; refine blk_put (cs := #[.int .i64 x761000_2, .int .i64 x761001_2, .int .i64 x761002_2, .slice Ao48 x761003_2.length co48]) ?_ 0 _ rfl; refine bp ?_; exact BK760.out⟩, ⟨Bq⟩⟩
                ·replace c44 := Bool.eq_false_iff.mpr c44
                 subst c44
                 rw [if_neg (show ¬ (false = true) by decide)] at H; exact absurd (Option.some.inj H) (by rw [HT_.out]; decide)
               ·replace c43 := Bool.eq_false_iff.mpr c43
                subst c43
                rw [if_neg (show ¬ (false = true) by decide)] at H; exact absurd (Option.some.inj H) (by rw [HT_.out]; decide)
              ·replace c42 := Bool.eq_false_iff.mpr c42
               subst c42
               rw [if_neg (show ¬ (false = true) by decide)] at H; exact absurd (Option.some.inj H) (by rw [HT_.out]; decide)
             ·replace c41 := Bool.eq_false_iff.mpr c41
              subst c41
              rw [if_neg (show ¬ (false = true) by decide)] at H; exact absurd (Option.some.inj H) (by rw [HT_.out]; decide)
            ·rw [if_neg c38] at H
             exact absurd H (by simp)
           ·rw [if_neg c37] at H
            exact absurd H (by simp)
          ·rw [if_neg c36] at H
           have c36b0 : decide (x88_2 < (t733.length : Int)) = false := decide_eq_false c36; clear c36
           (first | rw [c36b0] | (simp only [i64_w, i32_w]; rw [c36b0]) | skip)
           obtain ⟨t761, A61, H⟩ := ob H; (try dsimp -simprocs only at H)
           by_cases c62 : t761 = true
           ·subst c62
            rw [if_pos rfl] at H; have H' := am H; clear H; have hnb63 := NB760_743.out; have hnc63 := NB743_760.out; have hnb64 := NB760_751.out; have hnc64 := NB751_760.out; obtain ⟨hcz65_0, hcz65_1, hcz65_2, hcz65_3, hfz65_0, hfz65_1, hfz65_2, hfz65_3⟩ := cf4 (w := wr) BK760; have hnb66 := NB743_751.out; have hnc66 := NB751_743.out; obtain ⟨hcz67_0, hcz67_1, hcz67_2, hcz67_3, hfz67_0, hfz67_1, hfz67_2, hfz67_3⟩ := cf4 (w := wr) BK743; obtain ⟨Ao68, co68, eo68⟩ := Kd.R_slice HO_761003.out; subst eo68
            go_wp2_with (first | ((with_reducible refine gate_callee (f := 53) rfl ?_); refine gL (some 122) Try.func53 #[.agg #[.int .i64 x761000_2, .int .i64 x761001_2, .int .i64 x761002_2, .slice Ao68 x761003_2.length co68], .agg #[.int .i64 t736, .int .i64 t737, .int .i64 t738, .slice Ao14 t739.length co14]] ?_; (with_reducible refine (laws_rSameBloom.calls k2 x761000_2 x761001_2 x761002_2 _ _ x761003_2 t736 t737 t738 _ _ t739 true _ ?side1 ?side2 ?side3 ?side4 A61.out).mono ?_); (case side1 => exact Cz ((Kd.R_reads' HO_761003.out).2.2)); (case side2 => exact (Kd.R_reads' HO_761003.out).2.1); (case side3 => exact Cz ((Kd.R_reads' HO_744003.out).2.2)); (case side4 => exact (Kd.R_reads' HO_744003.out).2.1); rintro e w69 ⟨rfl, hb⟩; refine ⟨_, rfl, ?_⟩; have n0_ := Rb HO_86 hb; have n1_ := Rb HO_744003 hb; have n2_ := Rb HO_752003 hb; have n3_ := Rb HO_761003 hb; have n4_ := Kb BK743 hb; have n5_ := Kb BK751 hb; have n6_ := Kb BK760 hb; have n7_ := Bc HB hb; clear HO_86 HO_744003 HO_752003 HO_761003 BK743 BK751 BK760 HB; revert n0_ n1_ n2_ n3_ n4_ n5_ n6_ n7_; intro HO_86 HO_744003 HO_752003 HO_761003 BK743 BK751 BK760 HB; (try clear hb); (try clear hb2); (try clear hk); (try clear hi)))
            go_meet
            case rel => exact ⟨_, H', ⟨by have := HJ7.out; have := HK2.out; first | omega | exact Nat.le_refl _⟩, ⟨Rz (Kd.R_mono HO_744003.out (fun _ hk => hk.1))⟩, ⟨Rz (Kd.R_mono HO_752003.out (fun _ hk => hk.1))⟩, ⟨Kz BK743.out⟩, ⟨Kz BK751.out⟩, ⟨Bq⟩⟩
           ·replace c62 := Bool.eq_false_iff.mpr c62
            subst c62
            rw [if_neg (show ¬ (false = true) by decide)] at H; exact absurd (Option.some.inj H) (by rw [HT_.out]; decide)
       ·replace c28 := Bool.eq_false_iff.mpr c28
        subst c28
        rw [if_neg (show ¬ (false = true) by decide)] at H; have H' := am H; clear H
        go_wp2
        go_meet
        case rel => exact ⟨_, H', ⟨by have := HJ7.out; first | omega | exact Nat.le_refl _⟩, ⟨Rz HO_744003.out⟩, ⟨Rz HO_752003.out⟩, ⟨Kz BK743.out⟩, ⟨Kz BK751.out⟩, ⟨Bq⟩⟩
      case rest =>
       refine Nonempty.elim ?_ id
       refine (letI hh_ : Nonempty (_ : Prop) := ?apart2; (?close2 : type_of% hh_))
       case apart2 =>
        refine Nonempty.intro ?_
        clear HC27
        try clear c1
        try clear c2
        try clear p2
        try clear c3
        try clear c4
        try clear c5
        try clear c6
        try clear p6
        try clear p7
        try clear q7
        try clear hx7
        try clear c12
        try clear c15
        try clear c17
        try clear c20
        try clear c20b0
        try clear c20b1
        try clear c20b2
        try clear c22
        try clear c26
        try clear c28
        try clear c32
        try clear c33
        try clear c36
        try clear c36b0
        try clear c37
        try clear c37b0
        try clear c38
        try clear c38b0
        try clear c41
        try clear c42
        try clear c43
        try clear c44
        try clear c45
        try clear c46
        try clear c49
        try clear c51
        try clear c52
        try clear c53
        try clear c56
        try clear c62
        try clear c63
        try clear c64
        try clear p64
        try clear c66
        try clear c68
        try clear c69
        try clear hx762_0
        try clear p2
        try clear p762
        try clear q762
        obtain ⟨kq, HA, HJ26, HO_744003, HO_752003, BK743, BK751, HB⟩ := hcut; cases kq with
        | zero => exact absurd HA.out (by simp [laws_FnBloomNeverDenies.j2])
        | succ kj26 =>
         have H := HA.out; clear HA
         simp only [laws_FnBloomNeverDenies.j2] at H
         obtain ⟨⟨t773, t774, t775, t776, t779, t780, t781, t782⟩, A70, H⟩ := ob H; (try dsimp -simprocs only at H); obtain ⟨⟨t787, t788, t789, t790, t793⟩, A71, H⟩ := ob H; (try dsimp -simprocs only at H); obtain ⟨⟨t795, t796, t797, t798, t801⟩, A72, H⟩ := ob H; (try dsimp -simprocs only at H); have HC73 := am H; clear H
         go_upto_region 24 with (first | ((with_reducible refine gate_callee (f := 70) rfl ?_); refine gL (some 126) Try.func70 #[.slice A1 l1.length c1] ?_; (with_reducible refine (spec_DrawUnionBloom.calls kj26 _ _ l1 t773 t774 t775 t776 t779 t780 t781 t782 _ ?side1 ?side2 A70.out).mono ?_); (case side1 => exact Cz (Kd.C_below HR1.out HB.out)); (case side2 => exact HC1.out); rintro e w74 ⟨v777, v783, rfl, ho0, ho1, hb⟩; refine ⟨_, rfl, ?_⟩; have n0_ := am (Kd.R_mono (Kd.R_told (Kd.R_told (Kd.R_old (Rz HO_744003.out) hb) (Kd.R_base ho0)) (Kd.R_base ho1)) (fun _ h_ => h_.1)); have n1_ := am (Kd.R_mono (Kd.R_told (Kd.R_told (Kd.R_old (Rz HO_752003.out) hb) (Kd.R_base ho0)) (Kd.R_base ho1)) (fun _ h_ => h_.1)); have n2_ := Rm (Kd.R_new' (Kd.R_new' ho0 (Kd.R_lt (Rz HO_744003.out))) (Kd.R_lt (Rz HO_752003.out))) HB; have n3_ := Rm (Kd.R_new' (Kd.R_new' ho1 (Kd.R_lt (Rz HO_744003.out))) (Kd.R_lt (Rz HO_752003.out))) HB; have n4_ := Kb BK743 hb; have n5_ := Kb BK751 hb; have n6_ := Bc HB hb; clear HO_744003 HO_752003 BK743 BK751 HB; revert n0_ n1_ n2_ n3_ n4_ n5_ n6_; intro HO_744003 HO_752003 HO778 HO784 BK743 BK751 HB; (try clear hb); (try clear hb2); (try clear hk); (try clear hi); (try clear ho0); (try clear ho1)) | ((with_reducible refine gate_dst (N := 21) rfl ?_); refine bE 21 #[.int .i64 0, .int .i64 0, .int .i64 0, .slice none 0 0] 28 ?_; intro gb785 hg w75 hbox hb; have n0_ := Rb HO_744003 hb; have n1_ := Rb HO_752003 hb; have n2_ := Rb HO778 hb; have n3_ := Rb HO784 hb; have n4_ := Kb BK743 hb; have n5_ := Kb BK751 hb; have n6_ := Bc HB hb; have n7_ := am (hbox); have n8_ := Gm HB hg; have n9_ := Gm HB hg; have n10_ := Nl BK743 hg; have n11_ := Ng BK743 hg; have n12_ := Nl BK751 hg; have n13_ := Ng BK751 hg; clear HO_744003 HO_752003 HO778 HO784 BK743 BK751 HB; revert n0_ n1_ n2_ n3_ n4_ n5_ n6_ n7_ n8_ n9_ n10_ n11_ n12_ n13_; intro HO_744003 HO_752003 HO778 HO784 BK743 BK751 HB BK785 GW785 GE785 NB743_785 NB785_743 NB751_785 NB785_751; clear hb hbox hg) | ((with_reducible refine gate_dst (N := 22) rfl ?_); refine bE 22 #[.int .i64 0, .int .i64 0, .int .i64 0, .slice none 0 0] 28 ?_; intro gb786 hg w76 hbox hb; have n0_ := Rb HO_744003 hb; have n1_ := Rb HO_752003 hb; have n2_ := Rb HO778 hb; have n3_ := Rb HO784 hb; have n4_ := Kb BK743 hb; have n5_ := Kb BK751 hb; have n6_ := Kb BK785 hb; have n7_ := Bc HB hb; have n8_ := am (hbox); have n9_ := Gm HB hg; have n10_ := Gm HB hg; have n11_ := Nl BK743 hg; have n12_ := Ng BK743 hg; have n13_ := Nl BK751 hg; have n14_ := Ng BK751 hg; have n15_ := Nl BK785 hg; have n16_ := Ng BK785 hg; clear HO_744003 HO_752003 HO778 HO784 BK743 BK751 BK785 HB; revert n0_ n1_ n2_ n3_ n4_ n5_ n6_ n7_ n8_ n9_ n10_ n11_ n12_ n13_ n14_ n15_ n16_; intro HO_744003 HO_752003 HO778 HO784 BK743 BK751 BK785 HB BK786 GW786 GE786 NB743_786 NB786_743 NB751_786 NB786_751 NB785_786 NB786_785; clear hb hbox hg; have hnb77 := NB785_743.out; have hnc77 := NB743_785.out; have hnb78 := NB785_751.out; have hnc78 := NB751_785.out; have hnb79 := NB785_786.out; have hnc79 := NB786_785.out; obtain ⟨hcz80_0, hcz80_1, hcz80_2, hcz80_3, hfz80_0, hfz80_1, hfz80_2, hfz80_3⟩ := cf4 (w := w76) BK785; obtain ⟨Ao81, co81, eo81⟩ := Kd.R_slice HO778.out; subst eo81; have hnb82 := NB786_743.out; have hnc82 := NB743_786.out; have hnb83 := NB786_751.out; have hnc83 := NB751_786.out; obtain ⟨hcz84_0, hcz84_1, hcz84_2, hcz84_3, hfz84_0, hfz84_1, hfz84_2, hfz84_3⟩ := cf4 (w := w76) BK786; obtain ⟨Ao85, co85, eo85⟩ := Kd.R_slice HO784.out; subst eo85) | ((with_reducible refine gate_callee (f := 71) rfl ?_); refine gL (some 132) Try.func71 #[.agg #[.int .i64 t773, .int .i64 t774, .int .i64 t775, .slice Ao81 t776.length co81], .agg #[.int .i64 t779, .int .i64 t780, .int .i64 t781, .slice Ao85 t782.length co85]] ?_; (with_reducible refine (impl_UnionBloom.calls kj26 t773 t774 t775 _ _ t776 t779 t780 t781 _ _ t782 t787 t788 t789 t790 t793 _ ?side1 ?side2 ?side3 ?side4 A71.out).mono ?_); (case side1 => refine (Kd.R_reads' (e := 3) (base := w.heap.size) (ok := fun k_ => ((some k_ ≠ (.slice Ao85 t782.length co85 : Value).ownBlock ∧ some k_ ≠ (.slice Ao14 t739.length co14 : Value).ownBlock) ∧ some k_ ≠ (.slice Ao19 t747.length co19 : Value).ownBlock)) (n := t776.length) (c := co81) ?_).2.2; exact (Rz (Kd.R_mono (Kd.R_mono (Kd.R_far (p := ⟨gb786, 3, none⟩) (Kd.R_far (p := ⟨gb786, 2, none⟩) (Kd.R_far (p := ⟨gb786, 1, none⟩) (Kd.R_far (p := ⟨gb786, 0, none⟩) (Kd.R_far (p := ⟨gb785, 3, none⟩) (Kd.R_far (p := ⟨gb785, 2, none⟩) (Kd.R_far (p := ⟨gb785, 1, none⟩) (Kd.R_far (p := ⟨gb785, 0, none⟩) (Kd.R_types (Kd.R_types HO778.out BK785.out (by decide)) BK786.out (by decide)) (fun _ hk => hk.1.2) (.int .i64 t773)) (fun _ hk => hk.1.2) (.int .i64 t774)) (fun _ hk => hk.1.2) (.int .i64 t775)) (fun _ hk => hk.1.2) (.slice Ao81 t776.length co81)) (fun _ hk => hk.2) (.int .i64 t779)) (fun _ hk => hk.2) (.int .i64 t780)) (fun _ hk => hk.2) (.int .i64 t781)) (fun _ hk => hk.2) (.slice Ao85 t782.length co85)) (fun _ h_ => h_.1)) (fun _ h_ => h_.1)))); (case side2 => exact (Kd.R_reads' HO778.out).2.1); (case side3 => refine (Kd.R_reads' (e := 3) (base := w.heap.size) (ok := fun k_ => ((some k_ ≠ (.slice Ao81 t776.length co81 : Value).ownBlock ∧ some k_ ≠ (.slice Ao14 t739.length co14 : Value).ownBlock) ∧ some k_ ≠ (.slice Ao19 t747.length co19 : Value).ownBlock)) (n := t782.length) (c := co85) ?_).2.2; exact (Rz (Kd.R_mono (Kd.R_mono (Kd.R_far (p := ⟨gb786, 3, none⟩) (Kd.R_far (p := ⟨gb786, 2, none⟩) (Kd.R_far (p := ⟨gb786, 1, none⟩) (Kd.R_far (p := ⟨gb786, 0, none⟩) (Kd.R_far (p := ⟨gb785, 3, none⟩) (Kd.R_far (p := ⟨gb785, 2, none⟩) (Kd.R_far (p := ⟨gb785, 1, none⟩) (Kd.R_far (p := ⟨gb785, 0, none⟩) (Kd.R_types (Kd.R_types HO784.out BK785.out (by decide)) BK786.out (by decide)) (fun _ hk => hk.1.2) (.int .i64 t773)) (fun _ hk => hk.1.2) (.int .i64 t774)) (fun _ hk => hk.1.2) (.int .i64 t775)) (fun _ hk => hk.1.2) (.slice Ao81 t776.length co81)) (fun _ hk => hk.2) (.int .i64 t779)) (fun _ hk => hk.2) (.int .i64 t780)) (fun _ hk => hk.2) (.int .i64 t781)) (fun _ hk => hk.2) (.slice Ao85 t782.length co85)) (fun _ h_ => h_.1)) (fun _ h_ => h_.1)))); (case side4 => exact (Kd.R_reads' HO784.out).2.1); rintro e w86 ⟨v791, rfl, ho0, hb⟩; refine ⟨_, rfl, ?_⟩; have n0_ := am (Kd.R_elder' (Rz (Kd.R_mono (Kd.R_mono (Kd.R_far (p := ⟨gb786, 3, none⟩) (Kd.R_far (p := ⟨gb786, 2, none⟩) (Kd.R_far (p := ⟨gb786, 1, none⟩) (Kd.R_far (p := ⟨gb786, 0, none⟩) (Kd.R_far (p := ⟨gb785, 3, none⟩) (Kd.R_far (p := ⟨gb785, 2, none⟩) (Kd.R_far (p := ⟨gb785, 1, none⟩) (Kd.R_far (p := ⟨gb785, 0, none⟩) (Kd.R_types (Kd.R_types HO_744003.out BK785.out (by decide)) BK786.out (by decide)) (fun _ hk => hk.1.2) (.int .i64 t773)) (fun _ hk => hk.1.2) (.int .i64 t774)) (fun _ hk => hk.1.2) (.int .i64 t775)) (fun _ hk => hk.1.2) (.slice Ao81 t776.length co81)) (fun _ hk => hk.2) (.int .i64 t779)) (fun _ hk => hk.2) (.int .i64 t780)) (fun _ hk => hk.2) (.int .i64 t781)) (fun _ hk => hk.2) (.slice Ao85 t782.length co85)) (fun _ h_ => h_.1)) (fun _ h_ => h_.1))) (Kd.R_base ho0) hb); have n1_ := am (Kd.R_elder' (Rz (Kd.R_mono (Kd.R_mono (Kd.R_far (p := ⟨gb786, 3, none⟩) (Kd.R_far (p := ⟨gb786, 2, none⟩) (Kd.R_far (p := ⟨gb786, 1, none⟩) (Kd.R_far (p := ⟨gb786, 0, none⟩) (Kd.R_far (p := ⟨gb785, 3, none⟩) (Kd.R_far (p := ⟨gb785, 2, none⟩) (Kd.R_far (p := ⟨gb785, 1, none⟩) (Kd.R_far (p := ⟨gb785, 0, none⟩) (Kd.R_types (Kd.R_types HO_752003.out BK785.out (by decide)) BK786.out (by decide)) (fun _ hk => hk.1.2) (.int .i64 t773)) (fun _ hk => hk.1.2) (.int .i64 t774)) (fun _ hk => hk.1.2) (.int .i64 t775)) (fun _ hk => hk.1.2) (.slice Ao81 t776.length co81)) (fun _ hk => hk.2) (.int .i64 t779)) (fun _ hk => hk.2) (.int .i64 t780)) (fun _ hk => hk.2) (.int .i64 t781)) (fun _ hk => hk.2) (.slice Ao85 t782.length co85)) (fun _ h_ => h_.1)) (fun _ h_ => h_.1))) (Kd.R_base ho0) hb); have n2_ := am (Kd.R_elder' (Rz (Kd.R_mono (Kd.R_mono (Kd.R_far (p := ⟨gb786, 3, none⟩) (Kd.R_far (p := ⟨gb786, 2, none⟩) (Kd.R_far (p := ⟨gb786, 1, none⟩) (Kd.R_far (p := ⟨gb786, 0, none⟩) (Kd.R_far (p := ⟨gb785, 3, none⟩) (Kd.R_far (p := ⟨gb785, 2, none⟩) (Kd.R_far (p := ⟨gb785, 1, none⟩) (Kd.R_far (p := ⟨gb785, 0, none⟩) (Kd.R_types (Kd.R_types HO778.out BK785.out (by decide)) BK786.out (by decide)) (fun _ hk => hk.1.2) (.int .i64 t773)) (fun _ hk => hk.1.2) (.int .i64 t774)) (fun _ hk => hk.1.2) (.int .i64 t775)) (fun _ hk => hk.1.2) (.slice Ao81 t776.length co81)) (fun _ hk => hk.2) (.int .i64 t779)) (fun _ hk => hk.2) (.int .i64 t780)) (fun _ hk => hk.2) (.int .i64 t781)) (fun _ hk => hk.2) (.slice Ao85 t782.length co85)) (fun _ h_ => h_.1)) (fun _ h_ => h_.1))) (Kd.R_base ho0) hb); have n3_ := am (Kd.R_elder' (Rz (Kd.R_mono (Kd.R_mono (Kd.R_far (p := ⟨gb786, 3, none⟩) (Kd.R_far (p := ⟨gb786, 2, none⟩) (Kd.R_far (p := ⟨gb786, 1, none⟩) (Kd.R_far (p := ⟨gb786, 0, none⟩) (Kd.R_far (p := ⟨gb785, 3, none⟩) (Kd.R_far (p := ⟨gb785, 2, none⟩) (Kd.R_far (p := ⟨gb785, 1, none⟩) (Kd.R_far (p := ⟨gb785, 0, none⟩) (Kd.R_types (Kd.R_types HO784.out BK785.out (by decide)) BK786.out (by decide)) (fun _ hk => hk.1.2) (.int .i64 t773)) (fun _ hk => hk.1.2) (.int .i64 t774)) (fun _ hk => hk.1.2) (.int .i64 t775)) (fun _ hk => hk.1.2) (.slice Ao81 t776.length co81)) (fun _ hk => hk.2) (.int .i64 t779)) (fun _ hk => hk.2) (.int .i64 t780)) (fun _ hk => hk.2) (.int .i64 t781)) (fun _ hk => hk.2) (.slice Ao85 t782.length co85)) (fun _ h_ => h_.1)) (fun _ h_ => h_.1))) (Kd.R_base ho0) hb); have n4_ := am (Kd.R_lower (Kd.R_new' (Kd.R_new' (Kd.R_new' (Kd.R_new' ho0 (Kd.R_lt (Rz (Kd.R_mono (Kd.R_mono (Kd.R_far (p := ⟨gb786, 3, none⟩) (Kd.R_far (p := ⟨gb786, 2, none⟩) (Kd.R_far (p := ⟨gb786, 1, none⟩) (Kd.R_far (p := ⟨gb786, 0, none⟩) (Kd.R_far (p := ⟨gb785, 3, none⟩) (Kd.R_far (p := ⟨gb785, 2, none⟩) (Kd.R_far (p := ⟨gb785, 1, none⟩) (Kd.R_far (p := ⟨gb785, 0, none⟩) (Kd.R_types (Kd.R_types HO_744003.out BK785.out (by decide)) BK786.out (by decide)) (fun _ hk => hk.1.2) (.int .i64 t773)) (fun _ hk => hk.1.2) (.int .i64 t774)) (fun _ hk => hk.1.2) (.int .i64 t775)) (fun _ hk => hk.1.2) (.slice Ao81 t776.length co81)) (fun _ hk => hk.2) (.int .i64 t779)) (fun _ hk => hk.2) (.int .i64 t780)) (fun _ hk => hk.2) (.int .i64 t781)) (fun _ hk => hk.2) (.slice Ao85 t782.length co85)) (fun _ h_ => h_.1)) (fun _ h_ => h_.1))))) (Kd.R_lt (Rz (Kd.R_mono (Kd.R_mono (Kd.R_far (p := ⟨gb786, 3, none⟩) (Kd.R_far (p := ⟨gb786, 2, none⟩) (Kd.R_far (p := ⟨gb786, 1, none⟩) (Kd.R_far (p := ⟨gb786, 0, none⟩) (Kd.R_far (p := ⟨gb785, 3, none⟩) (Kd.R_far (p := ⟨gb785, 2, none⟩) (Kd.R_far (p := ⟨gb785, 1, none⟩) (Kd.R_far (p := ⟨gb785, 0, none⟩) (Kd.R_types (Kd.R_types HO_752003.out BK785.out (by decide)) BK786.out (by decide)) (fun _ hk => hk.1.2) (.int .i64 t773)) (fun _ hk => hk.1.2) (.int .i64 t774)) (fun _ hk => hk.1.2) (.int .i64 t775)) (fun _ hk => hk.1.2) (.slice Ao81 t776.length co81)) (fun _ hk => hk.2) (.int .i64 t779)) (fun _ hk => hk.2) (.int .i64 t780)) (fun _ hk => hk.2) (.int .i64 t781)) (fun _ hk => hk.2) (.slice Ao85 t782.length co85)) (fun _ h_ => h_.1)) (fun _ h_ => h_.1))))) (Kd.R_lt (Rz (Kd.R_mono (Kd.R_mono (Kd.R_far (p := ⟨gb786, 3, none⟩) (Kd.R_far (p := ⟨gb786, 2, none⟩) (Kd.R_far (p := ⟨gb786, 1, none⟩) (Kd.R_far (p := ⟨gb786, 0, none⟩) (Kd.R_far (p := ⟨gb785, 3, none⟩) (Kd.R_far (p := ⟨gb785, 2, none⟩) (Kd.R_far (p := ⟨gb785, 1, none⟩) (Kd.R_far (p := ⟨gb785, 0, none⟩) (Kd.R_types (Kd.R_types HO778.out BK785.out (by decide)) BK786.out (by decide)) (fun _ hk => hk.1.2) (.int .i64 t773)) (fun _ hk => hk.1.2) (.int .i64 t774)) (fun _ hk => hk.1.2) (.int .i64 t775)) (fun _ hk => hk.1.2) (.slice Ao81 t776.length co81)) (fun _ hk => hk.2) (.int .i64 t779)) (fun _ hk => hk.2) (.int .i64 t780)) (fun _ hk => hk.2) (.int .i64 t781)) (fun _ hk => hk.2) (.slice Ao85 t782.length co85)) (fun _ h_ => h_.1)) (fun _ h_ => h_.1))))) (Kd.R_lt (Rz (Kd.R_mono (Kd.R_mono (Kd.R_far (p := ⟨gb786, 3, none⟩) (Kd.R_far (p := ⟨gb786, 2, none⟩) (Kd.R_far (p := ⟨gb786, 1, none⟩) (Kd.R_far (p := ⟨gb786, 0, none⟩) (Kd.R_far (p := ⟨gb785, 3, none⟩) (Kd.R_far (p := ⟨gb785, 2, none⟩) (Kd.R_far (p := ⟨gb785, 1, none⟩) (Kd.R_far (p := ⟨gb785, 0, none⟩) (Kd.R_types (Kd.R_types HO784.out BK785.out (by decide)) BK786.out (by decide)) (fun _ hk => hk.1.2) (.int .i64 t773)) (fun _ hk => hk.1.2) (.int .i64 t774)) (fun _ hk => hk.1.2) (.int .i64 t775)) (fun _ hk => hk.1.2) (.slice Ao81 t776.length co81)) (fun _ hk => hk.2) (.int .i64 t779)) (fun _ hk => hk.2) (.int .i64 t780)) (fun _ hk => hk.2) (.int .i64 t781)) (fun _ hk => hk.2) (.slice Ao85 t782.length co85)) (fun _ h_ => h_.1)) (fun _ h_ => h_.1))))) (below_size (w := w) (Bq))); have n5_ := am (blk_below (g := gb743) (o := .cells #[.int .i64 t736, .int .i64 t737, .int .i64 t738, .slice Ao14 t739.length co14] 28 (0, 0)) (by refine bp ?_; refine blk_far ?_ NB743_786.out _; refine bp ?_; refine blk_far ?_ NB743_786.out _; refine bp ?_; refine blk_far ?_ NB743_786.out _; refine bp ?_; refine blk_far ?_ NB743_786.out _; refine bp ?_; refine blk_far ?_ NB743_785.out _; refine bp ?_; refine blk_far ?_ NB743_785.out _; refine bp ?_; refine blk_far ?_ NB743_785.out _; refine bp ?_; refine blk_far ?_ NB743_785.out _; exact Kz BK743.out) hb); have n6_ := am (blk_below (g := gb751) (o := .cells #[.int .i64 t744, .int .i64 t745, .int .i64 t746, .slice Ao19 t747.length co19] 28 (0, 0)) (by refine bp ?_; refine blk_far ?_ NB751_786.out _; refine bp ?_; refine blk_far ?_ NB751_786.out _; refine bp ?_; refine blk_far ?_ NB751_786.out _; refine bp ?_; refine blk_far ?_ NB751_786.out _; refine bp ?_; refine blk_far ?_ NB751_785.out _; refine bp ?_; refine blk_far ?_ NB751_785.out _; refine bp ?_; refine blk_far ?_ NB751_785.out _; refine bp ?_; refine blk_far ?_ NB751_785.out _; exact Kz BK751.out) hb); have n7_ := am (blk_below (g := gb785) (o := .cells #[.int .i64 t773, .int .i64 t774, .int .i64 t775, .slice Ao81 t776.length co81] 28 (0, 0)) (by refine bp ?_; refine blk_far ?_ NB785_786.out _; refine bp ?_; refine blk_far ?_ NB785_786.out _; refine bp ?_; refine blk_far ?_ NB785_786.out _; refine bp ?_; refine blk_far ?_ NB785_786.out _; refine bp ?_; refine blk_put (cs := #[.int .i64 t773, .int .i64 t774, .int .i64 t775, .slice none 0 0]) ?_ 3 _ rfl; refine bp ?_; refine blk_put (cs := #[.int .i64 t773, .int .i64 t774, .int .i64 0, .slice none 0 0]) ?_ 2 _ rfl; refine bp ?_; refine blk_put (cs := #[.int .i64 t773, .int .i64 0, .int .i64 0, .slice none 0 0]) ?_ 1 _ rfl; refine bp ?_; refine blk_put (cs := #[.int .i64 0, .int .i64 0, .int .i64 0, .slice none 0 0]) ?_ 0 _ rfl; exact Kz BK785.out) hb); have n8_ := am (blk_below (g := gb786) (o := .cells #[.int .i64 t779, .int .i64 t780, .int .i64 t781, .slice Ao85 t782.length co85] 28 (0, 0)) (by refine bp ?_; refine blk_put (cs := #[.int .i64 t779, .int .i64 t780, .int .i64 t781, .slice none 0 0]) ?_ 3 _ rfl; refine bp ?_; refine blk_put (cs := #[.int .i64 t779, .int .i64 t780, .int .i64 0, .slice none 0 0]) ?_ 2 _ rfl; refine bp ?_; refine blk_put (cs := #[.int .i64 t779, .int .i64 0, .int .i64 0, .slice none 0 0]) ?_ 1 _ rfl; refine bp ?_; refine blk_put (cs := #[.int .i64 0, .int .i64 0, .int .i64 0, .slice none 0 0]) ?_ 0 _ rfl; refine bp ?_; refine blk_far ?_ NB786_785.out _; refine bp ?_; refine blk_far ?_ NB786_785.out _; refine bp ?_; refine blk_far ?_ NB786_785.out _; refine bp ?_; refine blk_far ?_ NB786_785.out _; exact Kz BK786.out) hb); have n9_ := Bc HB hb; clear HO_744003 HO_752003 HO778 HO784 BK743 BK751 BK785 BK786 HB; revert n0_ n1_ n2_ n3_ n4_ n5_ n6_ n7_ n8_ n9_; intro HO_744003 HO_752003 HO778 HO784 HO792 BK743 BK751 BK785 BK786 HB; (try clear hb); (try clear hb2); (try clear hk); (try clear hi); (try clear ho0)) | ((with_reducible refine gate_dst (N := 23) rfl ?_); refine bE 23 #[.int .i64 0, .int .i64 0, .int .i64 0, .slice none 0 0] 28 ?_; intro gb794 hg w87 hbox hb; have n0_ := Rb HO_744003 hb; have n1_ := Rb HO_752003 hb; have n2_ := Rb HO778 hb; have n3_ := Rb HO784 hb; have n4_ := Rb HO792 hb; have n5_ := Kb BK743 hb; have n6_ := Kb BK751 hb; have n7_ := Kb BK785 hb; have n8_ := Kb BK786 hb; have n9_ := Bc HB hb; have n10_ := am (hbox); have n11_ := Gm HB hg; have n12_ := Gm HB hg; have n13_ := Nl BK743 hg; have n14_ := Ng BK743 hg; have n15_ := Nl BK751 hg; have n16_ := Ng BK751 hg; have n17_ := Nl BK785 hg; have n18_ := Ng BK785 hg; have n19_ := Nl BK786 hg; have n20_ := Ng BK786 hg; clear HO_744003 HO_752003 HO778 HO784 HO792 BK743 BK751 BK785 BK786 HB; revert n0_ n1_ n2_ n3_ n4_ n5_ n6_ n7_ n8_ n9_ n10_ n11_ n12_ n13_ n14_ n15_ n16_ n17_ n18_ n19_ n20_; intro HO_744003 HO_752003 HO778 HO784 HO792 BK743 BK751 BK785 BK786 HB BK794 GW794 GE794 NB743_794 NB794_743 NB751_794 NB794_751 NB785_794 NB794_785 NB786_794 NB794_786; clear hb hbox hg; have hnb88 := NB794_743.out; have hnc88 := NB743_794.out; have hnb89 := NB794_751.out; have hnc89 := NB751_794.out; have hnb90 := NB794_785.out; have hnc90 := NB785_794.out; have hnb91 := NB794_786.out; have hnc91 := NB786_794.out; obtain ⟨hcz92_0, hcz92_1, hcz92_2, hcz92_3, hfz92_0, hfz92_1, hfz92_2, hfz92_3⟩ := cf4 (w := w87) BK794; obtain ⟨Ao93, co93, eo93⟩ := Kd.R_slice HO792.out; subst eo93; obtain ⟨hcz94_0, hcz94_1, hcz94_2, hcz94_3, hfz94_0, hfz94_1, hfz94_2, hfz94_3⟩ := cf4 (w := w87) BK785; obtain ⟨hcz95_0, hcz95_1, hcz95_2, hcz95_3, hfz95_0, hfz95_1, hfz95_2, hfz95_3⟩ := cf4 (w := w87) BK786) | ((with_reducible refine gate_callee (f := 72) rfl ?_); refine gL (some 138) Try.func72 #[.agg #[.int .i64 t773, .int .i64 t774, .int .i64 t775, .slice Ao81 t776.length co81], .agg #[.int .i64 t779, .int .i64 t780, .int .i64 t781, .slice Ao85 t782.length co85]] ?_; (with_reducible refine (spec_UnionBloom.calls kj26 t773 t774 t775 _ _ t776 t779 t780 t781 _ _ t782 t795 t796 t797 t798 t801 _ ?side1 ?side2 ?side3 ?side4 A72.out).mono ?_); (case side1 => refine (Kd.R_reads' (e := 3) (base := w.heap.size) (ok := fun k_ => (((some k_ ≠ (.slice Ao85 t782.length co85 : Value).ownBlock ∧ some k_ ≠ (.slice Ao14 t739.length co14 : Value).ownBlock) ∧ some k_ ≠ (.slice Ao19 t747.length co19 : Value).ownBlock) ∧ some k_ ≠ (.slice Ao93 t790.length co93 : Value).ownBlock)) (n := t776.length) (c := co81) ?_).2.2; exact (Rz (Kd.R_mono (Kd.R_far (p := ⟨gb794, 3, none⟩) (Kd.R_far (p := ⟨gb794, 2, none⟩) (Kd.R_far (p := ⟨gb794, 1, none⟩) (Kd.R_far (p := ⟨gb794, 0, none⟩) (Kd.R_types HO778.out BK794.out (by decide)) (fun _ hk => hk.2) (.int .i64 t787)) (fun _ hk => hk.2) (.int .i64 t788)) (fun _ hk => hk.2) (.int .i64 t789)) (fun _ hk => hk.2) (.slice Ao93 t790.length co93)) (fun _ h_ => h_.1)))); (case side2 => exact (Kd.R_reads' HO778.out).2.1); (case side3 => refine (Kd.R_reads' (e := 3) (base := w.heap.size) (ok := fun k_ => (((some k_ ≠ (.slice Ao81 t776.length co81 : Value).ownBlock ∧ some k_ ≠ (.slice Ao14 t739.length co14 : Value).ownBlock) ∧ some k_ ≠ (.slice Ao19 t747.length co19 : Value).ownBlock) ∧ some k_ ≠ (.slice Ao93 t790.length co93 : Value).ownBlock)) (n := t782.length) (c := co85) ?_).2.2; exact (Rz (Kd.R_mono (Kd.R_far (p := ⟨gb794, 3, none⟩) (Kd.R_far (p := ⟨gb794, 2, none⟩) (Kd.R_far (p := ⟨gb794, 1, none⟩) (Kd.R_far (p := ⟨gb794, 0, none⟩) (Kd.R_types HO784.out BK794.out (by decide)) (fun _ hk => hk.2) (.int .i64 t787)) (fun _ hk => hk.2) (.int .i64 t788)) (fun _ hk => hk.2) (.int .i64 t789)) (fun _ hk => hk.2) (.slice Ao93 t790.length co93)) (fun _ h_ => h_.1)))); (case side4 => exact (Kd.R_reads' HO784.out).2.1); rintro e w96 ⟨v799, rfl, ho0, hb⟩; refine ⟨_, rfl, ?_⟩; have n0_ := am (Kd.R_elder' (Rz (Kd.R_mono (Kd.R_far (p := ⟨gb794, 3, none⟩) (Kd.R_far (p := ⟨gb794, 2, none⟩) (Kd.R_far (p := ⟨gb794, 1, none⟩) (Kd.R_far (p := ⟨gb794, 0, none⟩) (Kd.R_types HO_744003.out BK794.out (by decide)) (fun _ hk => hk.2) (.int .i64 t787)) (fun _ hk => hk.2) (.int .i64 t788)) (fun _ hk => hk.2) (.int .i64 t789)) (fun _ hk => hk.2) (.slice Ao93 t790.length co93)) (fun _ h_ => h_.1))) (Kd.R_base ho0) hb); have n1_ := am (Kd.R_elder' (Rz (Kd.R_mono (Kd.R_far (p := ⟨gb794, 3, none⟩) (Kd.R_far (p := ⟨gb794, 2, none⟩) (Kd.R_far (p := ⟨gb794, 1, none⟩) (Kd.R_far (p := ⟨gb794, 0, none⟩) (Kd.R_types HO_752003.out BK794.out (by decide)) (fun _ hk => hk.2) (.int .i64 t787)) (fun _ hk => hk.2) (.int .i64 t788)) (fun _ hk => hk.2) (.int .i64 t789)) (fun _ hk => hk.2) (.slice Ao93 t790.length co93)) (fun _ h_ => h_.1))) (Kd.R_base ho0) hb); have n2_ := am (Kd.R_elder' (Rz (Kd.R_mono (Kd.R_far (p := ⟨gb794, 3, none⟩) (Kd.R_far (p := ⟨gb794, 2, none⟩) (Kd.R_far (p := ⟨gb794, 1, none⟩) (Kd.R_far (p := ⟨gb794, 0, none⟩) (Kd.R_types HO778.out BK794.out (by decide)) (fun _ hk => hk.2) (.int .i64 t787)) (fun _ hk => hk.2) (.int .i64 t788)) (fun _ hk => hk.2) (.int .i64 t789)) (fun _ hk => hk.2) (.slice Ao93 t790.length co93)) (fun _ h_ => h_.1))) (Kd.R_base ho0) hb); have n3_ := am (Kd.R_elder' (Rz (Kd.R_mono (Kd.R_far (p := ⟨gb794, 3, none⟩) (Kd.R_far (p := ⟨gb794, 2, none⟩) (Kd.R_far (p := ⟨gb794, 1, none⟩) (Kd.R_far (p := ⟨gb794, 0, none⟩) (Kd.R_types HO784.out BK794.out (by decide)) (fun _ hk => hk.2) (.int .i64 t787)) (fun _ hk => hk.2) (.int .i64 t788)) (fun _ hk => hk.2) (.int .i64 t789)) (fun _ hk => hk.2) (.slice Ao93 t790.length co93)) (fun _ h_ => h_.1))) (Kd.R_base ho0) hb); have n4_ := am (Kd.R_elder' (Rz (Kd.R_mono (Kd.R_far (p := ⟨gb794, 3, none⟩) (Kd.R_far (p := ⟨gb794, 2, none⟩) (Kd.R_far (p := ⟨gb794, 1, none⟩) (Kd.R_far (p := ⟨gb794, 0, none⟩) (Kd.R_types HO792.out BK794.out (by decide)) (fun _ hk => hk.2) (.int .i64 t787)) (fun _ hk => hk.2) (.int .i64 t788)) (fun _ hk => hk.2) (.int .i64 t789)) (fun _ hk => hk.2) (.slice Ao93 t790.length co93)) (fun _ h_ => h_.1))) (Kd.R_base ho0) hb); have n5_ := am (Kd.R_lower (Kd.R_new' (Kd.R_new' (Kd.R_new' (Kd.R_new' (Kd.R_new' ho0 (Kd.R_lt (Rz (Kd.R_mono (Kd.R_far (p := ⟨gb794, 3, none⟩) (Kd.R_far (p := ⟨gb794, 2, none⟩) (Kd.R_far (p := ⟨gb794, 1, none⟩) (Kd.R_far (p := ⟨gb794, 0, none⟩) (Kd.R_types HO_744003.out BK794.out (by decide)) (fun _ hk => hk.2) (.int .i64 t787)) (fun _ hk => hk.2) (.int .i64 t788)) (fun _ hk => hk.2) (.int .i64 t789)) (fun _ hk => hk.2) (.slice Ao93 t790.length co93)) (fun _ h_ => h_.1))))) (Kd.R_lt (Rz (Kd.R_mono (Kd.R_far (p := ⟨gb794, 3, none⟩) (Kd.R_far (p := ⟨gb794, 2, none⟩) (Kd.R_far (p := ⟨gb794, 1, none⟩) (Kd.R_far (p := ⟨gb794, 0, none⟩) (Kd.R_types HO_752003.out BK794.out (by decide)) (fun _ hk => hk.2) (.int .i64 t787)) (fun _ hk => hk.2) (.int .i64 t788)) (fun _ hk => hk.2) (.int .i64 t789)) (fun _ hk => hk.2) (.slice Ao93 t790.length co93)) (fun _ h_ => h_.1))))) (Kd.R_lt (Rz (Kd.R_mono (Kd.R_far (p := ⟨gb794, 3, none⟩) (Kd.R_far (p := ⟨gb794, 2, none⟩) (Kd.R_far (p := ⟨gb794, 1, none⟩) (Kd.R_far (p := ⟨gb794, 0, none⟩) (Kd.R_types HO778.out BK794.out (by decide)) (fun _ hk => hk.2) (.int .i64 t787)) (fun _ hk => hk.2) (.int .i64 t788)) (fun _ hk => hk.2) (.int .i64 t789)) (fun _ hk => hk.2) (.slice Ao93 t790.length co93)) (fun _ h_ => h_.1))))) (Kd.R_lt (Rz (Kd.R_mono (Kd.R_far (p := ⟨gb794, 3, none⟩) (Kd.R_far (p := ⟨gb794, 2, none⟩) (Kd.R_far (p := ⟨gb794, 1, none⟩) (Kd.R_far (p := ⟨gb794, 0, none⟩) (Kd.R_types HO784.out BK794.out (by decide)) (fun _ hk => hk.2) (.int .i64 t787)) (fun _ hk => hk.2) (.int .i64 t788)) (fun _ hk => hk.2) (.int .i64 t789)) (fun _ hk => hk.2) (.slice Ao93 t790.length co93)) (fun _ h_ => h_.1))))) (Kd.R_lt (Rz (Kd.R_mono (Kd.R_far (p := ⟨gb794, 3, none⟩) (Kd.R_far (p := ⟨gb794, 2, none⟩) (Kd.R_far (p := ⟨gb794, 1, none⟩) (Kd.R_far (p := ⟨gb794, 0, none⟩) (Kd.R_types HO792.out BK794.out (by decide)) (fun _ hk => hk.2) (.int .i64 t787)) (fun _ hk => hk.2) (.int .i64 t788)) (fun _ hk => hk.2) (.int .i64 t789)) (fun _ hk => hk.2) (.slice Ao93 t790.length co93)) (fun _ h_ => h_.1))))) (below_size (w := w) (Bq))); have n6_ := am (blk_below (g := gb743) (o := .cells #[.int .i64 t736, .int .i64 t737, .int .i64 t738, .slice Ao14 t739.length co14] 28 (0, 0)) (by refine bp ?_; refine blk_far ?_ NB743_794.out _; refine bp ?_; refine blk_far ?_ NB743_794.out _; refine bp ?_; refine blk_far ?_ NB743_794.out _; refine bp ?_; refine blk_far ?_ NB743_794.out _; exact Kz BK743.out) hb); have n7_ := am (blk_below (g := gb751) (o := .cells #[.int .i64 t744, .int .i64 t745, .int .i64 t746, .slice Ao19 t747.length co19] 28 (0, 0)) (by refine bp ?_; refine blk_far ?_ NB751_794.out _; refine bp ?_; refine blk_far ?_ NB751_794.out _; refine bp ?_; refine blk_far ?_ NB751_794.out _; refine bp ?_; refine blk_far ?_ NB751_794.out _; exact Kz BK751.out) hb); have n8_ := am (blk_below (g := gb785) (o := .cells #[.int .i64 t773, .int .i64 t774, .int .i64 t775, .slice Ao81 t776.length co81] 28 (0, 0)) (by refine bp ?_; refine blk_far ?_ NB785_794.out _; refine bp ?_; refine blk_far ?_ NB785_794.out _; refine bp ?_; refine blk_far ?_ NB785_794.out _; refine bp ?_; refine blk_far ?_ NB785_794.out _; exact Kz BK785.out) hb); have n9_ := am (blk_below (g := gb786) (o := .cells #[.int .i64 t779, .int .i64 t780, .int .i64 t781, .slice Ao85 t782.length co85] 28 (0, 0)) (by refine bp ?_; refine blk_far ?_ NB786_794.out _; refine bp ?_; refine blk_far ?_ NB786_794.out _; refine bp ?_; refine blk_far ?_ NB786_794.out _; refine bp ?_; refine blk_far ?_ NB786_794.out _; exact Kz BK786.out) hb); have n10_ := am (blk_below (g := gb794) (o := .cells #[.int .i64 t787, .int .i64 t788, .int .i64 t789, .slice Ao93 t790.length co93] 28 (0, 0)) (by refine bp ?_; refine blk_put (cs := #[.int .i64 t787, .int .i64 t788, .int .i64 t789, .slice none 0 0]) ?_ 3 _ rfl; refine bp ?_; refine blk_put (cs := #[.int .i64 t787, .int .i64 t788, .int .i64 0, .slice none 0 0]) ?_ 2 _ rfl; refine bp ?_; refine blk_put (cs := #[.int .i64 t787, .int .i64 0, .int .i64 0, .slice none 0 0]) ?_ 1 _ rfl; refine bp ?_; refine blk_put (cs := #[.int .i64 0, .int .i64 0, .int .i64 0, .slice none 0 0]) ?_ 0 _ rfl; exact Kz BK794.out) hb); have n11_ := Bc HB hb; clear HO_744003 HO_752003 HO778 HO784 HO792 BK743 BK751 BK785 BK786 BK794 HB; revert n0_ n1_ n2_ n3_ n4_ n5_ n6_ n7_ n8_ n9_ n10_ n11_; intro HO_744003 HO_752003 HO778 HO784 HO792 HO800 BK743 BK751 BK785 BK786 BK794 HB; (try clear hb); (try clear hb2); (try clear hk); (try clear hi); (try clear ho0)) | ((with_reducible refine gate_dst (N := 25) rfl ?_); refine bE 25 #[.int .i64 0, .int .i64 0, .int .i64 0, .slice none 0 0] 28 ?_; intro gb802 hg w97 hbox hb; have n0_ := Rb HO_744003 hb; have n1_ := Rb HO_752003 hb; have n2_ := Rb HO778 hb; have n3_ := Rb HO784 hb; have n4_ := Rb HO792 hb; have n5_ := Rb HO800 hb; have n6_ := Kb BK743 hb; have n7_ := Kb BK751 hb; have n8_ := Kb BK785 hb; have n9_ := Kb BK786 hb; have n10_ := Kb BK794 hb; have n11_ := Bc HB hb; have n12_ := am (hbox); have n13_ := Gm HB hg; have n14_ := Gm HB hg; have n15_ := Nl BK743 hg; have n16_ := Ng BK743 hg; have n17_ := Nl BK751 hg; have n18_ := Ng BK751 hg; have n19_ := Nl BK785 hg; have n20_ := Ng BK785 hg; have n21_ := Nl BK786 hg; have n22_ := Ng BK786 hg; have n23_ := Nl BK794 hg; have n24_ := Ng BK794 hg; clear HO_744003 HO_752003 HO778 HO784 HO792 HO800 BK743 BK751 BK785 BK786 BK794 HB; revert n0_ n1_ n2_ n3_ n4_ n5_ n6_ n7_ n8_ n9_ n10_ n11_ n12_ n13_ n14_ n15_ n16_ n17_ n18_ n19_ n20_ n21_ n22_ n23_ n24_; intro HO_744003 HO_752003 HO778 HO784 HO792 HO800 BK743 BK751 BK785 BK786 BK794 HB BK802 GW802 GE802 NB743_802 NB802_743 NB751_802 NB802_751 NB785_802 NB802_785 NB786_802 NB802_786 NB794_802 NB802_794; clear hb hbox hg; have hnb98 := NB802_743.out; have hnc98 := NB743_802.out; have hnb99 := NB802_751.out; have hnc99 := NB751_802.out; have hnb100 := NB802_785.out; have hnc100 := NB785_802.out; have hnb101 := NB802_786.out; have hnc101 := NB786_802.out; have hnb102 := NB802_794.out; have hnc102 := NB794_802.out; obtain ⟨hcz103_0, hcz103_1, hcz103_2, hcz103_3, hfz103_0, hfz103_1, hfz103_2, hfz103_3⟩ := cf4 (w := w97) BK802; obtain ⟨Ao104, co104, eo104⟩ := Kd.R_slice HO800.out; subst eo104))
         (try simp only [aP])
         go_cut [149] (fun v149 wc => ∃ (kq : Nat) (x149_72 : Bool), v149 = .bool x149_72 ∧ Aside0 (laws_FnBloomNeverDenies.j3 kq l1 t793 x149_72 t773 t774 t775 t776 t779 t780 t781 t782 t787 t788 t789 t790 = some r) ∧ Aside0 (kq ≤ kj26) ∧ Aside0 (Kd.R (Kd.int .i64) 3 wc w.heap.size (fun k_ => some k_ ≠ ((.slice Ao19 t747.length co19) : Value).ownBlock ∧ some k_ ≠ ((.slice Ao81 t776.length co81) : Value).ownBlock ∧ some k_ ≠ ((.slice Ao85 t782.length co85) : Value).ownBlock ∧ some k_ ≠ ((.slice Ao93 t790.length co93) : Value).ownBlock ∧ some k_ ≠ ((.slice Ao104 t798.length co104) : Value).ownBlock) (.slice Ao14 t739.length co14) t739) ∧ Aside0 (Kd.R (Kd.int .i64) 3 wc w.heap.size (fun k_ => some k_ ≠ ((.slice Ao14 t739.length co14) : Value).ownBlock ∧ some k_ ≠ ((.slice Ao81 t776.length co81) : Value).ownBlock ∧ some k_ ≠ ((.slice Ao85 t782.length co85) : Value).ownBlock ∧ some k_ ≠ ((.slice Ao93 t790.length co93) : Value).ownBlock ∧ some k_ ≠ ((.slice Ao104 t798.length co104) : Value).ownBlock) (.slice Ao19 t747.length co19) t747) ∧ Aside0 (Kd.R (Kd.int .i64) 3 wc w.heap.size (fun k_ => some k_ ≠ ((.slice Ao14 t739.length co14) : Value).ownBlock ∧ some k_ ≠ ((.slice Ao19 t747.length co19) : Value).ownBlock ∧ some k_ ≠ ((.slice Ao85 t782.length co85) : Value).ownBlock ∧ some k_ ≠ ((.slice Ao93 t790.length co93) : Value).ownBlock ∧ some k_ ≠ ((.slice Ao104 t798.length co104) : Value).ownBlock) (.slice Ao81 t776.length co81) t776) ∧ Aside0 (Kd.R (Kd.int .i64) 3 wc w.heap.size (fun k_ => some k_ ≠ ((.slice Ao14 t739.length co14) : Value).ownBlock ∧ some k_ ≠ ((.slice Ao19 t747.length co19) : Value).ownBlock ∧ some k_ ≠ ((.slice Ao81 t776.length co81) : Value).ownBlock ∧ some k_ ≠ ((.slice Ao93 t790.length co93) : Value).ownBlock ∧ some k_ ≠ ((.slice Ao104 t798.length co104) : Value).ownBlock) (.slice Ao85 t782.length co85) t782) ∧ Aside0 (Kd.R (Kd.int .i64) 3 wc w.heap.size (fun k_ => some k_ ≠ ((.slice Ao14 t739.length co14) : Value).ownBlock ∧ some k_ ≠ ((.slice Ao19 t747.length co19) : Value).ownBlock ∧ some k_ ≠ ((.slice Ao81 t776.length co81) : Value).ownBlock ∧ some k_ ≠ ((.slice Ao85 t782.length co85) : Value).ownBlock ∧ some k_ ≠ ((.slice Ao104 t798.length co104) : Value).ownBlock) (.slice Ao93 t790.length co93) t790) ∧ Aside0 (Kd.R (Kd.int .i64) 3 wc w.heap.size (fun k_ => some k_ ≠ ((.slice Ao14 t739.length co14) : Value).ownBlock ∧ some k_ ≠ ((.slice Ao19 t747.length co19) : Value).ownBlock ∧ some k_ ≠ ((.slice Ao81 t776.length co81) : Value).ownBlock ∧ some k_ ≠ ((.slice Ao85 t782.length co85) : Value).ownBlock ∧ some k_ ≠ ((.slice Ao93 t790.length co93) : Value).ownBlock) (.slice Ao104 t798.length co104) t798) ∧ Aside0 (wc.heap[gb743]? = some (.cells #[.int .i64 t736, .int .i64 t737, .int .i64 t738, (.slice Ao14 t739.length co14)] 28 (0, 0))) ∧ Aside0 (wc.heap[gb751]? = some (.cells #[.int .i64 t744, .int .i64 t745, .int .i64 t746, (.slice Ao19 t747.length co19)] 28 (0, 0))) ∧ Aside0 (wc.heap[gb785]? = some (.cells #[.int .i64 t773, .int .i64 t774, .int .i64 t775, (.slice Ao81 t776.length co81)] 28 (0, 0))) ∧ Aside0 (wc.heap[gb786]? = some (.cells #[.int .i64 t779, .int .i64 t780, .int .i64 t781, (.slice Ao85 t782.length co85)] 28 (0, 0))) ∧ Aside0 (wc.heap[gb794]? = some (.cells #[.int .i64 t787, .int .i64 t788, .int .i64 t789, (.slice Ao93 t790.length co93)] 28 (0, 0))) ∧ Aside0 (wc.heap[gb802]? = some (.cells #[.int .i64 t795, .int .i64 t796, .int .i64 t797, (.slice Ao104 t798.length co104)] 28 (0, 0))) ∧ Aside0 (Below w.heap.size w wc))
         case first =>
          have H := HC73.out; clear HC73
          by_cases c105 : (t793 != t801) = true
          ·rw [if_pos c105] at H
           have c105b0 : (t793 != t801) = true := c105
           (try (have c105b1 : decide (t793 = t801) = false := by simpa using c105))
           (try (have c105b2 : (t793 == t801) = false := by simpa using c105))
           (try (have c105b3 : ¬ (t793 = t801) := by simpa using c105))
           (try (have c105b4 : (!(t793 == t801)) = true := c105b0))
           clear c105
           (first | rw [c105b0] | (simp only [i64_w, i32_w]; rw [c105b0]) | skip)
           exact absurd (H.trans (congrArg some HT_.out)) (laws_FnBloomNeverDenies.j3.dead _ _ _ _ _ _ _ _ _ _ _ _ _ _ _)
          ·rw [if_neg c105] at H
           have c105b0 : (t793 != t801) = false := by simpa using c105
           (try (have c105b1 : decide (t793 = t801) = true := by simpa using c105))
           (try (have c105b2 : (t793 == t801) = true := by simpa using c105))
           (try (have c105b3 : (!(t793 == t801)) = false := c105b0))
           clear c105
           (first | rw [c105b0] | (simp only [i64_w, i32_w]; rw [c105b0]) | skip)
           obtain ⟨t803, A106, H⟩ := ob H; (try dsimp -simprocs only at H); have H' := am H; clear H; have hnb107 := NB794_743.out; have hnc107 := NB743_794.out; have hnb108 := NB794_751.out; have hnc108 := NB751_794.out; have hnb109 := NB794_785.out; have hnc109 := NB785_794.out; have hnb110 := NB794_786.out; have hnc110 := NB786_794.out; have hnb111 := NB794_802.out; have hnc111 := NB802_794.out; obtain ⟨hcz112_0, hcz112_1, hcz112_2, hcz112_3, hfz112_0, hfz112_1, hfz112_2, hfz112_3⟩ := cf4 (w := w97) BK794; have hnb113 := NB802_743.out; have hnc113 := NB743_802.out; have hnb114 := NB802_751.out; have hnc114 := NB751_802.out; have hnb115 := NB802_785.out; have hnc115 := NB785_802.out; have hnb116 := NB802_786.out; have hnc116 := NB786_802.out; obtain ⟨hcz117_0, hcz117_1, hcz117_2, hcz117_3, hfz117_0, hfz117_1, hfz117_2, hfz117_3⟩ := cf4 (w := w97) BK802
           go_wp2_with (first | (go_at_call 53; (with_reducible refine (laws_rSameBloom.calls kj26 t787 t788 t789 _ _ t790 t795 t796 t797 _ _ t798 t803 _ ?side1 ?side2 ?side3 ?side4 A106.out).mono ?_); (case side1 => refine (Kd.R_reads' (e := 3) (base := w.heap.size) (ok := fun k_ => (((((True ∧ some k_ ≠ (.slice Ao14 t739.length co14 : Value).ownBlock) ∧ some k_ ≠ (.slice Ao19 t747.length co19 : Value).ownBlock) ∧ some k_ ≠ (.slice Ao81 t776.length co81 : Value).ownBlock) ∧ some k_ ≠ (.slice Ao85 t782.length co85 : Value).ownBlock) ∧ some k_ ≠ (.slice Ao104 t798.length co104 : Value).ownBlock)) (n := t790.length) (c := co93) ?_).2.2; exact (Rz (Kd.R_mono (Kd.R_far (p := ⟨gb802, 3, none⟩) (Kd.R_far (p := ⟨gb802, 2, none⟩) (Kd.R_far (p := ⟨gb802, 1, none⟩) (Kd.R_far (p := ⟨gb802, 0, none⟩) (Kd.R_types HO792.out BK802.out (by decide)) (fun _ hk => hk.2) (.int .i64 t795)) (fun _ hk => hk.2) (.int .i64 t796)) (fun _ hk => hk.2) (.int .i64 t797)) (fun _ hk => hk.2) (.slice Ao104 t798.length co104)) (fun _ h_ => h_.1)))); (case side2 => exact (Kd.R_reads' HO792.out).2.1); (case side3 => refine (Kd.R_reads' (e := 3) (base := w.heap.size) (ok := fun k_ => (((((True ∧ some k_ ≠ (.slice Ao14 t739.length co14 : Value).ownBlock) ∧ some k_ ≠ (.slice Ao19 t747.length co19 : Value).ownBlock) ∧ some k_ ≠ (.slice Ao81 t776.length co81 : Value).ownBlock) ∧ some k_ ≠ (.slice Ao85 t782.length co85 : Value).ownBlock) ∧ some k_ ≠ (.slice Ao93 t790.length co93 : Value).ownBlock)) (n := t798.length) (c := co104) ?_).2.2; exact (Rz (Kd.R_mono (Kd.R_far (p := ⟨gb802, 3, none⟩) (Kd.R_far (p := ⟨gb802, 2, none⟩) (Kd.R_far (p := ⟨gb802, 1, none⟩) (Kd.R_far (p := ⟨gb802, 0, none⟩) (Kd.R_types HO800.out BK802.out (by decide)) (fun _ hk => hk.2) (.int .i64 t795)) (fun _ hk => hk.2) (.int .i64 t796)) (fun _ hk => hk.2) (.int .i64 t797)) (fun _ hk => hk.2) (.slice Ao104 t798.length co104)) (fun _ h_ => h_.1)))); (case side4 => exact (Kd.R_reads' HO800.out).2.1); rintro e w118 ⟨rfl, hb⟩; have n0_ := am (Kd.R_below (Rz (Kd.R_mono (Kd.R_far (p := ⟨gb802, 3, none⟩) (Kd.R_far (p := ⟨gb802, 2, none⟩) (Kd.R_far (p := ⟨gb802, 1, none⟩) (Kd.R_far (p := ⟨gb802, 0, none⟩) (Kd.R_types HO_744003.out BK802.out (by decide)) (fun _ hk => hk.2) (.int .i64 t795)) (fun _ hk => hk.2) (.int .i64 t796)) (fun _ hk => hk.2) (.int .i64 t797)) (fun _ hk => hk.2) (.slice Ao104 t798.length co104)) (fun _ h_ => h_.1))) hb); have n1_ := am (Kd.R_below (Rz (Kd.R_mono (Kd.R_far (p := ⟨gb802, 3, none⟩) (Kd.R_far (p := ⟨gb802, 2, none⟩) (Kd.R_far (p := ⟨gb802, 1, none⟩) (Kd.R_far (p := ⟨gb802, 0, none⟩) (Kd.R_types HO_752003.out BK802.out (by decide)) (fun _ hk => hk.2) (.int .i64 t795)) (fun _ hk => hk.2) (.int .i64 t796)) (fun _ hk => hk.2) (.int .i64 t797)) (fun _ hk => hk.2) (.slice Ao104 t798.length co104)) (fun _ h_ => h_.1))) hb); have n2_ := am (Kd.R_below (Rz (Kd.R_mono (Kd.R_far (p := ⟨gb802, 3, none⟩) (Kd.R_far (p := ⟨gb802, 2, none⟩) (Kd.R_far (p := ⟨gb802, 1, none⟩) (Kd.R_far (p := ⟨gb802, 0, none⟩) (Kd.R_types HO778.out BK802.out (by decide)) (fun _ hk => hk.2) (.int .i64 t795)) (fun _ hk => hk.2) (.int .i64 t796)) (fun _ hk => hk.2) (.int .i64 t797)) (fun _ hk => hk.2) (.slice Ao104 t798.length co104)) (fun _ h_ => h_.1))) hb); have n3_ := am (Kd.R_below (Rz (Kd.R_mono (Kd.R_far (p := ⟨gb802, 3, none⟩) (Kd.R_far (p := ⟨gb802, 2, none⟩) (Kd.R_far (p := ⟨gb802, 1, none⟩) (Kd.R_far (p := ⟨gb802, 0, none⟩) (Kd.R_types HO784.out BK802.out (by decide)) (fun _ hk => hk.2) (.int .i64 t795)) (fun _ hk => hk.2) (.int .i64 t796)) (fun _ hk => hk.2) (.int .i64 t797)) (fun _ hk => hk.2) (.slice Ao104 t798.length co104)) (fun _ h_ => h_.1))) hb); have n4_ := am (Kd.R_below (Rz (Kd.R_mono (Kd.R_far (p := ⟨gb802, 3, none⟩) (Kd.R_far (p := ⟨gb802, 2, none⟩) (Kd.R_far (p := ⟨gb802, 1, none⟩) (Kd.R_far (p := ⟨gb802, 0, none⟩) (Kd.R_types HO792.out BK802.out (by decide)) (fun _ hk => hk.2) (.int .i64 t795)) (fun _ hk => hk.2) (.int .i64 t796)) (fun _ hk => hk.2) (.int .i64 t797)) (fun _ hk => hk.2) (.slice Ao104 t798.length co104)) (fun _ h_ => h_.1))) hb); have n5_ := am (Kd.R_below (Rz (Kd.R_mono (Kd.R_far (p := ⟨gb802, 3, none⟩) (Kd.R_far (p := ⟨gb802, 2, none⟩) (Kd.R_far (p := ⟨gb802, 1, none⟩) (Kd.R_far (p := ⟨gb802, 0, none⟩) (Kd.R_types HO800.out BK802.out (by decide)) (fun _ hk => hk.2) (.int .i64 t795)) (fun _ hk => hk.2) (.int .i64 t796)) (fun _ hk => hk.2) (.int .i64 t797)) (fun _ hk => hk.2) (.slice Ao104 t798.length co104)) (fun _ h_ => h_.1))) hb); have n6_ := am (blk_below (g := gb743) (o := .cells #[.int .i64 t736, .int .i64 t737, .int .i64 t738, .slice Ao14 t739.length co14] 28 (0, 0)) (by refine bp ?_; refine blk_far ?_ NB743_802.out _; refine bp ?_; refine blk_far ?_ NB743_802.out _; refine bp ?_; refine blk_far ?_ NB743_802.out _; refine bp ?_; refine blk_far ?_ NB743_802.out _; exact Kz BK743.out) hb); have n7_ := am (blk_below (g := gb751) (o := .cells #[.int .i64 t744, .int .i64 t745, .int .i64 t746, .slice Ao19 t747.length co19] 28 (0, 0)) (by refine bp ?_; refine blk_far ?_ NB751_802.out _; refine bp ?_; refine blk_far ?_ NB751_802.out _; refine bp ?_; refine blk_far ?_ NB751_802.out _; refine bp ?_; refine blk_far ?_ NB751_802.out _; exact Kz BK751.out) hb); have n8_ := am (blk_below (g := gb785) (o := .cells #[.int .i64 t773, .int .i64 t774, .int .i64 t775, .slice Ao81 t776.length co81] 28 (0, 0)) (by refine bp ?_; refine blk_far ?_ NB785_802.out _; refine bp ?_; refine blk_far ?_ NB785_802.out _; refine bp ?_; refine blk_far ?_ NB785_802.out _; refine bp ?_; refine blk_far ?_ NB785_802.out _; exact Kz BK785.out) hb); have n9_ := am (blk_below (g := gb786) (o := .cells #[.int .i64 t779, .int .i64 t780, .int .i64 t781, .slice Ao85 t782.length co85] 28 (0, 0)) (by refine bp ?_; refine blk_far ?_ NB786_802.out _; refine bp ?_; refine blk_far ?_ NB786_802.out _; refine bp ?_; refine blk_far ?_ NB786_802.out _; refine bp ?_; refine blk_far ?_ NB786_802.out _; exact Kz BK786.out) hb); have n10_ := am (blk_below (g := gb794) (o := .cells #[.int .i64 t787, .int .i64 t788, .int .i64 t789, .slice Ao93 t790.length co93] 28 (0, 0)) (by refine bp ?_; refine blk_far ?_ NB794_802.out _; refine bp ?_; refine blk_far ?_ NB794_802.out _; refine bp ?_; refine blk_far ?_ NB794_802.out _; refine bp ?_; refine blk_far ?_ NB794_802.out _; exact Kz BK794.out) hb); have n11_ := am (blk_below (g := gb802) (o := .cells #[.int .i64 t795, .int .i64 t796, .int .i64 t797, .slice Ao104 t798.length co104] 28 (0, 0)) (by refine bp ?_; refine blk_put (cs := #[.int .i64 t795, .int .i64 t796, .int .i64 t797, .slice none 0 0]) ?_ 3 _ rfl; refine bp ?_; refine blk_put (cs := #[.int .i64 t795, .int .i64 t796, .int .i64 0, .slice none 0 0]) ?_ 2 _ rfl; refine bp ?_; refine blk_put (cs := #[.int .i64 t795, .int .i64 0, .int .i64 0, .slice none 0 0]) ?_ 1 _ rfl; refine bp ?_; refine blk_put (cs := #[.int .i64 0, .int .i64 0, .int .i64 0, .slice none 0 0]) ?_ 0 _ rfl; exact Kz BK802.out) hb); have n12_ := Bc HB hb; clear HO_744003 HO_752003 HO778 HO784 HO792 HO800 BK743 BK751 BK785 BK786 BK794 BK802 HB; revert n0_ n1_ n2_ n3_ n4_ n5_ n6_ n7_ n8_ n9_ n10_ n11_ n12_; intro HO_744003 HO_752003 HO778 HO784 HO792 HO800 BK743 BK751 BK785 BK786 BK794 BK802 HB; (try clear hb); (try clear hb2); (try clear hk); (try clear hi)))
           go_meet
           case rel => exact ⟨_, (!t803), wZ, H', ⟨by have := HJ7.out; have := HJ26.out; first | omega | exact Nat.le_refl _⟩, ⟨Rz (Kd.R_mono HO_744003.out (fun _ hk => ⟨hk.1.1.1.1, ⟨hk.1.1.1.2, ⟨hk.1.1.2, ⟨hk.1.2, hk.2⟩⟩⟩⟩))⟩, ⟨Rz (Kd.R_mono HO_752003.out (fun _ hk => ⟨hk.1.1.1.1, ⟨hk.1.1.1.2, ⟨hk.1.1.2, ⟨hk.1.2, hk.2⟩⟩⟩⟩))⟩, ⟨Rz (Kd.R_mono HO778.out (fun _ hk => ⟨hk.1.1.1.2, ⟨hk.1.1.2, ⟨hk.1.1.1.1, ⟨hk.1.2, hk.2⟩⟩⟩⟩))⟩, ⟨Rz (Kd.R_mono HO784.out (fun _ hk => ⟨hk.1.1.1.2, ⟨hk.1.1.2, ⟨hk.1.1.1.1, ⟨hk.1.2, hk.2⟩⟩⟩⟩))⟩, ⟨Rz (Kd.R_mono HO792.out (fun _ hk => ⟨hk.1.1.1.1.2, ⟨hk.1.1.1.2, ⟨hk.1.1.2, ⟨hk.1.2, hk.2⟩⟩⟩⟩))⟩, ⟨Rz (Kd.R_mono HO800.out (fun _ hk => ⟨hk.1.1.1.1.2, ⟨hk.1.1.1.2, ⟨hk.1.1.2, ⟨hk.1.2, hk.2⟩⟩⟩⟩))⟩, ⟨Kz BK743.out⟩, ⟨Kz BK751.out⟩, ⟨Kz BK785.out⟩, ⟨Kz BK786.out⟩, ⟨Kz BK794.out⟩, ⟨Kz BK802.out⟩, ⟨Bq⟩⟩
         case rest =>
          refine Nonempty.elim ?_ id
          refine (letI hh_ : Nonempty (_ : Prop) := ?apart3; (?close3 : type_of% hh_))
          case apart3 =>
           refine Nonempty.intro ?_
           clear HC73
           try clear c1
           try clear c2
           try clear p2
           try clear c3
           try clear c4
           try clear c5
           try clear c6
           try clear p6
           try clear c7
           try clear p7
           try clear q7
           try clear hx7
           try clear c8
           try clear c9
           try clear c10
           try clear c11
           try clear c12
           try clear c15
           try clear c17
           try clear c20
           try clear c20b0
           try clear c20b1
           try clear c20b2
           try clear c22
           try clear c26
           try clear c28
           try clear c32
           try clear c33
           try clear c36
           try clear c36b0
           try clear c37
           try clear c37b0
           try clear c38
           try clear c38b0
           try clear c41
           try clear c42
           try clear c43
           try clear c44
           try clear c45
           try clear c46
           try clear c49
           try clear c51
           try clear c52
           try clear c53
           try clear c56
           try clear c62
           try clear c63
           try clear c64
           try clear p64
           try clear c66
           try clear c68
           try clear c69
           try clear c70
           try clear c71
           try clear c72
           try clear p76
           try clear q76
           try clear hx76
           try clear c77
           try clear c78
           try clear c79
           try clear c82
           try clear c83
           try clear c88
           try clear c89
           try clear c90
           try clear c91
           try clear c98
           try clear c99
           try clear c100
           try clear c101
           try clear c102
           try clear c105
           try clear c105b0
           try clear c105b1
           try clear c105b2
           try clear c107
           try clear c108
           try clear c109
           try clear c110
           try clear c111
           try clear c113
           try clear c114
           try clear c115
           try clear c116
           try clear hx762_0
           try clear p2
           try clear p6
           try clear p64
           try clear p7
           try clear p762
           try clear q7
           try clear q762
           obtain ⟨kq, x149_72, rfl, HA, HJ72, HO_744003, HO_752003, HO_786003, HO_787003, HO_795003, HO_803003, BK743, BK751, BK785, BK786, BK794, BK802, HB⟩ := hcut; cases kq with
           | zero => exact absurd HA.out (by simp [laws_FnBloomNeverDenies.j3])
           | succ kj72 =>
            have H := HA.out; clear HA
            simp only [laws_FnBloomNeverDenies.j3] at H
            by_cases c119 : x149_72 = true
            ·subst c119
             rw [if_pos rfl] at H; exact absurd (Option.some.inj H) (by rw [HT_.out]; decide)
            ·replace c119 := Bool.eq_false_iff.mpr c119
             subst c119
             rw [if_neg (show ¬ (false = true) by decide)] at H; have HC120 := am H; clear H
             go_upto_if 150 with (fail)
             go_cut [] (fun wc => ∃ (kq : Nat), Aside0 (laws_FnBloomNeverDenies.j4 kq l1 = some r) ∧ Aside0 (kq ≤ kj72) ∧ Aside0 (Kd.R (Kd.int .i64) 3 wc w.heap.size (fun k_ => some k_ ≠ ((.slice Ao19 t747.length co19) : Value).ownBlock ∧ some k_ ≠ ((.slice Ao81 t776.length co81) : Value).ownBlock ∧ some k_ ≠ ((.slice Ao85 t782.length co85) : Value).ownBlock ∧ some k_ ≠ ((.slice Ao93 t790.length co93) : Value).ownBlock ∧ some k_ ≠ ((.slice Ao104 t798.length co104) : Value).ownBlock) (.slice Ao14 t739.length co14) t739) ∧ Aside0 (Kd.R (Kd.int .i64) 3 wc w.heap.size (fun k_ => some k_ ≠ ((.slice Ao14 t739.length co14) : Value).ownBlock ∧ some k_ ≠ ((.slice Ao81 t776.length co81) : Value).ownBlock ∧ some k_ ≠ ((.slice Ao85 t782.length co85) : Value).ownBlock ∧ some k_ ≠ ((.slice Ao93 t790.length co93) : Value).ownBlock ∧ some k_ ≠ ((.slice Ao104 t798.length co104) : Value).ownBlock) (.slice Ao19 t747.length co19) t747) ∧ Aside0 (Kd.R (Kd.int .i64) 3 wc w.heap.size (fun k_ => some k_ ≠ ((.slice Ao14 t739.length co14) : Value).ownBlock ∧ some k_ ≠ ((.slice Ao19 t747.length co19) : Value).ownBlock ∧ some k_ ≠ ((.slice Ao85 t782.length co85) : Value).ownBlock ∧ some k_ ≠ ((.slice Ao93 t790.length co93) : Value).ownBlock ∧ some k_ ≠ ((.slice Ao104 t798.length co104) : Value).ownBlock) (.slice Ao81 t776.length co81) t776) ∧ Aside0 (Kd.R (Kd.int .i64) 3 wc w.heap.size (fun k_ => some k_ ≠ ((.slice Ao14 t739.length co14) : Value).ownBlock ∧ some k_ ≠ ((.slice Ao19 t747.length co19) : Value).ownBlock ∧ some k_ ≠ ((.slice Ao81 t776.length co81) : Value).ownBlock ∧ some k_ ≠ ((.slice Ao93 t790.length co93) : Value).ownBlock ∧ some k_ ≠ ((.slice Ao104 t798.length co104) : Value).ownBlock) (.slice Ao85 t782.length co85) t782) ∧ Aside0 (Kd.R (Kd.int .i64) 3 wc w.heap.size (fun k_ => some k_ ≠ ((.slice Ao14 t739.length co14) : Value).ownBlock ∧ some k_ ≠ ((.slice Ao19 t747.length co19) : Value).ownBlock ∧ some k_ ≠ ((.slice Ao81 t776.length co81) : Value).ownBlock ∧ some k_ ≠ ((.slice Ao85 t782.length co85) : Value).ownBlock ∧ some k_ ≠ ((.slice Ao104 t798.length co104) : Value).ownBlock) (.slice Ao93 t790.length co93) t790) ∧ Aside0 (Kd.R (Kd.int .i64) 3 wc w.heap.size (fun k_ => some k_ ≠ ((.slice Ao14 t739.length co14) : Value).ownBlock ∧ some k_ ≠ ((.slice Ao19 t747.length co19) : Value).ownBlock ∧ some k_ ≠ ((.slice Ao81 t776.length co81) : Value).ownBlock ∧ some k_ ≠ ((.slice Ao85 t782.length co85) : Value).ownBlock ∧ some k_ ≠ ((.slice Ao93 t790.length co93) : Value).ownBlock) (.slice Ao104 t798.length co104) t798) ∧ Aside0 (wc.heap[gb743]? = some (.cells #[.int .i64 t736, .int .i64 t737, .int .i64 t738, (.slice Ao14 t739.length co14)] 28 (0, 0))) ∧ Aside0 (wc.heap[gb751]? = some (.cells #[.int .i64 t744, .int .i64 t745, .int .i64 t746, (.slice Ao19 t747.length co19)] 28 (0, 0))) ∧ Aside0 (wc.heap[gb785]? = some (.cells #[.int .i64 t773, .int .i64 t774, .int .i64 t775, (.slice Ao81 t776.length co81)] 28 (0, 0))) ∧ Aside0 (wc.heap[gb786]? = some (.cells #[.int .i64 t779, .int .i64 t780, .int .i64 t781, (.slice Ao85 t782.length co85)] 28 (0, 0))) ∧ Aside0 (wc.heap[gb794]? = some (.cells #[.int .i64 t787, .int .i64 t788, .int .i64 t789, (.slice Ao93 t790.length co93)] 28 (0, 0))) ∧ Aside0 (wc.heap[gb802]? = some (.cells #[.int .i64 t795, .int .i64 t796, .int .i64 t797, (.slice Ao104 t798.length co104)] 28 (0, 0))) ∧ Aside0 (Below w.heap.size w wc))
             case first =>
              have H := HC120.out; clear HC120
              by_cases c121 : t793 = true
              ·subst c121
               rw [if_pos rfl] at H; obtain ⟨⟨t804, t805⟩, A122, H⟩ := ob H; (try dsimp -simprocs only at H); obtain ⟨⟨t806, t807⟩, A123, H⟩ := ob H; (try dsimp -simprocs only at H); obtain ⟨⟨t808, t809⟩, A124, H⟩ := ob H; (try dsimp -simprocs only at H); replace H := Option.bind_eq_some_iff.mp H; obtain ⟨⟨t810, t811⟩, A1250, H⟩ := H; (try dsimp -simprocs only at H)
               have A125 := am A1250; clear A1250; obtain ⟨⟨t812, t813⟩, A126, H⟩ := ob H; (try dsimp -simprocs only at H)
               by_cases c127 : t805 = true
               ·subst c127
                rw [if_pos rfl] at H
                by_cases c128 : t804 = true
                ·subst c128
                 rw [if_pos rfl] at H
                 by_cases c129 : t807 = true
                 ·subst c129
                  rw [if_pos rfl] at H
                  by_cases c130 : t806 = true
                  ·subst c130
                   rw [if_pos rfl] at H
                   by_cases c131 : t809 = true
                   ·subst c131
                    rw [if_pos rfl] at H
                    by_cases c132 : t811 = true
                    ·subst c132
                     rw [if_pos rfl] at H
                     by_cases c133 : t813 = true
                     ·subst c133
                      rw [if_pos rfl] at H
                      by_cases c134 : t812 > (wrap64 (t808 + t810))
                      ·rw [if_pos c134] at H
                       have c134b0 : decide ((wrap64 (t808 + t810)) < t812) = true := decide_eq_true c134; clear c134
                       (first | rw [c134b0] | (simp only [i64_w, i32_w]; rw [c134b0]) | skip)
                       exact absurd (Option.some.inj H) (by rw [HT_.out]; decide)
                      ·rw [if_neg c134] at H
                       have c134b0 : decide ((wrap64 (t808 + t810)) < t812) = false := decide_eq_false c134; clear c134
                       (first | rw [c134b0] | (simp only [i64_w, i32_w]; rw [c134b0]) | skip)
                       by_cases c135 : t812 < t808
                       ·rw [if_pos c135] at H
                        have c135b0 : decide (t812 < t808) = true := decide_eq_true c135; clear c135; exact absurd (Option.some.inj H) (by rw [HT_.out]; decide)
                       ·rw [if_neg c135] at H
                        have c135b0 : decide (t812 < t808) = false := decide_eq_false c135; clear c135
                        by_cases c136 : t812 < t810
                        ·rw [if_pos c136] at H
                         have c136b0 : decide (t812 < t810) = true := decide_eq_true c136; clear c136; exact absurd (Option.some.inj H) (by rw [HT_.out]; decide)
                        ·rw [if_neg c136] at H
                         have c136b0 : decide (t812 < t810) = false := decide_eq_false c136; clear c136; have H' := am H; clear H; have hnb137 := NB794_743.out; have hnc137 := NB743_794.out; have hnb138 := NB794_751.out; have hnc138 := NB751_794.out; have hnb139 := NB794_785.out; have hnc139 := NB785_794.out; have hnb140 := NB794_786.out; have hnc140 := NB786_794.out; have hnb141 := NB794_802.out; have hnc141 := NB802_794.out; obtain ⟨hcz142_0, hcz142_1, hcz142_2, hcz142_3, hfz142_0, hfz142_1, hfz142_2, hfz142_3⟩ := cf4 (w := wc) BK794; have hnb143 := NB785_743.out; have hnc143 := NB743_785.out; have hnb144 := NB785_751.out; have hnc144 := NB751_785.out; have hnb145 := NB785_786.out; have hnc145 := NB786_785.out; have hnb146 := NB785_802.out; have hnc146 := NB802_785.out; obtain ⟨hcz147_0, hcz147_1, hcz147_2, hcz147_3, hfz147_0, hfz147_1, hfz147_2, hfz147_3⟩ := cf4 (w := wc) BK785
                         go_wp2_with (first | ((with_reducible refine gate_callee (f := 57) rfl ?_); refine gL (some 154) Try.func57 #[.agg #[.int .i64 t787, .int .i64 t788, .int .i64 t789, .slice Ao93 t790.length co93], .agg #[.int .i64 t773, .int .i64 t774, .int .i64 t775, .slice Ao81 t776.length co81]] ?_; (with_reducible refine (impl_CoversBloom.calls kj72 t787 t788 t789 _ _ t790 t773 t774 t775 _ _ t776 true true _ ?side1 ?side2 ?side3 ?side4 A122.out).mono ?_); (case side1 => exact Cz ((Kd.R_reads' HO_795003.out).2.2)); (case side2 => exact (Kd.R_reads' HO_795003.out).2.1); (case side3 => exact Cz ((Kd.R_reads' HO_786003.out).2.2)); (case side4 => exact (Kd.R_reads' HO_786003.out).2.1); rintro e w148 ⟨rfl, hb⟩; refine ⟨_, rfl, ?_⟩; have n0_ := Rb HO_744003 hb; have n1_ := Rb HO_752003 hb; have n2_ := Rb HO_786003 hb; have n3_ := Rb HO_787003 hb; have n4_ := Rb HO_795003 hb; have n5_ := Rb HO_803003 hb; have n6_ := Kb BK743 hb; have n7_ := Kb BK751 hb; have n8_ := Kb BK785 hb; have n9_ := Kb BK786 hb; have n10_ := Kb BK794 hb; have n11_ := Kb BK802 hb; have n12_ := Bc HB hb; clear HO_744003 HO_752003 HO_786003 HO_787003 HO_795003 HO_803003 BK743 BK751 BK785 BK786 BK794 BK802 HB; revert n0_ n1_ n2_ n3_ n4_ n5_ n6_ n7_ n8_ n9_ n10_ n11_ n12_; intro HO_744003 HO_752003 HO_786003 HO_787003 HO_795003 HO_803003 BK743 BK751 BK785 BK786 BK794 BK802 HB; (try clear hb); (try clear hb2); (try clear hk); (try clear hi); obtain ⟨hcz149_0, hcz149_1, hcz149_2, hcz149_3, hfz149_0, hfz149_1, hfz149_2, hfz149_3⟩ := cf4 (w := w148) BK794; have hnb150 := NB786_743.out; have hnc150 := NB743_786.out; have hnb151 := NB786_751.out; have hnc151 := NB751_786.out; have hnb152 := NB786_802.out; have hnc152 := NB802_786.out; obtain ⟨hcz153_0, hcz153_1, hcz153_2, hcz153_3, hfz153_0, hfz153_1, hfz153_2, hfz153_3⟩ := cf4 (w := w148) BK786) | ((with_reducible refine gate_callee (f := 57) rfl ?_); refine gL (some 160) Try.func57 #[.agg #[.int .i64 t787, .int .i64 t788, .int .i64 t789, .slice Ao93 t790.length co93], .agg #[.int .i64 t779, .int .i64 t780, .int .i64 t781, .slice Ao85 t782.length co85]] ?_; (with_reducible refine (impl_CoversBloom.calls kj72 t787 t788 t789 _ _ t790 t779 t780 t781 _ _ t782 true true _ ?side1 ?side2 ?side3 ?side4 A123.out).mono ?_); (case side1 => exact Cz ((Kd.R_reads' HO_795003.out).2.2)); (case side2 => exact (Kd.R_reads' HO_795003.out).2.1); (case side3 => exact Cz ((Kd.R_reads' HO_787003.out).2.2)); (case side4 => exact (Kd.R_reads' HO_787003.out).2.1); rintro e w154 ⟨rfl, hb⟩; refine ⟨_, rfl, ?_⟩; have n0_ := Rb HO_744003 hb; have n1_ := Rb HO_752003 hb; have n2_ := Rb HO_786003 hb; have n3_ := Rb HO_787003 hb; have n4_ := Rb HO_795003 hb; have n5_ := Rb HO_803003 hb; have n6_ := Kb BK743 hb; have n7_ := Kb BK751 hb; have n8_ := Kb BK785 hb; have n9_ := Kb BK786 hb; have n10_ := Kb BK794 hb; have n11_ := Kb BK802 hb; have n12_ := Bc HB hb; clear HO_744003 HO_752003 HO_786003 HO_787003 HO_795003 HO_803003 BK743 BK751 BK785 BK786 BK794 BK802 HB; revert n0_ n1_ n2_ n3_ n4_ n5_ n6_ n7_ n8_ n9_ n10_ n11_ n12_; intro HO_744003 HO_752003 HO_786003 HO_787003 HO_795003 HO_803003 BK743 BK751 BK785 BK786 BK794 BK802 HB; (try clear hb); (try clear hb2); (try clear hk); (try clear hi); obtain ⟨hcz155_0, hcz155_1, hcz155_2, hcz155_3, hfz155_0, hfz155_1, hfz155_2, hfz155_3⟩ := cf4 (w := w154) BK785) | ((with_reducible refine gate_callee (f := 73) rfl ?_); refine gL (some 165) Try.func73 #[.agg #[.int .i64 t773, .int .i64 t774, .int .i64 t775, .slice Ao81 t776.length co81]] ?_; (with_reducible refine (impl_BloomLoad.calls kj72 t773 t774 t775 _ _ t776 t808 true _ ?side1 ?side2 A124.out).mono ?_); (case side1 => exact Cz ((Kd.R_reads' HO_786003.out).2.2)); (case side2 => exact (Kd.R_reads' HO_786003.out).2.1); rintro e w156 ⟨rfl, hb⟩; refine ⟨_, rfl, ?_⟩; have n0_ := Rb HO_744003 hb; have n1_ := Rb HO_752003 hb; have n2_ := Rb HO_786003 hb; have n3_ := Rb HO_787003 hb; have n4_ := Rb HO_795003 hb; have n5_ := Rb HO_803003 hb; have n6_ := Kb BK743 hb; have n7_ := Kb BK751 hb; have n8_ := Kb BK785 hb; have n9_ := Kb BK786 hb; have n10_ := Kb BK794 hb; have n11_ := Kb BK802 hb; have n12_ := Bc HB hb; clear HO_744003 HO_752003 HO_786003 HO_787003 HO_795003 HO_803003 BK743 BK751 BK785 BK786 BK794 BK802 HB; revert n0_ n1_ n2_ n3_ n4_ n5_ n6_ n7_ n8_ n9_ n10_ n11_ n12_; intro HO_744003 HO_752003 HO_786003 HO_787003 HO_795003 HO_803003 BK743 BK751 BK785 BK786 BK794 BK802 HB; (try clear hb); (try clear hb2); (try clear hk); (try clear hi); obtain ⟨hcz157_0, hcz157_1, hcz157_2, hcz157_3, hfz157_0, hfz157_1, hfz157_2, hfz157_3⟩ := cf4 (w := w156) BK786) | ((with_reducible refine gate_callee (f := 73) rfl ?_); refine gL (some 170) Try.func73 #[.agg #[.int .i64 t779, .int .i64 t780, .int .i64 t781, .slice Ao85 t782.length co85]] ?_; (with_reducible refine (impl_BloomLoad.calls kj72 t779 t780 t781 _ _ t782 t810 true _ ?side1 ?side2 A125.out).mono ?_); (case side1 => exact Cz ((Kd.R_reads' HO_787003.out).2.2)); (case side2 => exact (Kd.R_reads' HO_787003.out).2.1); rintro e w158 ⟨rfl, hb⟩; refine ⟨_, rfl, ?_⟩; have n0_ := Rb HO_744003 hb; have n1_ := Rb HO_752003 hb; have n2_ := Rb HO_786003 hb; have n3_ := Rb HO_787003 hb; have n4_ := Rb HO_795003 hb; have n5_ := Rb HO_803003 hb; have n6_ := Kb BK743 hb; have n7_ := Kb BK751 hb; have n8_ := Kb BK785 hb; have n9_ := Kb BK786 hb; have n10_ := Kb BK794 hb; have n11_ := Kb BK802 hb; have n12_ := Bc HB hb; clear HO_744003 HO_752003 HO_786003 HO_787003 HO_795003 HO_803003 BK743 BK751 BK785 BK786 BK794 BK802 HB; revert n0_ n1_ n2_ n3_ n4_ n5_ n6_ n7_ n8_ n9_ n10_ n11_ n12_; intro HO_744003 HO_752003 HO_786003 HO_787003 HO_795003 HO_803003 BK743 BK751 BK785 BK786 BK794 BK802 HB; (try clear hb); (try clear hb2); (try clear hk); (try clear hi); obtain ⟨hcz159_0, hcz159_1, hcz159_2, hcz159_3, hfz159_0, hfz159_1, hfz159_2, hfz159_3⟩ := cf4 (w := w158) BK794) | ((with_reducible refine gate_callee (f := 73) rfl ?_); refine gL (some 175) Try.func73 #[.agg #[.int .i64 t787, .int .i64 t788, .int .i64 t789, .slice Ao93 t790.length co93]] ?_; (with_reducible refine (impl_BloomLoad.calls kj72 t787 t788 t789 _ _ t790 t812 true _ ?side1 ?side2 A126.out).mono ?_); (case side1 => exact Cz ((Kd.R_reads' HO_795003.out).2.2)); (case side2 => exact (Kd.R_reads' HO_795003.out).2.1); rintro e w160 ⟨rfl, hb⟩; refine ⟨_, rfl, ?_⟩; have n0_ := Rb HO_744003 hb; have n1_ := Rb HO_752003 hb; have n2_ := Rb HO_786003 hb; have n3_ := Rb HO_787003 hb; have n4_ := Rb HO_795003 hb; have n5_ := Rb HO_803003 hb; have n6_ := Kb BK743 hb; have n7_ := Kb BK751 hb; have n8_ := Kb BK785 hb; have n9_ := Kb BK786 hb; have n10_ := Kb BK794 hb; have n11_ := Kb BK802 hb; have n12_ := Bc HB hb; clear HO_744003 HO_752003 HO_786003 HO_787003 HO_795003 HO_803003 BK743 BK751 BK785 BK786 BK794 BK802 HB; revert n0_ n1_ n2_ n3_ n4_ n5_ n6_ n7_ n8_ n9_ n10_ n11_ n12_; intro HO_744003 HO_752003 HO_786003 HO_787003 HO_795003 HO_803003 BK743 BK751 BK785 BK786 BK794 BK802 HB; (try clear hb); (try clear hb2); (try clear hk); (try clear hi)))
                         go_meet
                         case rel => exact ⟨_, H', ⟨by have := HJ7.out; have := HJ26.out; have := HJ72.out; first | omega | exact Nat.le_refl _⟩, ⟨Rz HO_744003.out⟩, ⟨Rz HO_752003.out⟩, ⟨Rz HO_786003.out⟩, ⟨Rz HO_787003.out⟩, ⟨Rz HO_795003.out⟩, ⟨Rz HO_803003.out⟩, ⟨Kz BK743.out⟩, ⟨Kz BK751.out⟩, ⟨Kz BK785.out⟩, ⟨Kz BK786.out⟩, ⟨Kz BK794.out⟩, ⟨Kz BK802.out⟩, ⟨Bq⟩⟩
                     ·replace c133 := Bool.eq_false_iff.mpr c133
                      subst c133
                      rw [if_neg (show ¬ (false = true) by decide)] at H; exact absurd (Option.some.inj H) (by rw [HT_.out]; decide)
                    ·replace c132 := Bool.eq_false_iff.mpr c132
                     subst c132
                     rw [if_neg (show ¬ (false = true) by decide)] at H; exact absurd (Option.some.inj H) (by rw [HT_.out]; decide)
                   ·replace c131 := Bool.eq_false_iff.mpr c131
                    subst c131
                    rw [if_neg (show ¬ (false = true) by decide)] at H; exact absurd (Option.some.inj H) (by rw [HT_.out]; decide)
                  ·replace c130 := Bool.eq_false_iff.mpr c130
                   subst c130
                   rw [if_neg (show ¬ (false = true) by decide)] at H; exact absurd (Option.some.inj H) (by rw [HT_.out]; decide)
                 ·replace c129 := Bool.eq_false_iff.mpr c129
                  subst c129
                  rw [if_neg (show ¬ (false = true) by decide)] at H; exact absurd (Option.some.inj H) (by rw [HT_.out]; decide)
                ·replace c128 := Bool.eq_false_iff.mpr c128
                 subst c128
                 rw [if_neg (show ¬ (false = true) by decide)] at H; exact absurd (Option.some.inj H) (by rw [HT_.out]; decide)
               ·replace c127 := Bool.eq_false_iff.mpr c127
                subst c127
                rw [if_neg (show ¬ (false = true) by decide)] at H; exact absurd (Option.some.inj H) (by rw [HT_.out]; decide)
              ·replace c121 := Bool.eq_false_iff.mpr c121
               subst c121
               rw [if_neg (show ¬ (false = true) by decide)] at H; have H' := am H; clear H
               go_wp2
               go_meet
               case rel => exact ⟨_, H', ⟨by have := HJ7.out; have := HJ26.out; have := HJ72.out; first | omega | exact Nat.le_refl _⟩, ⟨Rz HO_744003.out⟩, ⟨Rz HO_752003.out⟩, ⟨Rz HO_786003.out⟩, ⟨Rz HO_787003.out⟩, ⟨Rz HO_795003.out⟩, ⟨Rz HO_803003.out⟩, ⟨Kz BK743.out⟩, ⟨Kz BK751.out⟩, ⟨Kz BK785.out⟩, ⟨Kz BK786.out⟩, ⟨Kz BK794.out⟩, ⟨Kz BK802.out⟩, ⟨Bq⟩⟩
             case rest =>
              refine Nonempty.elim ?_ id
              refine (letI hh_ : Nonempty (_ : Prop) := ?apart4; (?close4 : type_of% hh_))
              case apart4 =>
               refine Nonempty.intro ?_
               clear HC120
               try clear c1
               try clear c2
               try clear p2
               try clear c3
               try clear c4
               try clear c5
               try clear c6
               try clear p6
               try clear c7
               try clear p7
               try clear q7
               try clear hx7
               try clear c8
               try clear c9
               try clear c10
               try clear c11
               try clear c12
               try clear c13
               try clear c14
               try clear c15
               try clear c17
               try clear c20
               try clear c20b0
               try clear c20b1
               try clear c20b2
               try clear c22
               try clear c26
               try clear c28
               try clear c32
               try clear c33
               try clear c36
               try clear c36b0
               try clear c37
               try clear c37b0
               try clear c38
               try clear c38b0
               try clear c41
               try clear c42
               try clear c43
               try clear c44
               try clear c45
               try clear c46
               try clear c49
               try clear c51
               try clear c52
               try clear c53
               try clear c56
               try clear c57
               try clear c62
               try clear c63
               try clear c64
               try clear p64
               try clear c66
               try clear c68
               try clear c69
               try clear c70
               try clear c71
               try clear c72
               try clear c73
               try clear p76
               try clear q76
               try clear hx76
               try clear c77
               try clear c78
               try clear c79
               try clear c82
               try clear c83
               try clear c88
               try clear c89
               try clear c90
               try clear c91
               try clear c98
               try clear c99
               try clear c100
               try clear c101
               try clear c102
               try clear c105
               try clear c105b0
               try clear c105b1
               try clear c105b2
               try clear c107
               try clear c108
               try clear c109
               try clear c110
               try clear c111
               try clear c113
               try clear c114
               try clear c115
               try clear c116
               try clear c119
               try clear c121
               try clear c127
               try clear c128
               try clear c129
               try clear c130
               try clear c131
               try clear c132
               try clear c133
               try clear c134
               try clear c134b0
               try clear c135
               try clear c135b0
               try clear c136
               try clear c136b0
               try clear c137
               try clear c138
               try clear c139
               try clear c140
               try clear c141
               try clear c143
               try clear c144
               try clear c145
               try clear c146
               try clear c150
               try clear c151
               try clear c152
               try clear hx762_0
               try clear p2
               try clear p6
               try clear p64
               try clear p7
               try clear p76
               try clear p762
               try clear q7
               try clear q76
               try clear q762
               obtain ⟨kq, HA, HJ119, HO_744003, HO_752003, HO_786003, HO_787003, HO_795003, HO_803003, BK743, BK751, BK785, BK786, BK794, BK802, HB⟩ := hcut; cases kq with
               | zero => exact absurd HA.out (by simp [laws_FnBloomNeverDenies.j4])
               | succ kj119 =>
                have H := HA.out; clear HA
                simp only [laws_FnBloomNeverDenies.j4] at H
                obtain ⟨⟨t814, t815, t816, t817, t820, t821, t822, t823⟩, A161, H⟩ := ob H; (try dsimp -simprocs only at H); obtain ⟨⟨t828, t829⟩, A162, H⟩ := ob H; (try dsimp -simprocs only at H); obtain ⟨⟨t830, t831⟩, A163, H⟩ := ob H; (try dsimp -simprocs only at H)
                by_cases c164 : (t829 == t831) = true
                ·rw [if_pos c164] at H
                 have c164b0 : (t829 == t831) = true := c164
                 (try (have c164b1 : decide (t829 = t831) = true := by simpa using c164))
                 (try (have c164b2 : (t829 == t831) = true := by simpa using c164))
                 clear c164; obtain rfl := Option.some.inj H
                 go_wp2_with (first | ((with_reducible refine gate_callee (f := 74) rfl ?_); refine gL (some 223) Try.func74 #[.slice A1 l1.length c1] ?_; (with_reducible refine (spec_DrawCoversBloom.calls kj119 _ _ l1 t814 t815 t816 t817 t820 t821 t822 t823 _ ?side1 ?side2 A161.out).mono ?_); (case side1 => exact Cz (Kd.C_below HR1.out HB.out)); (case side2 => exact HC1.out); rintro e w165 ⟨v818, v824, rfl, ho0, ho1, hb⟩; refine ⟨_, rfl, ?_⟩; have n0_ := am (Kd.R_mono (Kd.R_told (Kd.R_told (Kd.R_old (Rz HO_744003.out) hb) (Kd.R_base ho0)) (Kd.R_base ho1)) (fun _ h_ => h_.1)); have n1_ := am (Kd.R_mono (Kd.R_told (Kd.R_told (Kd.R_old (Rz HO_752003.out) hb) (Kd.R_base ho0)) (Kd.R_base ho1)) (fun _ h_ => h_.1)); have n2_ := am (Kd.R_mono (Kd.R_told (Kd.R_told (Kd.R_old (Rz HO_786003.out) hb) (Kd.R_base ho0)) (Kd.R_base ho1)) (fun _ h_ => h_.1)); have n3_ := am (Kd.R_mono (Kd.R_told (Kd.R_told (Kd.R_old (Rz HO_787003.out) hb) (Kd.R_base ho0)) (Kd.R_base ho1)) (fun _ h_ => h_.1)); have n4_ := am (Kd.R_mono (Kd.R_told (Kd.R_told (Kd.R_old (Rz HO_795003.out) hb) (Kd.R_base ho0)) (Kd.R_base ho1)) (fun _ h_ => h_.1)); have n5_ := am (Kd.R_mono (Kd.R_told (Kd.R_told (Kd.R_old (Rz HO_803003.out) hb) (Kd.R_base ho0)) (Kd.R_base ho1)) (fun _ h_ => h_.1)); have n6_ := am (Kd.R_lower (Kd.R_new' (Kd.R_new' (Kd.R_new' (Kd.R_new' (Kd.R_new' (Kd.R_new' ho0 (Kd.R_lt (Rz HO_744003.out))) (Kd.R_lt (Rz HO_752003.out))) (Kd.R_lt (Rz HO_786003.out))) (Kd.R_lt (Rz HO_787003.out))) (Kd.R_lt (Rz HO_795003.out))) (Kd.R_lt (Rz HO_803003.out))) (below_size (w := w) (Bq))); have n7_ := am (Kd.R_lower (Kd.R_new' (Kd.R_new' (Kd.R_new' (Kd.R_new' (Kd.R_new' (Kd.R_new' ho1 (Kd.R_lt (Rz HO_744003.out))) (Kd.R_lt (Rz HO_752003.out))) (Kd.R_lt (Rz HO_786003.out))) (Kd.R_lt (Rz HO_787003.out))) (Kd.R_lt (Rz HO_795003.out))) (Kd.R_lt (Rz HO_803003.out))) (below_size (w := w) (Bq))); have n8_ := Kb BK743 hb; have n9_ := Kb BK751 hb; have n10_ := Kb BK785 hb; have n11_ := Kb BK786 hb; have n12_ := Kb BK794 hb; have n13_ := Kb BK802 hb; have n14_ := Bc HB hb; clear HO_744003 HO_752003 HO_786003 HO_787003 HO_795003 HO_803003 BK743 BK751 BK785 BK786 BK794 BK802 HB; revert n0_ n1_ n2_ n3_ n4_ n5_ n6_ n7_ n8_ n9_ n10_ n11_ n12_ n13_ n14_; intro HO_744003 HO_752003 HO_786003 HO_787003 HO_795003 HO_803003 HO819 HO825 BK743 BK751 BK785 BK786 BK794 BK802 HB; (try clear hb); (try clear hb2); (try clear hk); (try clear hi); (try clear ho0); (try clear ho1)) | ((with_reducible refine gate_dst (N := 37) rfl ?_); refine bE 37 #[.int .i64 0, .int .i64 0, .int .i64 0, .slice none 0 0] 28 ?_; intro gb826 hg w166 hbox hb; have n0_ := Rb HO_744003 hb; have n1_ := Rb HO_752003 hb; have n2_ := Rb HO_786003 hb; have n3_ := Rb HO_787003 hb; have n4_ := Rb HO_795003 hb; have n5_ := Rb HO_803003 hb; have n6_ := Rb HO819 hb; have n7_ := Rb HO825 hb; have n8_ := Kb BK743 hb; have n9_ := Kb BK751 hb; have n10_ := Kb BK785 hb; have n11_ := Kb BK786 hb; have n12_ := Kb BK794 hb; have n13_ := Kb BK802 hb; have n14_ := Bc HB hb; have n15_ := am (hbox); have n16_ := Gm HB hg; have n17_ := Gm HB hg; have n18_ := Nl BK743 hg; have n19_ := Ng BK743 hg; have n20_ := Nl BK751 hg; have n21_ := Ng BK751 hg; have n22_ := Nl BK785 hg; have n23_ := Ng BK785 hg; have n24_ := Nl BK786 hg; have n25_ := Ng BK786 hg; have n26_ := Nl BK794 hg; have n27_ := Ng BK794 hg; have n28_ := Nl BK802 hg; have n29_ := Ng BK802 hg; clear HO_744003 HO_752003 HO_786003 HO_787003 HO_795003 HO_803003 HO819 HO825 BK743 BK751 BK785 BK786 BK794 BK802 HB; revert n0_ n1_ n2_ n3_ n4_ n5_ n6_ n7_ n8_ n9_ n10_ n11_ n12_ n13_ n14_ n15_ n16_ n17_ n18_ n19_ n20_ n21_ n22_ n23_ n24_ n25_ n26_ n27_ n28_ n29_; intro HO_744003 HO_752003 HO_786003 HO_787003 HO_795003 HO_803003 HO819 HO825 BK743 BK751 BK785 BK786 BK794 BK802 HB BK826 GW826 GE826 NB743_826 NB826_743 NB751_826 NB826_751 NB785_826 NB826_785 NB786_826 NB826_786 NB794_826 NB826_794 NB802_826 NB826_802; clear hb hbox hg) | ((with_reducible refine gate_dst (N := 38) rfl ?_); refine bE 38 #[.int .i64 0, .int .i64 0, .int .i64 0, .slice none 0 0] 28 ?_; intro gb827 hg w167 hbox hb; have n0_ := Rb HO_744003 hb; have n1_ := Rb HO_752003 hb; have n2_ := Rb HO_786003 hb; have n3_ := Rb HO_787003 hb; have n4_ := Rb HO_795003 hb; have n5_ := Rb HO_803003 hb; have n6_ := Rb HO819 hb; have n7_ := Rb HO825 hb; have n8_ := Kb BK743 hb; have n9_ := Kb BK751 hb; have n10_ := Kb BK785 hb; have n11_ := Kb BK786 hb; have n12_ := Kb BK794 hb; have n13_ := Kb BK802 hb; have n14_ := Kb BK826 hb; have n15_ := Bc HB hb; have n16_ := am (hbox); have n17_ := Gm HB hg; have n18_ := Gm HB hg; have n19_ := Nl BK743 hg; have n20_ := Ng BK743 hg; have n21_ := Nl BK751 hg; have n22_ := Ng BK751 hg; have n23_ := Nl BK785 hg; have n24_ := Ng BK785 hg; have n25_ := Nl BK786 hg; have n26_ := Ng BK786 hg; have n27_ := Nl BK794 hg; have n28_ := Ng BK794 hg; have n29_ := Nl BK802 hg; have n30_ := Ng BK802 hg; have n31_ := Nl BK826 hg; have n32_ := Ng BK826 hg; clear HO_744003 HO_752003 HO_786003 HO_787003 HO_795003 HO_803003 HO819 HO825 BK743 BK751 BK785 BK786 BK794 BK802 BK826 HB; revert n0_ n1_ n2_ n3_ n4_ n5_ n6_ n7_ n8_ n9_ n10_ n11_ n12_ n13_ n14_ n15_ n16_ n17_ n18_ n19_ n20_ n21_ n22_ n23_ n24_ n25_ n26_ n27_ n28_ n29_ n30_ n31_ n32_; intro HO_744003 HO_752003 HO_786003 HO_787003 HO_795003 HO_803003 HO819 HO825 BK743 BK751 BK785 BK786 BK794 BK802 BK826 HB BK827 GW827 GE827 NB743_827 NB827_743 NB751_827 NB827_751 NB785_827 NB827_785 NB786_827 NB827_786 NB794_827 NB827_794 NB802_827 NB827_802 NB826_827 NB827_826; clear hb hbox hg; have hnb168 := NB826_743.out; have hnc168 := NB743_826.out; have hnb169 := NB826_751.out; have hnc169 := NB751_826.out; have hnb170 := NB826_785.out; have hnc170 := NB785_826.out; have hnb171 := NB826_786.out; have hnc171 := NB786_826.out; have hnb172 := NB826_794.out; have hnc172 := NB794_826.out; have hnb173 := NB826_802.out; have hnc173 := NB802_826.out; have hnb174 := NB826_827.out; have hnc174 := NB827_826.out; obtain ⟨hcz175_0, hcz175_1, hcz175_2, hcz175_3, hfz175_0, hfz175_1, hfz175_2, hfz175_3⟩ := cf4 (w := w167) BK826; obtain ⟨Ao176, co176, eo176⟩ := Kd.R_slice HO819.out; subst eo176; have hnb177 := NB827_743.out; have hnc177 := NB743_827.out; have hnb178 := NB827_751.out; have hnc178 := NB751_827.out; have hnb179 := NB827_785.out; have hnc179 := NB785_827.out; have hnb180 := NB827_786.out; have hnc180 := NB786_827.out; have hnb181 := NB827_794.out; have hnc181 := NB794_827.out; have hnb182 := NB827_802.out; have hnc182 := NB802_827.out; obtain ⟨hcz183_0, hcz183_1, hcz183_2, hcz183_3, hfz183_0, hfz183_1, hfz183_2, hfz183_3⟩ := cf4 (w := w167) BK827; obtain ⟨Ao184, co184, eo184⟩ := Kd.R_slice HO825.out; subst eo184) | ((with_reducible refine gate_callee (f := 57) rfl ?_); refine gL (some 229) Try.func57 #[.agg #[.int .i64 t814, .int .i64 t815, .int .i64 t816, .slice Ao176 t817.length co176], .agg #[.int .i64 t820, .int .i64 t821, .int .i64 t822, .slice Ao184 t823.length co184]] ?_; (with_reducible refine (impl_CoversBloom.calls kj119 t814 t815 t816 _ _ t817 t820 t821 t822 _ _ t823 t828 t829 _ ?side1 ?side2 ?side3 ?side4 A162.out).mono ?_); (case side1 => refine (Kd.R_reads' (e := 3) (base := w.heap.size) (ok := fun k_ => ((((((some k_ ≠ (.slice Ao184 t823.length co184 : Value).ownBlock ∧ some k_ ≠ (.slice Ao14 t739.length co14 : Value).ownBlock) ∧ some k_ ≠ (.slice Ao19 t747.length co19 : Value).ownBlock) ∧ some k_ ≠ (.slice Ao81 t776.length co81 : Value).ownBlock) ∧ some k_ ≠ (.slice Ao85 t782.length co85 : Value).ownBlock) ∧ some k_ ≠ (.slice Ao93 t790.length co93 : Value).ownBlock) ∧ some k_ ≠ (.slice Ao104 t798.length co104 : Value).ownBlock)) (n := t817.length) (c := co176) ?_).2.2; exact (Rz (Kd.R_mono (Kd.R_mono (Kd.R_far (p := ⟨gb827, 3, none⟩) (Kd.R_far (p := ⟨gb827, 2, none⟩) (Kd.R_far (p := ⟨gb827, 1, none⟩) (Kd.R_far (p := ⟨gb827, 0, none⟩) (Kd.R_far (p := ⟨gb826, 3, none⟩) (Kd.R_far (p := ⟨gb826, 2, none⟩) (Kd.R_far (p := ⟨gb826, 1, none⟩) (Kd.R_far (p := ⟨gb826, 0, none⟩) (Kd.R_types (Kd.R_types HO819.out BK826.out (by decide)) BK827.out (by decide)) (fun _ hk => hk.1.2) (.int .i64 t814)) (fun _ hk => hk.1.2) (.int .i64 t815)) (fun _ hk => hk.1.2) (.int .i64 t816)) (fun _ hk => hk.1.2) (.slice Ao176 t817.length co176)) (fun _ hk => hk.2) (.int .i64 t820)) (fun _ hk => hk.2) (.int .i64 t821)) (fun _ hk => hk.2) (.int .i64 t822)) (fun _ hk => hk.2) (.slice Ao184 t823.length co184)) (fun _ h_ => h_.1)) (fun _ h_ => h_.1)))); (case side2 => exact (Kd.R_reads' HO819.out).2.1); (case side3 => refine (Kd.R_reads' (e := 3) (base := w.heap.size) (ok := fun k_ => ((((((some k_ ≠ (.slice Ao176 t817.length co176 : Value).ownBlock ∧ some k_ ≠ (.slice Ao14 t739.length co14 : Value).ownBlock) ∧ some k_ ≠ (.slice Ao19 t747.length co19 : Value).ownBlock) ∧ some k_ ≠ (.slice Ao81 t776.length co81 : Value).ownBlock) ∧ some k_ ≠ (.slice Ao85 t782.length co85 : Value).ownBlock) ∧ some k_ ≠ (.slice Ao93 t790.length co93 : Value).ownBlock) ∧ some k_ ≠ (.slice Ao104 t798.length co104 : Value).ownBlock)) (n := t823.length) (c := co184) ?_).2.2; exact (Rz (Kd.R_mono (Kd.R_mono (Kd.R_far (p := ⟨gb827, 3, none⟩) (Kd.R_far (p := ⟨gb827, 2, none⟩) (Kd.R_far (p := ⟨gb827, 1, none⟩) (Kd.R_far (p := ⟨gb827, 0, none⟩) (Kd.R_far (p := ⟨gb826, 3, none⟩) (Kd.R_far (p := ⟨gb826, 2, none⟩) (Kd.R_far (p := ⟨gb826, 1, none⟩) (Kd.R_far (p := ⟨gb826, 0, none⟩) (Kd.R_types (Kd.R_types HO825.out BK826.out (by decide)) BK827.out (by decide)) (fun _ hk => hk.1.2) (.int .i64 t814)) (fun _ hk => hk.1.2) (.int .i64 t815)) (fun _ hk => hk.1.2) (.int .i64 t816)) (fun _ hk => hk.1.2) (.slice Ao176 t817.length co176)) (fun _ hk => hk.2) (.int .i64 t820)) (fun _ hk => hk.2) (.int .i64 t821)) (fun _ hk => hk.2) (.int .i64 t822)) (fun _ hk => hk.2) (.slice Ao184 t823.length co184)) (fun _ h_ => h_.1)) (fun _ h_ => h_.1)))); (case side4 => exact (Kd.R_reads' HO825.out).2.1); rintro e w185 ⟨rfl, hb⟩; refine ⟨_, rfl, ?_⟩; have n0_ := am (Kd.R_below (Rz (Kd.R_mono (Kd.R_mono (Kd.R_far (p := ⟨gb827, 3, none⟩) (Kd.R_far (p := ⟨gb827, 2, none⟩) (Kd.R_far (p := ⟨gb827, 1, none⟩) (Kd.R_far (p := ⟨gb827, 0, none⟩) (Kd.R_far (p := ⟨gb826, 3, none⟩) (Kd.R_far (p := ⟨gb826, 2, none⟩) (Kd.R_far (p := ⟨gb826, 1, none⟩) (Kd.R_far (p := ⟨gb826, 0, none⟩) (Kd.R_types (Kd.R_types HO_744003.out BK826.out (by decide)) BK827.out (by decide)) (fun _ hk => hk.1.2) (.int .i64 t814)) (fun _ hk => hk.1.2) (.int .i64 t815)) (fun _ hk => hk.1.2) (.int .i64 t816)) (fun _ hk => hk.1.2) (.slice Ao176 t817.length co176)) (fun _ hk => hk.2) (.int .i64 t820)) (fun _ hk => hk.2) (.int .i64 t821)) (fun _ hk => hk.2) (.int .i64 t822)) (fun _ hk => hk.2) (.slice Ao184 t823.length co184)) (fun _ h_ => h_.1)) (fun _ h_ => h_.1))) hb); have n1_ := am (Kd.R_below (Rz (Kd.R_mono (Kd.R_mono (Kd.R_far (p := ⟨gb827, 3, none⟩) (Kd.R_far (p := ⟨gb827, 2, none⟩) (Kd.R_far (p := ⟨gb827, 1, none⟩) (Kd.R_far (p := ⟨gb827, 0, none⟩) (Kd.R_far (p := ⟨gb826, 3, none⟩) (Kd.R_far (p := ⟨gb826, 2, none⟩) (Kd.R_far (p := ⟨gb826, 1, none⟩) (Kd.R_far (p := ⟨gb826, 0, none⟩) (Kd.R_types (Kd.R_types HO_752003.out BK826.out (by decide)) BK827.out (by decide)) (fun _ hk => hk.1.2) (.int .i64 t814)) (fun _ hk => hk.1.2) (.int .i64 t815)) (fun _ hk => hk.1.2) (.int .i64 t816)) (fun _ hk => hk.1.2) (.slice Ao176 t817.length co176)) (fun _ hk => hk.2) (.int .i64 t820)) (fun _ hk => hk.2) (.int .i64 t821)) (fun _ hk => hk.2) (.int .i64 t822)) (fun _ hk => hk.2) (.slice Ao184 t823.length co184)) (fun _ h_ => h_.1)) (fun _ h_ => h_.1))) hb); have n2_ := am (Kd.R_below (Rz (Kd.R_mono (Kd.R_mono (Kd.R_far (p := ⟨gb827, 3, none⟩) (Kd.R_far (p := ⟨gb827, 2, none⟩) (Kd.R_far (p := ⟨gb827, 1, none⟩) (Kd.R_far (p := ⟨gb827, 0, none⟩) (Kd.R_far (p := ⟨gb826, 3, none⟩) (Kd.R_far (p := ⟨gb826, 2, none⟩) (Kd.R_far (p := ⟨gb826, 1, none⟩) (Kd.R_far (p := ⟨gb826, 0, none⟩) (Kd.R_types (Kd.R_types HO_786003.out BK826.out (by decide)) BK827.out (by decide)) (fun _ hk => hk.1.2) (.int .i64 t814)) (fun _ hk => hk.1.2) (.int .i64 t815)) (fun _ hk => hk.1.2) (.int .i64 t816)) (fun _ hk => hk.1.2) (.slice Ao176 t817.length co176)) (fun _ hk => hk.2) (.int .i64 t820)) (fun _ hk => hk.2) (.int .i64 t821)) (fun _ hk => hk.2) (.int .i64 t822)) (fun _ hk => hk.2) (.slice Ao184 t823.length co184)) (fun _ h_ => h_.1)) (fun _ h_ => h_.1))) hb); have n3_ := am (Kd.R_below (Rz (Kd.R_mono (Kd.R_mono (Kd.R_far (p := ⟨gb827, 3, none⟩) (Kd.R_far (p := ⟨gb827, 2, none⟩) (Kd.R_far (p := ⟨gb827, 1, none⟩) (Kd.R_far (p := ⟨gb827, 0, none⟩) (Kd.R_far (p := ⟨gb826, 3, none⟩) (Kd.R_far (p := ⟨gb826, 2, none⟩) (Kd.R_far (p := ⟨gb826, 1, none⟩) (Kd.R_far (p := ⟨gb826, 0, none⟩) (Kd.R_types (Kd.R_types HO_787003.out BK826.out (by decide)) BK827.out (by decide)) (fun _ hk => hk.1.2) (.int .i64 t814)) (fun _ hk => hk.1.2) (.int .i64 t815)) (fun _ hk => hk.1.2) (.int .i64 t816)) (fun _ hk => hk.1.2) (.slice Ao176 t817.length co176)) (fun _ hk => hk.2) (.int .i64 t820)) (fun _ hk => hk.2) (.int .i64 t821)) (fun _ hk => hk.2) (.int .i64 t822)) (fun _ hk => hk.2) (.slice Ao184 t823.length co184)) (fun _ h_ => h_.1)) (fun _ h_ => h_.1))) hb); have n4_ := am (Kd.R_below (Rz (Kd.R_mono (Kd.R_mono (Kd.R_far (p := ⟨gb827, 3, none⟩) (Kd.R_far (p := ⟨gb827, 2, none⟩) (Kd.R_far (p := ⟨gb827, 1, none⟩) (Kd.R_far (p := ⟨gb827, 0, none⟩) (Kd.R_far (p := ⟨gb826, 3, none⟩) (Kd.R_far (p := ⟨gb826, 2, none⟩) (Kd.R_far (p := ⟨gb826, 1, none⟩) (Kd.R_far (p := ⟨gb826, 0, none⟩) (Kd.R_types (Kd.R_types HO_795003.out BK826.out (by decide)) BK827.out (by decide)) (fun _ hk => hk.1.2) (.int .i64 t814)) (fun _ hk => hk.1.2) (.int .i64 t815)) (fun _ hk => hk.1.2) (.int .i64 t816)) (fun _ hk => hk.1.2) (.slice Ao176 t817.length co176)) (fun _ hk => hk.2) (.int .i64 t820)) (fun _ hk => hk.2) (.int .i64 t821)) (fun _ hk => hk.2) (.int .i64 t822)) (fun _ hk => hk.2) (.slice Ao184 t823.length co184)) (fun _ h_ => h_.1)) (fun _ h_ => h_.1))) hb); have n5_ := am (Kd.R_below (Rz (Kd.R_mono (Kd.R_mono (Kd.R_far (p := ⟨gb827, 3, none⟩) (Kd.R_far (p := ⟨gb827, 2, none⟩) (Kd.R_far (p := ⟨gb827, 1, none⟩) (Kd.R_far (p := ⟨gb827, 0, none⟩) (Kd.R_far (p := ⟨gb826, 3, none⟩) (Kd.R_far (p := ⟨gb826, 2, none⟩) (Kd.R_far (p := ⟨gb826, 1, none⟩) (Kd.R_far (p := ⟨gb826, 0, none⟩) (Kd.R_types (Kd.R_types HO_803003.out BK826.out (by decide)) BK827.out (by decide)) (fun _ hk => hk.1.2) (.int .i64 t814)) (fun _ hk => hk.1.2) (.int .i64 t815)) (fun _ hk => hk.1.2) (.int .i64 t816)) (fun _ hk => hk.1.2) (.slice Ao176 t817.length co176)) (fun _ hk => hk.2) (.int .i64 t820)) (fun _ hk => hk.2) (.int .i64 t821)) (fun _ hk => hk.2) (.int .i64 t822)) (fun _ hk => hk.2) (.slice Ao184 t823.length co184)) (fun _ h_ => h_.1)) (fun _ h_ => h_.1))) hb); have n6_ := am (Kd.R_below (Rz (Kd.R_mono (Kd.R_mono (Kd.R_far (p := ⟨gb827, 3, none⟩) (Kd.R_far (p := ⟨gb827, 2, none⟩) (Kd.R_far (p := ⟨gb827, 1, none⟩) (Kd.R_far (p := ⟨gb827, 0, none⟩) (Kd.R_far (p := ⟨gb826, 3, none⟩) (Kd.R_far (p := ⟨gb826, 2, none⟩) (Kd.R_far (p := ⟨gb826, 1, none⟩) (Kd.R_far (p := ⟨gb826, 0, none⟩) (Kd.R_types (Kd.R_types HO819.out BK826.out (by decide)) BK827.out (by decide)) (fun _ hk => hk.1.2) (.int .i64 t814)) (fun _ hk => hk.1.2) (.int .i64 t815)) (fun _ hk => hk.1.2) (.int .i64 t816)) (fun _ hk => hk.1.2) (.slice Ao176 t817.length co176)) (fun _ hk => hk.2) (.int .i64 t820)) (fun _ hk => hk.2) (.int .i64 t821)) (fun _ hk => hk.2) (.int .i64 t822)) (fun _ hk => hk.2) (.slice Ao184 t823.length co184)) (fun _ h_ => h_.1)) (fun _ h_ => h_.1))) hb); have n7_ := am (Kd.R_below (Rz (Kd.R_mono (Kd.R_mono (Kd.R_far (p := ⟨gb827, 3, none⟩) (Kd.R_far (p := ⟨gb827, 2, none⟩) (Kd.R_far (p := ⟨gb827, 1, none⟩) (Kd.R_far (p := ⟨gb827, 0, none⟩) (Kd.R_far (p := ⟨gb826, 3, none⟩) (Kd.R_far (p := ⟨gb826, 2, none⟩) (Kd.R_far (p := ⟨gb826, 1, none⟩) (Kd.R_far (p := ⟨gb826, 0, none⟩) (Kd.R_types (Kd.R_types HO825.out BK826.out (by decide)) BK827.out (by decide)) (fun _ hk => hk.1.2) (.int .i64 t814)) (fun _ hk => hk.1.2) (.int .i64 t815)) (fun _ hk => hk.1.2) (.int .i64 t816)) (fun _ hk => hk.1.2) (.slice Ao176 t817.length co176)) (fun _ hk => hk.2) (.int .i64 t820)) (fun _ hk => hk.2) (.int .i64 t821)) (fun _ hk => hk.2) (.int .i64 t822)) (fun _ hk => hk.2) (.slice Ao184 t823.length co184)) (fun _ h_ => h_.1)) (fun _ h_ => h_.1))) hb); have n8_ := am (blk_below (g := gb743) (o := .cells #[.int .i64 t736, .int .i64 t737, .int .i64 t738, .slice Ao14 t739.length co14] 28 (0, 0)) (by refine bp ?_; refine blk_far ?_ NB743_827.out _; refine bp ?_; refine blk_far ?_ NB743_827.out _; refine bp ?_; refine blk_far ?_ NB743_827.out _; refine bp ?_; refine blk_far ?_ NB743_827.out _; refine bp ?_; refine blk_far ?_ NB743_826.out _; refine bp ?_; refine blk_far ?_ NB743_826.out _; refine bp ?_; refine blk_far ?_ NB743_826.out _; refine bp ?_; refine blk_far ?_ NB743_826.out _; exact Kz BK743.out) hb); have n9_ := am (blk_below (g := gb751) (o := .cells #[.int .i64 t744, .int .i64 t745, .int .i64 t746, .slice Ao19 t747.length co19] 28 (0, 0)) (by refine bp ?_; refine blk_far ?_ NB751_827.out _; refine bp ?_; refine blk_far ?_ NB751_827.out _; refine bp ?_; refine blk_far ?_ NB751_827.out _; refine bp ?_; refine blk_far ?_ NB751_827.out _; refine bp ?_; refine blk_far ?_ NB751_826.out _; refine bp ?_; refine blk_far ?_ NB751_826.out _; refine bp ?_; refine blk_far ?_ NB751_826.out _; refine bp ?_; refine blk_far ?_ NB751_826.out _; exact Kz BK751.out) hb); have n10_ := am (blk_below (g := gb785) (o := .cells #[.int .i64 t773, .int .i64 t774, .int .i64 t775, .slice Ao81 t776.length co81] 28 (0, 0)) (by refine bp ?_; refine blk_far ?_ NB785_827.out _; refine bp ?_; refine blk_far ?_ NB785_827.out _; refine bp ?_; refine blk_far ?_ NB785_827.out _; refine bp ?_; refine blk_far ?_ NB785_827.out _; refine bp ?_; refine blk_far ?_ NB785_826.out _; refine bp ?_; refine blk_far ?_ NB785_826.out _; refine bp ?_; refine blk_far ?_ NB785_826.out _; refine bp ?_; refine blk_far ?_ NB785_826.out _; exact Kz BK785.out) hb); have n11_ := am (blk_below (g := gb786) (o := .cells #[.int .i64 t779, .int .i64 t780, .int .i64 t781, .slice Ao85 t782.length co85] 28 (0, 0)) (by refine bp ?_; refine blk_far ?_ NB786_827.out _; refine bp ?_; refine blk_far ?_ NB786_827.out _; refine bp ?_; refine blk_far ?_ NB786_827.out _; refine bp ?_; refine blk_far ?_ NB786_827.out _; refine bp ?_; refine blk_far ?_ NB786_826.out _; refine bp ?_; refine blk_far ?_ NB786_826.out _; refine bp ?_; refine blk_far ?_ NB786_826.out _; refine bp ?_; refine blk_far ?_ NB786_826.out _; exact Kz BK786.out) hb); have n12_ := am (blk_below (g := gb794) (o := .cells #[.int .i64 t787, .int .i64 t788, .int .i64 t789, .slice Ao93 t790.length co93] 28 (0, 0)) (by refine bp ?_; refine blk_far ?_ NB794_827.out _; refine bp ?_; refine blk_far ?_ NB794_827.out _; refine bp ?_; refine blk_far ?_ NB794_827.out _; refine bp ?_; refine blk_far ?_ NB794_827.out _; refine bp ?_; refine blk_far ?_ NB794_826.out _; refine bp ?_; refine blk_far ?_ NB794_826.out _; refine bp ?_; refine blk_far ?_ NB794_826.out _; refine bp ?_; refine blk_far ?_ NB794_826.out _; exact Kz BK794.out) hb); have n13_ := am (blk_below (g := gb802) (o := .cells #[.int .i64 t795, .int .i64 t796, .int .i64 t797, .slice Ao104 t798.length co104] 28 (0, 0)) (by refine bp ?_; refine blk_far ?_ NB802_827.out _; refine bp ?_; refine blk_far ?_ NB802_827.out _; refine bp ?_; refine blk_far ?_ NB802_827.out _; refine bp ?_; refine blk_far ?_ NB802_827.out _; refine bp ?_; refine blk_far ?_ NB802_826.out _; refine bp ?_; refine blk_far ?_ NB802_826.out _; refine bp ?_; refine blk_far ?_ NB802_826.out _; refine bp ?_; refine blk_far ?_ NB802_826.out _; exact Kz BK802.out) hb); have n14_ := am (blk_below (g := gb826) (o := .cells #[.int .i64 t814, .int .i64 t815, .int .i64 t816, .slice Ao176 t817.length co176] 28 (0, 0)) (by refine bp ?_; refine blk_far ?_ NB826_827.out _; refine bp ?_; refine blk_far ?_ NB826_827.out _; refine bp ?_; refine blk_far ?_ NB826_827.out _; refine bp ?_; refine blk_far ?_ NB826_827.out _; refine bp ?_; refine blk_put (cs := #[.int .i64 t814, .int .i64 t815, .int .i64 t816, .slice none 0 0]) ?_ 3 _ rfl; refine bp ?_; refine blk_put (cs := #[.int .i64 t814, .int .i64 t815, .int .i64 0, .slice none 0 0]) ?_ 2 _ rfl; refine bp ?_; refine blk_put (cs := #[.int .i64 t814, .int .i64 0, .int .i64 0, .slice none 0 0]) ?_ 1 _ rfl; refine bp ?_; refine blk_put (cs := #[.int .i64 0, .int .i64 0, .int .i64 0, .slice none 0 0]) ?_ 0 _ rfl; exact Kz BK826.out) hb); have n15_ := am (blk_below (g := gb827) (o := .cells #[.int .i64 t820, .int .i64 t821, .int .i64 t822, .slice Ao184 t823.length co184] 28 (0, 0)) (by refine bp ?_; refine blk_put (cs := #[.int .i64 t820, .int .i64 t821, .int .i64 t822, .slice none 0 0]) ?_ 3 _ rfl; refine bp ?_; refine blk_put (cs := #[.int .i64 t820, .int .i64 t821, .int .i64 0, .slice none 0 0]) ?_ 2 _ rfl; refine bp ?_; refine blk_put (cs := #[.int .i64 t820, .int .i64 0, .int .i64 0, .slice none 0 0]) ?_ 1 _ rfl; refine bp ?_; refine blk_put (cs := #[.int .i64 0, .int .i64 0, .int .i64 0, .slice none 0 0]) ?_ 0 _ rfl; refine bp ?_; refine blk_far ?_ NB827_826.out _; refine bp ?_; refine blk_far ?_ NB827_826.out _; refine bp ?_; refine blk_far ?_ NB827_826.out _; refine bp ?_; refine blk_far ?_ NB827_826.out _; exact Kz BK827.out) hb); have n16_ := Bc HB hb; clear HO_744003 HO_752003 HO_786003 HO_787003 HO_795003 HO_803003 HO819 HO825 BK743 BK751 BK785 BK786 BK794 BK802 BK826 BK827 HB; revert n0_ n1_ n2_ n3_ n4_ n5_ n6_ n7_ n8_ n9_ n10_ n11_ n12_ n13_ n14_ n15_ n16_; intro HO_744003 HO_752003 HO_786003 HO_787003 HO_795003 HO_803003 HO819 HO825 BK743 BK751 BK785 BK786 BK794 BK802 BK826 BK827 HB; (try clear hb); (try clear hb2); (try clear hk); (try clear hi); obtain ⟨hcz186_0, hcz186_1, hcz186_2, hcz186_3, hfz186_0, hfz186_1, hfz186_2, hfz186_3⟩ := cf4 (w := w185) BK826; obtain ⟨hcz187_0, hcz187_1, hcz187_2, hcz187_3, hfz187_0, hfz187_1, hfz187_2, hfz187_3⟩ := cf4 (w := w185) BK827) | ((with_reducible refine gate_callee (f := 75) rfl ?_); refine gL (some 235) Try.func75 #[.agg #[.int .i64 t814, .int .i64 t815, .int .i64 t816, .slice Ao176 t817.length co176], .agg #[.int .i64 t820, .int .i64 t821, .int .i64 t822, .slice Ao184 t823.length co184]] ?_; (with_reducible refine (spec_CoversBloom.calls kj119 t814 t815 t816 _ _ t817 t820 t821 t822 _ _ t823 t830 t831 _ ?side1 ?side2 ?side3 ?side4 A163.out).mono ?_); (case side1 => exact Cz ((Kd.R_reads' HO819.out).2.2)); (case side2 => exact (Kd.R_reads' HO819.out).2.1); (case side3 => exact Cz ((Kd.R_reads' HO825.out).2.2)); (case side4 => exact (Kd.R_reads' HO825.out).2.1); rintro e w188 ⟨rfl, hb⟩; refine ⟨_, rfl, ?_⟩; have n0_ := Rb HO_744003 hb; have n1_ := Rb HO_752003 hb; have n2_ := Rb HO_786003 hb; have n3_ := Rb HO_787003 hb; have n4_ := Rb HO_795003 hb; have n5_ := Rb HO_803003 hb; have n6_ := Rb HO819 hb; have n7_ := Rb HO825 hb; have n8_ := Kb BK743 hb; have n9_ := Kb BK751 hb; have n10_ := Kb BK785 hb; have n11_ := Kb BK786 hb; have n12_ := Kb BK794 hb; have n13_ := Kb BK802 hb; have n14_ := Kb BK826 hb; have n15_ := Kb BK827 hb; have n16_ := Bc HB hb; clear HO_744003 HO_752003 HO_786003 HO_787003 HO_795003 HO_803003 HO819 HO825 BK743 BK751 BK785 BK786 BK794 BK802 BK826 BK827 HB; revert n0_ n1_ n2_ n3_ n4_ n5_ n6_ n7_ n8_ n9_ n10_ n11_ n12_ n13_ n14_ n15_ n16_; intro HO_744003 HO_752003 HO_786003 HO_787003 HO_795003 HO_803003 HO819 HO825 BK743 BK751 BK785 BK786 BK794 BK802 BK826 BK827 HB; (try clear hb); (try clear hb2); (try clear hk); (try clear hi)))
                 go_ret
                 exact ⟨eZ, Bq⟩
                ·rw [if_neg c164] at H
                 have c164b0 : (t829 == t831) = false := by simpa using c164
                 (try (have c164b1 : decide (t829 = t831) = false := by simpa using c164))
                 (try (have c164b2 : (t829 == t831) = false := by simpa using c164))
                 (try (have c164b3 : ¬ (t829 = t831) := by simpa using c164))
                 clear c164; exact absurd (Option.some.inj H) (by rw [HT_.out]; decide)
              case close4 => exact inferInstanceAs _
          case close3 => exact inferInstanceAs _
       case close2 => exact inferInstanceAs _
   case close1 => exact inferInstanceAs _
def laws_FnBloomNeverDenies.Pure : Prop := ∀ (l0 : List Int) (l1 : List Int), l0.length ≤ maxLen → l0.length * 1 ≤ 140737488351232 → (∀ x ∈ l0, (Lit.int .u8 x).wf = true) → l1.length ≤ maxLen → l1.length * 1 ≤ 140737488351232 → (∀ x ∈ l1, (Lit.int .u8 x).wf = true) → ∃ k, laws_FnBloomNeverDenies.f k l0 l1 = some true
theorem laws_FnBloomNeverDenies.walk (P : laws_FnBloomNeverDenies.Pure) (a0 : Option Addr) (len0 cap0 : Nat) (z0 : List Int) (a1 : Option Addr) (len1 cap1 : Nat) (z1 : List Int) (w : World) (w0 : (a0 = none ∧ len0 = 0 ∧ cap0 = 0 ∧ z0 = []) ∨ ∃ x, a0 = some x ∧ len0 ≤ cap0 ∧ cap0 ≤ maxLen ∧ z0.length = cap0 ∧ (∀ i, i < z0.length → w.cell? (x.add i) = some (.int .u8 (z0.getD i 0))) ∧ ∀ n ∈ z0, (Lit.int .u8 n).wf = true) (y0 : len0 * 1 ≤ 140737488351232) (w1 : (a1 = none ∧ len1 = 0 ∧ cap1 = 0 ∧ z1 = []) ∨ ∃ x, a1 = some x ∧ len1 ≤ cap1 ∧ cap1 ≤ maxLen ∧ z1.length = cap1 ∧ (∀ i, i < z1.length → w.cell? (x.add i) = some (.int .u8 (z1.getD i 0))) ∧ ∀ n ∈ z1, (Lit.int .u8 n).wf = true) (y1 : len1 * 1 ≤ 140737488351232) :
  Calls Try.prog 12 #[.slice a0 len0 cap0, .slice a1 len1 cap1] w fun e w' => e = .returned (.bool true) ∧ Below w.heap.size w w' := by
 obtain ⟨l0, rfl, hr0, hm0, hw0, hc0⟩ := ReadsInt.ofRowC w0; obtain ⟨l1, rfl, hr1, hm1, hw1, hc1⟩ := ReadsInt.ofRowC w1; obtain ⟨k, h⟩ := P l0 l1 hm0 y0 hw0 hm1 y1 hw1; refine (laws_FnBloomNeverDenies.calls k _ _ l0 _ _ l1 true w (Kd.C_of_reads (d := (0 : Int)) (h1 := fun _ => rfl) hr0) hc0 (Kd.C_of_reads (d := (0 : Int)) (h1 := fun _ => rfl) hr1) hc1 h rfl).mono ?_; rintro e w' ⟨rfl, hd⟩; exact ⟨rfl, hd⟩

end Go.Proofs.Ytpkpjikkfikejaa.PN
namespace Go.Proofs.YtpkpjikkfikejaaQ
open Go Go.RowKit Go.Proofs.YtpkpjikkfikejaaW.PrintWords Go.Proofs.YtpkpjikkfikejaaGp

theorem ev_succ {α : Type} {g : Nat → Option α} {r : α} (h : Ev (fun k => g (k + 1)) r) : Ev g r := Ev.step (f := fun k => g (k + 1)) (fun _ => rfl) h
theorem ev_some {α : Type} {a r : α} (h : a = r) : Ev (fun _ => some a) r := h ▸ Ev.now a
theorem ev_pos {α : Type} {c : Prop} [Decidable c] {f g : Nat → Option α} {r : α} (h : c) (k : Ev f r) : Ev (fun n => if c then f n else g n) r := by simpa only [if_pos h] using k
theorem ev_neg {α : Type} {c : Prop} [Decidable c] {f g : Nat → Option α} {r : α} (h : ¬ c) (k : Ev g r) : Ev (fun n => if c then f n else g n) r := by simpa only [if_neg h] using k
theorem ev_bind {α β : Type} {g : Nat → Option α} {f : Nat → α → Option β} {r : β} (a : α) (h : Ev g a) (k : Ev (fun n => f n a) r) : Ev (fun n => (g n).bind (f n)) r := Ev.bind h k
theorem w64 {x : Int} (h0 : -9223372036854775808 ≤ x) (h1 : x ≤ 9223372036854775807) : wrap64 x = x := by unfold wrap64; omega
theorem winc {i : Nat} (h : (i : Int) < 9223372036854775807) : wrap64 ((i : Int) + 1) = ((i + 1 : Nat) : Int) := by unfold wrap64; omega
theorem wdec {i : Nat} (h : (i : Int) < 9223372036854775807) : wrap64 (((i + 1 : Nat) : Int) - 1) = (i : Int) := by unfold wrap64; omega
theorem maxLen_eq : maxLen = 9223372036854775807 := by unfold maxLen; rfl
section
variable {α : Type} {d : α} {pre t : List α} {s : α}
theorem rdOf_mid : rdOf d (pre ++ s :: t) ((pre.length : Nat) : Int) = s := by simp [rdOf]
theorem rdOf_last {p : α} : rdOf d ((pre ++ [p]) ++ s :: t) ((pre.length : Nat) : Int) = p := by simp [rdOf]
theorem lt_mid : ((pre.length : Nat) : Int) < ((pre ++ s :: t).length : Int) := by simp; omega
theorem not_lt_end : ¬ ((pre.length : Nat) : Int) < ((pre ++ ([] : List α)).length : Int) := by simp
theorem len_one : ((pre ++ [s]).length : Int) = ((pre.length + 1 : Nat) : Int) := by simp
end
theorem rd_mid {pre t : List Int} {s : Int} : rd (pre ++ s :: t) ((pre.length : Nat) : Int) = s := by simp [rd]
theorem rd_get {xs : List Int} {i : Nat} (h : i < xs.length) : rd xs (i : Int) = xs[i] := by simp [rd, h]

theorem tl (s : ByteArray) : s.toList = s.data.toList := Lib.toList_data s
theorem tl_inj {x y : ByteArray} : x.toList = y.toList ↔ x = y := by
  rw [tl, tl]
  exact ⟨fun h => ByteArray.ext (Array.toList_inj.1 h), fun h => h ▸ rfl⟩
theorem size_len (s : ByteArray) : s.size = s.data.toList.length := (data_length s).symm
theorem bt_mid {s : ByteArray} {pre t : List UInt8} {c : UInt8} (h : s.data.toList = pre ++ c :: t) : bt s ((pre.length : Nat) : Int) = (c.toNat : Int) := by
  have hs : pre.length < s.size := by rw [size_len, h]; simp
  have hg : s[pre.length]'hs = c := by
    have : s.data.toList[pre.length]'(by rw [h]; simp) = c := by simp [h]
    rw [← this]; rfl
  unfold bt
  rw [dif_pos (by simpa using hs)]
  simp only [Int.toNat_natCast, hg]
theorem lt_size {s : ByteArray} {pre t : List UInt8} {c : UInt8} (h : s.data.toList = pre ++ c :: t) : ((pre.length : Nat) : Int) < (s.size : Int) := by rw [size_len, h]; simp; omega
theorem not_lt_size {s : ByteArray} {pre : List UInt8} (h : s.data.toList = pre ++ []) : ¬ ((pre.length : Nat) : Int) < (s.size : Int) := by rw [size_len, h]; simp
def lessS (a b : ByteArray) : Bool := Op.bytesLess a.toList b.toList
end Go.Proofs.YtpkpjikkfikejaaQ
namespace Go.Proofs.YtpkpjikkfikejaaQ
open Go Go.RowKit Go.Proofs.YtpkpjikkfikejaaW.PrintWords Go.Proofs.YtpkpjikkfikejaaGp Go.Proofs.Ytpkpjikkfikejaa.PN

def mm (x y : Int) : Int := Int.tmod (wrap64 (x * y)) 65521
theorem mul_range {x y : Int} (hx : 0 ≤ x) (hx1 : x ≤ 65520) (hy : 0 ≤ y) (hy1 : y ≤ 65520) : 0 ≤ x * y ∧ x * y ≤ 4292870400 :=
  ⟨Int.mul_nonneg hx hy, by have := Int.mul_le_mul hx1 hy1 hy (by omega); omega⟩
theorem emod_range (x : Int) : 0 ≤ x % 65521 ∧ x % 65521 ≤ 65520 := by omega
theorem mm_eq {x y : Int} (hx : 0 ≤ x) (hx1 : x ≤ 65520) (hy : 0 ≤ y) (hy1 : y ≤ 65520) : mm x y = x * y % 65521 := by
  obtain ⟨h0, h1⟩ := mul_range hx hx1 hy hy1
  unfold mm
  rw [w64 (by omega) (by omega)]
  exact Int.tmod_eq_emod_of_nonneg h0
theorem mm_mod (a b : Int) : mm (a % 65521) (b % 65521) = a * b % 65521 := by
  rw [mm_eq (emod_range a).1 (emod_range a).2 (emod_range b).1 (emod_range b).2]
  exact (Int.mul_emod a b 65521).symm
def pw (h : Int) : Nat → Int
  | 0 => 1
  | n + 1 => pw h n * h
theorem self_mod {h : Int} (h0 : 0 ≤ h) (h1 : h ≤ 65520) : h = h % 65521 := by omega
theorem mm11 {h : Int} (h0 : 0 ≤ h) (h1 : h ≤ 65520) : mm (mm (mm (mm (mm h h) (mm h h)) h) (mm (mm (mm h h) (mm h h)) h)) h = pw h 11 % 65521 := by
  have e := self_mod h0 h1
  have a2 : mm h h = h * h % 65521 := mm_eq h0 h1 h0 h1
  have a4 : mm (mm h h) (mm h h) = (h * h) * (h * h) % 65521 := by rw [a2, mm_mod]
  have a5 : mm (mm (mm h h) (mm h h)) h = (h * h) * (h * h) * h % 65521 := by
    rw [a4]; conv => lhs; arg 2; rw [e]
    rw [mm_mod]
  rw [a5, mm_mod]
  conv => lhs; arg 2; rw [e]
  rw [mm_mod]
  congr 1
  simp only [pw, Int.one_mul, Int.mul_assoc]
theorem mm_pw {h : Int} (h0 : 0 ≤ h) (h1 : h ≤ 65520) (n : Nat) : mm (pw h n % 65521) h = pw h (n + 1) % 65521 := by
  conv => lhs; arg 2; rw [self_mod h0 h1]
  rw [mm_mod]
  rfl

def hstep (h : Int) (c : UInt8) : Int := Int.tmod (wrap64 ((wrap64 (263 * h)) + (wrap64 (c.toNat : Int)))) 65521
def hfold (h : Int) (l : List UInt8) : Int := l.foldl hstep h
theorem hstep_range {h : Int} {c : UInt8} (h0 : 0 ≤ h) (h1 : h ≤ 65520) : 0 ≤ hstep h c ∧ hstep h c ≤ 65520 := by
  have hc : c.toNat < 256 := c.toNat_lt
  unfold hstep
  rw [w64 (x := 263 * h) (by omega) (by omega), w64 (x := (c.toNat : Int)) (by omega) (by omega), w64 (by omega) (by omega), Int.tmod_eq_emod_of_nonneg (by omega)]
  omega
def hstart (a0 a1 : Int) : Int := Int.tmod (wrap64 ((wrap64 ((wrap64 (31 * a0)) + (wrap64 (977 * a1)))) + 7)) 65521
theorem hstart_range {a0 a1 : Int} (h0 : 0 ≤ a0) (h0' : a0 ≤ 1000000) (h1 : 0 ≤ a1) (h1' : a1 ≤ 1000000) : 0 ≤ hstart a0 a1 ∧ hstart a0 a1 ≤ 65520 := by
  unfold hstart
  rw [w64 (x := 31 * a0) (by omega) (by omega), w64 (x := 977 * a1) (by omega) (by omega), w64 (x := 31 * a0 + 977 * a1) (by omega) (by omega), w64 (by omega) (by omega), Int.tmod_eq_emod_of_nonneg (by omega)]
  omega
def hashV (a0 a1 : Int) (s : ByteArray) : Int := pw (hfold (hstart a0 a1) s.data.toList) 11 % 65521
theorem hashV_range (a0 a1 : Int) (s : ByteArray) : 0 ≤ hashV a0 a1 s ∧ hashV a0 a1 s ≤ 65520 := emod_range _
theorem spec_biHash_l0 (x2 : ByteArray) (hz : (x2.size : Int) ≤ 9223372036854775806) : ∀ (t pre : List UInt8) (h : Int), x2.data.toList = pre ++ t → 0 ≤ h → h ≤ 65520 →
    Ev (fun k => spec_biHash.l0 k x2 h (pre.length : Int)) (pw (hfold h t) 11 % 65521) := by
  intro t
  induction t with
  | nil =>
    intro pre h e h0 h1
    refine ev_succ ?_
    simp only [spec_biHash.l0]
    refine ev_neg (not_lt_size e) (ev_some ?_)
    exact mm11 h0 h1
  | cons c t ih =>
    intro pre h e h0 h1
    have hm := lt_size e
    refine ev_succ ?_
    simp only [spec_biHash.l0, bt_mid e]
    refine ev_pos hm (ev_pos (by omega) ?_)
    rw [winc (by omega)]
    have := ih (pre ++ [c]) (hstep h c) (by rw [e]; simp) (hstep_range h0 h1).1 (hstep_range h0 h1).2
    rw [len_one] at this
    exact this
theorem spec_biHash_f (a0 a1 : Int) (s : ByteArray) (hz : (s.size : Int) ≤ 9223372036854775806) (h0 : 0 ≤ a0) (h0' : a0 ≤ 1000000) (h1 : 0 ≤ a1) (h1' : a1 ≤ 1000000) :
    Ev (fun k => spec_biHash.f k a0 a1 s) (hashV a0 a1 s) := by
  unfold spec_biHash.f
  exact spec_biHash_l0 s hz s.data.toList [] _ rfl (hstart_range h0 h0' h1 h1').1 (hstart_range h0 h0' h1 h1').2
theorem impl_hash_l1 {h : Int} (h0 : 0 ≤ h) (h1 : h ≤ 65520) : ∀ (m i : Nat), i + m = 11 → Ev (fun k => impl_hash.l1 k h (pw h i % 65521) (i : Int)) (pw h 11 % 65521) := by
  intro m
  induction m with
  | zero =>
    intro i e
    obtain rfl : i = 11 := by omega
    refine ev_succ ?_
    simp only [impl_hash.l1]
    exact ev_neg (by omega) (ev_some rfl)
  | succ m ih =>
    intro i e
    refine ev_succ ?_
    simp only [impl_hash.l1]
    refine ev_pos (by omega) ?_
    rw [winc (by omega)]
    have := ih (i + 1) (by omega)
    rw [← mm_pw h0 h1 i] at this
    exact this
theorem impl_hash_l0 (x2 : ByteArray) (hz : (x2.size : Int) ≤ 9223372036854775806) : ∀ (t pre : List UInt8) (h : Int), x2.data.toList = pre ++ t → 0 ≤ h → h ≤ 65520 →
    Ev (fun k => impl_hash.l0 k x2 h (x2.size : Int) (pre.length : Int)) (pw (hfold h t) 11 % 65521) := by
  intro t
  induction t with
  | nil =>
    intro pre h e h0 h1
    refine ev_succ ?_
    simp only [impl_hash.l0]
    exact ev_neg (not_lt_size e) (impl_hash_l1 h0 h1 11 0 rfl)
  | cons c t ih =>
    intro pre h e h0 h1
    have hm := lt_size e
    refine ev_succ ?_
    simp only [impl_hash.l0, bt_mid e]
    refine ev_pos hm (ev_pos (by omega) (ev_pos hm ?_))
    rw [winc (by omega)]
    have := ih (pre ++ [c]) (hstep h c) (by rw [e]; simp) (hstep_range h0 h1).1 (hstep_range h0 h1).2
    rw [len_one] at this
    exact this
theorem impl_hash_f (a0 a1 : Int) (s : ByteArray) (hz : (s.size : Int) ≤ 9223372036854775806) (h0 : 0 ≤ a0) (h0' : a0 ≤ 1000000) (h1 : 0 ≤ a1) (h1' : a1 ≤ 1000000) :
    Ev (fun k => impl_hash.f k a0 a1 s) (hashV a0 a1 s) := by
  unfold impl_hash.f
  exact impl_hash_l0 s hz s.data.toList [] _ rfl (hstart_range h0 h0' h1 h1').1 (hstart_range h0 h0' h1 h1').2

def placeV (a0 a1 : Int) (s : ByteArray) (n : Int) : Int := wrap64 (Int.tdiv (wrap64 (hashV a0 a1 s * n)) 65521)
theorem placeV_range (a0 a1 : Int) (s : ByteArray) {n : Int} (h0 : 1 ≤ n) (h1 : n ≤ 1000000) : 0 ≤ placeV a0 a1 s n ∧ placeV a0 a1 s n < n := by
  obtain ⟨a, b⟩ := hashV_range a0 a1 s
  have c := Int.mul_nonneg a (show (0 : Int) ≤ n by omega)
  have d := Int.mul_le_mul_of_nonneg_right b (show (0 : Int) ≤ n by omega)
  unfold placeV
  generalize hashV a0 a1 s * n = y at *
  rw [w64 (x := y) (by omega) (by omega), Int.tdiv_eq_ediv_of_nonneg (by omega), w64 (by omega) (by omega)]
  omega
theorem spec_biPlace_f (a0 a1 : Int) (s : ByteArray) (n : Int) (hz : (s.size : Int) ≤ 9223372036854775806) (h0 : 0 ≤ a0) (h0' : a0 ≤ 1000000) (h1 : 0 ≤ a1) (h1' : a1 ≤ 1000000) :
    Ev (fun k => spec_biPlace.f k a0 a1 s n) (placeV a0 a1 s n) := by
  unfold spec_biPlace.f
  exact ev_bind _ (spec_biHash_f a0 a1 s hz h0 h0' h1 h1') (Ev.now _)
theorem impl_place_f (a0 a1 : Int) (s : ByteArray) (n : Int) (hz : (s.size : Int) ≤ 9223372036854775806) (h0 : 0 ≤ a0) (h0' : a0 ≤ 1000000) (h1 : 0 ≤ a1) (h1' : a1 ≤ 1000000) :
    Ev (fun k => impl_place.f k a0 a1 s n) (placeV a0 a1 s n) := by
  unfold impl_place.f
  exact ev_bind _ (impl_hash_f a0 a1 s hz h0 h0' h1 h1') (Ev.now _)
end Go.Proofs.YtpkpjikkfikejaaQ
namespace Go.Proofs.YtpkpjikkfikejaaQ
open Go Go.RowKit Go.Proofs.YtpkpjikkfikejaaW.PrintWords Go.Proofs.YtpkpjikkfikejaaGp Go.Proofs.Ytpkpjikkfikejaa.PN

def probesL (a0 : Int) (s : ByteArray) (n : Int) : Nat → Nat → List Int
  | 0, _ => []
  | m + 1, i => placeV a0 (i : Int) s n :: probesL a0 s n m (i + 1)
theorem probesL_len (a0 : Int) (s : ByteArray) (n : Int) : ∀ m i, (probesL a0 s n m i).length = m
  | 0, _ => rfl
  | m + 1, i => by simp [probesL, probesL_len a0 s n m]
theorem probesL_range (a0 : Int) (s : ByteArray) {n : Int} (h0 : 1 ≤ n) (h1 : n ≤ 1000000) : ∀ m i, ∀ p ∈ probesL a0 s n m i, 0 ≤ p ∧ p < n
  | 0, _, p, h => by simp [probesL] at h
  | m + 1, i, p, h => by
    simp only [probesL, List.mem_cons] at h
    rcases h with rfl | h
    · exact placeV_range a0 _ s h0 h1
    · exact probesL_range a0 s h0 h1 m (i + 1) p h
theorem spec_fiProbes_l0 (a0 : Int) (n : Int) (s : ByteArray) (hz : (s.size : Int) ≤ 9223372036854775806) (h0 : 0 ≤ a0) (h0' : a0 ≤ 1000000) (x1 : Int) (hx : x1 ≤ 1000000) : ∀ (m i : Nat) (acc : List Int), ((i + m : Nat) : Int) = x1 → acc.length = i →
    Ev (fun k => spec_fiProbes.l0 k a0 x1 n s acc (i : Int)) (acc ++ probesL a0 s n m i) := by
  intro m
  induction m with
  | zero =>
    intro i acc e ha
    refine ev_succ ?_
    simp only [spec_fiProbes.l0, probesL]
    exact ev_neg (by omega) (ev_some (by simp))
  | succ m ih =>
    intro i acc e ha
    refine ev_succ ?_
    simp only [spec_fiProbes.l0, probesL]
    refine ev_pos (by omega) (ev_bind _ (spec_biPlace_f a0 (i : Int) s n hz h0 h0' (by omega) (by omega)) (ev_pos (by omega) ?_))
    rw [winc (by omega)]
    have := ih (i + 1) (acc ++ [placeV a0 (i : Int) s n]) (by omega) (by simp [ha])
    rw [List.append_assoc] at this
    exact this
theorem spec_fiProbes_f (a0 a1 n : Int) (s : ByteArray) (hz : (s.size : Int) ≤ 9223372036854775806) (h0 : 0 ≤ a0) (h0' : a0 ≤ 1000000) (h1 : 0 ≤ a1) (h1' : a1 ≤ 1000000) :
    Ev (fun k => spec_fiProbes.f k a0 a1 n s) (probesL a0 s n a1.toNat 0) := by
  unfold spec_fiProbes.f
  have := spec_fiProbes_l0 a0 n s hz h0 h0' a1 h1' a1.toNat 0 [] (by omega) rfl
  exact this
theorem impl_probesOf_l0 (a0 : Int) (n : Int) (s : ByteArray) (hz : (s.size : Int) ≤ 9223372036854775806) (h0 : 0 ≤ a0) (h0' : a0 ≤ 1000000) (x1 : Int) (hx : x1 ≤ 1000000) : ∀ (m i : Nat) (acc : List Int), ((i + m : Nat) : Int) = x1 → acc.length = i →
    Ev (fun k => impl_probesOf.l0 k a0 n s acc x1 (i : Int)) (acc ++ probesL a0 s n m i) := by
  intro m
  induction m with
  | zero =>
    intro i acc e ha
    refine ev_succ ?_
    simp only [impl_probesOf.l0, probesL]
    exact ev_neg (by omega) (ev_some (by simp))
  | succ m ih =>
    intro i acc e ha
    refine ev_succ ?_
    simp only [impl_probesOf.l0, probesL]
    refine ev_pos (by omega) (ev_bind _ (impl_place_f a0 (i : Int) s n hz h0 h0' (by omega) (by omega)) (ev_pos (by omega) ?_))
    rw [winc (by omega)]
    have := ih (i + 1) (acc ++ [placeV a0 (i : Int) s n]) (by omega) (by simp [ha])
    rw [List.append_assoc] at this
    exact this
theorem impl_probesOf_f (a0 a1 n : Int) (s : ByteArray) (hz : (s.size : Int) ≤ 9223372036854775806) (h0 : 0 ≤ a0) (h0' : a0 ≤ 1000000) (h1 : 0 ≤ a1) (h1' : a1 ≤ 1000000) :
    Ev (fun k => impl_probesOf.f k a0 a1 n s) (probesL a0 s n a1.toNat 0) := by
  unfold impl_probesOf.f
  have := impl_probesOf_l0 a0 n s hz h0 h0' a1 h1' a1.toNat 0 [] (by omega) rfl
  exact this
end Go.Proofs.YtpkpjikkfikejaaQ
namespace Go.Proofs.YtpkpjikkfikejaaQ
open Go Go.RowKit Go.Proofs.YtpkpjikkfikejaaW.PrintWords Go.Proofs.YtpkpjikkfikejaaGp Go.Proofs.Ytpkpjikkfikejaa.PN

theorem ofInt_wrap (a : BitVec 64) : BitVec.ofInt 64 (IntKind.i64.wrap (a.toNat : Int)) = a := by
  have h : a.toNat < 2 ^ 64 := a.isLt
  apply BitVec.eq_of_toNat_eq
  rw [BitVec.toNat_ofInt]
  show ((IntKind.i64.wrap (a.toNat : Int)) % ((2 ^ 64 : Nat) : Int)).toNat = a.toNat
  have e : IntKind.i64.wrap (a.toNat : Int) = if (a.toNat : Int) % 18446744073709551616 ≥ 9223372036854775808 then (a.toNat : Int) % 18446744073709551616 - 18446744073709551616 else (a.toNat : Int) % 18446744073709551616 := by
    unfold IntKind.wrap
    simp [IntKind.bits, IntKind.signed]
  rw [e]
  have h2 : (2 : Nat) ^ 64 = 18446744073709551616 := by decide
  rw [h2] at h ⊢
  split <;> omega
theorem or_andNot (x b : Int) : Go.bits .or .i64 (Go.bits .andNot .i64 x b) b = Go.bits .or .i64 x b := by
  have e : ∀ op y, Go.bits op .i64 y b = IntKind.i64.wrap (((match op with | .and => BitVec.ofInt 64 y &&& BitVec.ofInt 64 b | .or => BitVec.ofInt 64 y ||| BitVec.ofInt 64 b | .xor => BitVec.ofInt 64 y ^^^ BitVec.ofInt 64 b | _ => BitVec.ofInt 64 y &&& ~~~(BitVec.ofInt 64 b)) : BitVec 64).toNat : Int) := fun op y => by
    unfold Go.bits; cases op <;> rfl
  rw [e .or, e .or, e .andNot]
  simp only
  rw [ofInt_wrap]
  congr 2
  apply congrArg
  apply BitVec.eq_of_getLsbD_eq
  intro i hi
  simp only [BitVec.getLsbD_or, BitVec.getLsbD_and, BitVec.getLsbD_not, hi, decide_true, Bool.true_and]
  cases (BitVec.ofInt 64 x).getLsbD i <;> cases (BitVec.ofInt 64 b).getLsbD i <;> rfl

def setV (l : List Int) (p : Int) : List Int := l.set (p / 16).toNat (Go.bits .or .i64 (rd l (p / 16)) (shl .i64 1 (p % 16)))
theorem setV_len (l : List Int) (p : Int) : (setV l p).length = l.length := by simp [setV]
theorem div16 {p : Int} (h0 : 0 ≤ p) (h1 : p ≤ 1000000) : wrap64 (Int.tdiv p 16) = p / 16 ∧ Int.tmod p 16 = p % 16 := by
  rw [Int.tdiv_eq_ediv_of_nonneg h0, Int.tmod_eq_emod_of_nonneg h0, w64 (by omega) (by omega)]
  exact ⟨rfl, rfl⟩
theorem rd_set {l : List Int} {i : Nat} {v : Int} (h : i < l.length) : rd (l.set i v) (i : Int) = v := by simp [rd, h]
theorem spec_biSet_f (n : Int) (l : List Int) {p : Int} (h0 : 0 ≤ p) (h1 : p ≤ 1000000) (h2 : p / 16 < (l.length : Int)) : spec_biSet.f n l p = some (setV l p) := by
  unfold spec_biSet.f
  rw [(div16 h0 h1).1, (div16 h0 h1).2, if_pos (by omega), if_pos h2, if_pos (by omega)]
  rfl
theorem impl_Bits_set_f (n : Int) (l : List Int) {p : Int} (h0 : 0 ≤ p) (h1 : p ≤ 1000000) (h2 : p / 16 < (l.length : Int)) : impl_Bits_set.f n l p true = some (setV l p) := by
  unfold impl_Bits_set.f
  rw [(div16 h0 h1).1, (div16 h0 h1).2, if_pos (by omega), if_pos h2, if_pos (by omega)]
  simp only [Option.bind_some, if_true]
  obtain ⟨q, hq⟩ : ∃ q : Nat, p / 16 = (q : Int) := ⟨(p / 16).toNat, by omega⟩
  unfold setV
  rw [hq] at h2 ⊢
  simp only [Int.toNat_natCast]
  rw [rd_set (by omega), List.set_set, or_andNot]

def addP (l : List Int) (ps : List Int) : List Int := ps.foldl setV l
theorem addP_len : ∀ (ps l : List Int), (addP l ps).length = l.length
  | [], _ => rfl
  | p :: ps, l => (addP_len ps (setV l p)).trans (setV_len l p)
def addK (a0 : Int) (m : Nat) (n : Int) (l : List Int) (ks : List ByteArray) : List Int := ks.foldl (fun l s => addP l (probesL a0 s n m 0)) l
theorem addK_len (a0 : Int) (m : Nat) (n : Int) : ∀ (ks : List ByteArray) (l : List Int), (addK a0 m n l ks).length = l.length
  | [], _ => rfl
  | _ :: ks, l => (addK_len a0 m n ks _).trans (addP_len _ l)
theorem impl_put_l0 (a0 a1 n : Int) (x20 : List Int) (hl : (x20.length : Int) ≤ 9223372036854775806) : ∀ (t pre l : List Int), x20 = pre ++ t → (∀ p ∈ t, 0 ≤ p ∧ p ≤ 1000000 ∧ p / 16 < (l.length : Int)) →
    Ev (fun k => impl_Bloom_put.l0 k x20 (x20.length : Int) (pre.length : Int) a0 a1 n l) (addP l t) := by
  intro t
  induction t with
  | nil =>
    intro pre l e hp
    refine ev_succ ?_
    simp only [impl_Bloom_put.l0]
    exact ev_neg (by rw [e]; exact not_lt_end) (ev_some rfl)
  | cons s t ih =>
    intro pre l e hp
    have hm : ((pre.length : Nat) : Int) < (x20.length : Int) := by rw [e]; exact lt_mid
    have hg : rd x20 (pre.length : Int) = s := by rw [e]; exact rd_mid
    obtain ⟨p0, p1, p2⟩ := hp s (by simp)
    refine ev_succ ?_
    simp only [impl_Bloom_put.l0, hg]
    refine ev_pos hm (ev_pos (by omega) (ev_pos hm (ev_bind (setV l s) (by rw [impl_Bits_set_f n l p0 p1 p2]; exact Ev.now _) ?_)))
    rw [winc (by omega)]
    have := ih (pre ++ [s]) (setV l s) (by rw [e]; simp) (fun p h => by rw [setV_len]; exact hp p (by simp [h]))
    rw [len_one] at this
    exact this
theorem impl_put_f (a0 a1 n : Int) (l : List Int) (s : ByteArray) (hz : (s.size : Int) ≤ 9223372036854775806) (h0 : 0 ≤ a0) (h0' : a0 ≤ 1000000) (h1 : 0 ≤ a1) (h1' : a1 ≤ 1000000)
    (hn : 1 ≤ n) (hn' : n ≤ 1000000) (hl : (n + 15) / 16 ≤ (l.length : Int)) : Ev (fun k => impl_Bloom_put.f k a0 a1 n l s) (addP l (probesL a0 s n a1.toNat 0)) := by
  unfold impl_Bloom_put.f
  refine ev_bind _ (impl_probesOf_f a0 a1 n s hz h0 h0' h1 h1') ?_
  exact impl_put_l0 a0 a1 n _ (by rw [probesL_len]; omega) _ [] l rfl (fun p h => by
    obtain ⟨x, y⟩ := probesL_range a0 s hn hn' _ _ p h
    exact ⟨x, by omega, by omega⟩)
end Go.Proofs.YtpkpjikkfikejaaQ
namespace Go.Proofs.YtpkpjikkfikejaaQ
open Go Go.RowKit Go.Proofs.YtpkpjikkfikejaaW.PrintWords Go.Proofs.YtpkpjikkfikejaaGp Go.Proofs.Ytpkpjikkfikejaa.PN

theorem spec_in (n a b : Int) : spec_l1In.f n a b = some (decide (a ≤ n ∧ n ≤ b)) := by
  unfold spec_l1In.f
  by_cases h : a ≤ n <;> by_cases h' : n ≤ b <;> simp [h, h']
theorem impl_in (n a b : Int) : impl_in.f n a b = some (decide (a ≤ n ∧ n ≤ b)) := by
  unfold impl_in.f
  by_cases h : a ≤ n <;> by_cases h' : n ≤ b <;> simp [h, h']

def byteOk (c : UInt8) : Bool := decide (33 ≤ (c.toNat : Int) ∧ (c.toNat : Int) ≤ 125)
def isKeyB (s : ByteArray) : Bool := s.data.toList.all byteOk && decide (1 ≤ (s.size : Int) ∧ (s.size : Int) ≤ 12)
theorem spec_IsKey_l0 (x0 : ByteArray) (hz : (x0.size : Int) ≤ 9223372036854775806) : ∀ (t pre : List UInt8), x0.data.toList = pre ++ t →
    Ev (fun k => spec_IsKey.l0 k x0 (pre.length : Int)) (t.all byteOk && decide (1 ≤ (x0.size : Int) ∧ (x0.size : Int) ≤ 12)) := by
  intro t
  induction t with
  | nil =>
    intro pre h
    refine ev_succ ?_
    simp only [spec_IsKey.l0, spec_in, Option.bind_some]
    exact ev_neg (not_lt_size h) (ev_some (by simp))
  | cons c t ih =>
    intro pre h
    have hm := lt_size h
    refine ev_succ ?_
    simp only [spec_IsKey.l0, bt_mid h]
    refine ev_pos hm (ev_pos (by omega) ?_)
    by_cases c1 : (c.toNat : Int) < 33
    · exact ev_pos c1 (ev_some (by simp [byteOk]; omega))
    · refine ev_neg c1 ?_
      by_cases c2 : (c.toNat : Int) > 125
      · exact ev_pos c2 (ev_some (by simp [byteOk]; omega))
      · refine ev_neg c2 ?_
        rw [winc (by omega)]
        have := ih (pre ++ [c]) (by rw [h]; simp)
        rw [len_one] at this
        have hb : byteOk c = true := by simp [byteOk]; omega
        simpa [hb] using this
theorem spec_IsKey_f (s : ByteArray) (hz : (s.size : Int) ≤ 9223372036854775806) : Ev (fun k => spec_IsKey.f k s) (isKeyB s) := by
  unfold spec_IsKey.f
  exact spec_IsKey_l0 s hz s.data.toList [] rfl
theorem impl_IsKey_l0 (x0 : ByteArray) (hz : (x0.size : Int) ≤ 9223372036854775806) : ∀ (t pre : List UInt8), x0.data.toList = pre ++ t →
    Ev (fun k => impl_IsKey.l0 k x0 (x0.size : Int) (pre.length : Int)) (t.all byteOk && decide (1 ≤ (x0.size : Int) ∧ (x0.size : Int) ≤ 12)) := by
  intro t
  induction t with
  | nil =>
    intro pre h
    refine ev_succ ?_
    simp only [impl_IsKey.l0, impl_in, Option.bind_some]
    exact ev_neg (not_lt_size h) (ev_some (by simp))
  | cons c t ih =>
    intro pre h
    have hm := lt_size h
    refine ev_succ ?_
    simp only [impl_IsKey.l0, bt_mid h]
    refine ev_pos hm (ev_pos (by omega) (ev_pos hm ?_))
    by_cases c1 : (c.toNat : Int) < 33
    · exact ev_pos c1 (ev_some (by simp [byteOk]; omega))
    · refine ev_neg c1 ?_
      by_cases c2 : (c.toNat : Int) > 125
      · exact ev_pos c2 (ev_some (by simp [byteOk]; omega))
      · refine ev_neg c2 ?_
        rw [winc (by omega)]
        have := ih (pre ++ [c]) (by rw [h]; simp)
        rw [len_one] at this
        have hb : byteOk c = true := by simp [byteOk]; omega
        simpa [hb] using this
theorem impl_IsKey_f (s : ByteArray) (hz : (s.size : Int) ≤ 9223372036854775806) : Ev (fun k => impl_IsKey.f k s) (isKeyB s) := by
  unfold impl_IsKey.f
  exact impl_IsKey_l0 s hz s.data.toList [] rfl
theorem isKeyB_size {s : ByteArray} (h : isKeyB s = true) : 1 ≤ s.size ∧ s.size ≤ 12 := by
  simp [isKeyB] at h
  omega

def keysFrom : Option ByteArray → List ByteArray → Bool
  | _, [] => true
  | p, s :: t => isKeyB s && (match p with | none => true | some q => lessS q s) && keysFrom (some s) t
def areKeysB (l : List ByteArray) : Bool := keysFrom none l && decide ((l.length : Int) ≤ 40)
def lastOf (pre : List ByteArray) : Option ByteArray := pre.getLast?
theorem lastOf_one (pre : List ByteArray) (s : ByteArray) : lastOf (pre ++ [s]) = some s := by simp [lastOf]
theorem lastOf_nil : lastOf [] = none := rfl
theorem last_split {pre : List ByteArray} (h : 0 < pre.length) : ∃ q p, pre = q ++ [p] := by
  obtain ⟨x, hx⟩ : ∃ x, pre.getLast? = some x := by
    cases hp : pre.getLast? with
    | none => rw [List.getLast?_eq_none_iff] at hp; subst hp; simp at h
    | some x => exact ⟨x, rfl⟩
  obtain ⟨q, hq⟩ := List.getLast?_eq_some_iff.1 hx
  exact ⟨q, x, hq⟩

theorem spec_biKeys_l0 (x0 : List ByteArray) (hl : (x0.length : Int) ≤ 9223372036854775806) : ∀ (t pre : List ByteArray), x0 = pre ++ t → (∀ s ∈ t, (s.size : Int) ≤ 9223372036854775806) →
    Ev (fun k => spec_biKeys.l0 k x0 x0 (x0.length : Int) (pre.length : Int)) (keysFrom (lastOf pre) t && decide ((x0.length : Int) ≤ 40)) := by
  intro t
  induction t with
  | nil =>
    intro pre h hs
    refine ev_succ ?_
    simp only [spec_biKeys.l0]
    exact ev_neg (by rw [h]; exact not_lt_end) (ev_some (by simp [keysFrom]))
  | cons s t ih =>
    intro pre h hs
    have hm : ((pre.length : Nat) : Int) < (x0.length : Int) := by rw [h]; exact lt_mid
    have hg : rdOf ByteArray.empty x0 (pre.length : Int) = s := by rw [h]; exact rdOf_mid
    have next := ih (pre ++ [s]) (by rw [h]; simp) (fun x hx => hs x (by simp [hx]))
    rw [len_one, lastOf_one] at next
    refine ev_succ ?_
    simp only [spec_biKeys.l0, hg]
    refine ev_pos hm (ev_pos (by omega) (ev_pos hm (ev_bind _ (spec_IsKey_f s (hs s (by simp))) ?_)))
    cases hk : isKeyB s with
    | false => exact ev_neg (by simp) (ev_some (by simp [keysFrom, hk]))
    | true =>
      refine ev_pos rfl ?_
      by_cases c : 0 < pre.length
      · obtain ⟨q, p, rfl⟩ := last_split c
        have hp : rdOf ByteArray.empty x0 ((q.length : Nat) : Int) = p := by rw [h]; exact rdOf_last
        have hw : wrap64 (((q ++ [p]).length : Int) - 1) = (q.length : Int) := by rw [len_one]; exact wdec (by simp at hm; omega)
        simp only [hw, hp, lastOf_one, keysFrom, hk, Bool.true_and]
        refine ev_pos (by omega) (ev_pos (by omega) (ev_pos (by simp at hm; omega) ?_))
        by_cases c2 : lessS p s = true
        · refine ev_pos c2 ?_
          rw [winc (by omega), c2, Bool.true_and]
          exact next
        · refine ev_neg c2 (ev_some ?_)
          simp only [Bool.not_eq_true] at c2
          simp [c2]
      · obtain rfl := List.length_eq_zero_iff.1 (show pre.length = 0 by omega)
        refine ev_neg (by simp) ?_
        rw [winc (by omega)]
        simp only [lastOf_nil, keysFrom, hk, Bool.true_and]
        exact next
theorem spec_biKeys_f (l : List ByteArray) (hl : (l.length : Int) ≤ 9223372036854775806) (hs : ∀ s ∈ l, (s.size : Int) ≤ 9223372036854775806) : Ev (fun k => spec_biKeys.f k l) (areKeysB l) := by
  unfold spec_biKeys.f
  exact spec_biKeys_l0 l hl l [] rfl hs
theorem impl_AreKeys_l0 (x0 : List ByteArray) (hl : (x0.length : Int) ≤ 9223372036854775806) : ∀ (t pre : List ByteArray), x0 = pre ++ t → (∀ s ∈ t, (s.size : Int) ≤ 9223372036854775806) →
    Ev (fun k => impl_AreKeys.l0 k x0 x0 (x0.length : Int) (pre.length : Int)) (keysFrom (lastOf pre) t && decide ((x0.length : Int) ≤ 40)) := by
  intro t
  induction t with
  | nil =>
    intro pre h hs
    refine ev_succ ?_
    simp only [impl_AreKeys.l0]
    exact ev_neg (by rw [h]; exact not_lt_end) (ev_some (by simp [keysFrom]))
  | cons s t ih =>
    intro pre h hs
    have hm : ((pre.length : Nat) : Int) < (x0.length : Int) := by rw [h]; exact lt_mid
    have hg : rdOf ByteArray.empty x0 (pre.length : Int) = s := by rw [h]; exact rdOf_mid
    have next := ih (pre ++ [s]) (by rw [h]; simp) (fun x hx => hs x (by simp [hx]))
    rw [len_one, lastOf_one] at next
    refine ev_succ ?_
    simp only [impl_AreKeys.l0, hg]
    refine ev_pos hm (ev_pos (by omega) (ev_pos hm (ev_bind _ (impl_IsKey_f s (hs s (by simp))) ?_)))
    cases hk : isKeyB s with
    | false => exact ev_neg (by simp) (ev_some (by simp [keysFrom, hk]))
    | true =>
      refine ev_pos rfl ?_
      by_cases c : 0 < pre.length
      · obtain ⟨q, p, rfl⟩ := last_split c
        have hp : rdOf ByteArray.empty x0 ((q.length : Nat) : Int) = p := by rw [h]; exact rdOf_last
        have hw : wrap64 (((q ++ [p]).length : Int) - 1) = (q.length : Int) := by rw [len_one]; exact wdec (by simp at hm; omega)
        simp only [hw, hp, lastOf_one, keysFrom, hk, Bool.true_and]
        refine ev_pos (by omega) (ev_pos (by omega) (ev_pos (by simp at hm; omega) ?_))
        by_cases c2 : lessS p s = true
        · refine ev_pos c2 ?_
          rw [winc (by omega), c2, Bool.true_and]
          exact next
        · refine ev_neg c2 (ev_some ?_)
          simp only [Bool.not_eq_true] at c2
          simp [c2]
      · obtain rfl := List.length_eq_zero_iff.1 (show pre.length = 0 by omega)
        refine ev_neg (by simp) ?_
        rw [winc (by omega)]
        simp only [lastOf_nil, keysFrom, hk, Bool.true_and]
        exact next
theorem impl_AreKeys_f (l : List ByteArray) (hl : (l.length : Int) ≤ 9223372036854775806) (hs : ∀ s ∈ l, (s.size : Int) ≤ 9223372036854775806) : Ev (fun k => impl_AreKeys.f k l) (areKeysB l) := by
  unfold impl_AreKeys.f
  exact impl_AreKeys_l0 l hl l [] rfl hs
theorem areKeysB_len {l : List ByteArray} (h : areKeysB l = true) : l.length ≤ 40 := by
  simp [areKeysB] at h
  omega
theorem keysFrom_all : ∀ (p : Option ByteArray) (l : List ByteArray), keysFrom p l = true → ∀ s ∈ l, isKeyB s = true
  | _, [], _, s, h => by simp at h
  | p, x :: t, hk, s, h => by
    simp only [keysFrom, Bool.and_eq_true] at hk
    rcases List.mem_cons.1 h with rfl | h
    · exact hk.1.1
    · exact keysFrom_all _ t hk.2 s h
theorem areKeysB_all {l : List ByteArray} (h : areKeysB l = true) : ∀ s ∈ l, isKeyB s = true := by
  simp only [areKeysB, Bool.and_eq_true] at h
  exact keysFrom_all _ _ h.1
end Go.Proofs.YtpkpjikkfikejaaQ
namespace Go.Proofs.YtpkpjikkfikejaaQ
open Go Go.RowKit Go.Proofs.YtpkpjikkfikejaaW.PrintWords Go.Proofs.YtpkpjikkfikejaaGp Go.Proofs.Ytpkpjikkfikejaa.PN

def sizesB (a0 a1 a2 : Int) : Bool := decide (0 ≤ a0 ∧ a0 ≤ 9999) && decide (1 ≤ a1 ∧ a1 ≤ 8) && decide (1 ≤ a2 ∧ a2 ≤ 512)
theorem sizesB_ok {a0 a1 a2 : Int} (h : sizesB a0 a1 a2 = true) : (0 ≤ a0 ∧ a0 ≤ 9999) ∧ (1 ≤ a1 ∧ a1 ≤ 8) ∧ 1 ≤ a2 ∧ a2 ≤ 512 := by
  simp only [sizesB, Bool.and_eq_true, decide_eq_true_eq] at h
  exact ⟨h.1.1, h.1.2, h.2⟩
def blankV (n : Int) : List Int := List.replicate ((n + 15) / 16).toNat 0
theorem blankV_len {n : Int} (h : 1 ≤ n) : ((blankV n).length : Int) = (n + 15) / 16 := by simp [blankV]; omega
theorem words15 {n : Int} (h0 : 1 ≤ n) (h1 : n ≤ 512) : wrap64 (Int.tdiv (wrap64 (n + 15)) 16) = (n + 15) / 16 := by
  rw [w64 (x := n + 15) (by omega) (by omega), Int.tdiv_eq_ediv_of_nonneg (by omega), w64 (by omega) (by omega)]
def bloomV (a0 a1 a2 : Int) (l : List ByteArray) : Int × Int × Int × List Int × Bool :=
  if (sizesB a0 a1 a2 && areKeysB l) = true then (a0, a1, a2, addK a0 a1.toNat a2 (blankV a2) l, true) else (0, 0, 0, [], false)
theorem bloomV_len (a0 a1 a2 : Int) (l : List ByteArray) : (bloomV a0 a1 a2 l).2.2.2.1.length ≤ 40 := by
  unfold bloomV
  split
  · rename_i h
    rw [Bool.and_eq_true] at h
    obtain ⟨_, _, h2, h3⟩ := sizesB_ok h.1
    simp only [addK_len]
    have := blankV_len h2
    omega
  · simp

theorem spec_fiSize_f (a0 a1 a2 : Int) : spec_fiSize.f a0 a1 a2 = some (sizesB a0 a1 a2) := by
  unfold spec_fiSize.f sizesB
  simp only [spec_in, Option.bind_some]
  by_cases h0 : 0 ≤ a0 ∧ a0 ≤ 9999 <;> by_cases h1 : 1 ≤ a1 ∧ a1 ≤ 8 <;> by_cases h2 : 1 ≤ a2 ∧ a2 ≤ 512 <;> simp [h0, h1, h2]
theorem spec_fiAdd_l1 (x18 : List ByteArray) (x19 x20 a0 a1 n : Int) (l' : List Int) (b0 b1 bn : Int) (x32 : List Int) (hl : (x32.length : Int) ≤ 9223372036854775806) {r : Int × Int × Int × List Int} : ∀ (t pre l : List Int), x32 = pre ++ t → (∀ p ∈ t, 0 ≤ p ∧ p ≤ 1000000 ∧ p / 16 < (l.length : Int)) →
    Ev (fun k => spec_fiAdd.l0 k x18 x19 (wrap64 (x20 + 1)) a0 a1 n l' b0 b1 bn (addP l t)) r →
    Ev (fun k => spec_fiAdd.l1 k x18 x19 x20 x32 (x32.length : Int) (pre.length : Int) a0 a1 n l' b0 b1 bn l) r := by
  intro t
  induction t with
  | nil =>
    intro pre l e hp H
    refine ev_succ ?_
    simp only [spec_fiAdd.l1]
    exact ev_neg (by rw [e]; exact not_lt_end) H
  | cons s t ih =>
    intro pre l e hp H
    have hm : ((pre.length : Nat) : Int) < (x32.length : Int) := by rw [e]; exact lt_mid
    have hg : rd x32 (pre.length : Int) = s := by rw [e]; exact rd_mid
    obtain ⟨p0, p1, p2⟩ := hp s (by simp)
    refine ev_succ ?_
    simp only [spec_fiAdd.l1, hg]
    refine ev_pos hm (ev_pos (by omega) (ev_pos hm (ev_bind (setV l s) (by rw [spec_biSet_f bn l p0 p1 p2]; exact Ev.now _) ?_)))
    rw [winc (by omega)]
    have := ih (pre ++ [s]) (setV l s) (by rw [e]; simp) (fun p h => by rw [setV_len]; exact hp p (by simp [h])) H
    rw [len_one] at this
    exact this
theorem spec_fiAdd_l0 (x18 : List ByteArray) (a0 a1 n : Int) (l' : List Int) (b0 b1 bn : Int) (hl : (x18.length : Int) ≤ 9223372036854775806) (h0 : 0 ≤ a0) (h0' : a0 ≤ 1000000) (h1 : 0 ≤ a1) (h1' : a1 ≤ 1000000) (hn : 1 ≤ n) (hn' : n ≤ 1000000) : ∀ (t pre : List ByteArray) (l : List Int), x18 = pre ++ t → (∀ s ∈ t, (s.size : Int) ≤ 9223372036854775806) → (n + 15) / 16 ≤ (l.length : Int) →
    Ev (fun k => spec_fiAdd.l0 k x18 (x18.length : Int) (pre.length : Int) a0 a1 n l' b0 b1 bn l) (b0, b1, bn, addK a0 a1.toNat n l t) := by
  intro t
  induction t with
  | nil =>
    intro pre l e hz hb
    refine ev_succ ?_
    simp only [spec_fiAdd.l0]
    exact ev_neg (by rw [e]; exact not_lt_end) (ev_some rfl)
  | cons s t ih =>
    intro pre l e hz hb
    have hm : ((pre.length : Nat) : Int) < (x18.length : Int) := by rw [e]; exact lt_mid
    have hg : rdOf ByteArray.empty x18 (pre.length : Int) = s := by rw [e]; exact rdOf_mid
    refine ev_succ ?_
    simp only [spec_fiAdd.l0, hg]
    refine ev_pos hm (ev_pos (by omega) (ev_pos hm (ev_bind _ (spec_fiProbes_f a0 a1 n s (hz s (by simp)) h0 h0' h1 h1') ?_)))
    refine spec_fiAdd_l1 _ _ _ _ _ _ _ _ _ _ _ (by rw [probesL_len]; omega) _ [] l rfl (fun p h => by
      obtain ⟨x, y⟩ := probesL_range a0 s hn hn' _ _ p h
      exact ⟨x, by omega, by omega⟩) ?_
    rw [winc (by omega)]
    have := ih (pre ++ [s]) (addP l (probesL a0 s n a1.toNat 0)) (by rw [e]; simp) (fun s h => hz s (by simp [h])) (by rw [addP_len]; exact hb)
    rw [len_one] at this
    exact this
theorem spec_fiAdd_f (a0 a1 n : Int) (l : List Int) (ks : List ByteArray) (hk : (ks.length : Int) ≤ 9223372036854775806) (hz : ∀ s ∈ ks, (s.size : Int) ≤ 9223372036854775806) (hl : (l.length : Int) ≤ 1000000) (h0 : 0 ≤ a0) (h0' : a0 ≤ 1000000) (h1 : 0 ≤ a1) (h1' : a1 ≤ 1000000) (hn : 1 ≤ n) (hn' : n ≤ 1000000) (hb : (n + 15) / 16 ≤ (l.length : Int)) :
    Ev (fun k => spec_fiAdd.f k a0 a1 n l ks) (a0, a1, n, addK a0 a1.toNat n l ks) := by
  have e : spec_biOwn.f n l = some (n, l) := by
    unfold spec_biOwn.f spec_l1Own.f
    simp only [Option.bind_some, List.length_nil, List.nil_append]
    rw [if_pos (by omega)]
    rfl
  unfold spec_fiAdd.f
  rw [e]
  have := spec_fiAdd_l0 ks a0 a1 n l a0 a1 n hk h0 h0' h1 h1' hn hn' ks [] l rfl hz hb
  exact this
theorem spec_BloomOf_f (a0 a1 a2 : Int) (l : List ByteArray) (hl : (l.length : Int) ≤ 9223372036854775806) (hz : ∀ s ∈ l, (s.size : Int) ≤ 9223372036854775806) :
    Ev (fun k => spec_BloomOf.f k a0 a1 a2 l) (bloomV a0 a1 a2 l) := by
  unfold spec_BloomOf.f
  rw [spec_fiSize_f]
  simp only [Option.bind_some]
  by_cases hs : sizesB a0 a1 a2 = true
  · refine ev_pos hs (ev_bind _ (spec_biKeys_f l hl hz) (ev_succ ?_))
    simp only [spec_BloomOf.j0]
    by_cases hk : areKeysB l = true
    · obtain ⟨⟨p0, p1⟩, ⟨p2, p3⟩, p4, p5⟩ := sizesB_ok hs
      have hb : spec_biNew.f a2 = some (a2, blankV a2) := by
        unfold spec_biNew.f
        rw [words15 p4 p5, if_pos (by omega), if_pos (by omega)]
        rfl
      have hn : spec_fiNew.f a0 a1 a2 = some (a0, a1, a2, blankV a2) := by
        unfold spec_fiNew.f
        rw [hb]
        rfl
      have hbl := blankV_len p4
      rw [hn]
      refine ev_neg (by simp [hk]) ?_
      simp only [Option.bind_some]
      refine ev_bind _ (spec_fiAdd_f a0 a1 a2 (blankV a2) l hl hz (by omega) p0 (by omega) (by omega) (by omega) p4 (by omega) (by omega)) (ev_some ?_)
      simp [bloomV, hs, hk]
    · exact ev_pos (by simp [hk]) (ev_some (by simp [bloomV, hk]))
  · refine ev_neg hs (ev_succ ?_)
    simp only [spec_BloomOf.j0]
    exact ev_pos trivial (ev_some (by simp [bloomV, hs]))
end Go.Proofs.YtpkpjikkfikejaaQ
namespace Go.Proofs.YtpkpjikkfikejaaQ
open Go Go.RowKit Go.Proofs.YtpkpjikkfikejaaW.PrintWords Go.Proofs.YtpkpjikkfikejaaGp Go.Proofs.Ytpkpjikkfikejaa.PN

theorem impl_isSeed_f (a0 : Int) : impl_isSeed.f a0 = some (decide (0 ≤ a0 ∧ a0 ≤ 9999)) := by
  unfold impl_isSeed.f
  rw [impl_in]
  rfl
theorem impl_sizesOk_f (a0 a1 a2 : Int) : impl_sizesOk.f a0 a1 a2 = some (sizesB a0 a1 a2) := by
  unfold impl_sizesOk.f sizesB
  simp only [impl_isSeed_f, impl_in, Option.bind_some]
  by_cases h0 : 0 ≤ a0 ∧ a0 ≤ 9999 <;> by_cases h1 : 1 ≤ a1 ∧ a1 ≤ 8 <;> by_cases h2 : 1 ≤ a2 ∧ a2 ≤ 512 <;> simp [h0, h1, h2]
theorem impl_NewBloom_f (a0 a1 a2 : Int) : impl_NewBloom.f a0 a1 a2 = some (if sizesB a0 a1 a2 = true then (a0, a1, a2, blankV a2, true) else (0, 0, 0, [], false)) := by
  unfold impl_NewBloom.f
  rw [impl_sizesOk_f]
  simp only [Option.bind_some]
  by_cases hs : sizesB a0 a1 a2 = true
  · obtain ⟨_, _, p4, p5⟩ := sizesB_ok hs
    have hw : impl_words.f a2 = some ((a2 + 15) / 16) := by
      unfold impl_words.f
      rw [w64 (x := a2 + 16) (by omega) (by omega), w64 (x := a2 + 16 - 1) (by omega) (by omega), Int.tdiv_eq_ediv_of_nonneg (by omega), w64 (by omega) (by omega), show a2 + 16 - 1 = a2 + 15 from by omega]
    have hb : impl_blank.f a2 = some (a2, blankV a2) := by
      unfold impl_blank.f
      rw [hw]
      simp only [Option.bind_some]
      rw [if_pos (by omega), if_pos (by omega)]
      rfl
    rw [hb, if_pos hs, if_pos hs]
    rfl
  · rw [if_neg hs, if_neg hs]
theorem impl_BloomOf_l0 (x29 : List ByteArray) (a0 a1 n : Int) (hl : (x29.length : Int) ≤ 9223372036854775806) (h0 : 0 ≤ a0) (h0' : a0 ≤ 1000000) (h1 : 0 ≤ a1) (h1' : a1 ≤ 1000000) (hn : 1 ≤ n) (hn' : n ≤ 1000000) : ∀ (t pre : List ByteArray) (l : List Int), x29 = pre ++ t → (∀ s ∈ t, (s.size : Int) ≤ 9223372036854775806) → (n + 15) / 16 ≤ (l.length : Int) →
    Ev (fun k => impl_BloomOf.l0 k x29 (x29.length : Int) (pre.length : Int) a0 a1 n l) (a0, a1, n, addK a0 a1.toNat n l t, true) := by
  intro t
  induction t with
  | nil =>
    intro pre l e hz hb
    refine ev_succ ?_
    simp only [impl_BloomOf.l0]
    exact ev_neg (by rw [e]; exact not_lt_end) (ev_some rfl)
  | cons s t ih =>
    intro pre l e hz hb
    have hm : ((pre.length : Nat) : Int) < (x29.length : Int) := by rw [e]; exact lt_mid
    have hg : rdOf ByteArray.empty x29 (pre.length : Int) = s := by rw [e]; exact rdOf_mid
    refine ev_succ ?_
    simp only [impl_BloomOf.l0, hg]
    refine ev_pos hm (ev_pos (by omega) (ev_pos hm (ev_bind _ (impl_put_f a0 a1 n l s (hz s (by simp)) h0 h0' h1 h1' hn hn' hb) ?_)))
    rw [winc (by omega)]
    have := ih (pre ++ [s]) (addP l (probesL a0 s n a1.toNat 0)) (by rw [e]; simp) (fun s h => hz s (by simp [h])) (by rw [addP_len]; exact hb)
    rw [len_one] at this
    exact this
theorem impl_BloomOf_f (a0 a1 a2 : Int) (l : List ByteArray) (hl : (l.length : Int) ≤ 9223372036854775806) (hz : ∀ s ∈ l, (s.size : Int) ≤ 9223372036854775806) :
    Ev (fun k => impl_BloomOf.f k a0 a1 a2 l) (bloomV a0 a1 a2 l) := by
  unfold impl_BloomOf.f
  rw [impl_NewBloom_f]
  simp only [Option.bind_some]
  by_cases hs : sizesB a0 a1 a2 = true
  · obtain ⟨⟨p0, p1⟩, ⟨p2, p3⟩, p4, p5⟩ := sizesB_ok hs
    have hbl := blankV_len p4
    simp only [if_pos hs]
    refine ev_pos trivial (ev_bind _ (impl_AreKeys_f l hl hz) (ev_succ ?_))
    simp only [impl_BloomOf.j0]
    by_cases hk : areKeysB l = true
    · refine ev_neg (by simp [hk]) ?_
      have := impl_BloomOf_l0 l a0 a1 a2 hl p0 (by omega) (by omega) (by omega) p4 (by omega) l [] (blankV a2) rfl hz (by omega)
      simpa [bloomV, hs, hk] using this
    · exact ev_pos (by simp [hk]) (ev_some (by simp [bloomV, hk]))
  · simp only [if_neg hs]
    refine ev_neg (by simp) (ev_succ ?_)
    simp only [impl_BloomOf.j0]
    exact ev_pos trivial (ev_some (by simp [bloomV, hs]))
end Go.Proofs.YtpkpjikkfikejaaQ
namespace Go.Proofs.YtpkpjikkfikejaaQ
open Go Go.RowKit Go.Proofs.YtpkpjikkfikejaaW.PrintWords Go.Proofs.YtpkpjikkfikejaaGp Go.Proofs.Ytpkpjikkfikejaa.PN

def all16 (l : List Int) : Bool := l.all (fun x => decide (0 ≤ x ∧ x ≤ 65535))
def bitsB (n : Int) (l : List Int) : Bool :=
  decide (0 ≤ n ∧ n ≤ 4096) && (decide ((l.length : Int) = (n + 15) / 16) && (all16 l && (decide (n % 16 = 0) || (shr .i64 (rd l ((l.length : Int) - 1)) (n % 16) == 0))))
theorem bitsB_len {n : Int} {l : List Int} (h : bitsB n l = true) : 0 ≤ n ∧ n ≤ 4096 ∧ (l.length : Int) = (n + 15) / 16 := by
  simp only [bitsB, Bool.and_eq_true, decide_eq_true_eq] at h
  exact ⟨h.1.1, h.1.2, h.2.1⟩
theorem spec_l1All_l0 (x0 : List Int) (hl : (x0.length : Int) ≤ 9223372036854775806) : ∀ (t pre : List Int), x0 = pre ++ t →
    Ev (fun k => spec_l1All.l0 k 0 65535 x0 (x0.length : Int) (pre.length : Int)) (all16 t) := by
  intro t
  induction t with
  | nil =>
    intro pre h
    refine ev_succ ?_
    simp only [spec_l1All.l0]
    exact ev_neg (by rw [h]; exact not_lt_end) (ev_some (by simp [all16]))
  | cons s t ih =>
    intro pre h
    have hm : ((pre.length : Nat) : Int) < (x0.length : Int) := by rw [h]; exact lt_mid
    have hg : rd x0 (pre.length : Int) = s := by rw [h]; exact rd_mid
    refine ev_succ ?_
    simp only [spec_l1All.l0, hg, spec_in]
    refine ev_pos hm (ev_pos (by omega) (ev_pos hm (ev_bind _ (Ev.now _) ?_)))
    by_cases c : 0 ≤ s ∧ s ≤ 65535
    · refine ev_pos (by simpa using c) ?_
      rw [winc (by omega)]
      have := ih (pre ++ [s]) (by rw [h]; simp)
      rw [len_one] at this
      rw [show all16 (s :: t) = all16 t from by simp [all16, c]]
      exact this
    · refine ev_neg (by simpa using c) (ev_some ?_)
      have : decide (0 ≤ s ∧ s ≤ 65535) = false := decide_eq_false c
      simp only [all16, List.all_cons, this, Bool.false_and]
theorem spec_l1All_f (l : List Int) (hl : (l.length : Int) ≤ 9223372036854775806) : Ev (fun k => spec_l1All.f k l 0 65535) (all16 l) := by
  unfold spec_l1All.f
  exact spec_l1All_l0 l hl l [] rfl
theorem words_up {n : Int} (h0 : 0 ≤ n) (h1 : n ≤ 4096) : wrap64 (Int.tdiv (wrap64 (n + 15)) 16) = (n + 15) / 16 := by
  rw [w64 (x := n + 15) (by omega) (by omega), Int.tdiv_eq_ediv_of_nonneg (by omega), w64 (by omega) (by omega)]
theorem spec_biGood_f (n : Int) (l : List Int) (hl : (l.length : Int) ≤ 9223372036854775806) : Ev (fun k => spec_biGood.f k n l) (bitsB n l) := by
  unfold spec_biGood.f
  simp only [spec_in]
  refine ev_bind _ (Ev.now _) ?_
  by_cases c : 0 ≤ n ∧ n ≤ 4096
  · refine ev_pos (by simpa using c) ?_
    rw [words_up c.1 c.2]
    by_cases c2 : (l.length : Int) = (n + 15) / 16
    · refine ev_pos c2 (ev_bind _ (spec_l1All_f l hl) ?_)
      by_cases c3 : all16 l = true
      · refine ev_pos c3 ?_
        rw [Int.tmod_eq_emod_of_nonneg c.1]
        by_cases c4 : n % 16 = 0
        · exact ev_pos c4 (ev_some (by simp [bitsB, c, c2, c3, c4]))
        · refine ev_neg c4 ?_
          rw [w64 (x := (l.length : Int) - 1) (by omega) (by omega)]
          refine ev_pos (by omega) (ev_pos (by omega) (ev_pos (by omega) (ev_some ?_)))
          simp [bitsB, c, c2, c3, c4]
      · exact ev_neg c3 (ev_some (by simp [bitsB, c3]))
    · exact ev_neg c2 (ev_some (by simp [bitsB, c2]))
  · refine ev_neg (by simpa using c) (ev_some ?_)
    have : decide (0 ≤ n ∧ n ≤ 4096) = false := decide_eq_false c
    simp only [bitsB, this, Bool.false_and]
theorem impl_IsBits_l0 (n : Int) (x20 : List Int) (c : 0 ≤ n ∧ n ≤ 4096) (c2 : (x20.length : Int) = (n + 15) / 16) : ∀ (t pre : List Int), x20 = pre ++ t →
    Ev (fun k => impl_IsBits.l0 k x20 (x20.length : Int) (pre.length : Int) n x20) (all16 t && (decide (n % 16 = 0) || (shr .i64 (rd x20 ((x20.length : Int) - 1)) (n % 16) == 0))) := by
  intro t
  induction t with
  | nil =>
    intro pre h
    refine ev_succ ?_
    simp only [impl_IsBits.l0]
    refine ev_neg (by rw [h]; exact not_lt_end) ?_
    rw [Int.tmod_eq_emod_of_nonneg c.1]
    by_cases c4 : n % 16 = 0
    · exact ev_pos c4 (ev_some (by simp [all16, c4]))
    · refine ev_neg c4 ?_
      rw [w64 (x := (x20.length : Int) - 1) (by omega) (by omega)]
      refine ev_pos (by omega) (ev_pos (by omega) (ev_pos (by omega) (ev_some ?_)))
      simp [all16, c4]
  | cons s t ih =>
    intro pre h
    have hm : ((pre.length : Nat) : Int) < (x20.length : Int) := by rw [h]; exact lt_mid
    have hg : rd x20 (pre.length : Int) = s := by rw [h]; exact rd_mid
    refine ev_succ ?_
    simp only [impl_IsBits.l0, hg, impl_in]
    refine ev_pos hm (ev_pos (by omega) (ev_pos hm (ev_bind _ (Ev.now _) ?_)))
    by_cases c5 : 0 ≤ s ∧ s ≤ 65535
    · refine ev_pos (by simpa using c5) ?_
      rw [winc (by omega)]
      have := ih (pre ++ [s]) (by rw [h]; simp)
      rw [len_one] at this
      rw [show all16 (s :: t) = all16 t from by simp [all16, c5]]
      exact this
    · refine ev_neg (by simpa using c5) (ev_some ?_)
      have : decide (0 ≤ s ∧ s ≤ 65535) = false := decide_eq_false c5
      simp only [all16, List.all_cons, this, Bool.false_and]
theorem impl_words_f {n : Int} (h0 : 0 ≤ n) (h1 : n ≤ 4096) : impl_words.f n = some ((n + 15) / 16) := by
  unfold impl_words.f
  rw [w64 (x := n + 16) (by omega) (by omega), w64 (x := n + 16 - 1) (by omega) (by omega), Int.tdiv_eq_ediv_of_nonneg (by omega), w64 (by omega) (by omega), show n + 16 - 1 = n + 15 from by omega]
theorem impl_IsBits_f (n : Int) (l : List Int) : Ev (fun k => impl_IsBits.f k n l) (bitsB n l) := by
  unfold impl_IsBits.f
  simp only [impl_in]
  refine ev_bind _ (Ev.now _) ?_
  by_cases c : 0 ≤ n ∧ n ≤ 4096
  · refine ev_pos (by simpa using c) ?_
    rw [impl_words_f c.1 c.2]
    simp only [Option.bind_some]
    refine ev_succ ?_
    simp only [impl_IsBits.j0]
    by_cases c2 : (l.length : Int) = (n + 15) / 16
    · refine ev_neg (by simp [c2]) ?_
      have := impl_IsBits_l0 n l c c2 l [] rfl
      rw [show bitsB n l = (all16 l && (decide (n % 16 = 0) || (shr .i64 (rd l ((l.length : Int) - 1)) (n % 16) == 0))) from by simp [bitsB, c, c2]]
      exact this
    · exact ev_pos (by simpa using c2) (ev_some (by simp [bitsB, c2]))
  · refine ev_neg (by simpa using c) (ev_succ ?_)
    simp only [impl_IsBits.j0]
    refine ev_pos (by trivial) (ev_some ?_)
    have : decide (0 ≤ n ∧ n ≤ 4096) = false := decide_eq_false c
    simp only [bitsB, this, Bool.false_and]
def isBloomB (a0 a1 a2 : Int) (l : List Int) : Bool := sizesB a0 a1 a2 && bitsB a2 l
theorem isBloomB_ok {a0 a1 a2 : Int} {l : List Int} (h : isBloomB a0 a1 a2 l = true) : (0 ≤ a0 ∧ a0 ≤ 9999) ∧ (1 ≤ a1 ∧ a1 ≤ 8) ∧ (1 ≤ a2 ∧ a2 ≤ 512) ∧ (l.length : Int) = (a2 + 15) / 16 := by
  rw [isBloomB, Bool.and_eq_true] at h
  obtain ⟨x, y, z⟩ := sizesB_ok h.1
  exact ⟨x, y, z, (bitsB_len h.2).2.2⟩
theorem spec_fiGood_f (a0 a1 a2 : Int) (l : List Int) (hl : (l.length : Int) ≤ 9223372036854775806) : Ev (fun k => spec_fiGood.f k a0 a1 a2 l) (isBloomB a0 a1 a2 l) := by
  unfold spec_fiGood.f
  refine ev_bind _ (spec_biGood_f a2 l hl) ?_
  rw [spec_fiSize_f]
  by_cases c : bitsB a2 l = true
  · exact ev_pos c (ev_bind _ (Ev.now _) (ev_some (by simp [isBloomB, c])))
  · exact ev_neg c (ev_some (by simp [isBloomB, c]))
theorem impl_IsBloom_f (a0 a1 a2 : Int) (l : List Int) : Ev (fun k => impl_IsBloom.f k a0 a1 a2 l) (isBloomB a0 a1 a2 l) := by
  unfold impl_IsBloom.f
  rw [impl_sizesOk_f]
  simp only [Option.bind_some]
  by_cases c : sizesB a0 a1 a2 = true
  · exact ev_pos c (ev_bind _ (impl_IsBits_f a2 l) (ev_some (by simp [isBloomB, c])))
  · exact ev_neg c (ev_some (by simp [isBloomB, c]))
end Go.Proofs.YtpkpjikkfikejaaQ
namespace Go.Proofs.YtpkpjikkfikejaaQ
open Go Go.RowKit Go.Proofs.YtpkpjikkfikejaaW.PrintWords Go.Proofs.YtpkpjikkfikejaaGp Go.Proofs.Ytpkpjikkfikejaa.PN

def addV (a0 a1 a2 : Int) (l : List Int) (s : ByteArray) : Int × Int × Int × List Int × Bool :=
  if (isBloomB a0 a1 a2 l && isKeyB s) = true then (a0, a1, a2, addP l (probesL a0 s a2 a1.toNat 0), true) else (0, 0, 0, [], false)
theorem impl_BloomAdd_f (a0 a1 a2 : Int) (l : List Int) (s : ByteArray) (hz : (s.size : Int) ≤ 9223372036854775806) : Ev (fun k => impl_BloomAdd.f k a0 a1 a2 l s) (addV a0 a1 a2 l s) := by
  unfold impl_BloomAdd.f
  refine ev_bind _ (impl_IsBloom_f a0 a1 a2 l) ?_
  by_cases c : isBloomB a0 a1 a2 l = true
  · obtain ⟨⟨p0, p1⟩, ⟨p2, p3⟩, ⟨p4, p5⟩, p6⟩ := isBloomB_ok c
    refine ev_pos c (ev_bind _ (impl_IsKey_f s hz) (ev_succ ?_))
    simp only [impl_BloomAdd.j0]
    by_cases c2 : isKeyB s = true
    · have hc : impl_cloneBits.f a2 l = some (a2, l) := by
        unfold impl_cloneBits.f slices_Clone_int_int.f
        simp only [Option.bind_some, List.length_nil, List.nil_append]
        rw [if_pos (by omega)]
        rfl
      rw [hc]
      refine ev_neg (by simp [c2]) ?_
      simp only [Option.bind_some]
      exact ev_bind _ (impl_put_f a0 a1 a2 l s hz p0 (by omega) (by omega) (by omega) p4 (by omega) (by omega)) (ev_some (by simp [addV, c, c2]))
    · exact ev_pos (by simp [c2]) (ev_some (by simp [addV, c2]))
  · refine ev_neg c (ev_succ ?_)
    simp only [impl_BloomAdd.j0]
    exact ev_pos (by trivial) (ev_some (by simp [addV, c]))
end Go.Proofs.YtpkpjikkfikejaaQ
namespace Go.Proofs.YtpkpjikkfikejaaQ
open Go Go.RowKit Go.Proofs.YtpkpjikkfikejaaW.PrintWords Go.Proofs.YtpkpjikkfikejaaGp Go.Proofs.Ytpkpjikkfikejaa.PN

def atV (l : List Int) (p : Int) : Bool := Go.bits .and .i64 (shr .i64 (rd l (p / 16)) (p % 16)) 1 == 1
theorem div16' {p : Int} (h0 : 0 ≤ p) (h1 : p ≤ 1000000) : wrap64 (Int.tdiv p 16) = p / 16 ∧ Int.tmod p 16 = p % 16 := by
  rw [Int.tdiv_eq_ediv_of_nonneg h0, Int.tmod_eq_emod_of_nonneg h0, w64 (by omega) (by omega)]
  exact ⟨rfl, rfl⟩
theorem spec_biAt_f (n : Int) (l : List Int) {p : Int} (h0 : 0 ≤ p) (h1 : p ≤ 1000000) (h2 : p / 16 < (l.length : Int)) : spec_biAt.f n l p = some (atV l p) := by
  unfold spec_biAt.f
  rw [(div16' h0 h1).1, (div16' h0 h1).2, if_pos (by omega), if_pos h2, if_pos (by omega)]
  rfl
theorem impl_Bits_at_f (n : Int) (l : List Int) {p : Int} (h0 : 0 ≤ p) (h1 : p ≤ 1000000) (h2 : p / 16 < (l.length : Int)) : impl_Bits_at.f n l p = some (atV l p) := by
  unfold impl_Bits_at.f
  rw [(div16' h0 h1).1, (div16' h0 h1).2, if_pos (by omega), if_pos h2, if_pos (by omega)]
  rfl
def saysV (a0 a1 n : Int) (l : List Int) (s : ByteArray) : Bool := (probesL a0 s n a1.toNat 0).all (atV l)
theorem impl_says_l0 (a0 a1 n : Int) (l : List Int) (s : ByteArray) (hz : (s.size : Int) ≤ 9223372036854775806) (h0 : 0 ≤ a0) (h0' : a0 ≤ 1000000) (h1' : a1 ≤ 1000000)
    (hn : 1 ≤ n) (hn' : n ≤ 1000000) (hl : (n + 15) / 16 ≤ (l.length : Int)) : ∀ (m i : Nat), ((i + m : Nat) : Int) = a1 → Ev (fun k => impl_Bloom_says.l0 k s a1 (i : Int) a0 a1 n l) ((probesL a0 s n m i).all (atV l)) := by
  intro m
  induction m with
  | zero =>
    intro i e
    refine ev_succ ?_
    simp only [impl_Bloom_says.l0, probesL]
    exact ev_neg (by omega) (ev_some rfl)
  | succ m ih =>
    intro i e
    obtain ⟨p0, p1⟩ := placeV_range a0 (i : Int) s hn hn'
    refine ev_succ ?_
    simp only [impl_Bloom_says.l0, probesL]
    refine ev_pos (by omega) (ev_bind _ (impl_place_f a0 (i : Int) s n hz h0 h0' (by omega) (by omega)) (ev_bind (atV l (placeV a0 (i : Int) s n)) (by rw [impl_Bits_at_f n l p0 (by omega) (by omega)]; exact Ev.now _) ?_))
    by_cases c : atV l (placeV a0 (i : Int) s n) = true
    · refine ev_pos c ?_
      rw [winc (by omega)]
      have := ih (i + 1) (by omega)
      simpa [c] using this
    · exact ev_neg c (ev_some (by simp [c]))
theorem impl_says_f (a0 a1 n : Int) (l : List Int) (s : ByteArray) (hz : (s.size : Int) ≤ 9223372036854775806) (h0 : 0 ≤ a0) (h0' : a0 ≤ 1000000) (h1 : 0 ≤ a1) (h1' : a1 ≤ 1000000)
    (hn : 1 ≤ n) (hn' : n ≤ 1000000) (hl : (n + 15) / 16 ≤ (l.length : Int)) : Ev (fun k => impl_Bloom_says.f k a0 a1 n l s) (saysV a0 a1 n l s) := by
  unfold impl_Bloom_says.f
  have := impl_says_l0 a0 a1 n l s hz h0 h0' h1' hn hn' hl a1.toNat 0 (by omega)
  exact this
end Go.Proofs.YtpkpjikkfikejaaQ
namespace Go.Proofs.YtpkpjikkfikejaaQ
open Go Go.RowKit Go.Proofs.YtpkpjikkfikejaaW.PrintWords Go.Proofs.YtpkpjikkfikejaaW.PrintMore Go.Proofs.YtpkpjikkfikejaaGp

theorem wraps_i64 (n : Int) (h0 : 0 ≤ n) (h1 : n < 2 ^ 62) : IntKind.i64.wrap n = n := by
  rw [IntKind.wrap_i64]
  have : (2 : Int) ^ 62 = 4611686018427387904 := by decide
  omega
theorem bits64 (a b : Nat) (ha : a < 2 ^ 62) (hb : b < 2 ^ 62) : Go.bits .and .i64 a b = ((a &&& b : Nat) : Int) ∧ Go.bits .or .i64 a b = ((a ||| b : Nat) : Int) :=
  bits_nat .i64 62 (by decide) wraps_i64 a b ha hb
theorem two62 : (2 : Nat) ^ 62 = 4611686018427387904 := by decide
theorem two64 : (2 : Nat) ^ 64 = 18446744073709551616 := by decide
theorem pow16 {j : Nat} (h : j < 16) : 2 ^ j < 65536 := by
  have : 2 ^ j ≤ 2 ^ 15 := Nat.pow_le_pow_right (by decide) (by omega)
  have e : (2 : Nat) ^ 15 = 32768 := by decide
  omega
theorem shl1 {j : Nat} (h : j < 16) : shl .i64 1 (j : Int) = ((2 ^ j : Nat) : Int) := by
  unfold shl
  have hj : min (j : Int).toNat IntKind.i64.bits = j := by simp [IntKind.bits]; omega
  rw [hj, Int.one_mul, show ((2 : Int) ^ j) = ((2 ^ j : Nat) : Int) from by simp]
  have hp := pow16 h
  generalize 2 ^ j = z at hp ⊢
  refine wraps_i64 _ (by omega) ?_
  have : (2 : Int) ^ 62 = 4611686018427387904 := by decide
  omega
theorem shrN {w j : Nat} (h : j < 16) : shr .i64 (w : Int) (j : Int) = ((w / 2 ^ j : Nat) : Int) := by
  unfold shr
  have hj : min (j : Int).toNat IntKind.i64.bits = j := by simp [IntKind.bits]; omega
  rw [hj]
  simp
theorem and1 {w j : Nat} (hw : w < 65536) (h : j < 16) : (Go.bits .and .i64 (shr .i64 (w : Int) (j : Int)) 1 == 1) = w.testBit j := by
  have hd : w / 2 ^ j ≤ w := Nat.div_le_self _ _
  have e : Go.bits .and .i64 ((w / 2 ^ j : Nat) : Int) ((1 : Nat) : Int) = (((w / 2 ^ j) &&& 1 : Nat) : Int) := (bits64 _ _ (by rw [two62]; omega) (by rw [two62]; omega)).1
  rw [shrN h, show (1 : Int) = ((1 : Nat) : Int) from rfl, e, Nat.and_one_is_mod, Nat.testBit_eq_decide_div_mod_eq]
  rw [Bool.eq_iff_iff]
  simp only [beq_iff_eq, decide_eq_true_eq]
  omega
theorem or1 {w j : Nat} (hw : w < 65536) (h : j < 16) : Go.bits .or .i64 (w : Int) (shl .i64 1 (j : Int)) = ((w ||| 2 ^ j : Nat) : Int) := by
  have := pow16 h
  rw [shl1 h]
  exact (bits64 _ _ (by rw [two62]; omega) (by rw [two62]; omega)).2
theorem or1_lt {w j : Nat} (hw : w < 65536) (h : j < 16) : w ||| 2 ^ j < 65536 := by
  have e : (65536 : Nat) = 2 ^ 16 := by decide
  rw [e] at hw ⊢
  have := pow16 h
  exact Nat.or_lt_two_pow hw (by omega)
theorem clr1 {w j : Nat} (hw : w < 65536) (h : j < 16) (hz : w.testBit j = false) : Go.bits .andNot .i64 (w : Int) (shl .i64 1 (j : Int)) = (w : Int) := by
  rw [shl1 h]
  have e : Go.bits .andNot .i64 (w : Int) ((2 ^ j : Nat) : Int) = IntKind.i64.wrap (((BitVec.ofInt 64 (w : Int) &&& ~~~ BitVec.ofInt 64 ((2 ^ j : Nat) : Int) : BitVec 64)).toNat : Int) := by unfold Go.bits; rfl
  have z : (BitVec.ofInt 64 (w : Int) &&& ~~~ BitVec.ofInt 64 ((2 ^ j : Nat) : Int) : BitVec 64) = BitVec.ofInt 64 (w : Int) := by
    rw [BitVec.ofInt_natCast, BitVec.ofInt_natCast]
    apply BitVec.eq_of_getLsbD_eq
    intro i hi
    simp only [BitVec.getLsbD_and, BitVec.getLsbD_not, BitVec.getLsbD_ofNat, hi, decide_true, Bool.true_and, Nat.testBit_two_pow]
    by_cases c : j = i
    · subst c; simp [hz]
    · simp [c]
  rw [e, z, BitVec.ofInt_natCast, BitVec.toNat_ofNat, Nat.mod_eq_of_lt (by rw [two64]; omega)]
  refine wraps_i64 _ (by omega) ?_
  have : (2 : Int) ^ 62 = 4611686018427387904 := by decide
  omega

def okW (l : List Int) : Prop := ∀ w ∈ l, 0 ≤ w ∧ w ≤ 65535
def bitN (l : List Int) (p : Nat) : Bool := (l.getD (p / 16) 0).toNat.testBit (p % 16)
theorem rdN {l : List Int} {p : Nat} (h : p / 16 < l.length) : rd l ((p : Int) / 16) = l.getD (p / 16) 0 := by
  have : ((p : Int) / 16) = ((p / 16 : Nat) : Int) := by omega
  rw [this, rd_get h, List.getD_eq_getElem?_getD, List.getElem?_eq_getElem h]
  rfl
theorem okW_get {l : List Int} (hl : okW l) {i : Nat} (h : i < l.length) : ∃ w : Nat, l.getD i 0 = (w : Int) ∧ w < 65536 := by
  have hm := hl _ (List.getElem_mem h)
  rw [List.getD_eq_getElem?_getD, List.getElem?_eq_getElem h]
  exact ⟨l[i].toNat, by simp; omega, by omega⟩
theorem atV_bit {l : List Int} (hl : okW l) {p : Nat} (h : p / 16 < l.length) : atV l (p : Int) = bitN l p := by
  obtain ⟨w, hw, hw2⟩ := okW_get hl h
  unfold atV bitN
  rw [rdN h, hw, show ((p : Int) % 16) = ((p % 16 : Nat) : Int) from by omega, and1 hw2 (by omega)]
  simp
theorem setV_get {l : List Int} (hl : okW l) {p : Nat} (h : p / 16 < l.length) : ∃ w : Nat, w < 65536 ∧ l.getD (p / 16) 0 = (w : Int) ∧ setV l (p : Int) = l.set (p / 16) ((w ||| 2 ^ (p % 16) : Nat) : Int) := by
  obtain ⟨w, hw, hw2⟩ := okW_get hl h
  refine ⟨w, hw2, hw, ?_⟩
  unfold setV
  rw [rdN h, hw, show ((p : Int) % 16) = ((p % 16 : Nat) : Int) from by omega, or1 hw2 (by omega)]
  congr 1
theorem okW_setV {l : List Int} (hl : okW l) {p : Nat} (h : p / 16 < l.length) : okW (setV l (p : Int)) := by
  obtain ⟨w, hw, _, e⟩ := setV_get hl h
  rw [e]
  intro x hx
  rcases List.mem_or_eq_of_mem_set hx with hx | rfl
  · exact hl x hx
  · have := or1_lt hw (show p % 16 < 16 by omega)
    omega
theorem bit_setV {l : List Int} (hl : okW l) {p q : Nat} (h : p / 16 < l.length) : bitN (setV l (p : Int)) q = (decide (p = q) || bitN l q) := by
  obtain ⟨w, hw, hg, e⟩ := setV_get hl h
  rw [e]
  unfold bitN
  by_cases c : p / 16 = q / 16
  · rw [← c, List.getD_eq_getElem?_getD, List.getElem?_set_self (by simpa using h), hg]
    simp only [Option.getD_some, Int.toNat_natCast, Nat.testBit_or, Nat.testBit_two_pow]
    rw [show decide (p % 16 = q % 16) = decide (p = q) from by
      rw [Bool.eq_iff_iff]; simp; omega, Bool.or_comm]
  · rw [List.getD_eq_getElem?_getD, List.getElem?_set_ne c, ← List.getD_eq_getElem?_getD, decide_eq_false (by omega), Bool.false_or]
theorem clrV {l : List Int} (hl : okW l) {p : Nat} (h : p / 16 < l.length) (hz : bitN l p = false) : l.set ((p : Int) / 16).toNat (Go.bits .andNot .i64 (rd l ((p : Int) / 16)) (shl .i64 1 ((p : Int) % 16))) = l := by
  obtain ⟨w, hw, hw2⟩ := okW_get hl h
  unfold bitN at hz
  rw [hw] at hz
  rw [rdN h, hw, show ((p : Int) % 16) = ((p % 16 : Nat) : Int) from by omega, clr1 hw2 (by omega) (by simpa using hz), show ((p : Int) / 16).toNat = p / 16 from by omega, ← hw]
  apply List.ext_getElem?
  intro i
  by_cases c : p / 16 = i
  · subst c
    rw [List.getElem?_set_self (by simpa using h), List.getD_eq_getElem?_getD, List.getElem?_eq_getElem h]
    rfl
  · rw [List.getElem?_set_ne c]

end Go.Proofs.YtpkpjikkfikejaaQ
namespace Go.Proofs.YtpkpjikkfikejaaQ
open Go Go.RowKit Go.Proofs.YtpkpjikkfikejaaW.PrintWords Go.Proofs.YtpkpjikkfikejaaW.PrintMore Go.Proofs.YtpkpjikkfikejaaGp

theorem all16_ok {l : List Int} : all16 l = true ↔ okW l := by
  unfold all16 okW
  rw [List.all_eq_true]
  simp
theorem andN0 {w v : Nat} (h : ∀ j, w.testBit j = true → v.testBit j = true) : Go.bits .andNot .i64 (w : Int) (v : Int) = 0 := by
  have e : Go.bits .andNot .i64 (w : Int) (v : Int) = IntKind.i64.wrap (((BitVec.ofInt 64 (w : Int) &&& ~~~ BitVec.ofInt 64 (v : Int) : BitVec 64)).toNat : Int) := by unfold Go.bits; rfl
  have z : (BitVec.ofInt 64 (w : Int) &&& ~~~ BitVec.ofInt 64 (v : Int) : BitVec 64) = 0#64 := by
    rw [BitVec.ofInt_natCast, BitVec.ofInt_natCast]
    apply BitVec.eq_of_getLsbD_eq
    intro i hi
    simp only [BitVec.getLsbD_and, BitVec.getLsbD_not, BitVec.getLsbD_ofNat, hi, decide_true, Bool.true_and]
    have := h i
    cases hwi : w.testBit i with
    | false => simp
    | true => simp [this hwi]
  rw [e, z]
  rfl
theorem bit_word {l : List Int} {i j : Nat} (hj : j < 16) : bitN l (16 * i + j) = (l.getD i 0).toNat.testBit j := by
  unfold bitN
  rw [show (16 * i + j) / 16 = i from by omega, show (16 * i + j) % 16 = j from by omega]
theorem andN_word {l l' : List Int} (hl : okW l) (hl' : okW l') (h : ∀ q, bitN l q = true → bitN l' q = true) {i : Nat} (hi : i < l.length) (hi' : i < l'.length) : Go.bits .andNot .i64 (rd l (i : Int)) (rd l' (i : Int)) = 0 := by
  obtain ⟨w, hw, hw2⟩ := okW_get hl hi
  obtain ⟨v, hv, _⟩ := okW_get hl' hi'
  have r1 : rd l (i : Int) = (w : Int) := by rw [← hw]; rfl
  have r2 : rd l' (i : Int) = (v : Int) := by rw [← hv]; rfl
  rw [r1, r2]
  refine andN0 fun j hj => ?_
  by_cases c : j < 16
  · have := h (16 * i + j)
    rw [bit_word c, bit_word c, hw, hv] at this
    exact this hj
  · have : w.testBit j = false := Nat.testBit_lt_two_pow (Nat.lt_of_lt_of_le hw2 (by rw [show 65536 = 2 ^ 16 from rfl]; exact Nat.pow_le_pow_right (by omega) (by omega)))
    rw [this] at hj; cases hj
def inW (l : List Int) (ps : List Int) : Prop := ∀ p ∈ ps, 0 ≤ p ∧ p / 16 < (l.length : Int)
theorem atV_int {l : List Int} (hl : okW l) {p : Int} (h0 : 0 ≤ p) (h1 : p / 16 < (l.length : Int)) : atV l p = bitN l p.toNat := by
  have := atV_bit hl (p := p.toNat) (by omega)
  rwa [Int.toNat_of_nonneg h0] at this
theorem addP_ok : ∀ (ps l : List Int), okW l → inW l ps → okW (addP l ps) ∧ ∀ q, bitN (addP l ps) q = (bitN l q || ps.any fun p => decide (p.toNat = q))
  | [], l, h, _ => ⟨h, fun q => by simp [addP]⟩
  | p :: ps, l, h, hp => by
    obtain ⟨p0, p1⟩ := hp p (by simp)
    have e : setV l p = setV l ((p.toNat : Nat) : Int) := by rw [Int.toNat_of_nonneg p0]
    have h1 : okW (setV l p) := by rw [e]; exact okW_setV h (by omega)
    obtain ⟨g1, g2⟩ := addP_ok ps (setV l p) h1 (fun x hx => by rw [setV_len]; exact hp x (by simp [hx]))
    refine ⟨g1, fun q => ?_⟩
    change bitN (addP (setV l p) ps) q = _
    rw [g2, e, bit_setV h (by omega), List.any_cons]
    cases decide (p.toNat = q) <;> simp
theorem addP_all {ps l : List Int} (h : okW l) (hp : inW l ps) : ps.all (atV (addP l ps)) = true := by
  obtain ⟨g1, g2⟩ := addP_ok ps l h hp
  rw [List.all_eq_true]
  intro p hm
  obtain ⟨p0, p1⟩ := hp p hm
  rw [atV_int g1 p0 (by rw [addP_len]; exact p1), g2]
  simp only [Bool.or_eq_true, List.any_eq_true, decide_eq_true_eq]
  exact .inr ⟨p, hm, rfl⟩
theorem bitsB_setV {n : Int} {l : List Int} (h : bitsB n l = true) {p : Int} (h0 : 0 ≤ p) (h1 : p < n) : bitsB n (setV l p) = true := by
  obtain ⟨n0, n1, hlen⟩ := bitsB_len h
  have hl : okW l := by
    simp only [bitsB, Bool.and_eq_true] at h
    exact all16_ok.1 h.2.2.1
  have hp16 : p.toNat / 16 < l.length := by omega
  have e : setV l p = setV l ((p.toNat : Nat) : Int) := by rw [Int.toNat_of_nonneg h0]
  have hl2 : okW (setV l p) := by rw [e]; exact okW_setV hl hp16
  simp only [bitsB, Bool.and_eq_true, decide_eq_true_eq, Bool.or_eq_true, beq_iff_eq] at h ⊢
  refine ⟨h.1, by rw [setV_len]; exact h.2.1, all16_ok.2 hl2, ?_⟩
  rcases h.2.2.2 with c | c
  · exact .inl c
  · by_cases cm : n % 16 = 0
    · exact .inl cm
    right
    rw [setV_len]
    obtain ⟨w, hw, hg, e2⟩ := setV_get hl hp16
    rw [← e] at e2
    obtain ⟨k, hk⟩ : ∃ k : Nat, (l.length : Int) - 1 = (k : Int) := ⟨l.length - 1, by omega⟩
    have hkl : k < l.length := by omega
    obtain ⟨v, hv, _⟩ := okW_get hl hkl
    have hm : n % 16 = (((n % 16).toNat : Nat) : Int) := by omega
    have rv : rd l (k : Int) = (v : Int) := by rw [← hv]; rfl
    rw [hk, hm] at c ⊢
    rw [rv, shrN (by omega)] at c
    rw [e2]
    by_cases ck : p.toNat / 16 = k
    · subst ck
      have hwv : w = v := by rw [hg] at hv; exact Int.ofNat.inj hv
      subst hwv
      have r : rd (l.set (p.toNat / 16) ((w ||| 2 ^ (p.toNat % 16) : Nat) : Int)) ((p.toNat / 16 : Nat) : Int) = ((w ||| 2 ^ (p.toNat % 16) : Nat) : Int) := rd_set hkl
      rw [r, shrN (by omega)]
      have hlt : w < 2 ^ (n % 16).toNat := by
        have hz : w / 2 ^ (n % 16).toNat = 0 := by omega
        rcases (Nat.div_eq_zero_iff).1 hz with hz | hz
        · have := Nat.two_pow_pos (n % 16).toNat
          omega
        · exact hz
      have hpm : p.toNat % 16 < (n % 16).toNat := by omega
      have hlt2 : 2 ^ (p.toNat % 16) < 2 ^ (n % 16).toNat := Nat.pow_lt_pow_right (by decide) hpm
      have := Nat.or_lt_two_pow hlt hlt2
      rw [Nat.div_eq_of_lt this]
      rfl
    · have r : rd (l.set (p.toNat / 16) ((w ||| 2 ^ (p.toNat % 16) : Nat) : Int)) (k : Int) = rd l (k : Int) := by
        simp [rd, List.getElem?_set_ne ck]
      rw [r, rv, shrN (by omega)]
      exact c
theorem bitsB_addP {n : Int} : ∀ (ps : List Int) {l : List Int}, bitsB n l = true → (∀ p ∈ ps, 0 ≤ p ∧ p < n) → bitsB n (addP l ps) = true
  | [], _, h, _ => h
  | p :: ps, l, h, hp => bitsB_addP ps (bitsB_setV h (hp p (by simp)).1 (hp p (by simp)).2) (fun x hx => hp x (by simp [hx]))
end Go.Proofs.YtpkpjikkfikejaaQ
namespace Go.Proofs.YtpkpjikkfikejaaQ
open Go Go.RowKit Go.Proofs.YtpkpjikkfikejaaW.PrintWords Go.Proofs.YtpkpjikkfikejaaGp Go.Proofs.Ytpkpjikkfikejaa.PN

structure Bys (s : List Int) : Prop where
  len : (s.length : Int) ≤ 1048576
  all : ∀ x ∈ s, 0 ≤ x ∧ x ≤ 255
theorem and255 (x : Int) : 0 ≤ Go.bits .and .u64 x 255 ∧ Go.bits .and .u64 x 255 ≤ 255 := by
  have e : Go.bits .and .u64 x 255 = IntKind.u64.wrap (((BitVec.ofInt 64 x &&& BitVec.ofInt 64 255 : BitVec 64)).toNat : Int) := by unfold Go.bits; rfl
  have h : ((BitVec.ofInt 64 x &&& BitVec.ofInt 64 255 : BitVec 64)).toNat ≤ 255 := by
    rw [BitVec.toNat_and]
    exact Nat.and_le_right
  rw [e]
  unfold IntKind.wrap
  simp only [IntKind.bits, IntKind.signed]
  generalize (BitVec.ofInt 64 x &&& BitVec.ofInt 64 255 : BitVec 64).toNat = m at h
  simp
  omega
theorem rd_by {s : List Int} (hs : Bys s) (i : Int) : 0 ≤ rd s i ∧ rd s i ≤ 255 := by
  unfold rd
  by_cases c : i.toNat < s.length
  · rw [List.getD_eq_getElem?_getD, List.getElem?_eq_getElem c]
    exact hs.all _ (List.getElem_mem c)
  · rw [List.getD_eq_getElem?_getD, List.getElem?_eq_none (by omega)]
    simp
theorem next_ok {s : List Int} (hs : Bys s) {p : Int} (sd : Int) (h0 : 0 ≤ p) (h1 : p ≤ 4000000000000000000) :
    ∃ v p' sd', spec_l1Cur_next.f s p sd = some (v, p', sd') ∧ (0 ≤ v ∧ v ≤ 255) ∧ 0 ≤ p' ∧ p' ≤ p + 1 := by
  have hb := rd_by hs p
  have w1 : wrap64 (p + 1) = p + 1 := w64 (by omega) (by omega)
  have w2 : wrap64 (rd s p) = rd s p := w64 (by omega) (by omega)
  unfold spec_l1Cur_next.f
  rw [w1, w2]
  by_cases c : p < (s.length : Int)
  · rw [if_pos c, if_pos h0]
    split
    · exact ⟨_, _, _, rfl, hb, by omega, by omega⟩
    · omega
  · rw [if_neg c, if_neg (by omega)]
    refine ⟨_, _, _, rfl, ?_, by omega, by omega⟩
    have := and255 ((IntKind.u64.wrap ((IntKind.u64.wrap (IntKind.u64.wrap (sd * 6364136223846793005))) + 1442695040888963407)) / 1099511627776)
    rw [w64 (by omega) (by omega)]
    exact this
theorem pick_ok {s : List Int} (hs : Bys s) {p : Int} (sd : Int) {n : Int} (h0 : 0 ≤ p) (h1 : p ≤ 3000000000000000000) :
    ∃ v p' sd', spec_l1Cur_pick.f s p sd n = some (v, p', sd') ∧ (0 ≤ v ∧ (v < n ∨ v = 0)) ∧ 0 ≤ p' ∧ p' ≤ p + 2 := by
  unfold spec_l1Cur_pick.f
  by_cases c : n ≤ 1
  · rw [if_pos c]; exact ⟨_, _, _, rfl, ⟨by omega, .inr rfl⟩, h0, by omega⟩
  obtain ⟨v, p', sd', e, hv, q0, q1⟩ := next_ok hs sd h0 (by omega)
  have hn : ¬ n = 0 := by omega
  rw [if_neg c, e]
  simp only [Option.bind_some, if_neg hn]
  by_cases d : n > 200
  · obtain ⟨u, p2, sd2, e2, hu, r0, r1⟩ := next_ok hs sd' q0 (by omega)
    rw [if_pos d, e2]
    simp only [Option.bind_some]
    refine ⟨_, _, _, rfl, ?_, r0, by omega⟩
    rw [w64 (x := v * 256) (by omega) (by omega), w64 (x := v * 256 + u) (by omega) (by omega), Int.tmod_eq_emod_of_nonneg (by omega)]
    exact ⟨Int.emod_nonneg _ hn, .inl (Int.emod_lt_of_pos _ (by omega))⟩
  · rw [if_neg d]
    refine ⟨_, _, _, rfl, ?_, q0, by omega⟩
    rw [Int.tmod_eq_emod_of_nonneg hv.1]
    exact ⟨Int.emod_nonneg _ hn, .inl (Int.emod_lt_of_pos _ (by omega))⟩
theorem one_ok {s : List Int} (hs : Bys s) {p : Int} (sd : Int) (n : Int) (h0 : 0 ≤ p) (h1 : p ≤ 3000000000000000000) :
    ∃ v p' sd', spec_l1Cur_one.f s p sd n = some (v, p', sd') ∧ 0 ≤ p' ∧ p' ≤ p + 2 := by
  obtain ⟨v, p', sd', e, _, q0, q1⟩ := pick_ok hs sd (n := n) h0 h1
  unfold spec_l1Cur_one.f
  rw [e]
  exact ⟨_, _, _, rfl, q0, q1⟩
theorem among_ok {s : List Int} (hs : Bys s) {p : Int} (sd : Int) {l : List Int} (hl : 0 < l.length) (h0 : 0 ≤ p) (h1 : p ≤ 3000000000000000000) :
    ∃ v p' sd', spec_l1Cur_among.f s p sd l = some (v, p', sd') ∧ v ∈ l ∧ 0 ≤ p' ∧ p' ≤ p + 2 := by
  obtain ⟨v, p', sd', e, hv, q0, q1⟩ := pick_ok hs sd (n := (l.length : Int)) h0 h1
  have hm : rd l v ∈ l := by
    unfold rd
    have : v.toNat < l.length := by omega
    rw [List.getD_eq_getElem?_getD, List.getElem?_eq_getElem this]
    exact List.getElem_mem this
  unfold spec_l1Cur_among.f
  rw [e]
  simp only [Option.bind_some]
  rw [if_pos (by omega), if_pos (by omega)]
  exact ⟨_, _, _, rfl, hm, q0, q1⟩
theorem strOf_size (l : List Int) : (strOfNums l).size = l.length := by simp [strOfNums, ByteArray.size]

def Dr {α : Type} (g : Nat → Option (α × Int × Int)) (p c : Int) (P : α → Prop) : Prop := ∃ v p' sd', Ev g (v, p', sd') ∧ P v ∧ 0 ≤ p' ∧ p' ≤ p + c
theorem key_l1 (s : List Int) (p sd : Int) : ∀ (d : Nat) (x : List Int), 12 - x.length ≤ d → x.length ≤ 12 →
    ∃ v, Ev (fun k => spec_l1Cur_key.l1 k x s p sd) (v, p, sd) ∧ v.size ≤ 12 := by
  intro d
  induction d with
  | zero =>
    intro x h1 h2
    refine ⟨strOfNums x, ev_succ ?_, by rw [strOf_size]; omega⟩
    simp only [spec_l1Cur_key.l1]
    exact ev_neg (by omega) (Ev.now _)
  | succ d ih =>
    intro x h1 h2
    by_cases c : (x.length : Int) < 12
    · obtain ⟨v, e, hv⟩ := ih (x ++ [97]) (by simp; omega) (by simp; omega)
      refine ⟨v, ev_succ ?_, hv⟩
      simp only [spec_l1Cur_key.l1]
      exact ev_pos c (ev_pos (by omega) e)
    · refine ⟨strOfNums x, ev_succ ?_, by rw [strOf_size]; omega⟩
      simp only [spec_l1Cur_key.l1]
      exact ev_neg c (Ev.now _)
theorem key_l0 {s : List Int} (hs : Bys s) : ∀ (n : Nat) (x : List Int) (p sd : Int), x.length + n ≤ 12 → 0 ≤ p → p + 2 * (n : Int) ≤ 2000000000000000000 →
    Dr (fun k => spec_l1Cur_key.l0 k x (n : Int) s p sd) p (2 * (n : Int) + 2) (fun v => v.size ≤ 12) := by
  intro n
  induction n with
  | zero =>
    intro x p sd hx h0 h1
    obtain ⟨v, p', sd', e, q0, q1⟩ := one_ok hs sd 12 h0 (by omega)
    by_cases c : v = true
    · obtain ⟨u, eu, hu⟩ := key_l1 s p' sd' 12 x (by omega) (by omega)
      refine ⟨u, p', sd', ev_succ ?_, hu, q0, by omega⟩
      simp only [spec_l1Cur_key.l0, e]
      exact ev_neg (by omega) (ev_bind _ (Ev.now _) (ev_pos c eu))
    · refine ⟨strOfNums x, p', sd', ev_succ ?_, (by rw [strOf_size]; omega : (strOfNums x).size ≤ 12), q0, by omega⟩
      simp only [spec_l1Cur_key.l0, e]
      exact ev_neg (by omega) (ev_bind _ (Ev.now _) (ev_neg c (Ev.now _)))
  | succ n ih =>
    intro x p sd hx h0 h1
    obtain ⟨v, p', sd', e, hv, q0, q1⟩ := pick_ok hs sd (n := 11) h0 (by omega)
    obtain ⟨u, p2, sd2, eu, hu, r0, r1⟩ := ih (x ++ [bt (⟨#[97, 97, 98, 98, 99, 120, 121, 122, 33, 125, 48]⟩ : ByteArray) v]) p' sd' (by simp; omega) q0 (by omega)
    refine ⟨u, p2, sd2, ev_succ ?_, hu, r0, by omega⟩
    simp only [spec_l1Cur_key.l0, e]
    refine ev_pos (by omega) (ev_bind _ (Ev.now _) (ev_pos hv.1 (ev_pos (by omega) (ev_pos (by omega) ?_))))
    rw [wdec (by omega)]
    exact eu
theorem key_ok {s : List Int} (hs : Bys s) {p : Int} (sd : Int) (h0 : 0 ≤ p) (h1 : p ≤ 1000000000000000000) : Dr (fun k => spec_l1Cur_key.f k s p sd) p 12 (fun v => v.size ≤ 12) := by
  obtain ⟨v, p', sd', e, hv, q0, q1⟩ := pick_ok hs sd (n := 4) h0 (by omega)
  obtain ⟨u, p2, sd2, eu, hu, r0, r1⟩ := key_l0 hs (v.toNat + 1) [] p' sd' (by simp; omega) q0 (by omega)
  refine ⟨u, p2, sd2, ?_, hu, r0, by omega⟩
  unfold spec_l1Cur_key.f
  rw [e]
  refine ev_bind _ (Ev.now _) ?_
  rw [w64 (by omega) (by omega), show 1 + v = ((v.toNat + 1 : Nat) : Int) from by omega]
  exact eu
def insK (s : ByteArray) : List ByteArray → List ByteArray
  | [] => [s]
  | q :: t => if lessS q s = true then q :: insK s t else if q = s then q :: t else s :: q :: t
theorem insK_len (s : ByteArray) : ∀ l, (insK s l).length ≤ l.length + 1
  | [] => by simp [insK]
  | q :: t => by
    have := insK_len s t
    unfold insK
    split
    · simp; omega
    · split <;> simp
theorem insK_mem (s : ByteArray) : ∀ l, ∀ x ∈ insK s l, x = s ∨ x ∈ l
  | [], x, h => by simp [insK] at h; exact .inl h
  | q :: t, x, h => by
    unfold insK at h
    split at h
    · rcases List.mem_cons.1 h with e | e
      · exact .inr (by simp [e])
      · rcases insK_mem s t x e with e | e
        · exact .inl e
        · exact .inr (by simp [e])
    · split at h
      · exact .inr h
      · rcases List.mem_cons.1 h with e | e
        · exact .inl e
        · exact .inr e
theorem putS_l0 (x0 : List ByteArray) (s : ByteArray) (hx : x0.length ≤ 1000000) : ∀ (t pre : List ByteArray), x0 = pre ++ t →
    Ev (fun k => spec_l1PutS.l0 k x0 s (pre.length : Int)) (pre ++ insK s t) := by
  intro t
  induction t with
  | nil =>
    intro pre h
    have hp : x0 = pre := by rw [h, List.append_nil]
    subst hp
    refine ev_succ ?_
    simp only [spec_l1PutS.l0]
    refine ev_neg (by omega) (ev_bind _ (Ev.now _) (ev_pos (by omega) (ev_pos (by omega) (ev_bind _ (Ev.now _) ?_))))
    rw [Int.toNat_natCast, List.take_length, List.nil_append]
    refine ev_pos (by simp; omega) (ev_bind _ (Ev.now _) (ev_pos (by omega) (ev_bind _ (Ev.now _) (ev_bind _ (Ev.now _) (ev_pos (by simp; omega) (ev_some ?_))))))
    simp [insK]
  | cons q t ih =>
    intro pre h
    have hm : ((pre.length : Nat) : Int) < (x0.length : Int) := by rw [h]; exact lt_mid
    have hg : rdOf ByteArray.empty x0 (pre.length : Int) = q := by rw [h]; exact rdOf_mid
    refine ev_succ ?_
    simp only [spec_l1PutS.l0, hg]
    refine ev_pos hm (ev_pos (by omega) ?_)
    unfold insK
    by_cases c : lessS q s = true
    · refine ev_pos c ?_
      rw [winc (by omega), if_pos c]
      have := ih (pre ++ [q]) (by rw [h]; simp)
      rw [len_one] at this
      simpa using this
    · refine ev_neg c ?_
      rw [if_neg c]
      by_cases d : q = s
      · refine ev_pos (tl_inj.2 d) (ev_some ?_)
        rw [if_pos d, h]
      · refine ev_neg (fun e => d (tl_inj.1 e)) (ev_bind _ (Ev.now _) (ev_pos (by omega) (ev_bind _ (Ev.now _) ?_)))
        have et : x0.take pre.length = pre := by rw [h]; simp
        have ed : x0.drop pre.length = q :: t := by rw [h]; simp
        have hl : x0.length = pre.length + (t.length + 1) := by rw [h]; simp
        rw [Int.toNat_natCast, et, ed, List.nil_append, if_neg d]
        refine ev_pos (by simp; omega) (ev_bind _ (Ev.now _) (ev_pos (by omega) (ev_bind _ (Ev.now _) (ev_bind _ (Ev.now _) (ev_pos (by simp; omega) (ev_some ?_))))))
        simp
theorem putS_f (l : List ByteArray) (s : ByteArray) (h : l.length ≤ 1000000) : Ev (fun k => spec_l1PutS.f k l s) (insK s l) := putS_l0 l s h l [] rfl
def Kys (m : Nat) (l : List ByteArray) : Prop := l.length ≤ m ∧ ∀ s ∈ l, s.size ≤ 13
theorem Kys.ins {m : Nat} {l : List ByteArray} (h : Kys m l) {s : ByteArray} (hs : s.size ≤ 13) : Kys (m + 1) (insK s l) :=
  ⟨by have := insK_len s l; have := h.1; omega, fun x hx => by exact (insK_mem s l x hx).elim (fun e => e ▸ hs) (h.2 x)⟩
theorem Kys.one {m : Nat} {l : List ByteArray} (h : Kys m l) {s : ByteArray} (hs : s.size ≤ 13) : Kys (m + 1) (l ++ [s]) :=
  ⟨by have := h.1; simp; omega, fun x hx => by exact (List.mem_append.1 hx).elim (h.2 x) (fun e => List.mem_singleton.1 e ▸ hs)⟩
theorem Kys.mono {m m' : Nat} {l : List ByteArray} (h : Kys m l) (hm : m ≤ m') : Kys m' l := ⟨Nat.le_trans h.1 hm, h.2⟩
theorem keys_l0 {s : List Int} (hs : Bys s) : ∀ (n m : Nat) (x : List ByteArray) (p sd : Int), Kys m x → m + n ≤ 1000 → 0 ≤ p → p + 12 * (n : Int) ≤ 500000000000000000 →
    Dr (fun k => spec_l1Cur_keys.l0 k x (n : Int) s p sd) p (12 * (n : Int)) (Kys (m + n)) := by
  intro n
  induction n with
  | zero =>
    intro m x p sd hx hm h0 h1
    refine ⟨x, p, sd, ev_succ ?_, hx, h0, by omega⟩
    simp only [spec_l1Cur_keys.l0]
    exact ev_neg (by omega) (Ev.now _)
  | succ n ih =>
    intro m x p sd hx hm h0 h1
    obtain ⟨v, p', sd', e, hv, q0, q1⟩ := key_ok hs sd h0 (by omega)
    have hl := hx.1
    obtain ⟨u, p2, sd2, eu, hu, r0, r1⟩ := ih (m + 1) (insK v x) p' sd' (hx.ins (by omega)) (by omega) q0 (by omega)
    refine ⟨u, p2, sd2, ev_succ ?_, hu.mono (by omega), r0, by omega⟩
    simp only [spec_l1Cur_keys.l0]
    refine ev_pos (by omega) (ev_bind _ e (ev_bind _ (putS_f x v (by omega)) ?_))
    rw [wdec (by omega)]
    exact eu
theorem keys_ok {s : List Int} (hs : Bys s) {p : Int} (sd : Int) {n : Nat} (hn : n ≤ 100) (h0 : 0 ≤ p) (h1 : p ≤ 400000000000000000) : Dr (fun k => spec_l1Cur_keys.f k s p sd (n : Int)) p (12 * (n : Int) + 2) (Kys n) := by
  obtain ⟨v, p', sd', e, hv, q0, q1⟩ := pick_ok hs sd (n := (n : Int) + 1) h0 (by omega)
  obtain ⟨u, p2, sd2, eu, hu, r0, r1⟩ := keys_l0 hs v.toNat 0 [] p' sd' ⟨by simp, by simp⟩ (by omega) q0 (by omega)
  refine ⟨u, p2, sd2, ?_, hu.mono (by omega), r0, by omega⟩
  unfold spec_l1Cur_keys.f
  rw [w64 (x := (n : Int) + 1) (by omega) (by omega), e]
  refine ev_bind _ (Ev.now _) ?_
  rw [show ((v.toNat : Nat) : Int) = v from by omega] at eu
  exact eu
end Go.Proofs.YtpkpjikkfikejaaQ
namespace Go.Proofs.YtpkpjikkfikejaaQ
open Go Go.RowKit Go.Proofs.YtpkpjikkfikejaaW.PrintWords Go.Proofs.YtpkpjikkfikejaaGp Go.Proofs.Ytpkpjikkfikejaa.PN

theorem Dr.mono {α : Type} {g : Nat → Option (α × Int × Int)} {p c c' : Int} {P P' : α → Prop} (h : Dr g p c P) (hc : c ≤ c') (hP : ∀ x, P x → P' x) : Dr g p c' P' := by
  obtain ⟨v, p', sd', e, hv, q0, q1⟩ := h
  exact ⟨v, p', sd', e, hP v hv, q0, by omega⟩
theorem seed9_ok {s : List Int} (hs : Bys s) {p : Int} (sd : Int) (h0 : 0 ≤ p) (h1 : p ≤ 1000000000000000000) :
    ∃ v p' sd', spec_l1Cur_seed9.f s p sd = some (v, p', sd') ∧ (-1 ≤ v ∧ v ≤ 10000) ∧ 0 ≤ p' ∧ p' ≤ p + 4 := by
  obtain ⟨v, p', sd', e, hv, q0, q1⟩ := pick_ok hs sd (n := 12) h0 (by omega)
  unfold spec_l1Cur_seed9.f
  rw [e]
  simp only [Option.bind_some]
  by_cases c : v = 0
  · obtain ⟨u, p2, sd2, eu, hu, r0, r1⟩ := among_ok hs sd' (l := [(-1), 9999, 10000]) (by simp) q0 (by omega)
    rw [if_pos c, eu]
    refine ⟨u, p2, sd2, rfl, ?_, r0, by omega⟩
    simp only [List.mem_cons, List.not_mem_nil, or_false] at hu
    omega
  · rw [if_neg c]
    by_cases d : v = 1
    · obtain ⟨u, p2, sd2, eu, hu, r0, r1⟩ := pick_ok hs sd' (n := 10000) q0 (by omega)
      rw [if_pos d, eu]
      exact ⟨u, p2, sd2, rfl, by omega, r0, by omega⟩
    · obtain ⟨u, p2, sd2, eu, hu, r0, r1⟩ := pick_ok hs sd' (n := 20) q0 (by omega)
      rw [if_neg d, eu]
      exact ⟨u, p2, sd2, rfl, by omega, r0, by omega⟩
theorem of_ok {s : List Int} (hs : Bys s) {p : Int} (sd : Int) {l : List ByteArray} (hl : 0 < l.length) (h0 : 0 ≤ p) (h1 : p ≤ 3000000000000000000) :
    ∃ v p' sd', spec_l1Cur_of.f s p sd l = some (v, p', sd') ∧ v ∈ l ∧ 0 ≤ p' ∧ p' ≤ p + 2 := by
  obtain ⟨v, p', sd', e, hv, q0, q1⟩ := pick_ok hs sd (n := (l.length : Int)) h0 h1
  have hm : rdOf ByteArray.empty l v ∈ l := by
    unfold rdOf
    have : v.toNat < l.length := by omega
    rw [List.getD_eq_getElem?_getD, List.getElem?_eq_getElem this]
    exact List.getElem_mem this
  unfold spec_l1Cur_of.f
  rw [e]
  simp only [Option.bind_some]
  rw [if_pos (by omega), if_pos (by omega)]
  exact ⟨_, _, _, rfl, hm, q0, q1⟩
theorem text_ok {s : List Int} (hs : Bys s) {p : Int} (sd : Int) (h0 : 0 ≤ p) (h1 : p ≤ 500000000000000000) : Dr (fun k => spec_l1Cur_text.f k s p sd) p 14 (fun v => v.size ≤ 13) := by
  obtain ⟨v, p', sd', e, hv, q0, q1⟩ := pick_ok hs sd (n := 16) h0 (by omega)
  obtain ⟨u, p2, sd2, eu, hu, r0, r1⟩ := key_ok hs sd' q0 (by omega)
  unfold spec_l1Cur_text.f
  rw [e]
  simp only [Option.bind_some]
  by_cases c0 : v = 0
  · exact ⟨_, p', sd', ev_pos c0 (Ev.now _), by decide, q0, by omega⟩
  · by_cases c1 : v = 1
    · have h1 : (⟨#[32]⟩ : ByteArray).size = 1 := rfl
      refine ⟨u ++ ⟨#[32]⟩, p2, sd2, ev_neg c0 (ev_pos c1 (ev_bind _ eu (ev_pos (by simp only []; omega) (Ev.now _)))), ?_, r0, by omega⟩
      show (u ++ ⟨#[32]⟩ : ByteArray).size ≤ 13
      rw [ByteArray.size_append]
      omega
    · by_cases c2 : v = 2
      · exact ⟨_, p', sd', ev_neg c0 (ev_neg c1 (ev_pos c2 (Ev.now _))), by decide, q0, by omega⟩
      · by_cases c3 : v = 3
        · obtain ⟨x, p3, sd3, ex, hx, t0, t1⟩ := of_ok hs sd' (l := [(⟨#[126]⟩ : ByteArray), (⟨#[125]⟩ : ByteArray), (⟨#[97, 126]⟩ : ByteArray), (⟨#[127]⟩ : ByteArray)]) (by simp) q0 (by omega)
          refine ⟨x, p3, sd3, ev_neg c0 (ev_neg c1 (ev_neg c2 (ev_pos c3 ?_))), ?_, t0, by omega⟩
          · rw [ex]; exact ev_bind _ (Ev.now _) (Ev.now _)
          · simp only [List.mem_cons, List.not_mem_nil, or_false] at hx
            rcases hx with rfl | rfl | rfl | rfl <;> decide
        · exact ⟨u, p2, sd2, ev_neg c0 (ev_neg c1 (ev_neg c2 (ev_neg c3 (ev_bind _ eu (Ev.now _))))), by omega, r0, by omega⟩
theorem many_l0 (s : List Int) (p sd : Int) : ∀ (d i m : Nat) (x : List ByteArray), Kys m x → m + d ≤ 1000 → i + d ≤ 1000 →
    ∃ v, Ev (fun k => spec_l1Cur_many.l0 k ((i + d : Nat) : Int) x (i : Int) s p sd) (v, p, sd) ∧ Kys (m + d) v := by
  intro d
  induction d with
  | zero =>
    intro i m x hx hm hi
    refine ⟨x, ev_succ ?_, hx⟩
    simp only [spec_l1Cur_many.l0]
    exact ev_neg (by omega) (Ev.now _)
  | succ d ih =>
    intro i m x hx hm hi
    have hl := hx.1
    have hz : (strOfNums [(wrap64 (97 + (wrap64 (Int.tdiv (i : Int) 10)))) % 256, (wrap64 (48 + (Int.tmod (i : Int) 10))) % 256]).size ≤ 13 := by rw [strOf_size]; simp
    obtain ⟨v, e, hv⟩ := ih (i + 1) (m + 1) (insK (strOfNums [(wrap64 (97 + (wrap64 (Int.tdiv (i : Int) 10)))) % 256, (wrap64 (48 + (Int.tmod (i : Int) 10))) % 256]) x) (hx.ins hz) (by omega) (by omega)
    refine ⟨v, ev_succ ?_, hv.mono (by omega)⟩
    simp only [spec_l1Cur_many.l0]
    refine ev_pos (by omega) (ev_bind _ (putS_f x _ (by omega)) ?_)
    rw [winc (by omega), show i + (d + 1) = i + 1 + d from by omega]
    exact e
theorem anyKeys_ok {s : List Int} (hs : Bys s) {p : Int} (sd : Int) {n : Nat} (hn : n ≤ 40) (h0 : 0 ≤ p) (h1 : p ≤ 100000000000000000) : Dr (fun k => spec_l1Cur_anyKeys.f k s p sd (n : Int)) p 600 (Kys 42) := by
  obtain ⟨ks, p', sd', e, hv, q0, q1⟩ := keys_ok hs sd (by omega : n ≤ 100) h0 (by omega)
  obtain ⟨v, p2, sd2, e2, hv2, r0, r1⟩ := pick_ok hs sd' (n := 14) q0 (by omega)
  have hl := hv.1
  unfold spec_l1Cur_anyKeys.f
  by_cases c0 : v = 0
  · obtain ⟨u, p3, sd3, eu, hu, t0, t1⟩ := text_ok hs sd2 r0 (by omega)
    refine ⟨ks ++ [u], p3, sd3, ev_bind _ e ?_, (hv.one hu).mono (by omega), t0, by omega⟩
    simp only [e2]
    exact ev_bind _ (Ev.now _) (ev_pos c0 (ev_bind _ eu (ev_pos (by omega) (Ev.now _))))
  · by_cases c1 : v = 1
    · by_cases c : (ks.length : Int) > 0
      · obtain ⟨u, p3, sd3, eu, hu, t0, t1⟩ := pick_ok hs sd2 (n := (ks.length : Int)) r0 (by omega)
        have hm : rdOf ByteArray.empty ks u ∈ ks := by
          unfold rdOf
          have : u.toNat < ks.length := by omega
          rw [List.getD_eq_getElem?_getD, List.getElem?_eq_getElem this]
          exact List.getElem_mem this
        refine ⟨ks ++ [rdOf ByteArray.empty ks u], p3, sd3, ev_bind _ e ?_, (hv.one (hv.2 _ hm)).mono (by omega), t0, by omega⟩
        simp only [e2]
        refine ev_bind _ (Ev.now _) (ev_neg c0 (ev_pos c1 (ev_pos c ?_)))
        simp only [eu]
        exact ev_bind _ (Ev.now _) (ev_pos (by omega) (ev_pos (by omega) (ev_pos (by omega) (Ev.now _))))
      · refine ⟨ks, p2, sd2, ev_bind _ e ?_, hv.mono (by omega), r0, by omega⟩
        simp only [e2]
        exact ev_bind _ (Ev.now _) (ev_neg c0 (ev_pos c1 (ev_neg c (Ev.now _))))
    · by_cases c2 : v = 2
      · obtain ⟨u, p3, sd3, eu, hu, t0, t1⟩ := pick_ok hs sd2 (n := 2) r0 (by omega)
        obtain ⟨y, ey, hy⟩ := many_l0 s p3 sd3 (40 + u.toNat) 0 0 [] ⟨by simp, by simp⟩ (by omega) (by omega)
        refine ⟨y, p3, sd3, ev_bind _ e ?_, hy.mono (by omega), t0, by omega⟩
        simp only [e2]
        refine ev_bind _ (Ev.now _) (ev_neg c0 (ev_neg c1 (ev_pos c2 ?_)))
        simp only [eu]
        refine ev_bind _ (Ev.now _) (ev_bind (y, p3, sd3) ?_ (Ev.now _))
        unfold spec_l1Cur_many.f
        simp only []
        rw [w64 (by omega) (by omega), show 40 + u = ((0 + (40 + u.toNat) : Nat) : Int) from by omega]
        exact ey
      · refine ⟨ks, p2, sd2, ev_bind _ e ?_, hv.mono (by omega), r0, by omega⟩
        simp only [e2]
        exact ev_bind _ (Ev.now _) (ev_neg c0 (ev_neg c1 (ev_neg c2 (Ev.now _))))
theorem big_f {l0 l1 : List Int} (h0 : l0.length ≤ maxLen) (h1 : l1.length ≤ maxLen) : ∃ b, laws_big.f l0 l1 = some b ∧ (b = false → (l0.length : Int) ≤ 1048576 ∧ (l1.length : Int) ≤ 1048576) := by
  rw [maxLen_eq] at h0 h1
  unfold laws_big.f
  by_cases c : (l0.length : Int) > 1048576
  · exact ⟨true, if_pos c, by simp⟩
  · refine ⟨_, if_neg c, fun h => ?_⟩
    rw [decide_eq_false_iff_not, w64 (by omega) (by omega)] at h
    omega
theorem bys {l : List Int} (h : (l.length : Int) ≤ 1048576) (hw : ∀ x ∈ l, (Lit.int .u8 x).wf = true) : Bys l := by
  refine ⟨h, fun x hx => ?_⟩
  have := hw x hx
  simp only [Lit.wf, Bool.and_eq_true, decide_eq_true_eq] at this
  exact this
end Go.Proofs.YtpkpjikkfikejaaQ
namespace Go.Proofs.YtpkpjikkfikejaaQ
open Go Go.RowKit Go.Proofs.YtpkpjikkfikejaaW.PrintWords Go.Proofs.YtpkpjikkfikejaaGp Go.Proofs.Ytpkpjikkfikejaa.PN

theorem biNew_ok {n : Int} (h0 : 0 ≤ n) (h1 : n ≤ 100000) : spec_biNew.f n = some (n, blankV n) := by
  unfold spec_biNew.f
  rw [w64 (x := n + 15) (by omega) (by omega), Int.tdiv_eq_ediv_of_nonneg (by omega), w64 (by omega) (by omega), if_pos (by omega), if_pos (by omega)]
  rfl
theorem blankV_le {n : Int} (h0 : 0 ≤ n) : ((blankV n).length : Int) = (n + 15) / 16 := by simp [blankV]; omega
theorem biSome_l0 (B : List Bool) (n : Int) (hB : B.length ≤ 1000000) : ∀ (t pre : List Bool) (l : List Int), B = pre ++ t → B.length ≤ 16 * l.length →
    ∃ l', Ev (fun k => spec_biSome.l0 k B (B.length : Int) (pre.length : Int) n l) (n, l') ∧ l'.length = l.length := by
  intro t
  induction t with
  | nil =>
    intro pre l h hl
    refine ⟨l, ev_succ ?_, rfl⟩
    simp only [spec_biSome.l0]
    exact ev_neg (by rw [h]; exact not_lt_end) (Ev.now _)
  | cons b t ih =>
    intro pre l h hl
    have hm : ((pre.length : Nat) : Int) < (B.length : Int) := by rw [h]; exact lt_mid
    have hg : rdOf false B (pre.length : Int) = b := by rw [h]; exact rdOf_mid
    by_cases c : b = true
    · obtain ⟨l', e, el⟩ := ih (pre ++ [b]) (setV l (pre.length : Int)) (by rw [h]; simp) (by rw [setV_len]; exact hl)
      rw [len_one] at e
      refine ⟨l', ev_succ ?_, by rw [el, setV_len]⟩
      simp only [spec_biSome.l0, hg]
      rw [winc (by omega)]
      exact ev_pos hm (ev_pos (by omega) (ev_pos hm (ev_pos c (ev_bind (setV l (pre.length : Int)) (by rw [spec_biSet_f n l (by omega) (by omega) (by omega)]; exact Ev.now _) e))))
    · obtain ⟨l', e, el⟩ := ih (pre ++ [b]) l (by rw [h]; simp) hl
      rw [len_one] at e
      refine ⟨l', ev_succ ?_, el⟩
      simp only [spec_biSome.l0, hg]
      rw [winc (by omega)]
      exact ev_pos hm (ev_pos (by omega) (ev_pos hm (ev_neg c e)))
theorem biSome_ok (B : List Bool) (hB : B.length ≤ 1000) : ∃ l, Ev (fun k => spec_biSome.f k B) ((B.length : Int), l) ∧ l.length ≤ 100 := by
  have hb := blankV_le (n := (B.length : Int)) (by omega)
  obtain ⟨l, e, el⟩ := biSome_l0 B (B.length : Int) (by omega) B [] (blankV (B.length : Int)) rfl (by omega)
  refine ⟨l, ?_, by omega⟩
  unfold spec_biSome.f
  rw [biNew_ok (by omega) (by omega)]
  exact ev_bind _ (Ev.now _) e
def DrB (g : Nat → Option (Int × List Int × Int × Int)) (p c : Int) : Prop := ∃ n l p' sd', Ev g (n, l, p', sd') ∧ ((-10 ≤ n ∧ n ≤ 5000) ∧ (l : List Int).length ≤ 1000) ∧ 0 ≤ p' ∧ p' ≤ p + c
theorem bits_l0 {s : List Int} (hs : Bys s) : ∀ (n : Nat) (x : List Bool) (p sd : Int), x.length + n ≤ 1000 → 0 ≤ p → p + 2 * (n : Int) ≤ 900000000000000000 →
    ∃ m l p' sd', Ev (fun k => spec_l1Cur_bits.l0 k x (n : Int) s p sd) (m, l, p', sd') ∧ ((0 ≤ m ∧ m ≤ 1000) ∧ (l : List Int).length ≤ 100) ∧ 0 ≤ p' ∧ p' ≤ p + 2 * (n : Int) := by
  intro n
  induction n with
  | zero =>
    intro x p sd hx h0 h1
    obtain ⟨l, e, hl⟩ := biSome_ok x (by omega)
    refine ⟨(x.length : Int), l, p, sd, ev_succ ?_, ⟨by omega, hl⟩, h0, by omega⟩
    simp only [spec_l1Cur_bits.l0]
    exact ev_neg (by omega) (ev_bind _ e (Ev.now _))
  | succ n ih =>
    intro x p sd hx h0 h1
    obtain ⟨v, p', sd', e, q0, q1⟩ := one_ok hs sd 2 h0 (by omega)
    obtain ⟨m, l, p2, sd2, e2, hm, r0, r1⟩ := ih (x ++ [v]) p' sd' (by simp; omega) q0 (by omega)
    refine ⟨m, l, p2, sd2, ev_succ ?_, hm, r0, by omega⟩
    simp only [spec_l1Cur_bits.l0, e]
    refine ev_pos (by omega) (ev_bind _ (Ev.now _) (ev_pos (by omega) ?_))
    rw [wdec (by omega)]
    exact e2
theorem bits_ok {s : List Int} (hs : Bys s) {p : Int} (sd : Int) {n : Nat} (hn : n ≤ 200) (h0 : 0 ≤ p) (h1 : p ≤ 500000000000000000) :
    ∃ m l p' sd', Ev (fun k => spec_l1Cur_bits.f k s p sd (n : Int)) (m, l, p', sd') ∧ ((0 ≤ m ∧ m ≤ 1000) ∧ (l : List Int).length ≤ 100) ∧ 0 ≤ p' ∧ p' ≤ p + 500 := by
  unfold spec_l1Cur_bits.f
  rw [winc (by omega)]
  obtain ⟨v, p', sd', e, hv, q0, q1⟩ := pick_ok hs sd (n := ((n + 1 : Nat) : Int)) h0 (by omega)
  obtain ⟨m, l, p2, sd2, e2, hm, r0, r1⟩ := bits_l0 hs v.toNat [] p' sd' (by simp; omega) q0 (by omega)
  refine ⟨m, l, p2, sd2, ?_, hm, r0, by omega⟩
  rw [e]
  refine ev_bind _ (Ev.now _) ?_
  rw [show ((v.toNat : Nat) : Int) = v from by omega] at e2
  exact e2
theorem anyBits_j0 (s : List Int) (p sd n : Int) (l : List Int) : Ev (fun k => spec_l1Cur_anyBits.j0 k s p sd n l) (n, l, p, sd) := ev_succ (by simp only [spec_l1Cur_anyBits.j0]; exact Ev.now _)
theorem anyBits_ok {s : List Int} (hs : Bys s) {p : Int} (sd : Int) (h0 : 0 ≤ p) (h1 : p ≤ 400000000000000000) : DrB (fun k => spec_l1Cur_anyBits.f k s p sd) p 600 := by
  obtain ⟨m, l, p1, sd1, e1, ⟨hm, hl⟩, q0, q1⟩ := bits_ok hs sd (n := 40) (by omega) h0 (by omega)
  obtain ⟨v, p2, sd2, e2, hv, r0, r1⟩ := pick_ok hs sd1 (n := 16) q0 (by omega)
  have first : ∀ {r : Int × List Int × Int × Int} {g : Nat → Int × List Int × Int × Int → Option (Int × List Int × Int × Int)}, Ev (fun k => g k (m, l, p1, sd1)) r → Ev (fun k => (spec_l1Cur_bits.f k s p sd 40).bind (g k)) r := fun h => ev_bind _ e1 h
  unfold spec_l1Cur_anyBits.f
  by_cases c0 : v = 0
  · obtain ⟨u, p3, sd3, e3, hu, t0, t1⟩ := pick_ok hs sd2 (n := 2) r0 (by omega)
    refine ⟨m, l ++ [u], p3, sd3, first ?_, ⟨by omega, by simp; omega⟩, t0, by omega⟩
    simp only [e2]
    refine ev_bind _ (Ev.now _) (ev_pos c0 ?_)
    simp only [e3]
    exact ev_bind _ (Ev.now _) (ev_pos (by omega) (anyBits_j0 _ _ _ _ _))
  by_cases c1 : v = 1
  · obtain ⟨u, p3, sd3, e3, hu, t0, t1⟩ := pick_ok hs sd2 (n := 3) r0 (by omega)
    refine ⟨wrap64 (m + wrap64 (u - 1)), l, p3, sd3, first ?_, ⟨?_, by omega⟩, t0, by omega⟩
    · simp only [e2]
      refine ev_bind _ (Ev.now _) (ev_neg c0 (ev_pos c1 ?_))
      simp only [e3]
      exact ev_bind _ (Ev.now _) (anyBits_j0 _ _ _ _ _)
    · rw [w64 (x := u - 1) (by omega) (by omega), w64 (by omega) (by omega)]
      omega
  by_cases c2 : v = 2
  · by_cases cl : (l.length : Int) > 0
    · obtain ⟨u, p3, sd3, e3, hu, t0, t1⟩ := pick_ok hs sd2 (n := (l.length : Int)) r0 (by omega)
      obtain ⟨x, p4, sd4, e4, hx, z0, z1⟩ := among_ok hs sd3 (l := [(-1), 65535, 65536, 40000]) (by simp) t0 (by omega)
      refine ⟨m, l.set u.toNat x, p4, sd4, first ?_, ⟨by omega, by simp; omega⟩, z0, by omega⟩
      simp only [e2]
      refine ev_bind _ (Ev.now _) (ev_neg c0 (ev_neg c1 (ev_pos c2 (ev_pos cl ?_))))
      simp only [e3]
      refine ev_bind _ (Ev.now _) ?_
      simp only [e4]
      exact ev_bind _ (Ev.now _) (ev_pos (by omega) (ev_pos (by omega) (anyBits_j0 _ _ _ _ _)))
    · refine ⟨m, l, p2, sd2, first ?_, ⟨by omega, by omega⟩, r0, by omega⟩
      simp only [e2]
      exact ev_bind _ (Ev.now _) (ev_neg c0 (ev_neg c1 (ev_pos c2 (ev_neg cl (anyBits_j0 _ _ _ _ _)))))
  by_cases c3 : v = 3
  · obtain ⟨u, p3, sd3, e3, hu, t0, t1⟩ := pick_ok hs sd2 (n := 2) r0 (by omega)
    have hw : wrap64 (4096 - u) = 4096 - u := w64 (by omega) (by omega)
    have hb := blankV_le (n := 4096 - u) (by omega)
    refine ⟨4096 - u, blankV (4096 - u), p3, sd3, first ?_, ⟨by omega, by omega⟩, t0, by omega⟩
    simp only [e2]
    refine ev_bind _ (Ev.now _) (ev_neg c0 (ev_neg c1 (ev_neg c2 (ev_pos c3 ?_))))
    simp only [e3]
    refine ev_bind _ (Ev.now _) ?_
    rw [hw, biNew_ok (by omega) (by omega)]
    exact ev_bind _ (Ev.now _) (anyBits_j0 _ _ _ _ _)
  by_cases c4 : v = 4
  · obtain ⟨u, p3, sd3, e3, hu, t0, t1⟩ := pick_ok hs sd2 (n := 5) r0 (by omega)
    have hw : wrap64 (16 * u) = 16 * u := w64 (by omega) (by omega)
    have hb := blankV_le (n := 16 * u) (by omega)
    refine ⟨16 * u, blankV (16 * u), p3, sd3, first ?_, ⟨by omega, by omega⟩, t0, by omega⟩
    simp only [e2]
    refine ev_bind _ (Ev.now _) (ev_neg c0 (ev_neg c1 (ev_neg c2 (ev_neg c3 (ev_pos c4 ?_)))))
    simp only [e3]
    refine ev_bind _ (Ev.now _) ?_
    rw [hw, biNew_ok (by omega) (by omega)]
    exact ev_bind _ (Ev.now _) (anyBits_j0 _ _ _ _ _)
  · refine ⟨m, l, p2, sd2, first ?_, ⟨by omega, by omega⟩, r0, by omega⟩
    simp only [e2]
    exact ev_bind _ (Ev.now _) (ev_neg c0 (ev_neg c1 (ev_neg c2 (ev_neg c3 (ev_neg c4 (anyBits_j0 _ _ _ _ _))))))
theorem probes_ok {s : List Int} (hs : Bys s) {p : Int} (sd : Int) (h0 : 0 ≤ p) (h1 : p ≤ 400000000000000000) : ∃ v p' sd', spec_l1Cur_probes.f s p sd = some (v, p', sd') ∧ 0 ≤ p' ∧ p' ≤ p + 10 := by
  obtain ⟨b, p1, sd1, e1, q0, q1⟩ := one_ok hs sd 10 h0 (by omega)
  unfold spec_l1Cur_probes.f
  rw [e1]
  simp only [Option.bind_some]
  by_cases c : b = true
  · obtain ⟨u, p2, sd2, e2, hu, r0, r1⟩ := among_ok hs sd1 (l := [(-1), 0, 8, 9]) (by simp) q0 (by omega)
    rw [if_pos c, e2]
    exact ⟨u, p2, sd2, rfl, r0, by omega⟩
  · obtain ⟨u, p2, sd2, e2, hu, r0, r1⟩ := pick_ok hs sd1 (n := 4) q0 (by omega)
    rw [if_neg c, e2]
    exact ⟨wrap64 (1 + u), p2, sd2, rfl, r0, by omega⟩
def DrF (g : Nat → Option (Int × Int × Int × List Int × Int × Int)) (p c : Int) : Prop := ∃ a b n l p' sd', Ev g (a, b, n, l, p', sd') ∧ (l : List Int).length ≤ 1000 ∧ 0 ≤ p' ∧ p' ≤ p + c
theorem bloom_j0 (s : List Int) (p sd a b n : Int) (l : List Int) : Ev (fun k => spec_l1Cur_bloom.j0 k s p sd a b n l) (a, b, n, l, p, sd) := ev_succ (by simp only [spec_l1Cur_bloom.j0]; exact Ev.now _)
theorem bloom_ok {s : List Int} (hs : Bys s) {p : Int} (sd : Int) (h0 : 0 ≤ p) (h1 : p ≤ 100000000000000000) : DrF (fun k => spec_l1Cur_bloom.f k s p sd) p 1000 := by
  obtain ⟨v1, p1, sd1, e1, hv1, q0, q1⟩ := pick_ok hs sd (n := 20) h0 (by omega)
  obtain ⟨v2, p2, sd2, e2, hv2, r0, r1⟩ := pick_ok hs sd1 (n := 4) q0 (by omega)
  obtain ⟨v3, p3, sd3, e3, hv3, t0, t1⟩ := among_ok hs sd2 (l := [4, 16, 40, 120]) (by simp) r0 (by omega)
  obtain ⟨v4, p4, sd4, e4, hv4, z0, z1⟩ := pick_ok hs sd3 (n := v3) t0 (by omega)
  obtain ⟨v5, p5, sd5, e5, hv5, y0, y1⟩ := among_ok hs sd4 (l := [2, 5, 9]) (by simp) z0 (by omega)
  simp only [List.mem_cons, List.not_mem_nil, or_false] at hv3 hv5
  obtain ⟨ks, p6, sd6, e6, hk, x0, x1⟩ := keys_ok hs sd5 (n := v5.toNat) (by omega) y0 (by omega)
  rw [show ((v5.toNat : Nat) : Int) = v5 from by omega] at e6
  obtain ⟨v7, p7, sd7, e7, hv7, o0, o1⟩ := pick_ok hs sd6 (n := 30) x0 (by omega)
  have hw2 : wrap64 (1 + v2) = 1 + v2 := w64 (by omega) (by omega)
  have hw4 : wrap64 (1 + v4) = 1 + v4 := w64 (by omega) (by omega)
  have hb := blankV_le (n := 1 + v4) (by omega)
  have hnew : spec_fiNew.f v1 (1 + v2) (1 + v4) = some (v1, 1 + v2, 1 + v4, blankV (1 + v4)) := by
    unfold spec_fiNew.f
    rw [biNew_ok (by omega) (by omega)]
    rfl
  have hadd := spec_fiAdd_f v1 (1 + v2) (1 + v4) (blankV (1 + v4)) ks (by have := hk.1; omega) (fun x hx => by have := hk.2 x hx; omega) (by omega) (by omega) (by omega) (by omega) (by omega) (by omega) (by omega) (by omega)
  have hal : (addK v1 (1 + v2).toNat (1 + v4) (blankV (1 + v4)) ks).length ≤ 100 := by rw [addK_len]; omega
  generalize hL : addK v1 (1 + v2).toNat (1 + v4) (blankV (1 + v4)) ks = L at hadd hal
  have go : ∀ {r : Int × Int × Int × List Int × Int × Int}, Ev (fun k => (if v7 = 0 then ((spec_l1Cur_seed9.f s p7 sd7).bind fun bt436 => (spec_l1Cur_bloom.j0 k s bt436.2.1 bt436.2.2 bt436.1 (1 + v2) (1 + v4) L)) else (if v7 = 1 then ((spec_l1Cur_probes.f s p7 sd7).bind fun bt439 => (spec_l1Cur_bloom.j0 k s bt439.2.1 bt439.2.2 v1 bt439.1 (1 + v4) L)) else (if v7 = 2 then ((spec_l1Cur_anyBits.f k s p7 sd7).bind fun bt442 => (spec_l1Cur_bloom.j0 k s bt442.2.2.1 bt442.2.2.2 v1 (1 + v2) bt442.1 bt442.2.1)) else (if v7 = 3 then (spec_l1Cur_bloom.j0 k s p7 sd7 v1 (1 + v2) (wrap64 (1 + v4 + 1)) L) else (spec_l1Cur_bloom.j0 k s p7 sd7 v1 (1 + v2) (1 + v4) L)))))) r →
      Ev (fun k => spec_l1Cur_bloom.f k s p sd) r := fun {r} h => by
    unfold spec_l1Cur_bloom.f
    simp only [e1, Option.bind_some, e2, e3, e4, hw2, hw4, hnew, e5]
    refine ev_bind _ e6 (ev_bind _ hadd ?_)
    simp only [e7, Option.bind_some]
    exact h
  by_cases c0 : v7 = 0
  · obtain ⟨u, p8, sd8, e8, _, w0, w1⟩ := seed9_ok hs sd7 o0 (by omega)
    refine ⟨u, 1 + v2, 1 + v4, L, p8, sd8, go (ev_pos c0 ?_), by omega, w0, by omega⟩
    rw [e8]
    exact ev_bind _ (Ev.now _) (bloom_j0 _ _ _ _ _ _ _)
  by_cases c1 : v7 = 1
  · obtain ⟨u, p8, sd8, e8, w0, w1⟩ := probes_ok hs sd7 o0 (by omega)
    refine ⟨v1, u, 1 + v4, L, p8, sd8, go (ev_neg c0 (ev_pos c1 ?_)), by omega, w0, by omega⟩
    rw [e8]
    exact ev_bind _ (Ev.now _) (bloom_j0 _ _ _ _ _ _ _)
  by_cases c2 : v7 = 2
  · obtain ⟨n, l, p8, sd8, e8, hl, w0, w1⟩ := anyBits_ok hs sd7 o0 (by omega)
    exact ⟨v1, 1 + v2, n, l, p8, sd8, go (ev_neg c0 (ev_neg c1 (ev_pos c2 (ev_bind _ e8 (bloom_j0 _ _ _ _ _ _ _))))), hl.2, w0, by omega⟩
  by_cases c3 : v7 = 3
  · exact ⟨v1, 1 + v2, wrap64 (1 + v4 + 1), L, p7, sd7, go (ev_neg c0 (ev_neg c1 (ev_neg c2 (ev_pos c3 (bloom_j0 _ _ _ _ _ _ _))))), by omega, o0, by omega⟩
  · exact ⟨v1, 1 + v2, 1 + v4, L, p7, sd7, go (ev_neg c0 (ev_neg c1 (ev_neg c2 (ev_neg c3 (bloom_j0 _ _ _ _ _ _ _))))), by omega, o0, by omega⟩
end Go.Proofs.YtpkpjikkfikejaaQ
namespace Go.Proofs.Ytpkpjikkfikejaa.Pure
open Go Go.RowKit Go.Proofs.YtpkpjikkfikejaaW.PrintWords Go.Proofs.YtpkpjikkfikejaaW.PrintMore Go.Proofs.YtpkpjikkfikejaaGp Go.Proofs.Ytpkpjikkfikejaa.PN Go.Proofs.YtpkpjikkfikejaaQ

theorem same_l0 (x0 y0 : List Int) (hl : (x0.length : Int) ≤ 9223372036854775806) (hy : y0.length = x0.length) : ∀ (t pre u pru : List Int), x0 = pre ++ t → y0 = pru ++ u → pru.length = pre.length →
    Ev (fun k => laws_pSameInts.l0 k x0 y0 (x0.length : Int) (pre.length : Int)) (decide (t = u)) := by
  intro t
  induction t with
  | nil =>
    intro pre u pru h h2 hp
    have : u = [] := by
      have e1 : y0.length = pru.length + u.length := by rw [h2]; simp
      have e2 : x0.length = pre.length := by rw [h]; simp
      exact List.length_eq_zero_iff.1 (by omega)
    subst this
    refine ev_succ ?_
    simp only [laws_pSameInts.l0]
    exact ev_neg (by rw [h]; exact not_lt_end) (ev_some (by simp))
  | cons x t ih =>
    intro pre u pru h h2 hp
    have hm : ((pre.length : Nat) : Int) < (x0.length : Int) := by rw [h]; exact lt_mid
    have hg : rd x0 (pre.length : Int) = x := by rw [h]; exact rd_mid
    cases u with
    | nil =>
      have e1 : y0.length = pru.length := by rw [h2]; simp
      omega
    | cons y u =>
      have hg2 : rd y0 (pre.length : Int) = y := by rw [h2, ← hp]; exact rd_mid
      refine ev_succ ?_
      simp only [laws_pSameInts.l0, hg, hg2]
      by_cases c : x = y
      · subst c
        have := ih (pre ++ [x]) u (pru ++ [x]) (by rw [h]; simp) (by rw [h2]; simp) (by simp [hp])
        rw [len_one] at this
        rw [show decide (x :: t = x :: u) = decide (t = u) from by simp, winc (by omega)]
        exact ev_pos hm (ev_pos (by omega) (ev_pos hm (ev_pos (by omega) (ev_pos rfl this))))
      · rw [decide_eq_false (fun e => c (List.cons.inj e).1)]
        exact ev_pos hm (ev_pos (by omega) (ev_pos hm (ev_pos (by omega) (ev_neg c (Ev.now _)))))
theorem same_f (l l' : List Int) (hl : (l.length : Int) ≤ 9223372036854775806) (h : l'.length = l.length) : Ev (fun k => laws_pSameInts.f k l l') (decide (l = l')) := by
  unfold laws_pSameInts.f
  exact ev_pos (by omega) (same_l0 l l' hl h l [] l' [] rfl rfl rfl)
theorem rSame_f (a b n : Int) (l l' : List Int) (hl : (l.length : Int) ≤ 9223372036854775806) (h : l'.length = l.length) : Ev (fun k => laws_rSameBloom.f k a b n l a b n l') (decide (l = l')) := by
  unfold laws_rSameBloom.f laws_pSameBits.f
  exact ev_pos rfl (ev_pos rfl (ev_bind _ (ev_pos rfl (ev_bind _ (same_f l l' hl h) (Ev.now _))) (Ev.now _)))
def hasV (a0 a1 a2 : Int) (l : List Int) (s : ByteArray) : Bool × Bool := if (isBloomB a0 a1 a2 l && isKeyB s) = true then (saysV a0 a1 a2 l s, true) else (false, false)
theorem impl_BloomHas_f (a0 a1 a2 : Int) (l : List Int) (s : ByteArray) (hz : (s.size : Int) ≤ 9223372036854775806) : Ev (fun k => impl_BloomHas.f k a0 a1 a2 l s) (hasV a0 a1 a2 l s) := by
  unfold impl_BloomHas.f
  refine ev_bind _ (impl_IsBloom_f a0 a1 a2 l) ?_
  by_cases c : isBloomB a0 a1 a2 l = true
  · obtain ⟨⟨p0, p1⟩, ⟨p2, p3⟩, ⟨p4, p5⟩, p6⟩ := isBloomB_ok c
    refine ev_pos c (ev_bind _ (impl_IsKey_f s hz) ?_)
    by_cases c2 : isKeyB s = true
    · exact ev_pos c2 (ev_bind _ (impl_says_f a0 a1 a2 l s hz p0 (by omega) (by omega) (by omega) p4 (by omega) (by omega)) (ev_some (by simp [hasV, c, c2])))
    · exact ev_neg c2 (ev_some (by simp [hasV, c2]))
  · exact ev_neg c (ev_some (by simp [hasV, c]))
theorem bitsB_of {a0 a1 a2 : Int} {l : List Int} (h : isBloomB a0 a1 a2 l = true) : bitsB a2 l = true := by
  rw [isBloomB, Bool.and_eq_true] at h; exact h.2
theorem sizesB_of {a0 a1 a2 : Int} {l : List Int} (h : isBloomB a0 a1 a2 l = true) : sizesB a0 a1 a2 = true := by
  rw [isBloomB, Bool.and_eq_true] at h; exact h.1
theorem okW_of {a0 a1 a2 : Int} {l : List Int} (h : isBloomB a0 a1 a2 l = true) : okW l := by
  have := bitsB_of h
  simp only [bitsB, Bool.and_eq_true] at this
  exact all16_ok.1 this.2.2.1
end Go.Proofs.Ytpkpjikkfikejaa.Pure
