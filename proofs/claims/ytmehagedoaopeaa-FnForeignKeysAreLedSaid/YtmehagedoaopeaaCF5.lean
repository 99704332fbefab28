import Derived.Test.YtmehagedoaopeaaCF1
import Derived.Test.YtmehagedoaopeaaCF3
import Derived.Test.YtmehagedoaopeaaCF4
import Derived.Test.YtmehagedoaopeaaCF0
import Derived.Lib.Bytes
import Derived.Test.YtmehagedoaopeaaCF2
import Derived.Laws.BitsLemmas
-- printed by a program of this session (wip/gp) out of the translation; Lean checks it
namespace Go.Proofs.Ytmehagedoaopeaa.PF
open Go.RowKit Go.Proofs.YtmehagedoaopeaaW.PrintWords Go.Proofs.YtmehagedoaopeaaW.PrintLast Go.Proofs.YtmehagedoaopeaaW.PrintMore Go.Proofs.YtmehagedoaopeaaSq
attribute [local go_sem] max2_int min2_int max_two min_two max_three min_three max_four min_four   -- for this text's walks alone
attribute [local go_sem] Go.Proofs.YtmehagedoaopeaaGp.str_geq Go.Proofs.YtmehagedoaopeaaGp.str_gtr Go.Proofs.YtmehagedoaopeaaGp.str_leq
set_option linter.unusedVariables false
set_option linter.unusedSimpArgs false

set_option maxHeartbeats 8000000
set_option maxRecDepth 100000
def impl_IsRanked.f (k : Nat) (a0_0 : Int) (l0_1 : List Int) (l0_2 : List Int) (l0_3 : List Int) : Option (Bool) := (impl_IsBits.f k a0_0 l0_1).bind fun t593 => (if t593 = true then ((impl_ranked.f k a0_0 l0_1).bind fun bt594 => ((slices_Equal_int_int.f k bt594.2.2.1 l0_2).bind fun t605 => (if t605 = true then ((slices_Equal_int_int.f k bt594.2.2.2 l0_3).bind fun t606 => (some t606)) else (some false)))) else (some false))
theorem impl_IsRanked.calls (k : Nat) (a0_0 : Int) (A0_1 : Option Addr) (c0_1 : Nat) (l0_1 : List Int) (A0_2 : Option Addr) (c0_2 : Nat) (l0_2 : List Int) (A0_3 : Option Addr) (c0_3 : Nat) (l0_3 : List Int) (r : Bool) (w : World) (hr0_1 : Kd.C (Kd.int .i64) w A0_1 l0_1.length l0_1) (hc0_1 : l0_1.length ≤ c0_1) (hr0_2 : Kd.C (Kd.int .i64) w A0_2 l0_2.length l0_2) (hc0_2 : l0_2.length ≤ c0_2) (hr0_3 : Kd.C (Kd.int .i64) w A0_3 l0_3.length l0_3) (hc0_3 : l0_3.length ≤ c0_3) (h : impl_IsRanked.f k a0_0 l0_1 l0_2 l0_3 = some r) :
  Calls Try.prog 68 #[.agg #[.int .i64 a0_0, .slice A0_1 l0_1.length c0_1, .slice A0_2 l0_2.length c0_2, .slice A0_3 l0_3.length c0_3]] w fun e w' => e = .returned (.bool r) ∧ Below w.heap.size w w' := by
 have hu40 := Try.underlying40; have hu38 := Try.underlying38; have HR0_1 := am hr0_1; have HC0_1 := am hc0_1; clear hr0_1 hc0_1; have HR0_2 := am hr0_2; have HC0_2 := am hc0_2; clear hr0_2 hc0_2; have HR0_3 := am hr0_3; have HC0_3 := am hc0_3; clear hr0_3 hc0_3; have HB := am (Below.refl w.heap.size w); have H : ((impl_IsBits.f k a0_0 l0_1).bind fun t593 => (if t593 = true then ((impl_ranked.f k a0_0 l0_1).bind fun bt594 => ((slices_Equal_int_int.f k bt594.2.2.1 l0_2).bind fun t605 => (if t605 = true then ((slices_Equal_int_int.f k bt594.2.2.2 l0_3).bind fun t606 => (some t606)) else (some false)))) else (some false))) = some r := h; clear h; replace H := Option.bind_eq_some_iff.mp H; obtain ⟨t593, A20, H⟩ := H; (try dsimp -simprocs only at H); have A2 := am A20; clear A20
 by_cases c3 : t593 = true
 ·subst c3
  rw [if_pos rfl] at H; replace H := Option.bind_eq_some_iff.mp H; obtain ⟨⟨t594, t595, t598, t601⟩, A40, H⟩ := H; (try dsimp -simprocs only at H); have A4 := am A40; clear A40; replace H := Option.bind_eq_some_iff.mp H; obtain ⟨t605, A50, H⟩ := H; (try dsimp -simprocs only at H); have A5 := am A50; clear A50
  by_cases c6 : t605 = true
  ·subst c6
   rw [if_pos rfl] at H; replace H := Option.bind_eq_some_iff.mp H; obtain ⟨t606, A70, H⟩ := H; (try dsimp -simprocs only at H); have A7 := am A70; clear A70; obtain rfl := Option.some.inj H
   go_enter Try.func68, Try.ntmps68
   go_wp2_with (first | ((with_reducible refine gate_dst (N := 1) rfl ?_); refine bE 1 #[.int .i64 a0_0, .slice A0_1 l0_1.length c0_1, .slice A0_2 l0_2.length c0_2, .slice A0_3 l0_3.length c0_3] 40 ?_; intro gb592 hg w8 hbox hb; have n0_ := Bb HB hb; have n1_ := am (hbox); have n2_ := Gl HB hg; have n3_ := Gl HB hg; clear HB; revert n0_ n1_ n2_ n3_; intro HB BK592 GW592 GE592; clear hb hbox hg; obtain ⟨hcz9_0, hcz9_1, hcz9_2, hcz9_3, hfz9_0, hfz9_1, hfz9_2, hfz9_3⟩ := cf4 (w := w8) BK592) | ((with_reducible refine gate_callee (f := 65) rfl ?_); refine gL (some 6) Try.func65 #[.agg #[.int .i64 a0_0, .slice A0_1 l0_1.length c0_1]] ?_; (with_reducible refine (impl_IsBits.calls k a0_0 _ _ l0_1 true _ ?side1 ?side2 A2.out).mono ?_); (case side1 => exact Cz (Kd.C_below HR0_1.out HB.out)); (case side2 => exact HC0_1.out); rintro e w10 ⟨rfl, hb⟩; refine ⟨_, rfl, ?_⟩; have n0_ := Kb BK592 hb; have n1_ := Bc HB hb; clear BK592 HB; revert n0_ n1_; intro BK592 HB; (try clear hb); (try clear hb2); (try clear hk); (try clear hi); obtain ⟨hcz11_0, hcz11_1, hcz11_2, hcz11_3, hfz11_0, hfz11_1, hfz11_2, hfz11_3⟩ := cf4 (w := w10) BK592) | ((with_reducible refine gate_callee (f := 62) rfl ?_); refine gL (some 10) Try.func62 #[.agg #[.int .i64 a0_0, .slice A0_1 l0_1.length c0_1]] ?_; (with_reducible refine (impl_ranked.calls k a0_0 _ _ l0_1 t594 t595 t598 t601 _ ?side1 ?side2 A4.out).mono ?_); (case side1 => exact Cz (Kd.C_below HR0_1.out HB.out)); (case side2 => exact HC0_1.out); rintro e w12 ⟨v596, v599, v602, rfl, ho0, ho1, ho2, hb⟩; refine ⟨_, rfl, ?_⟩; have n0_ := Rm ho0 HB; have n1_ := Rm ho1 HB; have n2_ := Rm ho2 HB; have n3_ := Kb BK592 hb; have n4_ := Bc HB hb; clear BK592 HB; revert n0_ n1_ n2_ n3_ n4_; intro HO597 HO600 HO603 BK592 HB; (try clear hb); (try clear hb2); (try clear hk); (try clear hi); (try clear ho0); (try clear ho1); (try clear ho2)) | ((with_reducible refine gate_dst (N := 3) rfl ?_); refine bE 3 #[.int .i64 0, .slice none 0 0, .slice none 0 0, .slice none 0 0] 40 ?_; intro gb604 hg w13 hbox hb; have n0_ := Rb HO597 hb; have n1_ := Rb HO600 hb; have n2_ := Rb HO603 hb; have n3_ := Kb BK592 hb; have n4_ := Bc HB hb; have n5_ := am (hbox); have n6_ := Gm HB hg; have n7_ := Gm HB hg; have n8_ := Nl BK592 hg; have n9_ := Ng BK592 hg; clear HO597 HO600 HO603 BK592 HB; revert n0_ n1_ n2_ n3_ n4_ n5_ n6_ n7_ n8_ n9_; intro HO597 HO600 HO603 BK592 HB BK604 GW604 GE604 NB592_604 NB604_592; clear hb hbox hg; have hnb14 := NB604_592.out; have hnc14 := NB592_604.out; obtain ⟨hcz15_0, hcz15_1, hcz15_2, hcz15_3, hfz15_0, hfz15_1, hfz15_2, hfz15_3⟩ := cf4 (w := w13) BK604; obtain ⟨Ao16, co16, eo16⟩ := Kd.R_slice HO597.out; subst eo16; obtain ⟨Ao17, co17, eo17⟩ := Kd.R_slice HO600.out; subst eo17; obtain ⟨Ao18, co18, eo18⟩ := Kd.R_slice HO603.out; subst eo18; obtain ⟨hcz19_0, hcz19_1, hcz19_2, hcz19_3, hfz19_0, hfz19_1, hfz19_2, hfz19_3⟩ := cf4 (w := w13) BK592) | ((with_reducible refine gate_callee (f := 140) rfl ?_); refine gL (some 15) Try.func140 #[.slice Ao17 t598.length co17, .slice A0_2 l0_2.length c0_2] ?_; (with_reducible refine (slices_Equal_int_int.calls k _ _ t598 _ _ l0_2 true _ ?side1 ?side2 ?side3 ?side4 A5.out).mono ?_); (case side1 => refine (Kd.R_reads' (e := 3) (base := w.heap.size) (ok := fun k_ => (some k_ ≠ (.slice Ao16 t595.length co16 : Value).ownBlock ∧ some k_ ≠ (.slice Ao18 t601.length co18 : Value).ownBlock)) (n := t598.length) (c := co17) ?_).2.2; exact (Rz (Kd.R_mono (Kd.R_far (p := ⟨gb604, 3, none⟩) (Kd.R_far (p := ⟨gb604, 2, none⟩) (Kd.R_far (p := ⟨gb604, 1, none⟩) (Kd.R_far (p := ⟨gb604, 0, none⟩) (Kd.R_types HO600.out BK604.out (by decide)) (fun _ hk => hk.2) (.int .i64 t594)) (fun _ hk => hk.2) (.slice Ao16 t595.length co16)) (fun _ hk => hk.2) (.slice Ao17 t598.length co17)) (fun _ hk => hk.2) (.slice Ao18 t601.length co18)) (fun _ h_ => h_.1)))); (case side2 => exact (Kd.R_reads' HO600.out).2.1); (case side3 => exact Kd.C_below HR0_2.out (Bq)); (case side4 => exact HC0_2.out); rintro e w' ⟨rfl, ⟨nd, rfl⟩⟩; refine ⟨_, rfl, ?_⟩) | (go_at_call 140; (with_reducible refine (slices_Equal_int_int.calls k _ _ t601 _ _ l0_3 t606 _ ?side1 ?side2 ?side3 ?side4 A7.out).mono ?_); (case side1 => refine (Kd.R_reads' (e := 3) (base := w.heap.size) (ok := fun k_ => (some k_ ≠ (.slice Ao16 t595.length co16 : Value).ownBlock ∧ some k_ ≠ (.slice Ao17 t598.length co17 : Value).ownBlock)) (n := t601.length) (c := co18) ?_).2.2; exact (Rz (Kd.R_mono (Kd.R_far (p := ⟨gb604, 3, none⟩) (Kd.R_far (p := ⟨gb604, 2, none⟩) (Kd.R_far (p := ⟨gb604, 1, none⟩) (Kd.R_far (p := ⟨gb604, 0, none⟩) (Kd.R_types HO603.out BK604.out (by decide)) (fun _ hk => hk.2) (.int .i64 t594)) (fun _ hk => hk.2) (.slice Ao16 t595.length co16)) (fun _ hk => hk.2) (.slice Ao17 t598.length co17)) (fun _ hk => hk.2) (.slice Ao18 t601.length co18)) (fun _ h_ => h_.1)))); (case side2 => exact (Kd.R_reads' HO603.out).2.1); (case side3 => exact Kd.C_below HR0_3.out (Bq)); (case side4 => exact HC0_3.out); rintro e w' ⟨rfl, ⟨nd, rfl⟩⟩))
   go_ret
   exact ⟨eZ, Bq⟩
  ·replace c6 := Bool.eq_false_iff.mpr c6
   subst c6
   rw [if_neg (show ¬ (false = true) by decide)] at H; obtain rfl := Option.some.inj H
   go_enter Try.func68, Try.ntmps68
   go_wp2_with (first | ((with_reducible refine gate_dst (N := 1) rfl ?_); refine bE 1 #[.int .i64 a0_0, .slice A0_1 l0_1.length c0_1, .slice A0_2 l0_2.length c0_2, .slice A0_3 l0_3.length c0_3] 40 ?_; intro gb592 hg w20 hbox hb; have n0_ := Bb HB hb; have n1_ := am (hbox); have n2_ := Gl HB hg; have n3_ := Gl HB hg; clear HB; revert n0_ n1_ n2_ n3_; intro HB BK592 GW592 GE592; clear hb hbox hg; obtain ⟨hcz21_0, hcz21_1, hcz21_2, hcz21_3, hfz21_0, hfz21_1, hfz21_2, hfz21_3⟩ := cf4 (w := w20) BK592) | ((with_reducible refine gate_callee (f := 65) rfl ?_); refine gL (some 6) Try.func65 #[.agg #[.int .i64 a0_0, .slice A0_1 l0_1.length c0_1]] ?_; (with_reducible refine (impl_IsBits.calls k a0_0 _ _ l0_1 true _ ?side1 ?side2 A2.out).mono ?_); (case side1 => exact Cz (Kd.C_below HR0_1.out HB.out)); (case side2 => exact HC0_1.out); rintro e w22 ⟨rfl, hb⟩; refine ⟨_, rfl, ?_⟩; have n0_ := Kb BK592 hb; have n1_ := Bc HB hb; clear BK592 HB; revert n0_ n1_; intro BK592 HB; (try clear hb); (try clear hb2); (try clear hk); (try clear hi); obtain ⟨hcz23_0, hcz23_1, hcz23_2, hcz23_3, hfz23_0, hfz23_1, hfz23_2, hfz23_3⟩ := cf4 (w := w22) BK592) | ((with_reducible refine gate_callee (f := 62) rfl ?_); refine gL (some 10) Try.func62 #[.agg #[.int .i64 a0_0, .slice A0_1 l0_1.length c0_1]] ?_; (with_reducible refine (impl_ranked.calls k a0_0 _ _ l0_1 t594 t595 t598 t601 _ ?side1 ?side2 A4.out).mono ?_); (case side1 => exact Cz (Kd.C_below HR0_1.out HB.out)); (case side2 => exact HC0_1.out); rintro e w24 ⟨v596, v599, v602, rfl, ho0, ho1, ho2, hb⟩; refine ⟨_, rfl, ?_⟩; have n0_ := Rm ho0 HB; have n1_ := Rm ho1 HB; have n2_ := Rm ho2 HB; have n3_ := Kb BK592 hb; have n4_ := Bc HB hb; clear BK592 HB; revert n0_ n1_ n2_ n3_ n4_; intro HO597 HO600 HO603 BK592 HB; (try clear hb); (try clear hb2); (try clear hk); (try clear hi); (try clear ho0); (try clear ho1); (try clear ho2)) | ((with_reducible refine gate_dst (N := 3) rfl ?_); refine bE 3 #[.int .i64 0, .slice none 0 0, .slice none 0 0, .slice none 0 0] 40 ?_; intro gb604 hg w25 hbox hb; have n0_ := Rb HO597 hb; have n1_ := Rb HO600 hb; have n2_ := Rb HO603 hb; have n3_ := Kb BK592 hb; have n4_ := Bc HB hb; have n5_ := am (hbox); have n6_ := Gm HB hg; have n7_ := Gm HB hg; have n8_ := Nl BK592 hg; have n9_ := Ng BK592 hg; clear HO597 HO600 HO603 BK592 HB; revert n0_ n1_ n2_ n3_ n4_ n5_ n6_ n7_ n8_ n9_; intro HO597 HO600 HO603 BK592 HB BK604 GW604 GE604 NB592_604 NB604_592; clear hb hbox hg; have hnb26 := NB604_592.out; have hnc26 := NB592_604.out; obtain ⟨hcz27_0, hcz27_1, hcz27_2, hcz27_3, hfz27_0, hfz27_1, hfz27_2, hfz27_3⟩ := cf4 (w := w25) BK604; obtain ⟨Ao28, co28, eo28⟩ := Kd.R_slice HO597.out; subst eo28; obtain ⟨Ao29, co29, eo29⟩ := Kd.R_slice HO600.out; subst eo29; obtain ⟨Ao30, co30, eo30⟩ := Kd.R_slice HO603.out; subst eo30; obtain ⟨hcz31_0, hcz31_1, hcz31_2, hcz31_3, hfz31_0, hfz31_1, hfz31_2, hfz31_3⟩ := cf4 (w := w25) BK592) | ((with_reducible refine gate_callee (f := 140) rfl ?_); refine gL (some 15) Try.func140 #[.slice Ao29 t598.length co29, .slice A0_2 l0_2.length c0_2] ?_; (with_reducible refine (slices_Equal_int_int.calls k _ _ t598 _ _ l0_2 false _ ?side1 ?side2 ?side3 ?side4 A5.out).mono ?_); (case side1 => refine (Kd.R_reads' (e := 3) (base := w.heap.size) (ok := fun k_ => (some k_ ≠ (.slice Ao28 t595.length co28 : Value).ownBlock ∧ some k_ ≠ (.slice Ao30 t601.length co30 : Value).ownBlock)) (n := t598.length) (c := co29) ?_).2.2; exact (Rz (Kd.R_mono (Kd.R_far (p := ⟨gb604, 3, none⟩) (Kd.R_far (p := ⟨gb604, 2, none⟩) (Kd.R_far (p := ⟨gb604, 1, none⟩) (Kd.R_far (p := ⟨gb604, 0, none⟩) (Kd.R_types HO600.out BK604.out (by decide)) (fun _ hk => hk.2) (.int .i64 t594)) (fun _ hk => hk.2) (.slice Ao28 t595.length co28)) (fun _ hk => hk.2) (.slice Ao29 t598.length co29)) (fun _ hk => hk.2) (.slice Ao30 t601.length co30)) (fun _ h_ => h_.1)))); (case side2 => exact (Kd.R_reads' HO600.out).2.1); (case side3 => exact Kd.C_below HR0_2.out (Bq)); (case side4 => exact HC0_2.out); rintro e w' ⟨rfl, ⟨nd, rfl⟩⟩; refine ⟨_, rfl, ?_⟩))
   go_ret
   exact ⟨eZ, Bq⟩
 ·replace c3 := Bool.eq_false_iff.mpr c3
  subst c3
  rw [if_neg (show ¬ (false = true) by decide)] at H; obtain rfl := Option.some.inj H
  go_enter Try.func68, Try.ntmps68
  go_wp2_with (first | ((with_reducible refine gate_dst (N := 1) rfl ?_); refine bE 1 #[.int .i64 a0_0, .slice A0_1 l0_1.length c0_1, .slice A0_2 l0_2.length c0_2, .slice A0_3 l0_3.length c0_3] 40 ?_; intro gb592 hg w32 hbox hb; have n0_ := Bb HB hb; have n1_ := am (hbox); have n2_ := Gl HB hg; have n3_ := Gl HB hg; clear HB; revert n0_ n1_ n2_ n3_; intro HB BK592 GW592 GE592; clear hb hbox hg; obtain ⟨hcz33_0, hcz33_1, hcz33_2, hcz33_3, hfz33_0, hfz33_1, hfz33_2, hfz33_3⟩ := cf4 (w := w32) BK592) | ((with_reducible refine gate_callee (f := 65) rfl ?_); refine gL (some 6) Try.func65 #[.agg #[.int .i64 a0_0, .slice A0_1 l0_1.length c0_1]] ?_; (with_reducible refine (impl_IsBits.calls k a0_0 _ _ l0_1 false _ ?side1 ?side2 A2.out).mono ?_); (case side1 => exact Cz (Kd.C_below HR0_1.out HB.out)); (case side2 => exact HC0_1.out); rintro e w34 ⟨rfl, hb⟩; refine ⟨_, rfl, ?_⟩; have n0_ := Kb BK592 hb; have n1_ := Bc HB hb; clear BK592 HB; revert n0_ n1_; intro BK592 HB; (try clear hb); (try clear hb2); (try clear hk); (try clear hi)))
  go_ret
  exact ⟨eZ, Bq⟩

def impl_Rank1.f (k : Nat) (a0_0 : Int) (l0_1 : List Int) (l0_2 : List Int) (l0_3 : List Int) (a1 : Int) : Option (Int × Bool) := (impl_IsRanked.f k a0_0 l0_1 l0_2 l0_3).bind fun t613 => (if t613 = true then ((impl_in.f a1 0 a0_0).bind fun t614 => (if t614 = true then ((impl_Bits_count.f k a0_0 l0_1 0 a1).bind fun t615 => (some (t615, true))) else (some (0, false)))) else (some (0, false)))
theorem impl_Rank1.calls (k : Nat) (a0_0 : Int) (A0_1 : Option Addr) (c0_1 : Nat) (l0_1 : List Int) (A0_2 : Option Addr) (c0_2 : Nat) (l0_2 : List Int) (A0_3 : Option Addr) (c0_3 : Nat) (l0_3 : List Int) (a1 : Int) (r1 : Int) (r2 : Bool) (w : World) (hr0_1 : Kd.C (Kd.int .i64) w A0_1 l0_1.length l0_1) (hc0_1 : l0_1.length ≤ c0_1) (hr0_2 : Kd.C (Kd.int .i64) w A0_2 l0_2.length l0_2) (hc0_2 : l0_2.length ≤ c0_2) (hr0_3 : Kd.C (Kd.int .i64) w A0_3 l0_3.length l0_3) (hc0_3 : l0_3.length ≤ c0_3) (h : impl_Rank1.f k a0_0 l0_1 l0_2 l0_3 a1 = some (r1, r2)) :
  Calls Try.prog 16 #[.agg #[.int .i64 a0_0, .slice A0_1 l0_1.length c0_1, .slice A0_2 l0_2.length c0_2, .slice A0_3 l0_3.length c0_3], .int .i64 a1] w fun e w' => e = .returned (.tuple #[.int .i64 r1, .bool r2]) ∧ Below w.heap.size w w' := by
 have hu40 := Try.underlying40; have HR0_1 := am hr0_1; have HC0_1 := am hc0_1; clear hr0_1 hc0_1; have HR0_2 := am hr0_2; have HC0_2 := am hc0_2; clear hr0_2 hc0_2; have HR0_3 := am hr0_3; have HC0_3 := am hc0_3; clear hr0_3 hc0_3; have HB := am (Below.refl w.heap.size w); have H : ((impl_IsRanked.f k a0_0 l0_1 l0_2 l0_3).bind fun t613 => (if t613 = true then ((impl_in.f a1 0 a0_0).bind fun t614 => (if t614 = true then ((impl_Bits_count.f k a0_0 l0_1 0 a1).bind fun t615 => (some (t615, true))) else (some (0, false)))) else (some (0, false)))) = some (r1, r2) := h; clear h; replace H := Option.bind_eq_some_iff.mp H; obtain ⟨t613, A30, H⟩ := H; (try dsimp -simprocs only at H); have A3 := am A30; clear A30
 by_cases c4 : t613 = true
 ·subst c4
  rw [if_pos rfl] at H; replace H := Option.bind_eq_some_iff.mp H; obtain ⟨t614, A50, H⟩ := H; (try dsimp -simprocs only at H); have A5 := am A50; clear A50
  by_cases c6 : t614 = true
  ·subst c6
   rw [if_pos rfl] at H; replace H := Option.bind_eq_some_iff.mp H; obtain ⟨t615, A70, H⟩ := H; (try dsimp -simprocs only at H); have A7 := am A70; clear A70
   simp only [Option.some.injEq, Prod.mk.injEq] at H
   obtain ⟨rfl, rfl⟩ := H
   go_enter Try.func16, Try.ntmps16
   go_wp2_with (first | ((with_reducible refine gate_dst (N := 2) rfl ?_); refine bE 2 #[.int .i64 a0_0, .slice A0_1 l0_1.length c0_1, .slice A0_2 l0_2.length c0_2, .slice A0_3 l0_3.length c0_3] 40 ?_; intro gb612 hg w8 hbox hb; have n0_ := Bb HB hb; have n1_ := am (hbox); have n2_ := Gl HB hg; have n3_ := Gl HB hg; clear HB; revert n0_ n1_ n2_ n3_; intro HB BK612 GW612 GE612; clear hb hbox hg; obtain ⟨hcz9_0, hcz9_1, hcz9_2, hcz9_3, hfz9_0, hfz9_1, hfz9_2, hfz9_3⟩ := cf4 (w := w8) BK612) | ((with_reducible refine gate_callee (f := 68) rfl ?_); refine gL (some 7) Try.func68 #[.agg #[.int .i64 a0_0, .slice A0_1 l0_1.length c0_1, .slice A0_2 l0_2.length c0_2, .slice A0_3 l0_3.length c0_3]] ?_; (with_reducible refine (impl_IsRanked.calls k a0_0 _ _ l0_1 _ _ l0_2 _ _ l0_3 true _ ?side1 ?side2 ?side3 ?side4 ?side5 ?side6 A3.out).mono ?_); (case side1 => exact Cz (Kd.C_below HR0_1.out HB.out)); (case side2 => exact HC0_1.out); (case side3 => exact Cz (Kd.C_below HR0_2.out HB.out)); (case side4 => exact HC0_2.out); (case side5 => exact Cz (Kd.C_below HR0_3.out HB.out)); (case side6 => exact HC0_3.out); rintro e w10 ⟨rfl, hb⟩; refine ⟨_, rfl, ?_⟩; have n0_ := Kb BK612 hb; have n1_ := Bc HB hb; clear BK612 HB; revert n0_ n1_; intro BK612 HB; (try clear hb); (try clear hb2); (try clear hk); (try clear hi); obtain ⟨hcz11_0, hcz11_1, hcz11_2, hcz11_3, hfz11_0, hfz11_1, hfz11_2, hfz11_3⟩ := cf4 (w := w10) BK612) | (go_at_call 66; (with_reducible refine (impl_in.calls a1 0 a0_0 true _ A5.out).mono ?_); rintro e w' ⟨rfl, ⟨nd, rfl⟩⟩) | ((with_reducible refine gate_callee (f := 69) rfl ?_); refine gL (some 19) Try.func69 #[.pointer (some ⟨gb612, 0, none⟩), .int .i64 0, .int .i64 a1] ?_; (with_reducible refine (impl_Bits_count.calls_v0_40_0 k gb612 (.slice A0_2 l0_2.length c0_2) (.slice A0_3 l0_3.length c0_3) a0_0 A0_1 c0_1 l0_1 0 a1 t615 _ ?side1 ?side2 ?side3 A7.out).mono ?_); (case side1 => exact Kz BK612.out); (case side2 => exact Cz (Kd.C_below HR0_1.out (Bq))); (case side3 => exact HC0_1.out); rintro e w' ⟨rfl, ⟨nd, rfl⟩⟩; refine ⟨_, rfl, ?_⟩))
   go_ret2
   exact ⟨eZ, Bq⟩
  ·replace c6 := Bool.eq_false_iff.mpr c6
   subst c6
   rw [if_neg (show ¬ (false = true) by decide)] at H
   simp only [Option.some.injEq, Prod.mk.injEq] at H
   obtain ⟨rfl, rfl⟩ := H
   go_enter Try.func16, Try.ntmps16
   go_wp2_with (first | ((with_reducible refine gate_dst (N := 2) rfl ?_); refine bE 2 #[.int .i64 a0_0, .slice A0_1 l0_1.length c0_1, .slice A0_2 l0_2.length c0_2, .slice A0_3 l0_3.length c0_3] 40 ?_; intro gb612 hg w12 hbox hb; have n0_ := Bb HB hb; have n1_ := am (hbox); have n2_ := Gl HB hg; have n3_ := Gl HB hg; clear HB; revert n0_ n1_ n2_ n3_; intro HB BK612 GW612 GE612; clear hb hbox hg; obtain ⟨hcz13_0, hcz13_1, hcz13_2, hcz13_3, hfz13_0, hfz13_1, hfz13_2, hfz13_3⟩ := cf4 (w := w12) BK612) | ((with_reducible refine gate_callee (f := 68) rfl ?_); refine gL (some 7) Try.func68 #[.agg #[.int .i64 a0_0, .slice A0_1 l0_1.length c0_1, .slice A0_2 l0_2.length c0_2, .slice A0_3 l0_3.length c0_3]] ?_; (with_reducible refine (impl_IsRanked.calls k a0_0 _ _ l0_1 _ _ l0_2 _ _ l0_3 true _ ?side1 ?side2 ?side3 ?side4 ?side5 ?side6 A3.out).mono ?_); (case side1 => exact Cz (Kd.C_below HR0_1.out HB.out)); (case side2 => exact HC0_1.out); (case side3 => exact Cz (Kd.C_below HR0_2.out HB.out)); (case side4 => exact HC0_2.out); (case side5 => exact Cz (Kd.C_below HR0_3.out HB.out)); (case side6 => exact HC0_3.out); rintro e w14 ⟨rfl, hb⟩; refine ⟨_, rfl, ?_⟩; have n0_ := Kb BK612 hb; have n1_ := Bc HB hb; clear BK612 HB; revert n0_ n1_; intro BK612 HB; (try clear hb); (try clear hb2); (try clear hk); (try clear hi); obtain ⟨hcz15_0, hcz15_1, hcz15_2, hcz15_3, hfz15_0, hfz15_1, hfz15_2, hfz15_3⟩ := cf4 (w := w14) BK612) | (go_at_call 66; (with_reducible refine (impl_in.calls a1 0 a0_0 false _ A5.out).mono ?_); rintro e w' ⟨rfl, ⟨nd, rfl⟩⟩))
   go_ret2
   exact ⟨eZ, Bq⟩
 ·replace c4 := Bool.eq_false_iff.mpr c4
  subst c4
  rw [if_neg (show ¬ (false = true) by decide)] at H
  simp only [Option.some.injEq, Prod.mk.injEq] at H
  obtain ⟨rfl, rfl⟩ := H
  go_enter Try.func16, Try.ntmps16
  go_wp2_with (first | ((with_reducible refine gate_dst (N := 2) rfl ?_); refine bE 2 #[.int .i64 a0_0, .slice A0_1 l0_1.length c0_1, .slice A0_2 l0_2.length c0_2, .slice A0_3 l0_3.length c0_3] 40 ?_; intro gb612 hg w16 hbox hb; have n0_ := Bb HB hb; have n1_ := am (hbox); have n2_ := Gl HB hg; have n3_ := Gl HB hg; clear HB; revert n0_ n1_ n2_ n3_; intro HB BK612 GW612 GE612; clear hb hbox hg; obtain ⟨hcz17_0, hcz17_1, hcz17_2, hcz17_3, hfz17_0, hfz17_1, hfz17_2, hfz17_3⟩ := cf4 (w := w16) BK612) | ((with_reducible refine gate_callee (f := 68) rfl ?_); refine gL (some 7) Try.func68 #[.agg #[.int .i64 a0_0, .slice A0_1 l0_1.length c0_1, .slice A0_2 l0_2.length c0_2, .slice A0_3 l0_3.length c0_3]] ?_; (with_reducible refine (impl_IsRanked.calls k a0_0 _ _ l0_1 _ _ l0_2 _ _ l0_3 false _ ?side1 ?side2 ?side3 ?side4 ?side5 ?side6 A3.out).mono ?_); (case side1 => exact Cz (Kd.C_below HR0_1.out HB.out)); (case side2 => exact HC0_1.out); (case side3 => exact Cz (Kd.C_below HR0_2.out HB.out)); (case side4 => exact HC0_2.out); (case side5 => exact Cz (Kd.C_below HR0_3.out HB.out)); (case side6 => exact HC0_3.out); rintro e w18 ⟨rfl, hb⟩; refine ⟨_, rfl, ?_⟩; have n0_ := Kb BK612 hb; have n1_ := Bc HB hb; clear BK612 HB; revert n0_ n1_; intro BK612 HB; (try clear hb); (try clear hb2); (try clear hk); (try clear hi)))
  go_ret2
  exact ⟨eZ, Bq⟩

def laws_pHas.l0 : Nat → Int → List Int → Int → Int → Option (Bool)
 | 0, _, _, _, _ => none
 | k + 1, x1, x7, x8, x9 => if x9 < x8 then (if 0 ≤ x9 then (if x9 < (x7.length : Int) then (if (rd x7 x9) = x1 then (some true) else (laws_pHas.l0 k x1 x7 x8 (wrap64 (x9 + 1)))) else (none)) else (none)) else (some false)
def laws_pHas.f (k : Nat) (l0 : List Int) (a1 : Int) : Option (Bool) := laws_pHas.l0 k a1 l0 (l0.length : Int) 0
theorem laws_pHas.calls (k : Nat) (A0 : Option Addr) (c0 : Nat) (l0 : List Int) (a1 : Int) (r : Bool) (w : World) (hr0 : Kd.C (Kd.int .i64) w A0 l0.length l0) (hc0 : l0.length ≤ c0) (h : laws_pHas.f k l0 a1 = some r) :
  Calls Try.prog 17 #[.slice A0 l0.length c0, .int .i64 a1] w fun e w' => e = .returned (.bool r) ∧ Drawn0 w w' := by
 have HR0 := am hr0; have HC0 := am hc0; clear hr0 hc0; have H : (laws_pHas.l0 k a1 l0 (l0.length : Int) 0) = some r := h; clear h; have H' := am H; clear H
 go_enter Try.func17, Try.ntmps17
 go_wp2
 go_loopg [9] k (fun kq v9 w' => ∃ (x9_1 : Int), v9 = .int .i64 x9_1 ∧ Aside0 (laws_pHas.l0 kq a1 l0 (l0.length : Int) x9_1 = some r) ∧ Aside0 (kq ≤ k) ∧ Drawn0 w w')
 case atStart => exact ⟨(0), wZ, H', ⟨Nat.le_refl _⟩, by repeat (first | exact Drawn0.refl _ | apply Drawn0.step)⟩
 case round =>
  clear H'
  try clear c1
  try clear p2
  obtain ⟨x9_1, rfl, HA, HK1, ⟨m1, rfl⟩⟩ := hrel; cases gk with
  | zero => exact absurd HA.out (by simp [laws_pHas.l0])
  | succ k1 =>
   have H := HA.out; clear HA
   simp only [laws_pHas.l0] at H
   by_cases c3 : x9_1 < (l0.length : Int)
   ·rw [if_pos c3] at H
    have c3b0 : decide (x9_1 < (l0.length : Int)) = true := decide_eq_true c3; clear c3
    by_cases c4 : 0 ≤ x9_1
    ·rw [if_pos c4] at H
     have c4b0 : decide (0 ≤ x9_1) = true := decide_eq_true c4; clear c4
     by_cases c5 : x9_1 < (l0.length : Int)
     ·rw [if_pos c5] at H
      have c5b0 : decide (x9_1 < (l0.length : Int)) = true := decide_eq_true c5; clear c5
      by_cases c6 : (rd l0 x9_1) = a1
      ·rw [if_pos c6] at H
       have c6b0 : ((rd l0 x9_1) == a1) = true := beq_iff_eq.mpr c6; have c6b1 : ((rd l0 x9_1) != a1) = false := bne_eq_false_iff_eq.mpr c6; clear c6; obtain rfl := Option.some.inj H; obtain ⟨ad616, e616, hx616_0⟩ := Kd.at_int HR0.out x9_1 dT dT; cases e616; have p616 := eT (0 ≤ (x9_1 : Int)); have q616 := eT (x9_1 < (l0.length : Int))
       go_wp2
       go_ret
       exact ⟨by first | rfl | (simp; done) | (simp [*]; done), by repeat (first | exact Drawn0.refl _ | apply Drawn0.step)⟩
      ·rw [if_neg c6] at H
       have c6b0 : ((rd l0 x9_1) == a1) = false := beq_eq_false_iff_ne.mpr c6; have c6b1 : ((rd l0 x9_1) != a1) = true := bne_iff_ne.mpr c6; have H' := am H; clear H; obtain ⟨ad616, e616, hx616_0⟩ := Kd.at_int HR0.out x9_1 dT dT; cases e616; have p616 := eT (0 ≤ (x9_1 : Int)); have q616 := eT (x9_1 < (l0.length : Int))
       go_wp2
       go_roundg k1
       case measure => have := HK1.out; omega
       case rel => exact ⟨(wrap64 (x9_1 + 1)), wZ, H', ⟨by have := HK1.out; omega⟩, by repeat (first | exact Drawn0.refl _ | apply Drawn0.step)⟩
     ·rw [if_neg c5] at H
      exact absurd H (by simp)
    ·rw [if_neg c4] at H
     exact absurd H (by simp)
   ·rw [if_neg c3] at H
    have c3b0 : decide (x9_1 < (l0.length : Int)) = false := decide_eq_false c3; clear c3; obtain rfl := Option.some.inj H
    go_wp2
    go_ret
    exact ⟨by first | rfl | (simp; done) | (simp [*]; done), by repeat (first | exact Drawn0.refl _ | apply Drawn0.step)⟩

def laws_FnForeignKeysAreLed.j0 : Nat → ByteArray → Int → Bool → Bool → Int → Int → List Int → Option (Bool)
 | 0, _, _, _, _, _, _, _ => none
 | k + 1, x6, x7, x8, x48, x625000, x625001, x625002 => if x48 = true then (some false) else ((impl_PeeledPlace.f k x625000 x625001 x625002 x6).bind fun bt629 => (if bt629.2 = true then ((impl_HyperOf.f k x625000 (([x6] : List ByteArray)) x625001).bind fun bt634 => ((impl_UsedOf.f k x625000 x625001 x625002).bind fun bt640 => ((impl_BitAt.f k bt640.1 bt640.2.1 bt629.1).bind fun bt652 => ((impl_Rank1.f k bt640.1 bt640.2.1 bt640.2.2.1 bt640.2.2.2.1 bt629.1).bind fun bt654 => (if bt634.2.2 = true then (if bt640.2.2.2.2 = true then (if bt652.2 = true then (if bt654.2 = true then (if 0 < (bt634.2.1.length : Int) then ((laws_pHas.f k (rd_L3 bt634.2.1 0) bt629.1).bind fun t657 => (if t657 = true then (if (x8 == bt652.1) = true then (if x8 = true then (some (x7 == bt654.1)) else (some true)) else (some false)) else (some false))) else (none)) else (some false)) else (some false)) else (some false)) else (some false)))))) else (some (!x8))))
def laws_FnForeignKeysAreLed.f (k : Nat) (l0 : List Int) (l1 : List Int) : Option (Bool) := (laws_big.f l0 l1).bind fun t617 => (if t617 = true then (some true) else ((spec_DrawPeeledIndex.f k l0).bind fun bt618 => ((impl_PeeledIndex.f k bt618.1 bt618.2.1 bt618.2.2.1 bt618.2.2.2).bind fun bt625 => ((spec_PeeledIndex.f k bt618.1 bt618.2.1 bt618.2.2.1 bt618.2.2.2).bind fun bt627 => (if (bt625.2 != bt627.2) = true then (laws_FnForeignKeysAreLed.j0 k bt618.2.2.2 bt625.1 bt625.2 true bt618.1 bt618.2.1 bt618.2.2.1) else (laws_FnForeignKeysAreLed.j0 k bt618.2.2.2 bt625.1 bt625.2 (bt625.1 != bt627.1) bt618.1 bt618.2.1 bt618.2.2.1))))))
theorem laws_FnForeignKeysAreLed.j0.dead (k : Nat) (y0 : ByteArray) (y1 : Int) (y2 : Bool) (y4 : Int) (y5 : Int) (y6 : List Int) : laws_FnForeignKeysAreLed.j0 k y0 y1 y2 true y4 y5 y6 ≠ some true := by cases k <;> simp [laws_FnForeignKeysAreLed.j0]
theorem laws_FnForeignKeysAreLed.calls (k : Nat) (A0 : Option Addr) (c0 : Nat) (l0 : List Int) (A1 : Option Addr) (c1 : Nat) (l1 : List Int) (r : Bool) (w : World) (hr0 : Kd.C (Kd.int .u8) w A0 l0.length l0) (hc0 : l0.length ≤ c0) (hr1 : Kd.C (Kd.int .u8) w A1 l1.length l1) (hc1 : l1.length ≤ c1) (h : laws_FnForeignKeysAreLed.f k l0 l1 = some r) (hT_ : r = true) :
  Calls Try.prog 3 #[.slice A0 l0.length c0, .slice A1 l1.length c1] w fun e w' => e = .returned (.bool r) ∧ Below w.heap.size w w' := by
 have hu26 := Try.underlying26; have hu33 := Try.underlying33; have hu40 := Try.underlying40; have hu38 := Try.underlying38; have HR0 := am hr0; have HC0 := am hc0; clear hr0 hc0; have HR1 := am hr1; have HC1 := am hc1; clear hr1 hc1; have HB := am (Below.refl w.heap.size w); have H : ((laws_big.f l0 l1).bind fun t617 => (if t617 = true then (some true) else ((spec_DrawPeeledIndex.f k l0).bind fun bt618 => ((impl_PeeledIndex.f k bt618.1 bt618.2.1 bt618.2.2.1 bt618.2.2.2).bind fun bt625 => ((spec_PeeledIndex.f k bt618.1 bt618.2.1 bt618.2.2.1 bt618.2.2.2).bind fun bt627 => (if (bt625.2 != bt627.2) = true then (laws_FnForeignKeysAreLed.j0 k bt618.2.2.2 bt625.1 bt625.2 true bt618.1 bt618.2.1 bt618.2.2.1) else (laws_FnForeignKeysAreLed.j0 k bt618.2.2.2 bt625.1 bt625.2 (bt625.1 != bt627.1) bt618.1 bt618.2.1 bt618.2.2.1))))))) = some r := h; clear h; have HQT_ := am hT_; clear hT_; replace H := Option.bind_eq_some_iff.mp H; obtain ⟨t617, A30, H⟩ := H; (try dsimp -simprocs only at H); have A3 := am A30; clear A30
 by_cases c4 : t617 = true
 ·subst c4
  rw [if_pos rfl] at H; obtain rfl := Option.some.inj H
  go_enter Try.func3, Try.ntmps3
  go_wp2_with (first | ((with_reducible refine gate_callee (f := 8) rfl ?_); refine gL (some 23) Try.func8 #[.slice A0 l0.length c0, .slice A1 l1.length c1] ?_; (with_reducible refine (laws_big.calls _ _ l0 _ _ l1 true _ ?side1 ?side2 ?side3 ?side4 A3.out).mono ?_); (case side1 => exact Cz HR0.out); (case side2 => exact HC0.out); (case side3 => exact Cz HR1.out); (case side4 => exact HC1.out); rintro e w' ⟨rfl, ⟨nd, rfl⟩⟩; refine ⟨_, rfl, ?_⟩))
  go_ret
  exact ⟨eZ, Bz HB.out⟩
 ·replace c4 := Bool.eq_false_iff.mpr c4
  subst c4
  rw [if_neg (show ¬ (false = true) by decide)] at H; replace H := Option.bind_eq_some_iff.mp H; obtain ⟨⟨t618, t619, t620, t623⟩, A50, H⟩ := H; (try dsimp -simprocs only at H); have A5 := am A50; clear A50; replace H := Option.bind_eq_some_iff.mp H; obtain ⟨⟨t625, t626⟩, A60, H⟩ := H; (try dsimp -simprocs only at H); have A6 := am A60; clear A60; replace H := Option.bind_eq_some_iff.mp H; obtain ⟨⟨t627, t628⟩, A70, H⟩ := H; (try dsimp -simprocs only at H); have A7 := am A70; clear A70; have HC8 := am H; clear H
  go_enter Try.func3, Try.ntmps3
  go_upto_region 6 with (first | ((with_reducible refine gate_callee (f := 8) rfl ?_); refine gL (some 23) Try.func8 #[.slice A0 l0.length c0, .slice A1 l1.length c1] ?_; (with_reducible refine (laws_big.calls _ _ l0 _ _ l1 false _ ?side1 ?side2 ?side3 ?side4 A3.out).mono ?_); (case side1 => exact Cz HR0.out); (case side2 => exact HC0.out); (case side3 => exact Cz HR1.out); (case side4 => exact HC1.out); rintro e w' ⟨rfl, ⟨nd, rfl⟩⟩; refine ⟨_, rfl, ?_⟩) | ((with_reducible refine gate_callee (f := 9) rfl ?_); refine gL (some 26) Try.func9 #[.slice A0 l0.length c0] ?_; (with_reducible refine (spec_DrawPeeledIndex.calls k _ _ l0 t618 t619 t620 t623 _ ?side1 ?side2 A5.out).mono ?_); (case side1 => exact Cz HR0.out); (case side2 => exact HC0.out); rintro e w9 ⟨v621, rfl, ho0, hb⟩; refine ⟨_, rfl, ?_⟩; have n0_ := Rl ho0 HB; have n1_ := Bb HB hb; clear HB; revert n0_ n1_; intro HO622 HB; (try clear hb); (try clear hb2); (try clear hk); (try clear hi); (try clear ho0)) | ((with_reducible refine gate_dst (N := 5) rfl ?_); refine bE 5 #[.int .i64 0, .int .i64 0, .slice none 0 0] 26 ?_; intro gb624 hg w10 hbox hb; have n0_ := Rb HO622 hb; have n1_ := Bb HB hb; have n2_ := am (hbox); have n3_ := Gl HB hg; have n4_ := Gl HB hg; clear HO622 HB; revert n0_ n1_ n2_ n3_ n4_; intro HO622 HB BK624 GW624 GE624; clear hb hbox hg; obtain ⟨hcz11_0, hcz11_1, hcz11_2, hfz11_0, hfz11_1, hfz11_2⟩ := cf3 (w := w10) BK624; obtain ⟨Ao12, co12, eo12⟩ := Kd.R_slice HO622.out; subst eo12) | ((with_reducible refine gate_callee (f := 10) rfl ?_); refine gL (some 32) Try.func10 #[.agg #[.int .i64 t618, .int .i64 t619, .slice Ao12 t620.length co12], .string t623] ?_; (with_reducible refine (impl_PeeledIndex.calls k t618 t619 _ _ t620 t623 t625 t626 _ ?side1 ?side2 A6.out).mono ?_); (case side1 => refine (Kd.R_reads' (e := 3) (base := w.heap.size) (ok := fun k_ => True) (n := t620.length) (c := co12) ?_).2.2; exact (Rz (Kd.R_mono (Kd.R_far (p := ⟨gb624, 2, none⟩) (Kd.R_far (p := ⟨gb624, 1, none⟩) (Kd.R_far (p := ⟨gb624, 0, none⟩) (Kd.R_types HO622.out BK624.out (by decide)) (fun _ hk => hk.2) (.int .i64 t618)) (fun _ hk => hk.2) (.int .i64 t619)) (fun _ hk => hk.2) (.slice Ao12 t620.length co12)) (fun _ h_ => h_.1)))); (case side2 => exact (Kd.R_reads' HO622.out).2.1); rintro e w13 ⟨rfl, hb⟩; refine ⟨_, rfl, ?_⟩; have n0_ := am (Kd.R_below (Rz (Kd.R_mono (Kd.R_far (p := ⟨gb624, 2, none⟩) (Kd.R_far (p := ⟨gb624, 1, none⟩) (Kd.R_far (p := ⟨gb624, 0, none⟩) (Kd.R_types HO622.out BK624.out (by decide)) (fun _ hk => hk.2) (.int .i64 t618)) (fun _ hk => hk.2) (.int .i64 t619)) (fun _ hk => hk.2) (.slice Ao12 t620.length co12)) (fun _ h_ => h_.1))) hb); have n1_ := am (blk_below (g := gb624) (o := .cells #[.int .i64 t618, .int .i64 t619, .slice Ao12 t620.length co12] 26 (0, 0)) (by (with_reducible repeat (first | refine blk_drewN ?_ _ | refine blk_drew ?_ | refine blk_alloc ?_ _)); refine blk_put (cs := #[.int .i64 t618, .int .i64 t619, .slice none 0 0]) ?_ 2 _ rfl; (with_reducible repeat (first | refine blk_drewN ?_ _ | refine blk_drew ?_ | refine blk_alloc ?_ _)); refine blk_put (cs := #[.int .i64 t618, .int .i64 0, .slice none 0 0]) ?_ 1 _ rfl; (with_reducible repeat (first | refine blk_drewN ?_ _ | refine blk_drew ?_ | refine blk_alloc ?_ _)); refine blk_put (cs := #[.int .i64 0, .int .i64 0, .slice none 0 0]) ?_ 0 _ rfl; exact Kz BK624.out) hb); have n2_ := Bc HB hb; clear HO622 BK624 HB; revert n0_ n1_ n2_; intro HO622 BK624 HB; (try clear hb); (try clear hb2); (try clear hk); (try clear hi); obtain ⟨hcz14_0, hcz14_1, hcz14_2, hfz14_0, hfz14_1, hfz14_2⟩ := cf3 (w := w13) BK624) | ((with_reducible refine gate_callee (f := 11) rfl ?_); refine gL (some 38) Try.func11 #[.agg #[.int .i64 t618, .int .i64 t619, .slice Ao12 t620.length co12], .string t623] ?_; (with_reducible refine (spec_PeeledIndex.calls k t618 t619 _ _ t620 t623 t627 t628 _ ?side1 ?side2 A7.out).mono ?_); (case side1 => exact Cz ((Kd.R_reads' HO622.out).2.2)); (case side2 => exact (Kd.R_reads' HO622.out).2.1); rintro e w15 ⟨rfl, hb⟩; refine ⟨_, rfl, ?_⟩; have n0_ := Rb HO622 hb; have n1_ := Kb BK624 hb; have n2_ := Bc HB hb; clear HO622 BK624 HB; revert n0_ n1_ n2_; intro HO622 BK624 HB; (try clear hb); (try clear hb2); (try clear hk); (try clear hi)))
  (try simp only [aP])
  go_cut [48] (fun v48 wc => ∃ (kq : Nat) (x48_7 : Bool), v48 = .bool x48_7 ∧ Aside0 (laws_FnForeignKeysAreLed.j0 kq t623 t625 t626 x48_7 t618 t619 t620 = some r) ∧ Aside0 (kq ≤ k) ∧ Aside0 (Kd.R (Kd.int .i64) 3 wc w.heap.size (fun _ => True) (.slice Ao12 t620.length co12) t620) ∧ Aside0 (wc.heap[gb624]? = some (.cells #[.int .i64 t618, .int .i64 t619, (.slice Ao12 t620.length co12)] 26 (0, 0))) ∧ Aside0 (Below w.heap.size w wc))
  case first =>
   have H := HC8.out; clear HC8
   by_cases c16 : (t626 != t628) = true
   ·rw [if_pos c16] at H
    have c16b0 : (t626 != t628) = true := c16
    (try (have c16b1 : decide (t626 = t628) = false := by simpa using c16))
    (try (have c16b2 : (t626 == t628) = false := by simpa using c16))
    (try (have c16b3 : ¬ (t626 = t628) := by simpa using c16))
    (try (have c16b4 : (!(t626 == t628)) = true := c16b0))
    clear c16
    (first | rw [c16b0] | (simp only [i64_w, i32_w]; rw [c16b0]) | skip)
    exact absurd (H.trans (congrArg some HQT_.out)) (laws_FnForeignKeysAreLed.j0.dead _ _ _ _ _ _ _)
   ·rw [if_neg c16] at H
    have c16b0 : (t626 != t628) = false := by simpa using c16
    (try (have c16b1 : decide (t626 = t628) = true := by simpa using c16))
    (try (have c16b2 : (t626 == t628) = true := by simpa using c16))
    (try (have c16b3 : (!(t626 == t628)) = false := c16b0))
    clear c16
    (first | rw [c16b0] | (simp only [i64_w, i32_w]; rw [c16b0]) | skip)
    have H' := am H; clear H
    go_wp2
    go_meet
    case rel => exact ⟨_, ((t625 != t627)), wZ, H', ⟨by first | omega | exact Nat.le_refl _⟩, ⟨Rz HO622.out⟩, ⟨Kz BK624.out⟩, ⟨Bq⟩⟩
  case rest =>
   clear HC8
   try clear c1
   try clear p2
   try clear c3
   try clear c4
   try clear c8
   try clear c9
   try clear c10
   try clear c11
   try clear c16
   try clear c16b0
   try clear c16b1
   try clear c16b2
   try clear hcz11_0
   try clear hcz11_1
   try clear hcz11_2
   try clear hcz14_0
   try clear hcz14_1
   try clear hcz14_2
   try clear hfz11_0
   try clear hfz11_1
   try clear hfz11_2
   try clear hfz14_0
   try clear hfz14_1
   try clear hfz14_2
   obtain ⟨kq, x48_7, rfl, HA, HJ7, HO_625002, BK624, HB⟩ := hcut; cases kq with
   | zero => exact absurd HA.out (by simp [laws_FnForeignKeysAreLed.j0])
   | succ kj7 =>
    have H := HA.out; clear HA
    simp only [laws_FnForeignKeysAreLed.j0] at H
    by_cases c17 : x48_7 = true
    ·subst c17
     rw [if_pos rfl] at H; exact absurd (Option.some.inj H) (by rw [HQT_.out]; decide)
    ·replace c17 := Bool.eq_false_iff.mpr c17
     subst c17
     rw [if_neg (show ¬ (false = true) by decide)] at H; replace H := Option.bind_eq_some_iff.mp H; obtain ⟨⟨t629, t630⟩, A180, H⟩ := H; (try dsimp -simprocs only at H); have A18 := am A180; clear A180
     by_cases c19 : t630 = true
     ·subst c19
      rw [if_pos rfl] at H; obtain ⟨y631, hy631⟩ : ∃ y_ : List ByteArray, y_ = (([t623] : List ByteArray)) := ⟨_, rfl⟩
      replace H : ((impl_HyperOf.f kj7 t618 y631 t619).bind fun bt634 => ((impl_UsedOf.f kj7 t618 t619 t620).bind fun bt640 => ((impl_BitAt.f kj7 bt640.1 bt640.2.1 t629).bind fun bt652 => ((impl_Rank1.f kj7 bt640.1 bt640.2.1 bt640.2.2.1 bt640.2.2.2.1 t629).bind fun bt654 => (if bt634.2.2 = true then (if bt640.2.2.2.2 = true then (if bt652.2 = true then (if bt654.2 = true then (if 0 < (bt634.2.1.length : Int) then ((laws_pHas.f kj7 (rd_L3 bt634.2.1 0) t629).bind fun t657 => (if t657 = true then (if (t626 == bt652.1) = true then (if t626 = true then (some (t625 == bt654.1)) else (some true)) else (some false)) else (some false))) else (none)) else (some false)) else (some false)) else (some false)) else (some false)))))) = some r := by first | (rw [hy631]; with_reducible exact H) | (have H2_ := (Option.bind_some _ _).symm.trans H; rw [hy631]; with_reducible exact H2_) | (have H2_ := (Option.bind_some _ _).symm.trans H; with_reducible exact H2_) | with_reducible exact H | (rw [hy631]; exact H) | exact H
      have Ny631 := am hy631; clear hy631; replace H := Option.bind_eq_some_iff.mp H; obtain ⟨⟨t634, t635, t638⟩, A200, H⟩ := H; (try dsimp -simprocs only at H); have A20 := am A200; clear A200; replace H := Option.bind_eq_some_iff.mp H; obtain ⟨⟨t640, t641, t644, t647, t650⟩, A210, H⟩ := H; (try dsimp -simprocs only at H); have A21 := am A210; clear A210; replace H := Option.bind_eq_some_iff.mp H; obtain ⟨⟨t652, t653⟩, A220, H⟩ := H; (try dsimp -simprocs only at H); have A22 := am A220; clear A220; replace H := Option.bind_eq_some_iff.mp H; obtain ⟨⟨t654, t655⟩, A230, H⟩ := H; (try dsimp -simprocs only at H); have A23 := am A230; clear A230
      by_cases c24 : t638 = true
      ·subst c24
       rw [if_pos rfl] at H
       by_cases c25 : t650 = true
       ·subst c25
        rw [if_pos rfl] at H
        by_cases c26 : t653 = true
        ·subst c26
         rw [if_pos rfl] at H
         by_cases c27 : t655 = true
         ·subst c27
          rw [if_pos rfl] at H
          by_cases c28 : 0 < (t635.length : Int)
          ·rw [if_pos c28] at H
           have c28b0 : decide (0 < (t635.length : Int)) = true := decide_eq_true c28; have c28b1 : decide (0 < t635.length) = true := decide_eq_true (by omega); clear c28; replace H := Option.bind_eq_some_iff.mp H; obtain ⟨t657, A290, H⟩ := H; (try dsimp -simprocs only at H); have A29 := am A290; clear A290
           by_cases c30 : t657 = true
           ·subst c30
            rw [if_pos rfl] at H
            by_cases c31 : (t626 == t652) = true
            ·rw [if_pos c31] at H
             have c31b0 : (t626 == t652) = true := c31
             (try (have c31b1 : decide (t626 = t652) = true := by simpa using c31))
             (try (have c31b2 : (t626 == t652) = true := by simpa using c31))
             clear c31
             by_cases c32 : t626 = true
             ·subst c32
              rw [if_pos rfl] at H; obtain rfl := Option.some.inj H; obtain ⟨hcz33_0, hcz33_1, hcz33_2, hfz33_0, hfz33_1, hfz33_2⟩ := cf3 (w := wc) BK624
              go_wp2_with (first | ((with_reducible refine gate_callee (f := 12) rfl ?_); refine gL (some 52) Try.func12 #[.agg #[.int .i64 t618, .int .i64 t619, .slice Ao12 t620.length co12], .string t623] ?_; (with_reducible refine (impl_PeeledPlace.calls kj7 t618 t619 _ _ t620 t623 t629 true _ ?side1 ?side2 A18.out).mono ?_); (case side1 => exact Cz ((Kd.R_reads' HO_625002.out).2.2)); (case side2 => exact (Kd.R_reads' HO_625002.out).2.1); rintro e w34 ⟨rfl, hb⟩; refine ⟨_, rfl, ?_⟩; have n0_ := Rb HO_625002 hb; have n1_ := Kb BK624 hb; have n2_ := Bc HB hb; clear HO_625002 BK624 HB; revert n0_ n1_ n2_; intro HO_625002 BK624 HB; (try clear hb); (try clear hb2); (try clear hk); (try clear hi); obtain ⟨hcz35_0, hcz35_1, hcz35_2, hfz35_0, hfz35_1, hfz35_2⟩ := cf3 (w := w34) BK624) | ((with_reducible refine gate_dst (N := 63) rfl ?_); refine Kd.R_lit Kd.string _ 9 ?hg (N := 63) ?hd (xs := ([t623] : List ByteArray)) (inner := [.string t623]) (ok := fun _ => True) (okp := fun _ => True) ?hr ?hp (fun _ hk => hk) trivial (Below.refl _ _) (Nat.le_refl _) (by simp) ?_; (case hd => rfl); (case hg => rfl); (case hr => first | (go_simp; done) | (go_simp; rfl)); (case hp => exact (Reps.one (show Kd.M Kd.string _ _ _ t623 [.string t623] from rfl) (Reps.none _ _))); intro v632 w36 ho37 hb hg_ hnew_; clear hg_ hnew_; (first | rw [← Ny631.out] at ho37 | (simp only [Int.reduceToNat] at ho37; rw [← Ny631.out] at ho37)); have n0_ := Rb HO_625002 hb; have n1_ := Rm ho37 HB; have n2_ := Kb BK624 hb; have n3_ := Bc HB hb; clear HO_625002 BK624 HB; revert n0_ n1_ n2_ n3_; intro HO_625002 HO633 BK624 HB; clear hb ho37; obtain ⟨hcz38_0, hcz38_1, hcz38_2, hfz38_0, hfz38_1, hfz38_2⟩ := cf3 (w := w36) BK624; obtain ⟨Ao39, co39, eo39⟩ := Kd.R_slice HO633.out; subst eo39) | ((with_reducible refine gate_callee (f := 13) rfl ?_); refine gL (some 66) Try.func13 #[.int .i64 t618, .slice Ao39 y631.length co39, .int .i64 t619] ?_; (with_reducible refine (impl_HyperOf.calls kj7 t618 _ _ y631 t619 t634 t635 true _ ?side1 ?side2 A20.out).mono ?_); (case side1 => exact Cz ((Kd.R_reads' HO633.out).2.2)); (case side2 => exact (Kd.R_reads' HO633.out).2.1); rintro e w40 ⟨v636, rfl, ho0, hb⟩; refine ⟨_, rfl, ?_⟩; have n0_ := Rb HO_625002 hb; have n1_ := Rb HO633 hb; have n2_ := am (Kd.S_lower (Kd.S_new' ho0 (Kd.R_lt (Rz HO_625002.out))) (below_size (w := w) (Bq))); have n3_ := Kb BK624 hb; have n4_ := Bc HB hb; clear HO_625002 HO633 BK624 HB; revert n0_ n1_ n2_ n3_ n4_; intro HO_625002 HO633 HO637 BK624 HB; (try clear hb); (try clear hb2); (try clear hk); (try clear hi); (try clear ho0)) | ((with_reducible refine gate_dst (N := 13) rfl ?_); refine bE 13 #[.int .i64 0, .slice none 0 0] 33 ?_; intro gb639 hg w41 hbox hb; have n0_ := Rb HO_625002 hb; have n1_ := Rb HO633 hb; have n2_ := am (Kd.S_below (by (with_reducible repeat (first | apply Kd.S_alloc | apply Kd.S_drewN | apply Kd.S_drew)); exact HO637.out) hb); have n3_ := Kb BK624 hb; have n4_ := Bc HB hb; have n5_ := am (hbox); have n6_ := Gm HB hg; have n7_ := Gm HB hg; have n8_ := Nl BK624 hg; have n9_ := Ng BK624 hg; clear HO_625002 HO633 HO637 BK624 HB; revert n0_ n1_ n2_ n3_ n4_ n5_ n6_ n7_ n8_ n9_; intro HO_625002 HO633 HO637 BK624 HB BK639 GW639 GE639 NB624_639 NB639_624; clear hb hbox hg; have hnb42 := NB639_624.out; have hnc42 := NB624_639.out; obtain ⟨hcz43_0, hcz43_1, hfz43_0, hfz43_1⟩ := cf2 (w := w41) BK639; obtain ⟨Ao44, co44, eo44⟩ := Kd.S_slice HO637.out; subst eo44; obtain ⟨hcz45_0, hcz45_1, hcz45_2, hfz45_0, hfz45_1, hfz45_2⟩ := cf3 (w := w41) BK624) | ((with_reducible refine gate_callee (f := 14) rfl ?_); refine gL (some 71) Try.func14 #[.agg #[.int .i64 t618, .int .i64 t619, .slice Ao12 t620.length co12]] ?_; (with_reducible refine (impl_UsedOf.calls kj7 t618 t619 _ _ t620 t640 t641 t644 t647 true _ ?side1 ?side2 A21.out).mono ?_); (case side1 => refine (Kd.R_reads' (e := 3) (base := w.heap.size) (ok := fun k_ => True) (n := t620.length) (c := co12) ?_).2.2; exact (Rz (Kd.R_mono (Kd.R_far (p := ⟨gb639, 1, none⟩) (Kd.R_far (p := ⟨gb639, 0, none⟩) (Kd.R_types HO_625002.out BK639.out (by decide)) (fun _ hk => hk.2) (.int .i64 t634)) (fun _ hk => hk.2) (.slice Ao44 t635.length co44)) (fun _ h_ => h_.1)))); (case side2 => exact (Kd.R_reads' HO_625002.out).2.1); rintro e w46 ⟨v642, v645, v648, rfl, ho0, ho1, ho2, hb⟩; refine ⟨_, rfl, ?_⟩; have n0_ := am (Kd.R_mono (Kd.R_told (Kd.R_told (Kd.R_told (Kd.R_old (Rz (Kd.R_mono (Kd.R_far (p := ⟨gb639, 1, none⟩) (Kd.R_far (p := ⟨gb639, 0, none⟩) (Kd.R_types HO_625002.out BK639.out (by decide)) (fun _ hk => hk.2) (.int .i64 t634)) (fun _ hk => hk.2) (.slice Ao44 t635.length co44)) (fun _ h_ => h_.1))) hb) (Kd.R_base ho0)) (Kd.R_base ho1)) (Kd.R_base ho2)) (fun _ h_ => h_.1)); have n1_ := am (Kd.R_below (Rz (Kd.R_mono (Kd.R_far (p := ⟨gb639, 1, none⟩) (Kd.R_far (p := ⟨gb639, 0, none⟩) (Kd.R_types HO633.out BK639.out (by decide)) (fun _ hk => hk.2) (.int .i64 t634)) (fun _ hk => hk.2) (.slice Ao44 t635.length co44)) (fun _ h_ => h_.1))) hb); have n2_ := am (Kd.S_mono (Kd.S_told (Kd.S_told (Kd.S_told (Kd.S_old (by (with_reducible repeat (first | apply Kd.S_alloc | apply Kd.S_drewN | apply Kd.S_drew)); exact (Kd.S_mono (Kd.S_far (p := ⟨gb639, 1, none⟩) (Kd.S_far (p := ⟨gb639, 0, none⟩) (Kd.S_types HO637.out BK639.out (by decide)) (fun _ hk => hk.2) (.int .i64 t634)) (fun _ hk => hk.2) (.slice Ao44 t635.length co44)) (fun _ h_ => h_.1))) hb) (Kd.R_base ho0)) (Kd.R_base ho1)) (Kd.R_base ho2)) (fun _ h_ => h_.1)); have n3_ := am (Kd.R_lower (Kd.R_new' ho0 (Kd.R_lt (Rz (Kd.R_mono (Kd.R_far (p := ⟨gb639, 1, none⟩) (Kd.R_far (p := ⟨gb639, 0, none⟩) (Kd.R_types HO_625002.out BK639.out (by decide)) (fun _ hk => hk.2) (.int .i64 t634)) (fun _ hk => hk.2) (.slice Ao44 t635.length co44)) (fun _ h_ => h_.1))))) (below_size (w := w) (Bq))); have n4_ := am (Kd.R_lower (Kd.R_new' ho1 (Kd.R_lt (Rz (Kd.R_mono (Kd.R_far (p := ⟨gb639, 1, none⟩) (Kd.R_far (p := ⟨gb639, 0, none⟩) (Kd.R_types HO_625002.out BK639.out (by decide)) (fun _ hk => hk.2) (.int .i64 t634)) (fun _ hk => hk.2) (.slice Ao44 t635.length co44)) (fun _ h_ => h_.1))))) (below_size (w := w) (Bq))); have n5_ := am (Kd.R_lower (Kd.R_new' ho2 (Kd.R_lt (Rz (Kd.R_mono (Kd.R_far (p := ⟨gb639, 1, none⟩) (Kd.R_far (p := ⟨gb639, 0, none⟩) (Kd.R_types HO_625002.out BK639.out (by decide)) (fun _ hk => hk.2) (.int .i64 t634)) (fun _ hk => hk.2) (.slice Ao44 t635.length co44)) (fun _ h_ => h_.1))))) (below_size (w := w) (Bq))); have n6_ := am (blk_below (g := gb624) (o := .cells #[.int .i64 t618, .int .i64 t619, .slice Ao12 t620.length co12] 26 (0, 0)) (by (with_reducible repeat (first | refine blk_drewN ?_ _ | refine blk_drew ?_ | refine blk_alloc ?_ _)); refine blk_far ?_ NB624_639.out _; (with_reducible repeat (first | refine blk_drewN ?_ _ | refine blk_drew ?_ | refine blk_alloc ?_ _)); refine blk_far ?_ NB624_639.out _; exact Kz BK624.out) hb); have n7_ := am (blk_below (g := gb639) (o := .cells #[.int .i64 t634, .slice Ao44 t635.length co44] 33 (0, 0)) (by (with_reducible repeat (first | refine blk_drewN ?_ _ | refine blk_drew ?_ | refine blk_alloc ?_ _)); refine blk_put (cs := #[.int .i64 t634, .slice none 0 0]) ?_ 1 _ rfl; (with_reducible repeat (first | refine blk_drewN ?_ _ | refine blk_drew ?_ | refine blk_alloc ?_ _)); refine blk_put (cs := #[.int .i64 0, .slice none 0 0]) ?_ 0 _ rfl; exact Kz BK639.out) hb); have n8_ := Bc HB hb; clear HO_625002 HO633 HO637 BK624 BK639 HB; revert n0_ n1_ n2_ n3_ n4_ n5_ n6_ n7_ n8_; intro HO_625002 HO633 HO637 HO643 HO646 HO649 BK624 BK639 HB; (try clear hb); (try clear hb2); (try clear hk); (try clear hi); (try clear ho0); (try clear ho1); (try clear ho2)) | ((with_reducible refine gate_dst (N := 15) rfl ?_); refine bE 15 #[.int .i64 0, .slice none 0 0, .slice none 0 0, .slice none 0 0] 40 ?_; intro gb651 hg w47 hbox hb; have n0_ := Rb HO_625002 hb; have n1_ := Rb HO633 hb; have n2_ := am (Kd.S_below (by (with_reducible repeat (first | apply Kd.S_alloc | apply Kd.S_drewN | apply Kd.S_drew)); exact HO637.out) hb); have n3_ := Rb HO643 hb; have n4_ := Rb HO646 hb; have n5_ := Rb HO649 hb; have n6_ := Kb BK624 hb; have n7_ := Kb BK639 hb; have n8_ := Bc HB hb; have n9_ := am (hbox); have n10_ := Gm HB hg; have n11_ := Gm HB hg; have n12_ := Nl BK624 hg; have n13_ := Ng BK624 hg; have n14_ := Nl BK639 hg; have n15_ := Ng BK639 hg; clear HO_625002 HO633 HO637 HO643 HO646 HO649 BK624 BK639 HB; revert n0_ n1_ n2_ n3_ n4_ n5_ n6_ n7_ n8_ n9_ n10_ n11_ n12_ n13_ n14_ n15_; intro HO_625002 HO633 HO637 HO643 HO646 HO649 BK624 BK639 HB BK651 GW651 GE651 NB624_651 NB651_624 NB639_651 NB651_639; clear hb hbox hg; have hnb48 := NB651_624.out; have hnc48 := NB624_651.out; have hnb49 := NB651_639.out; have hnc49 := NB639_651.out; obtain ⟨hcz50_0, hcz50_1, hcz50_2, hcz50_3, hfz50_0, hfz50_1, hfz50_2, hfz50_3⟩ := cf4 (w := w47) BK651; obtain ⟨Ao51, co51, eo51⟩ := Kd.R_slice HO643.out; subst eo51; obtain ⟨Ao52, co52, eo52⟩ := Kd.R_slice HO646.out; subst eo52; obtain ⟨Ao53, co53, eo53⟩ := Kd.R_slice HO649.out; subst eo53) | ((with_reducible refine gate_callee (f := 15) rfl ?_); refine gL (some 78) Try.func15 #[.agg #[.int .i64 t640, .slice Ao51 t641.length co51], .int .i64 t629] ?_; (with_reducible refine (impl_BitAt.calls kj7 t640 _ _ t641 t629 t652 true _ ?side1 ?side2 A22.out).mono ?_); (case side1 => refine (Kd.R_reads' (e := 3) (base := w.heap.size) (ok := fun k_ => ((some k_ ≠ (.slice Ao52 t644.length co52 : Value).ownBlock ∧ some k_ ≠ (.slice Ao53 t647.length co53 : Value).ownBlock) ∧ some k_ ≠ (.slice Ao12 t620.length co12 : Value).ownBlock)) (n := t641.length) (c := co51) ?_).2.2; exact (Rz (Kd.R_mono (Kd.R_far (p := ⟨gb651, 3, none⟩) (Kd.R_far (p := ⟨gb651, 2, none⟩) (Kd.R_far (p := ⟨gb651, 1, none⟩) (Kd.R_far (p := ⟨gb651, 0, none⟩) (Kd.R_types HO643.out BK651.out (by decide)) (fun _ hk => hk.2) (.int .i64 t640)) (fun _ hk => hk.2) (.slice Ao51 t641.length co51)) (fun _ hk => hk.2) (.slice Ao52 t644.length co52)) (fun _ hk => hk.2) (.slice Ao53 t647.length co53)) (fun _ h_ => h_.1)))); (case side2 => exact (Kd.R_reads' HO643.out).2.1); rintro e w54 ⟨rfl, hb⟩; refine ⟨_, rfl, ?_⟩; have n0_ := am (Kd.R_below (Rz (Kd.R_mono (Kd.R_far (p := ⟨gb651, 3, none⟩) (Kd.R_far (p := ⟨gb651, 2, none⟩) (Kd.R_far (p := ⟨gb651, 1, none⟩) (Kd.R_far (p := ⟨gb651, 0, none⟩) (Kd.R_types HO_625002.out BK651.out (by decide)) (fun _ hk => hk.2) (.int .i64 t640)) (fun _ hk => hk.2) (.slice Ao51 t641.length co51)) (fun _ hk => hk.2) (.slice Ao52 t644.length co52)) (fun _ hk => hk.2) (.slice Ao53 t647.length co53)) (fun _ h_ => h_.1))) hb); have n1_ := am (Kd.R_below (Rz (Kd.R_mono (Kd.R_far (p := ⟨gb651, 3, none⟩) (Kd.R_far (p := ⟨gb651, 2, none⟩) (Kd.R_far (p := ⟨gb651, 1, none⟩) (Kd.R_far (p := ⟨gb651, 0, none⟩) (Kd.R_types HO633.out BK651.out (by decide)) (fun _ hk => hk.2) (.int .i64 t640)) (fun _ hk => hk.2) (.slice Ao51 t641.length co51)) (fun _ hk => hk.2) (.slice Ao52 t644.length co52)) (fun _ hk => hk.2) (.slice Ao53 t647.length co53)) (fun _ h_ => h_.1))) hb); have n2_ := am (Kd.S_below (by (with_reducible repeat (first | apply Kd.S_alloc | apply Kd.S_drewN | apply Kd.S_drew)); exact (Kd.S_mono (Kd.S_far (p := ⟨gb651, 3, none⟩) (Kd.S_far (p := ⟨gb651, 2, none⟩) (Kd.S_far (p := ⟨gb651, 1, none⟩) (Kd.S_far (p := ⟨gb651, 0, none⟩) (Kd.S_types HO637.out BK651.out (by decide)) (fun _ hk => hk.2) (.int .i64 t640)) (fun _ hk => hk.2) (.slice Ao51 t641.length co51)) (fun _ hk => hk.2) (.slice Ao52 t644.length co52)) (fun _ hk => hk.2) (.slice Ao53 t647.length co53)) (fun _ h_ => h_.1))) hb); have n3_ := am (Kd.R_below (Rz (Kd.R_mono (Kd.R_far (p := ⟨gb651, 3, none⟩) (Kd.R_far (p := ⟨gb651, 2, none⟩) (Kd.R_far (p := ⟨gb651, 1, none⟩) (Kd.R_far (p := ⟨gb651, 0, none⟩) (Kd.R_types HO643.out BK651.out (by decide)) (fun _ hk => hk.2) (.int .i64 t640)) (fun _ hk => hk.2) (.slice Ao51 t641.length co51)) (fun _ hk => hk.2) (.slice Ao52 t644.length co52)) (fun _ hk => hk.2) (.slice Ao53 t647.length co53)) (fun _ h_ => h_.1))) hb); have n4_ := am (Kd.R_below (Rz (Kd.R_mono (Kd.R_far (p := ⟨gb651, 3, none⟩) (Kd.R_far (p := ⟨gb651, 2, none⟩) (Kd.R_far (p := ⟨gb651, 1, none⟩) (Kd.R_far (p := ⟨gb651, 0, none⟩) (Kd.R_types HO646.out BK651.out (by decide)) (fun _ hk => hk.2) (.int .i64 t640)) (fun _ hk => hk.2) (.slice Ao51 t641.length co51)) (fun _ hk => hk.2) (.slice Ao52 t644.length co52)) (fun _ hk => hk.2) (.slice Ao53 t647.length co53)) (fun _ h_ => h_.1))) hb); have n5_ := am (Kd.R_below (Rz (Kd.R_mono (Kd.R_far (p := ⟨gb651, 3, none⟩) (Kd.R_far (p := ⟨gb651, 2, none⟩) (Kd.R_far (p := ⟨gb651, 1, none⟩) (Kd.R_far (p := ⟨gb651, 0, none⟩) (Kd.R_types HO649.out BK651.out (by decide)) (fun _ hk => hk.2) (.int .i64 t640)) (fun _ hk => hk.2) (.slice Ao51 t641.length co51)) (fun _ hk => hk.2) (.slice Ao52 t644.length co52)) (fun _ hk => hk.2) (.slice Ao53 t647.length co53)) (fun _ h_ => h_.1))) hb); have n6_ := am (blk_below (g := gb624) (o := .cells #[.int .i64 t618, .int .i64 t619, .slice Ao12 t620.length co12] 26 (0, 0)) (by (with_reducible repeat (first | refine blk_drewN ?_ _ | refine blk_drew ?_ | refine blk_alloc ?_ _)); refine blk_far ?_ NB624_651.out _; (with_reducible repeat (first | refine blk_drewN ?_ _ | refine blk_drew ?_ | refine blk_alloc ?_ _)); refine blk_far ?_ NB624_651.out _; (with_reducible repeat (first | refine blk_drewN ?_ _ | refine blk_drew ?_ | refine blk_alloc ?_ _)); refine blk_far ?_ NB624_651.out _; (with_reducible repeat (first | refine blk_drewN ?_ _ | refine blk_drew ?_ | refine blk_alloc ?_ _)); refine blk_far ?_ NB624_651.out _; exact Kz BK624.out) hb); have n7_ := am (blk_below (g := gb639) (o := .cells #[.int .i64 t634, .slice Ao44 t635.length co44] 33 (0, 0)) (by (with_reducible repeat (first | refine blk_drewN ?_ _ | refine blk_drew ?_ | refine blk_alloc ?_ _)); refine blk_far ?_ NB639_651.out _; (with_reducible repeat (first | refine blk_drewN ?_ _ | refine blk_drew ?_ | refine blk_alloc ?_ _)); refine blk_far ?_ NB639_651.out _; (with_reducible repeat (first | refine blk_drewN ?_ _ | refine blk_drew ?_ | refine blk_alloc ?_ _)); refine blk_far ?_ NB639_651.out _; (with_reducible repeat (first | refine blk_drewN ?_ _ | refine blk_drew ?_ | refine blk_alloc ?_ _)); refine blk_far ?_ NB639_651.out _; exact Kz BK639.out) hb); have n8_ := am (blk_below (g := gb651) (o := .cells #[.int .i64 t640, .slice Ao51 t641.length co51, .slice Ao52 t644.length co52, .slice Ao53 t647.length co53] 40 (0, 0)) (by (with_reducible repeat (first | refine blk_drewN ?_ _ | refine blk_drew ?_ | refine blk_alloc ?_ _)); refine blk_put (cs := #[.int .i64 t640, .slice Ao51 t641.length co51, .slice Ao52 t644.length co52, .slice none 0 0]) ?_ 3 _ rfl; (with_reducible repeat (first | refine blk_drewN ?_ _ | refine blk_drew ?_ | refine blk_alloc ?_ _)); refine blk_put (cs := #[.int .i64 t640, .slice Ao51 t641.length co51, .slice none 0 0, .slice none 0 0]) ?_ 2 _ rfl; (with_reducible repeat (first | refine blk_drewN ?_ _ | refine blk_drew ?_ | refine blk_alloc ?_ _)); refine blk_put (cs := #[.int .i64 t640, .slice none 0 0, .slice none 0 0, .slice none 0 0]) ?_ 1 _ rfl; (with_reducible repeat (first | refine blk_drewN ?_ _ | refine blk_drew ?_ | refine blk_alloc ?_ _)); refine blk_put (cs := #[.int .i64 0, .slice none 0 0, .slice none 0 0, .slice none 0 0]) ?_ 0 _ rfl; exact Kz BK651.out) hb); have n9_ := Bc HB hb; clear HO_625002 HO633 HO637 HO643 HO646 HO649 BK624 BK639 BK651 HB; revert n0_ n1_ n2_ n3_ n4_ n5_ n6_ n7_ n8_ n9_; intro HO_625002 HO633 HO637 HO643 HO646 HO649 BK624 BK639 BK651 HB; (try clear hb); (try clear hb2); (try clear hk); (try clear hi); obtain ⟨hcz55_0, hcz55_1, hcz55_2, hcz55_3, hfz55_0, hfz55_1, hfz55_2, hfz55_3⟩ := cf4 (w := w54) BK651) | ((with_reducible refine gate_callee (f := 16) rfl ?_); refine gL (some 84) Try.func16 #[.agg #[.int .i64 t640, .slice Ao51 t641.length co51, .slice Ao52 t644.length co52, .slice Ao53 t647.length co53], .int .i64 t629] ?_; (with_reducible refine (impl_Rank1.calls kj7 t640 _ _ t641 _ _ t644 _ _ t647 t629 t654 true _ ?side1 ?side2 ?side3 ?side4 ?side5 ?side6 A23.out).mono ?_); (case side1 => exact Cz ((Kd.R_reads' HO643.out).2.2)); (case side2 => exact (Kd.R_reads' HO643.out).2.1); (case side3 => exact Cz ((Kd.R_reads' HO646.out).2.2)); (case side4 => exact (Kd.R_reads' HO646.out).2.1); (case side5 => exact Cz ((Kd.R_reads' HO649.out).2.2)); (case side6 => exact (Kd.R_reads' HO649.out).2.1); rintro e w56 ⟨rfl, hb⟩; refine ⟨_, rfl, ?_⟩; have n0_ := Rb HO_625002 hb; have n1_ := Rb HO633 hb; have n2_ := am (Kd.S_below (by (with_reducible repeat (first | apply Kd.S_alloc | apply Kd.S_drewN | apply Kd.S_drew)); exact HO637.out) hb); have n3_ := Rb HO643 hb; have n4_ := Rb HO646 hb; have n5_ := Rb HO649 hb; have n6_ := Kb BK624 hb; have n7_ := Kb BK639 hb; have n8_ := Kb BK651 hb; have n9_ := Bc HB hb; clear HO_625002 HO633 HO637 HO643 HO646 HO649 BK624 BK639 BK651 HB; revert n0_ n1_ n2_ n3_ n4_ n5_ n6_ n7_ n8_ n9_; intro HO_625002 HO633 HO637 HO643 HO646 HO649 BK624 BK639 BK651 HB; (try clear hb); (try clear hb2); (try clear hk); (try clear hi); obtain ⟨hcz57_0, hcz57_1, hfz57_0, hfz57_1⟩ := cf2 (w := w56) BK639; have p656 : 0 ≤ (0 : Int) := (by omega); have q656 : 0 < (t635.length : Int) := dT; obtain ⟨ad656, A656_0, c656_0, e656, hx656_0, hl656_0, hi656_0⟩ := at_L3 (Kd.S_reads' HO637.out).2.2 0 p656 q656; cases e656; obtain ⟨ce656, hce656, hMe656, hcc656⟩ := Kd.S_get HO637.out [] 0 p656 (by first | exact q656 | exact dT | (have e_ := (Kd.S_reads' HO637.out).1; omega)); obtain ⟨ve656_0, rfl, ge656_0⟩ := hMe656; have hv656_0 := hcc656 0 _ rfl; rw [Nat.add_zero, show ((Kd.slice 3 (Kd.int .i64))).sz = 1 from rfl, Nat.mul_one] at hv656_0; replace hv656_0 := Option.some.inj (hv656_0.symm.trans hx656_0); rw [hv656_0] at ge656_0; have HL656_0 := am (show Kd.R (Kd.int .i64) 3 _ _ _ _ (rd_L3 t635 0) from ge656_0); clear hv656_0 ge656_0; clear hcc656 hce656; have qi656 : (0 < t635.length) = True := eq_true (by omega); (try rw [show ((0 : Int)).toNat = 0 from rfl] at hx656_0); (try rw [Addr.add_zero'] at hx656_0); have HR656_0 := am hi656_0; have HC656_0 := am hl656_0; clear hi656_0 hl656_0; replace p656 := eq_true p656; replace q656 := eq_true q656) | (go_at_call 17; (with_reducible refine (laws_pHas.calls kj7 _ _ (rd_L3 t635 0) t629 true _ ?side1 ?side2 A29.out).mono ?_); (case side1 => repeat (first | exact (by repeat (first | (with_reducible exact HR656_0.out) | (with_reducible refine Kd.C_alloc ?_ _) | (with_reducible refine Kd.C_drewN ?_ _) | (with_reducible refine Kd.C_drew ?_) | exact HR656_0.out)) | (with_reducible refine Kd.C_alloc ?_ _) | (with_reducible refine Kd.C_drewN ?_ _) | (with_reducible refine Kd.C_drew ?_))); (case side2 => exact HC656_0.out); rintro e w' ⟨rfl, ⟨nd, rfl⟩⟩))
              go_ret
              exact ⟨eZ, Bq⟩
             ·replace c32 := Bool.eq_false_iff.mpr c32
              subst c32
              rw [if_neg (show ¬ (false = true) by decide)] at H; obtain rfl := Option.some.inj H; obtain ⟨hcz58_0, hcz58_1, hcz58_2, hfz58_0, hfz58_1, hfz58_2⟩ := cf3 (w := wc) BK624
              go_wp2_with (first | ((with_reducible refine gate_callee (f := 12) rfl ?_); refine gL (some 52) Try.func12 #[.agg #[.int .i64 t618, .int .i64 t619, .slice Ao12 t620.length co12], .string t623] ?_; (with_reducible refine (impl_PeeledPlace.calls kj7 t618 t619 _ _ t620 t623 t629 true _ ?side1 ?side2 A18.out).mono ?_); (case side1 => exact Cz ((Kd.R_reads' HO_625002.out).2.2)); (case side2 => exact (Kd.R_reads' HO_625002.out).2.1); rintro e w59 ⟨rfl, hb⟩; refine ⟨_, rfl, ?_⟩; have n0_ := Rb HO_625002 hb; have n1_ := Kb BK624 hb; have n2_ := Bc HB hb; clear HO_625002 BK624 HB; revert n0_ n1_ n2_; intro HO_625002 BK624 HB; (try clear hb); (try clear hb2); (try clear hk); (try clear hi); obtain ⟨hcz60_0, hcz60_1, hcz60_2, hfz60_0, hfz60_1, hfz60_2⟩ := cf3 (w := w59) BK624) | ((with_reducible refine gate_dst (N := 63) rfl ?_); refine Kd.R_lit Kd.string _ 9 ?hg (N := 63) ?hd (xs := ([t623] : List ByteArray)) (inner := [.string t623]) (ok := fun _ => True) (okp := fun _ => True) ?hr ?hp (fun _ hk => hk) trivial (Below.refl _ _) (Nat.le_refl _) (by simp) ?_; (case hd => rfl); (case hg => rfl); (case hr => first | (go_simp; done) | (go_simp; rfl)); (case hp => exact (Reps.one (show Kd.M Kd.string _ _ _ t623 [.string t623] from rfl) (Reps.none _ _))); intro v632 w61 ho62 hb hg_ hnew_; clear hg_ hnew_; (first | rw [← Ny631.out] at ho62 | (simp only [Int.reduceToNat] at ho62; rw [← Ny631.out] at ho62)); have n0_ := Rb HO_625002 hb; have n1_ := Rm ho62 HB; have n2_ := Kb BK624 hb; have n3_ := Bc HB hb; clear HO_625002 BK624 HB; revert n0_ n1_ n2_ n3_; intro HO_625002 HO633 BK624 HB; clear hb ho62; obtain ⟨hcz63_0, hcz63_1, hcz63_2, hfz63_0, hfz63_1, hfz63_2⟩ := cf3 (w := w61) BK624; obtain ⟨Ao64, co64, eo64⟩ := Kd.R_slice HO633.out; subst eo64) | ((with_reducible refine gate_callee (f := 13) rfl ?_); refine gL (some 66) Try.func13 #[.int .i64 t618, .slice Ao64 y631.length co64, .int .i64 t619] ?_; (with_reducible refine (impl_HyperOf.calls kj7 t618 _ _ y631 t619 t634 t635 true _ ?side1 ?side2 A20.out).mono ?_); (case side1 => exact Cz ((Kd.R_reads' HO633.out).2.2)); (case side2 => exact (Kd.R_reads' HO633.out).2.1); rintro e w65 ⟨v636, rfl, ho0, hb⟩; refine ⟨_, rfl, ?_⟩; have n0_ := Rb HO_625002 hb; have n1_ := Rb HO633 hb; have n2_ := am (Kd.S_lower (Kd.S_new' ho0 (Kd.R_lt (Rz HO_625002.out))) (below_size (w := w) (Bq))); have n3_ := Kb BK624 hb; have n4_ := Bc HB hb; clear HO_625002 HO633 BK624 HB; revert n0_ n1_ n2_ n3_ n4_; intro HO_625002 HO633 HO637 BK624 HB; (try clear hb); (try clear hb2); (try clear hk); (try clear hi); (try clear ho0)) | ((with_reducible refine gate_dst (N := 13) rfl ?_); refine bE 13 #[.int .i64 0, .slice none 0 0] 33 ?_; intro gb639 hg w66 hbox hb; have n0_ := Rb HO_625002 hb; have n1_ := Rb HO633 hb; have n2_ := am (Kd.S_below (by (with_reducible repeat (first | apply Kd.S_alloc | apply Kd.S_drewN | apply Kd.S_drew)); exact HO637.out) hb); have n3_ := Kb BK624 hb; have n4_ := Bc HB hb; have n5_ := am (hbox); have n6_ := Gm HB hg; have n7_ := Gm HB hg; have n8_ := Nl BK624 hg; have n9_ := Ng BK624 hg; clear HO_625002 HO633 HO637 BK624 HB; revert n0_ n1_ n2_ n3_ n4_ n5_ n6_ n7_ n8_ n9_; intro HO_625002 HO633 HO637 BK624 HB BK639 GW639 GE639 NB624_639 NB639_624; clear hb hbox hg; have hnb67 := NB639_624.out; have hnc67 := NB624_639.out; obtain ⟨hcz68_0, hcz68_1, hfz68_0, hfz68_1⟩ := cf2 (w := w66) BK639; obtain ⟨Ao69, co69, eo69⟩ := Kd.S_slice HO637.out; subst eo69; obtain ⟨hcz70_0, hcz70_1, hcz70_2, hfz70_0, hfz70_1, hfz70_2⟩ := cf3 (w := w66) BK624) | ((with_reducible refine gate_callee (f := 14) rfl ?_); refine gL (some 71) Try.func14 #[.agg #[.int .i64 t618, .int .i64 t619, .slice Ao12 t620.length co12]] ?_; (with_reducible refine (impl_UsedOf.calls kj7 t618 t619 _ _ t620 t640 t641 t644 t647 true _ ?side1 ?side2 A21.out).mono ?_); (case side1 => refine (Kd.R_reads' (e := 3) (base := w.heap.size) (ok := fun k_ => True) (n := t620.length) (c := co12) ?_).2.2; exact (Rz (Kd.R_mono (Kd.R_far (p := ⟨gb639, 1, none⟩) (Kd.R_far (p := ⟨gb639, 0, none⟩) (Kd.R_types HO_625002.out BK639.out (by decide)) (fun _ hk => hk.2) (.int .i64 t634)) (fun _ hk => hk.2) (.slice Ao69 t635.length co69)) (fun _ h_ => h_.1)))); (case side2 => exact (Kd.R_reads' HO_625002.out).2.1); rintro e w71 ⟨v642, v645, v648, rfl, ho0, ho1, ho2, hb⟩; refine ⟨_, rfl, ?_⟩; have n0_ := am (Kd.R_mono (Kd.R_told (Kd.R_told (Kd.R_told (Kd.R_old (Rz (Kd.R_mono (Kd.R_far (p := ⟨gb639, 1, none⟩) (Kd.R_far (p := ⟨gb639, 0, none⟩) (Kd.R_types HO_625002.out BK639.out (by decide)) (fun _ hk => hk.2) (.int .i64 t634)) (fun _ hk => hk.2) (.slice Ao69 t635.length co69)) (fun _ h_ => h_.1))) hb) (Kd.R_base ho0)) (Kd.R_base ho1)) (Kd.R_base ho2)) (fun _ h_ => h_.1)); have n1_ := am (Kd.R_below (Rz (Kd.R_mono (Kd.R_far (p := ⟨gb639, 1, none⟩) (Kd.R_far (p := ⟨gb639, 0, none⟩) (Kd.R_types HO633.out BK639.out (by decide)) (fun _ hk => hk.2) (.int .i64 t634)) (fun _ hk => hk.2) (.slice Ao69 t635.length co69)) (fun _ h_ => h_.1))) hb); have n2_ := am (Kd.S_mono (Kd.S_told (Kd.S_told (Kd.S_told (Kd.S_old (by (with_reducible repeat (first | apply Kd.S_alloc | apply Kd.S_drewN | apply Kd.S_drew)); exact (Kd.S_mono (Kd.S_far (p := ⟨gb639, 1, none⟩) (Kd.S_far (p := ⟨gb639, 0, none⟩) (Kd.S_types HO637.out BK639.out (by decide)) (fun _ hk => hk.2) (.int .i64 t634)) (fun _ hk => hk.2) (.slice Ao69 t635.length co69)) (fun _ h_ => h_.1))) hb) (Kd.R_base ho0)) (Kd.R_base ho1)) (Kd.R_base ho2)) (fun _ h_ => h_.1)); have n3_ := am (Kd.R_lower (Kd.R_new' ho0 (Kd.R_lt (Rz (Kd.R_mono (Kd.R_far (p := ⟨gb639, 1, none⟩) (Kd.R_far (p := ⟨gb639, 0, none⟩) (Kd.R_types HO_625002.out BK639.out (by decide)) (fun _ hk => hk.2) (.int .i64 t634)) (fun _ hk => hk.2) (.slice Ao69 t635.length co69)) (fun _ h_ => h_.1))))) (below_size (w := w) (Bq))); have n4_ := am (Kd.R_lower (Kd.R_new' ho1 (Kd.R_lt (Rz (Kd.R_mono (Kd.R_far (p := ⟨gb639, 1, none⟩) (Kd.R_far (p := ⟨gb639, 0, none⟩) (Kd.R_types HO_625002.out BK639.out (by decide)) (fun _ hk => hk.2) (.int .i64 t634)) (fun _ hk => hk.2) (.slice Ao69 t635.length co69)) (fun _ h_ => h_.1))))) (below_size (w := w) (Bq))); have n5_ := am (Kd.R_lower (Kd.R_new' ho2 (Kd.R_lt (Rz (Kd.R_mono (Kd.R_far (p := ⟨gb639, 1, none⟩) (Kd.R_far (p := ⟨gb639, 0, none⟩) (Kd.R_types HO_625002.out BK639.out (by decide)) (fun _ hk => hk.2) (.int .i64 t634)) (fun _ hk => hk.2) (.slice Ao69 t635.length co69)) (fun _ h_ => h_.1))))) (below_size (w := w) (Bq))); have n6_ := am (blk_below (g := gb624) (o := .cells #[.int .i64 t618, .int .i64 t619, .slice Ao12 t620.length co12] 26 (0, 0)) (by (with_reducible repeat (first | refine blk_drewN ?_ _ | refine blk_drew ?_ | refine blk_alloc ?_ _)); refine blk_far ?_ NB624_639.out _; (with_reducible repeat (first | refine blk_drewN ?_ _ | refine blk_drew ?_ | refine blk_alloc ?_ _)); refine blk_far ?_ NB624_639.out _; exact Kz BK624.out) hb); have n7_ := am (blk_below (g := gb639) (o := .cells #[.int .i64 t634, .slice Ao69 t635.length co69] 33 (0, 0)) (by (with_reducible repeat (first | refine blk_drewN ?_ _ | refine blk_drew ?_ | refine blk_alloc ?_ _)); refine blk_put (cs := #[.int .i64 t634, .slice none 0 0]) ?_ 1 _ rfl; (with_reducible repeat (first | refine blk_drewN ?_ _ | refine blk_drew ?_ | refine blk_alloc ?_ _)); refine blk_put (cs := #[.int .i64 0, .slice none 0 0]) ?_ 0 _ rfl; exact Kz BK639.out) hb); have n8_ := Bc HB hb; clear HO_625002 HO633 HO637 BK624 BK639 HB; revert n0_ n1_ n2_ n3_ n4_ n5_ n6_ n7_ n8_; intro HO_625002 HO633 HO637 HO643 HO646 HO649 BK624 BK639 HB; (try clear hb); (try clear hb2); (try clear hk); (try clear hi); (try clear ho0); (try clear ho1); (try clear ho2)) | ((with_reducible refine gate_dst (N := 15) rfl ?_); refine bE 15 #[.int .i64 0, .slice none 0 0, .slice none 0 0, .slice none 0 0] 40 ?_; intro gb651 hg w72 hbox hb; have n0_ := Rb HO_625002 hb; have n1_ := Rb HO633 hb; have n2_ := am (Kd.S_below (by (with_reducible repeat (first | apply Kd.S_alloc | apply Kd.S_drewN | apply Kd.S_drew)); exact HO637.out) hb); have n3_ := Rb HO643 hb; have n4_ := Rb HO646 hb; have n5_ := Rb HO649 hb; have n6_ := Kb BK624 hb; have n7_ := Kb BK639 hb; have n8_ := Bc HB hb; have n9_ := am (hbox); have n10_ := Gm HB hg; have n11_ := Gm HB hg; have n12_ := Nl BK624 hg; have n13_ := Ng BK624 hg; have n14_ := Nl BK639 hg; have n15_ := Ng BK639 hg; clear HO_625002 HO633 HO637 HO643 HO646 HO649 BK624 BK639 HB; revert n0_ n1_ n2_ n3_ n4_ n5_ n6_ n7_ n8_ n9_ n10_ n11_ n12_ n13_ n14_ n15_; intro HO_625002 HO633 HO637 HO643 HO646 HO649 BK624 BK639 HB BK651 GW651 GE651 NB624_651 NB651_624 NB639_651 NB651_639; clear hb hbox hg; have hnb73 := NB651_624.out; have hnc73 := NB624_651.out; have hnb74 := NB651_639.out; have hnc74 := NB639_651.out; obtain ⟨hcz75_0, hcz75_1, hcz75_2, hcz75_3, hfz75_0, hfz75_1, hfz75_2, hfz75_3⟩ := cf4 (w := w72) BK651; obtain ⟨Ao76, co76, eo76⟩ := Kd.R_slice HO643.out; subst eo76; obtain ⟨Ao77, co77, eo77⟩ := Kd.R_slice HO646.out; subst eo77; obtain ⟨Ao78, co78, eo78⟩ := Kd.R_slice HO649.out; subst eo78) | ((with_reducible refine gate_callee (f := 15) rfl ?_); refine gL (some 78) Try.func15 #[.agg #[.int .i64 t640, .slice Ao76 t641.length co76], .int .i64 t629] ?_; (with_reducible refine (impl_BitAt.calls kj7 t640 _ _ t641 t629 t652 true _ ?side1 ?side2 A22.out).mono ?_); (case side1 => refine (Kd.R_reads' (e := 3) (base := w.heap.size) (ok := fun k_ => ((some k_ ≠ (.slice Ao77 t644.length co77 : Value).ownBlock ∧ some k_ ≠ (.slice Ao78 t647.length co78 : Value).ownBlock) ∧ some k_ ≠ (.slice Ao12 t620.length co12 : Value).ownBlock)) (n := t641.length) (c := co76) ?_).2.2; exact (Rz (Kd.R_mono (Kd.R_far (p := ⟨gb651, 3, none⟩) (Kd.R_far (p := ⟨gb651, 2, none⟩) (Kd.R_far (p := ⟨gb651, 1, none⟩) (Kd.R_far (p := ⟨gb651, 0, none⟩) (Kd.R_types HO643.out BK651.out (by decide)) (fun _ hk => hk.2) (.int .i64 t640)) (fun _ hk => hk.2) (.slice Ao76 t641.length co76)) (fun _ hk => hk.2) (.slice Ao77 t644.length co77)) (fun _ hk => hk.2) (.slice Ao78 t647.length co78)) (fun _ h_ => h_.1)))); (case side2 => exact (Kd.R_reads' HO643.out).2.1); rintro e w79 ⟨rfl, hb⟩; refine ⟨_, rfl, ?_⟩; have n0_ := am (Kd.R_below (Rz (Kd.R_mono (Kd.R_far (p := ⟨gb651, 3, none⟩) (Kd.R_far (p := ⟨gb651, 2, none⟩) (Kd.R_far (p := ⟨gb651, 1, none⟩) (Kd.R_far (p := ⟨gb651, 0, none⟩) (Kd.R_types HO_625002.out BK651.out (by decide)) (fun _ hk => hk.2) (.int .i64 t640)) (fun _ hk => hk.2) (.slice Ao76 t641.length co76)) (fun _ hk => hk.2) (.slice Ao77 t644.length co77)) (fun _ hk => hk.2) (.slice Ao78 t647.length co78)) (fun _ h_ => h_.1))) hb); have n1_ := am (Kd.R_below (Rz (Kd.R_mono (Kd.R_far (p := ⟨gb651, 3, none⟩) (Kd.R_far (p := ⟨gb651, 2, none⟩) (Kd.R_far (p := ⟨gb651, 1, none⟩) (Kd.R_far (p := ⟨gb651, 0, none⟩) (Kd.R_types HO633.out BK651.out (by decide)) (fun _ hk => hk.2) (.int .i64 t640)) (fun _ hk => hk.2) (.slice Ao76 t641.length co76)) (fun _ hk => hk.2) (.slice Ao77 t644.length co77)) (fun _ hk => hk.2) (.slice Ao78 t647.length co78)) (fun _ h_ => h_.1))) hb); have n2_ := am (Kd.S_below (by (with_reducible repeat (first | apply Kd.S_alloc | apply Kd.S_drewN | apply Kd.S_drew)); exact (Kd.S_mono (Kd.S_far (p := ⟨gb651, 3, none⟩) (Kd.S_far (p := ⟨gb651, 2, none⟩) (Kd.S_far (p := ⟨gb651, 1, none⟩) (Kd.S_far (p := ⟨gb651, 0, none⟩) (Kd.S_types HO637.out BK651.out (by decide)) (fun _ hk => hk.2) (.int .i64 t640)) (fun _ hk => hk.2) (.slice Ao76 t641.length co76)) (fun _ hk => hk.2) (.slice Ao77 t644.length co77)) (fun _ hk => hk.2) (.slice Ao78 t647.length co78)) (fun _ h_ => h_.1))) hb); have n3_ := am (Kd.R_below (Rz (Kd.R_mono (Kd.R_far (p := ⟨gb651, 3, none⟩) (Kd.R_far (p := ⟨gb651, 2, none⟩) (Kd.R_far (p := ⟨gb651, 1, none⟩) (Kd.R_far (p := ⟨gb651, 0, none⟩) (Kd.R_types HO643.out BK651.out (by decide)) (fun _ hk => hk.2) (.int .i64 t640)) (fun _ hk => hk.2) (.slice Ao76 t641.length co76)) (fun _ hk => hk.2) (.slice Ao77 t644.length co77)) (fun _ hk => hk.2) (.slice Ao78 t647.length co78)) (fun _ h_ => h_.1))) hb); have n4_ := am (Kd.R_below (Rz (Kd.R_mono (Kd.R_far (p := ⟨gb651, 3, none⟩) (Kd.R_far (p := ⟨gb651, 2, none⟩) (Kd.R_far (p := ⟨gb651, 1, none⟩) (Kd.R_far (p := ⟨gb651, 0, none⟩) (Kd.R_types HO646.out BK651.out (by decide)) (fun _ hk => hk.2) (.int .i64 t640)) (fun _ hk => hk.2) (.slice Ao76 t641.length co76)) (fun _ hk => hk.2) (.slice Ao77 t644.length co77)) (fun _ hk => hk.2) (.slice Ao78 t647.length co78)) (fun _ h_ => h_.1))) hb); have n5_ := am (Kd.R_below (Rz (Kd.R_mono (Kd.R_far (p := ⟨gb651, 3, none⟩) (Kd.R_far (p := ⟨gb651, 2, none⟩) (Kd.R_far (p := ⟨gb651, 1, none⟩) (Kd.R_far (p := ⟨gb651, 0, none⟩) (Kd.R_types HO649.out BK651.out (by decide)) (fun _ hk => hk.2) (.int .i64 t640)) (fun _ hk => hk.2) (.slice Ao76 t641.length co76)) (fun _ hk => hk.2) (.slice Ao77 t644.length co77)) (fun _ hk => hk.2) (.slice Ao78 t647.length co78)) (fun _ h_ => h_.1))) hb); have n6_ := am (blk_below (g := gb624) (o := .cells #[.int .i64 t618, .int .i64 t619, .slice Ao12 t620.length co12] 26 (0, 0)) (by (with_reducible repeat (first | refine blk_drewN ?_ _ | refine blk_drew ?_ | refine blk_alloc ?_ _)); refine blk_far ?_ NB624_651.out _; (with_reducible repeat (first | refine blk_drewN ?_ _ | refine blk_drew ?_ | refine blk_alloc ?_ _)); refine blk_far ?_ NB624_651.out _; (with_reducible repeat (first | refine blk_drewN ?_ _ | refine blk_drew ?_ | refine blk_alloc ?_ _)); refine blk_far ?_ NB624_651.out _; (with_reducible repeat (first | refine blk_drewN ?_ _ | refine blk_drew ?_ | refine blk_alloc ?_ _)); refine blk_far ?_ NB624_651.out _; exact Kz BK624.out) hb); have n7_ := am (blk_below (g := gb639) (o := .cells #[.int .i64 t634, .slice Ao69 t635.length co69] 33 (0, 0)) (by (with_reducible repeat (first | refine blk_drewN ?_ _ | refine blk_drew ?_ | refine blk_alloc ?_ _)); refine blk_far ?_ NB639_651.out _; (with_reducible repeat (first | refine blk_drewN ?_ _ | refine blk_drew ?_ | refine blk_alloc ?_ _)); refine blk_far ?_ NB639_651.out _; (with_reducible repeat (first | refine blk_drewN ?_ _ | refine blk_drew ?_ | refine blk_alloc ?_ _)); refine blk_far ?_ NB639_651.out _; (with_reducible repeat (first | refine blk_drewN ?_ _ | refine blk_drew ?_ | refine blk_alloc ?_ _)); refine blk_far ?_ NB639_651.out _; exact Kz BK639.out) hb); have n8_ := am (blk_below (g := gb651) (o := .cells #[.int .i64 t640, .slice Ao76 t641.length co76, .slice Ao77 t644.length co77, .slice Ao78 t647.length co78] 40 (0, 0)) (by (with_reducible repeat (first | refine blk_drewN ?_ _ | refine blk_drew ?_ | refine blk_alloc ?_ _)); refine blk_put (cs := #[.int .i64 t640, .slice Ao76 t641.length co76, .slice Ao77 t644.length co77, .slice none 0 0]) ?_ 3 _ rfl; (with_reducible repeat (first | refine blk_drewN ?_ _ | refine blk_drew ?_ | refine blk_alloc ?_ _)); refine blk_put (cs := #[.int .i64 t640, .slice Ao76 t641.length co76, .slice none 0 0, .slice none 0 0]) ?_ 2 _ rfl; (with_reducible repeat (first | refine blk_drewN ?_ _ | refine blk_drew ?_ | refine blk_alloc ?_ _)); refine blk_put (cs := #[.int .i64 t640, .slice none 0 0, .slice none 0 0, .slice none 0 0]) ?_ 1 _ rfl; (with_reducible repeat (first | refine blk_drewN ?_ _ | refine blk_drew ?_ | refine blk_alloc ?_ _)); refine blk_put (cs := #[.int .i64 0, .slice none 0 0, .slice none 0 0, .slice none 0 0]) ?_ 0 _ rfl; exact Kz BK651.out) hb); have n9_ := Bc HB hb; clear HO_625002 HO633 HO637 HO643 HO646 HO649 BK624 BK639 BK651 HB; revert n0_ n1_ n2_ n3_ n4_ n5_ n6_ n7_ n8_ n9_; intro HO_625002 HO633 HO637 HO643 HO646 HO649 BK624 BK639 BK651 HB; (try clear hb); (try clear hb2); (try clear hk); (try clear hi); obtain ⟨hcz80_0, hcz80_1, hcz80_2, hcz80_3, hfz80_0, hfz80_1, hfz80_2, hfz80_3⟩ := cf4 (w := w79) BK651) | ((with_reducible refine gate_callee (f := 16) rfl ?_); refine gL (some 84) Try.func16 #[.agg #[.int .i64 t640, .slice Ao76 t641.length co76, .slice Ao77 t644.length co77, .slice Ao78 t647.length co78], .int .i64 t629] ?_; (with_reducible refine (impl_Rank1.calls kj7 t640 _ _ t641 _ _ t644 _ _ t647 t629 t654 true _ ?side1 ?side2 ?side3 ?side4 ?side5 ?side6 A23.out).mono ?_); (case side1 => exact Cz ((Kd.R_reads' HO643.out).2.2)); (case side2 => exact (Kd.R_reads' HO643.out).2.1); (case side3 => exact Cz ((Kd.R_reads' HO646.out).2.2)); (case side4 => exact (Kd.R_reads' HO646.out).2.1); (case side5 => exact Cz ((Kd.R_reads' HO649.out).2.2)); (case side6 => exact (Kd.R_reads' HO649.out).2.1); rintro e w81 ⟨rfl, hb⟩; refine ⟨_, rfl, ?_⟩; have n0_ := Rb HO_625002 hb; have n1_ := Rb HO633 hb; have n2_ := am (Kd.S_below (by (with_reducible repeat (first | apply Kd.S_alloc | apply Kd.S_drewN | apply Kd.S_drew)); exact HO637.out) hb); have n3_ := Rb HO643 hb; have n4_ := Rb HO646 hb; have n5_ := Rb HO649 hb; have n6_ := Kb BK624 hb; have n7_ := Kb BK639 hb; have n8_ := Kb BK651 hb; have n9_ := Bc HB hb; clear HO_625002 HO633 HO637 HO643 HO646 HO649 BK624 BK639 BK651 HB; revert n0_ n1_ n2_ n3_ n4_ n5_ n6_ n7_ n8_ n9_; intro HO_625002 HO633 HO637 HO643 HO646 HO649 BK624 BK639 BK651 HB; (try clear hb); (try clear hb2); (try clear hk); (try clear hi); obtain ⟨hcz82_0, hcz82_1, hfz82_0, hfz82_1⟩ := cf2 (w := w81) BK639; have p656 : 0 ≤ (0 : Int) := (by omega); have q656 : 0 < (t635.length : Int) := dT; obtain ⟨ad656, A656_0, c656_0, e656, hx656_0, hl656_0, hi656_0⟩ := at_L3 (Kd.S_reads' HO637.out).2.2 0 p656 q656; cases e656; obtain ⟨ce656, hce656, hMe656, hcc656⟩ := Kd.S_get HO637.out [] 0 p656 (by first | exact q656 | exact dT | (have e_ := (Kd.S_reads' HO637.out).1; omega)); obtain ⟨ve656_0, rfl, ge656_0⟩ := hMe656; have hv656_0 := hcc656 0 _ rfl; rw [Nat.add_zero, show ((Kd.slice 3 (Kd.int .i64))).sz = 1 from rfl, Nat.mul_one] at hv656_0; replace hv656_0 := Option.some.inj (hv656_0.symm.trans hx656_0); rw [hv656_0] at ge656_0; have HL656_0 := am (show Kd.R (Kd.int .i64) 3 _ _ _ _ (rd_L3 t635 0) from ge656_0); clear hv656_0 ge656_0; clear hcc656 hce656; have qi656 : (0 < t635.length) = True := eq_true (by omega); (try rw [show ((0 : Int)).toNat = 0 from rfl] at hx656_0); (try rw [Addr.add_zero'] at hx656_0); have HR656_0 := am hi656_0; have HC656_0 := am hl656_0; clear hi656_0 hl656_0; replace p656 := eq_true p656; replace q656 := eq_true q656) | (go_at_call 17; (with_reducible refine (laws_pHas.calls kj7 _ _ (rd_L3 t635 0) t629 true _ ?side1 ?side2 A29.out).mono ?_); (case side1 => repeat (first | exact (by repeat (first | (with_reducible exact HR656_0.out) | (with_reducible refine Kd.C_alloc ?_ _) | (with_reducible refine Kd.C_drewN ?_ _) | (with_reducible refine Kd.C_drew ?_) | exact HR656_0.out)) | (with_reducible refine Kd.C_alloc ?_ _) | (with_reducible refine Kd.C_drewN ?_ _) | (with_reducible refine Kd.C_drew ?_))); (case side2 => exact HC656_0.out); rintro e w' ⟨rfl, ⟨nd, rfl⟩⟩))
              go_ret
              exact ⟨eZ, Bq⟩
            ·rw [if_neg c31] at H
             have c31b0 : (t626 == t652) = false := by simpa using c31
             (try (have c31b1 : decide (t626 = t652) = false := by simpa using c31))
             (try (have c31b2 : (t626 == t652) = false := by simpa using c31))
             (try (have c31b3 : ¬ (t626 = t652) := by simpa using c31))
             clear c31; exact absurd (Option.some.inj H) (by rw [HQT_.out]; decide)
           ·replace c30 := Bool.eq_false_iff.mpr c30
            subst c30
            rw [if_neg (show ¬ (false = true) by decide)] at H; exact absurd (Option.some.inj H) (by rw [HQT_.out]; decide)
          ·rw [if_neg c28] at H
           exact absurd H (by simp)
         ·replace c27 := Bool.eq_false_iff.mpr c27
          subst c27
          rw [if_neg (show ¬ (false = true) by decide)] at H; exact absurd (Option.some.inj H) (by rw [HQT_.out]; decide)
        ·replace c26 := Bool.eq_false_iff.mpr c26
         subst c26
         rw [if_neg (show ¬ (false = true) by decide)] at H; exact absurd (Option.some.inj H) (by rw [HQT_.out]; decide)
       ·replace c25 := Bool.eq_false_iff.mpr c25
        subst c25
        rw [if_neg (show ¬ (false = true) by decide)] at H; exact absurd (Option.some.inj H) (by rw [HQT_.out]; decide)
      ·replace c24 := Bool.eq_false_iff.mpr c24
       subst c24
       rw [if_neg (show ¬ (false = true) by decide)] at H; exact absurd (Option.some.inj H) (by rw [HQT_.out]; decide)
     ·replace c19 := Bool.eq_false_iff.mpr c19
      subst c19
      rw [if_neg (show ¬ (false = true) by decide)] at H; obtain rfl := Option.some.inj H; obtain ⟨hcz83_0, hcz83_1, hcz83_2, hfz83_0, hfz83_1, hfz83_2⟩ := cf3 (w := wc) BK624
      go_wp2_with (first | ((with_reducible refine gate_callee (f := 12) rfl ?_); refine gL (some 52) Try.func12 #[.agg #[.int .i64 t618, .int .i64 t619, .slice Ao12 t620.length co12], .string t623] ?_; (with_reducible refine (impl_PeeledPlace.calls kj7 t618 t619 _ _ t620 t623 t629 false _ ?side1 ?side2 A18.out).mono ?_); (case side1 => exact Cz ((Kd.R_reads' HO_625002.out).2.2)); (case side2 => exact (Kd.R_reads' HO_625002.out).2.1); rintro e w84 ⟨rfl, hb⟩; refine ⟨_, rfl, ?_⟩; have n0_ := Rb HO_625002 hb; have n1_ := Kb BK624 hb; have n2_ := Bc HB hb; clear HO_625002 BK624 HB; revert n0_ n1_ n2_; intro HO_625002 BK624 HB; (try clear hb); (try clear hb2); (try clear hk); (try clear hi)))
      go_ret
      exact ⟨eZ, Bq⟩

def laws_FnForeignKeysAreLed.Pure : Prop := ∀ (l0 : List Int) (l1 : List Int), l0.length ≤ maxLen → l0.length * 1 ≤ 140737488351232 → (∀ x ∈ l0, (Lit.int .u8 x).wf = true) → l1.length ≤ maxLen → l1.length * 1 ≤ 140737488351232 → (∀ x ∈ l1, (Lit.int .u8 x).wf = true) → ∃ k, laws_FnForeignKeysAreLed.f k l0 l1 = some true
theorem laws_FnForeignKeysAreLed.walk (P : laws_FnForeignKeysAreLed.Pure) (a0 : Option Addr) (len0 cap0 : Nat) (z0 : List Int) (a1 : Option Addr) (len1 cap1 : Nat) (z1 : List Int) (w : World) (w0 : (a0 = none ∧ len0 = 0 ∧ cap0 = 0 ∧ z0 = []) ∨ ∃ x, a0 = some x ∧ len0 ≤ cap0 ∧ cap0 ≤ maxLen ∧ z0.length = cap0 ∧ (∀ i, i < z0.length → w.cell? (x.add i) = some (.int .u8 (z0.getD i 0))) ∧ ∀ n ∈ z0, (Lit.int .u8 n).wf = true) (y0 : len0 * 1 ≤ 140737488351232) (w1 : (a1 = none ∧ len1 = 0 ∧ cap1 = 0 ∧ z1 = []) ∨ ∃ x, a1 = some x ∧ len1 ≤ cap1 ∧ cap1 ≤ maxLen ∧ z1.length = cap1 ∧ (∀ i, i < z1.length → w.cell? (x.add i) = some (.int .u8 (z1.getD i 0))) ∧ ∀ n ∈ z1, (Lit.int .u8 n).wf = true) (y1 : len1 * 1 ≤ 140737488351232) :
  Calls Try.prog 3 #[.slice a0 len0 cap0, .slice a1 len1 cap1] w fun e w' => e = .returned (.bool true) ∧ Below w.heap.size w w' := by
 obtain ⟨l0, rfl, hr0, hm0, hw0, hc0⟩ := ReadsInt.ofRowC w0; obtain ⟨l1, rfl, hr1, hm1, hw1, hc1⟩ := ReadsInt.ofRowC w1; obtain ⟨k, h⟩ := P l0 l1 hm0 y0 hw0 hm1 y1 hw1; refine (laws_FnForeignKeysAreLed.calls k _ _ l0 _ _ l1 true w (Kd.C_of_reads (d := (0 : Int)) (h1 := fun _ => rfl) hr0) hc0 (Kd.C_of_reads (d := (0 : Int)) (h1 := fun _ => rfl) hr1) hc1 h rfl).mono ?_; rintro e w' ⟨rfl, hd⟩; exact ⟨rfl, hd⟩

end Go.Proofs.Ytmehagedoaopeaa.PF
namespace Go.Proofs.YtmehagedoaopeaaQ
open Go Go.RowKit Go.Proofs.YtmehagedoaopeaaW.PrintWords Go.Proofs.YtmehagedoaopeaaGp

theorem ev_succ {α : Type} {g : Nat → Option α} {r : α} (h : Ev (fun k => g (k + 1)) r) : Ev g r := Ev.step (f := fun k => g (k + 1)) (fun _ => rfl) h
theorem ev_some {α : Type} {a r : α} (h : a = r) : Ev (fun _ => some a) r := h ▸ Ev.now a
theorem ev_pos {α : Type} {c : Prop} [Decidable c] {f g : Nat → Option α} {r : α} (h : c) (k : Ev f r) : Ev (fun n => if c then f n else g n) r := by simpa only [if_pos h] using k
theorem ev_neg {α : Type} {c : Prop} [Decidable c] {f g : Nat → Option α} {r : α} (h : ¬ c) (k : Ev g r) : Ev (fun n => if c then f n else g n) r := by simpa only [if_neg h] using k
theorem ev_bind {α β : Type} {g : Nat → Option α} {f : Nat → α → Option β} {r : β} (a : α) (h : Ev g a) (k : Ev (fun n => f n a) r) : Ev (fun n => (g n).bind (f n)) r := Ev.bind h k
theorem w64 {x : Int} (h0 : -9223372036854775808 ≤ x) (h1 : x ≤ 9223372036854775807) : wrap64 x = x := by unfold wrap64; omega
theorem winc {i : Nat} (h : (i : Int) < 9223372036854775807) : wrap64 ((i : Int) + 1) = ((i + 1 : Nat) : Int) := by unfold wrap64; omega
theorem wdec {i : Nat} (h : (i : Int) < 9223372036854775807) : wrap64 (((i + 1 : Nat) : Int) - 1) = (i : Int) := by unfold wrap64; omega
theorem maxLen_eq : maxLen = 9223372036854775807 := by unfold maxLen; rfl
section
variable {α : Type} {d : α} {pre t : List α} {s : α}
theorem rdOf_mid : rdOf d (pre ++ s :: t) ((pre.length : Nat) : Int) = s := by simp [rdOf]
theorem rdOf_last {p : α} : rdOf d ((pre ++ [p]) ++ s :: t) ((pre.length : Nat) : Int) = p := by simp [rdOf]
theorem lt_mid : ((pre.length : Nat) : Int) < ((pre ++ s :: t).length : Int) := by simp; omega
theorem not_lt_end : ¬ ((pre.length : Nat) : Int) < ((pre ++ ([] : List α)).length : Int) := by simp
theorem len_one : ((pre ++ [s]).length : Int) = ((pre.length + 1 : Nat) : Int) := by simp
end
theorem rd_mid {pre t : List Int} {s : Int} : rd (pre ++ s :: t) ((pre.length : Nat) : Int) = s := by simp [rd]
theorem rd_get {xs : List Int} {i : Nat} (h : i < xs.length) : rd xs (i : Int) = xs[i] := by simp [rd, h]

theorem tl (s : ByteArray) : s.toList = s.data.toList := Lib.toList_data s
theorem tl_inj {x y : ByteArray} : x.toList = y.toList ↔ x = y := by
  rw [tl, tl]
  exact ⟨fun h => ByteArray.ext (Array.toList_inj.1 h), fun h => h ▸ rfl⟩
theorem size_len (s : ByteArray) : s.size = s.data.toList.length := (data_length s).symm
theorem bt_mid {s : ByteArray} {pre t : List UInt8} {c : UInt8} (h : s.data.toList = pre ++ c :: t) : bt s ((pre.length : Nat) : Int) = (c.toNat : Int) := by
  have hs : pre.length < s.size := by rw [size_len, h]; simp
  have hg : s[pre.length]'hs = c := by
    have : s.data.toList[pre.length]'(by rw [h]; simp) = c := by simp [h]
    rw [← this]; rfl
  unfold bt
  rw [dif_pos (by simpa using hs)]
  simp only [Int.toNat_natCast, hg]
theorem lt_size {s : ByteArray} {pre t : List UInt8} {c : UInt8} (h : s.data.toList = pre ++ c :: t) : ((pre.length : Nat) : Int) < (s.size : Int) := by rw [size_len, h]; simp; omega
theorem not_lt_size {s : ByteArray} {pre : List UInt8} (h : s.data.toList = pre ++ []) : ¬ ((pre.length : Nat) : Int) < (s.size : Int) := by rw [size_len, h]; simp
def lessS (a b : ByteArray) : Bool := Op.bytesLess a.toList b.toList
end Go.Proofs.YtmehagedoaopeaaQ
namespace Go.Proofs.YtmehagedoaopeaaQ
open Go Go.RowKit

abbrev Edges := List (List Int)
def edg (E : Edges) (i : Nat) : List Int := E.getD i []
def degOf (E : Edges) (L : List Nat) (p : Int) : Nat := (L.map fun i => (edg E i).count p).sum
def placesL (P : Nat) : List Int := (List.range P).map Int.ofNat
def freeL (P : Nat) (E : Edges) (L : List Nat) : List Int := (placesL P).filter fun p => degOf E L p == 1
def withE (E : Edges) (L : List Nat) (p : Int) : Option Nat := L.find? fun i => (edg E i).contains p
def dropE (L : List Nat) (i : Nat) : List Nat := L.filter fun j => j != i
def goodE (P : Nat) (E : Edges) : Prop := ∀ e ∈ E, ∀ p ∈ e, 0 ≤ p ∧ p < (P : Int)
theorem degOf_nil (E : Edges) (p : Int) : degOf E [] p = 0 := rfl
theorem degOf_cons (E : Edges) (i : Nat) (L : List Nat) (p : Int) : degOf E (i :: L) p = (edg E i).count p + degOf E L p := by simp [degOf]
theorem degOf_pos {E : Edges} {L : List Nat} {p : Int} (h : 1 ≤ degOf E L p) : ∃ i ∈ L, p ∈ edg E i := by
  induction L with
  | nil => rw [degOf_nil] at h; omega
  | cons i L ih =>
    rw [degOf_cons] at h
    by_cases c : p ∈ edg E i
    · exact ⟨i, by simp, c⟩
    · rw [List.count_eq_zero_of_not_mem c] at h
      obtain ⟨j, hj, hp⟩ := ih (by omega)
      exact ⟨j, by simp [hj], hp⟩
theorem withE_some {E : Edges} {L : List Nat} {p : Int} {i : Nat} (h : withE E L p = some i) : i ∈ L ∧ p ∈ edg E i := by
  have h1 := List.mem_of_find?_eq_some h
  have h2 := List.find?_some h
  exact ⟨h1, by simpa using h2⟩
theorem withE_ex {E : Edges} {L : List Nat} {p : Int} (h : 1 ≤ degOf E L p) : ∃ i, withE E L p = some i := by
  obtain ⟨i, hi, hp⟩ := degOf_pos h
  cases hw : withE E L p with
  | some j => exact ⟨j, rfl⟩
  | none => exact absurd (by simpa using hp) (by simpa using List.find?_eq_none.1 hw i hi)
theorem mem_freeL {P : Nat} {E : Edges} {L : List Nat} {p : Int} : p ∈ freeL P E L ↔ (0 ≤ p ∧ p < (P : Int)) ∧ degOf E L p = 1 := by
  simp only [freeL, placesL, List.mem_filter, List.mem_map, List.mem_range, beq_iff_eq]
  constructor
  · rintro ⟨⟨i, hi, rfl⟩, h⟩
    exact ⟨⟨Int.natCast_nonneg i, Int.ofNat_lt.2 hi⟩, h⟩
  · rintro ⟨h, e⟩
    exact ⟨⟨p.toNat, by omega, Int.toNat_of_nonneg h.1⟩, e⟩
theorem mem_dropE {L : List Nat} {i j : Nat} : j ∈ dropE L i ↔ j ∈ L ∧ j ≠ i := by simp [dropE]
theorem dropE_sub (L : List Nat) (i : Nat) : (dropE L i).Sublist L := List.filter_sublist
theorem dropE_len {L : List Nat} (hn : L.Nodup) {i : Nat} (h : i ∈ L) : (dropE L i).length + 1 = L.length := by
  have : dropE L i = L.erase i := (hn.erase_eq_filter i).symm
  rw [this, List.length_erase_of_mem h]
  have := List.length_pos_of_mem h
  omega
def stepE (P : Nat) (E : Edges) (L : List Nat) (c : Nat) : Option (Nat × Int) :=
  if (freeL P E L).length = 0 then none else let p := (freeL P E L).getD (c % (freeL P E L).length) 0; some ((withE E L p).getD 0, p)
def peelC (P : Nat) (E : Edges) : List Nat → List Nat → List (Nat × Int) × List Nat
  | [], L => ([], L)
  | c :: cs, L => match stepE P E L c with
    | none => ([], L)
    | some (i, p) => ((i, p) :: (peelC P E cs (dropE L i)).1, (peelC P E cs (dropE L i)).2)
theorem stepE_none {P : Nat} {E : Edges} {L : List Nat} {c : Nat} : stepE P E L c = none ↔ freeL P E L = [] := by
  unfold stepE
  split
  · rename_i h; simp [List.length_eq_zero_iff.1 h]
  · rename_i h; simp; intro e; rw [e] at h; exact h rfl
theorem stepE_some {P : Nat} {E : Edges} {L : List Nat} {c i : Nat} {p : Int} (h : stepE P E L c = some (i, p)) : p ∈ freeL P E L ∧ degOf E L p = 1 ∧ withE E L p = some i := by
  unfold stepE at h
  split at h
  · cases h
  · rename_i hl
    simp only [Option.some.injEq, Prod.mk.injEq] at h
    obtain ⟨h1, h2⟩ := h
    have hm : c % (freeL P E L).length < (freeL P E L).length := Nat.mod_lt _ (by omega)
    have hp : p ∈ freeL P E L := by rw [← h2, List.getD_eq_getElem?_getD, List.getElem?_eq_getElem hm]; exact List.getElem_mem hm
    have hd := (mem_freeL.1 hp).2
    obtain ⟨j, hj⟩ := withE_ex (E := E) (L := L) (p := p) (by omega)
    rw [h2, hj] at h1
    exact ⟨hp, hd, by rw [hj]; simpa using h1⟩
theorem peelC_cons_none {P : Nat} {E : Edges} {L : List Nat} (c : Nat) (cs : List Nat) (h : freeL P E L = []) : peelC P E (c :: cs) L = ([], L) := by
  rw [peelC, stepE_none.2 h]
theorem peelC_cons_some {P : Nat} {E : Edges} {L : List Nat} {c i : Nat} {p : Int} (cs : List Nat) (h : stepE P E L c = some (i, p)) : peelC P E (c :: cs) L = ((i, p) :: (peelC P E cs (dropE L i)).1, (peelC P E cs (dropE L i)).2) := by
  rw [peelC, h]
theorem nodup_drop {L : List Nat} (h : L.Nodup) (i : Nat) : (dropE L i).Nodup := (dropE_sub L i).nodup h
theorem peelC_len {P : Nat} {E : Edges} : ∀ (cs L : List Nat), L.Nodup → (peelC P E cs L).1.length + (peelC P E cs L).2.length = L.length
  | [], L, _ => by simp [peelC]
  | c :: cs, L, hn => by
    cases h : stepE P E L c with
    | none => rw [peelC_cons_none c cs (stepE_none.1 h)]; simp
    | some q =>
      obtain ⟨i, p⟩ := q
      rw [peelC_cons_some cs h]
      have h1 := (withE_some (stepE_some h).2.2).1
      have := peelC_len (P := P) (E := E) cs (dropE L i) (nodup_drop hn i)
      have := dropE_len hn h1
      simp only [List.length_cons]
      omega
theorem freeL_nil {P : Nat} {E : Edges} : freeL P E [] = [] := by
  rw [List.eq_nil_iff_forall_not_mem]
  intro p hp
  have := (mem_freeL.1 hp).2
  rw [degOf_nil] at this
  cases this
def allE (E : Edges) : List Nat := List.range E.length
def peelAll (P : Nat) (E : Edges) : List (Nat × Int) × List Nat := peelC P E (List.replicate E.length 0) (allE E)
def coreE (P : Nat) (E : Edges) : List Nat := (peelAll P E).2
end Go.Proofs.YtmehagedoaopeaaQ
namespace Go.Proofs.YtmehagedoaopeaaQ
open Go Go.RowKit Go.Proofs.YtmehagedoaopeaaW.PrintWords

def castL (L : List Nat) : List Int := L.map Int.ofNat
theorem castL_len (L : List Nat) : (castL L).length = L.length := by simp [castL]
theorem castL_app (L M : List Nat) : castL (L ++ M) = castL L ++ castL M := by simp [castL]
theorem rd_castmid {pre t : List Nat} {j : Nat} : rd (castL (pre ++ j :: t)) (pre.length : Int) = (j : Int) := by
  simp [rd, castL]
def cntL (ps : List Int) (m : Nat) : List Int := (List.range m).map fun i => ((ps.count (Int.ofNat i) : Nat) : Int)
theorem cntL_len (ps : List Int) (m : Nat) : (cntL ps m).length = m := by simp [cntL]
theorem cntL_get (ps : List Int) {m i : Nat} (h : i < m) : (cntL ps m)[i]'(by rw [cntL_len]; exact h) = ((ps.count (Int.ofNat i) : Nat) : Int) := by simp [cntL]
theorem cntL_rd (ps : List Int) {m : Nat} {p : Int} (h0 : 0 ≤ p) (h1 : p < (m : Int)) : rd (cntL ps m) p = ((ps.count p : Nat) : Int) := by
  have hlt : p.toNat < (cntL ps m).length := by rw [cntL_len]; omega
  unfold rd
  rw [List.getD_eq_getElem?_getD, List.getElem?_eq_getElem hlt, Option.getD_some, cntL_get _ (by omega), show Int.ofNat p.toNat = p from by simp; omega]
theorem cntL_nil (m : Nat) : cntL [] m = List.replicate m 0 := by
  apply List.ext_getElem
  · simp [cntL]
  · intro i h1 h2
    simp [cntL]
theorem cntL_set (ps : List Int) {m : Nat} {p : Int} (h0 : 0 ≤ p) : (cntL ps m).set p.toNat (((ps.count p : Nat) : Int) + 1) = cntL (ps ++ [p]) m := by
  apply List.ext_getElem
  · simp [cntL]
  · intro i g1 g2
    rw [List.getElem_set]
    simp only [cntL, List.getElem_map, List.getElem_range, List.count_append]
    by_cases c : p.toNat = i
    · rw [if_pos c]
      have : Int.ofNat i = p := by simp; omega
      rw [this]; simp
    · rw [if_neg c]
      have : ¬ p = (i : Int) := by omega
      simp [this]
def plsL (E : Edges) (L : List Nat) : List Int := L.flatMap (edg E)
theorem degOf_pls (E : Edges) (L : List Nat) (p : Int) : (plsL E L).count p = degOf E L p := by
  induction L with
  | nil => rfl
  | cons i L ih => rw [degOf_cons, plsL, List.flatMap_cons, List.count_append, ← ih, plsL]
structure GoodH (P : Nat) (E : Edges) : Prop where
  rng : goodE P E
  len : E.length ≤ 1000
  row : ∀ e ∈ E, e.length ≤ 3
  plc : P ≤ 1000
theorem GoodH.edge {P : Nat} {E : Edges} (h : GoodH P E) (i : Nat) : (edg E i).length ≤ 3 ∧ ∀ p ∈ edg E i, 0 ≤ p ∧ p < (P : Int) := by
  unfold edg
  by_cases c : i < E.length
  · rw [List.getD_eq_getElem?_getD, List.getElem?_eq_getElem c, Option.getD_some]
    exact ⟨h.row _ (List.getElem_mem c), h.rng _ (List.getElem_mem c)⟩
  · rw [List.getD_eq_getElem?_getD, List.getElem?_eq_none (by omega)]
    simp
theorem plsL_len {P : Nat} {E : Edges} (h : GoodH P E) (L : List Nat) : (plsL E L).length ≤ 3 * L.length := by
  induction L with
  | nil => simp [plsL]
  | cons i L ih =>
    have := (h.edge i).1
    simp only [plsL, List.flatMap_cons, List.length_append, List.length_cons] at ih ⊢
    omega
theorem count_le_len (l : List Int) (p : Int) : l.count p ≤ l.length := List.count_le_length

def freeUp (ps : List Int) (i : Nat) : List Int := ((List.range i).map Int.ofNat).filter fun p => ps.count p == 1
theorem freeUp_succ (ps : List Int) (i : Nat) : freeUp ps (i + 1) = if ps.count (i : Int) = 1 then freeUp ps i ++ [(i : Int)] else freeUp ps i := by
  unfold freeUp
  rw [List.range_succ, List.map_append, List.filter_append]
  by_cases c : ps.count (i : Int) = 1
  · rw [if_pos c]; simp [c]
  · rw [if_neg c]; simp [c]
theorem freeUp_len (ps : List Int) (i : Nat) : (freeUp ps i).length ≤ i := by
  unfold freeUp
  refine Nat.le_trans (List.length_filter_le _ _) (by simp)
theorem freeL_up (P : Nat) (E : Edges) (L : List Nat) : freeUp (plsL E L) P = freeL P E L := by
  unfold freeUp freeL placesL
  refine List.filter_congr fun p _ => ?_
  rw [degOf_pls]
def Rg (n : Nat) (L : List Nat) : Prop := L.Sublist (List.range n)
theorem Rg.lt {n : Nat} {L : List Nat} (h : Rg n L) {i : Nat} (hi : i ∈ L) : i < n := List.mem_range.1 (h.subset hi)
theorem Rg.nodup {n : Nat} {L : List Nat} (h : Rg n L) : L.Nodup := List.Sublist.nodup h List.nodup_range
theorem Rg.len {n : Nat} {L : List Nat} (h : Rg n L) : L.length ≤ n := by
  have := List.Sublist.length_le h
  simpa using this
theorem Rg.drop {n : Nat} {L : List Nat} (h : Rg n L) (i : Nat) : Rg n (dropE L i) := (dropE_sub L i).trans h
theorem Rg.all (n : Nat) : Rg n (List.range n) := List.Sublist.refl _
theorem sub_filter : ∀ {L M : List Nat}, L.Sublist M → M.Nodup → M.filter (fun i => L.contains i) = L := by
  intro L M h
  induction h with
  | slnil => intro _; rfl
  | @cons L M a hs ih =>
    intro hn
    rw [List.nodup_cons] at hn
    have : ¬ a ∈ L := fun c => hn.1 (hs.subset c)
    rw [List.filter_cons_of_neg (by simpa using this)]
    exact ih hn.2
  | @cons_cons L M a hs ih =>
    intro hn
    rw [List.nodup_cons] at hn
    rw [List.filter_cons_of_pos (by simp)]
    congr 1
    rw [← ih hn.2]
    refine List.filter_congr fun x hx => ?_
    have : ¬ x = a := fun e => hn.1 (e ▸ hx)
    rw [ih hn.2, Bool.eq_iff_iff]
    simp [this]
theorem Rg.filter {n : Nat} {L : List Nat} (h : Rg n L) : (List.range n).filter (fun i => L.contains i) = L := sub_filter h List.nodup_range
end Go.Proofs.YtmehagedoaopeaaQ
namespace Go.Proofs.YtmehagedoaopeaaQ
open Go Go.RowKit Go.Proofs.YtmehagedoaopeaaW.PrintWords Go.Proofs.YtmehagedoaopeaaGp Go.Proofs.Ytmehagedoaopeaa.PF

theorem rd_edg (E : Edges) (i : Nat) : rd_L3 E (i : Int) = edg E i := rfl
theorem wcount {c : Nat} (h : c ≤ 1000000) : wrap64 ((c : Int) + 1) = (c : Int) + 1 := w64 (by omega) (by omega)
def mkS118 (s : Nat × Int) : S118 := ⟨(s.1 : Int), s.2⟩
def stepsL (l : List (Nat × Int)) : List S118 := l.map mkS118
theorem step_zero {P : Nat} {E : Edges} {L : List Nat} (h : freeL P E L ≠ []) : ∃ i, stepE P E L 0 = some (i, rd (freeL P E L) 0) := by
  unfold stepE
  have : ¬ (freeL P E L).length = 0 := fun e => h (List.length_eq_zero_iff.1 e)
  rw [if_neg this, Nat.zero_mod]
  exact ⟨_, rfl⟩
end Go.Proofs.YtmehagedoaopeaaQ
namespace Go.Proofs.YtmehagedoaopeaaQ
open Go Go.RowKit Go.Proofs.YtmehagedoaopeaaW.PrintWords Go.Proofs.YtmehagedoaopeaaGp Go.Proofs.Ytmehagedoaopeaa.PF

theorem spec_l1Has_l0 (x0 : List Int) (a : Int) (hl : (x0.length : Int) ≤ 9223372036854775806) : ∀ (t pre : List Int), x0 = pre ++ t →
    Ev (fun k => spec_l1Has.l0 k a x0 (x0.length : Int) (pre.length : Int)) (t.contains a) := by
  intro t
  induction t with
  | nil =>
    intro pre h
    refine ev_succ ?_
    simp only [spec_l1Has.l0]
    exact ev_neg (by rw [h]; exact not_lt_end) (ev_some (by simp))
  | cons x t ih =>
    intro pre h
    have hm : ((pre.length : Nat) : Int) < (x0.length : Int) := by rw [h]; exact lt_mid
    have hg : rd x0 (pre.length : Int) = x := by rw [h]; exact rd_mid
    refine ev_succ ?_
    simp only [spec_l1Has.l0, hg]
    refine ev_pos hm (ev_pos (by omega) (ev_pos hm ?_))
    by_cases c : x = a
    · exact ev_pos c (ev_some (by simp [c]))
    · refine ev_neg c ?_
      rw [winc (by omega)]
      have := ih (pre ++ [x]) (by rw [h]; simp)
      rw [len_one] at this
      have e : (x :: t).contains a = t.contains a := by simp [Ne.symm c]
      rw [e]
      exact this
theorem spec_l1Has_f (l : List Int) (a : Int) (hl : (l.length : Int) ≤ 9223372036854775806) : Ev (fun k => spec_l1Has.f k l a) (l.contains a) := by
  unfold spec_l1Has.f
  exact spec_l1Has_l0 l a hl l [] rfl
end Go.Proofs.YtmehagedoaopeaaQ
namespace Go.Proofs.YtmehagedoaopeaaQ
open Go Go.RowKit Go.Proofs.YtmehagedoaopeaaW.PrintWords Go.Proofs.YtmehagedoaopeaaGp Go.Proofs.Ytmehagedoaopeaa.PF

theorem spec_peAll_l0 {n : Nat} (hn : n ≤ 1000) : ∀ (d i : Nat), i + d = n →
    Ev (fun k => spec_peAll.l0 k (castL (List.range i)) (n : Int) (i : Int)) (castL (List.range n)) := by
  intro d
  induction d with
  | zero =>
    intro i h
    obtain rfl : i = n := by omega
    refine ev_succ ?_
    simp only [spec_peAll.l0]
    exact ev_neg (by omega) (Ev.now _)
  | succ d ih =>
    intro i h
    have next := ih (i + 1) (by omega)
    rw [List.range_succ, castL_app] at next
    refine ev_succ ?_
    simp only [spec_peAll.l0]
    rw [winc (by omega)]
    exact ev_pos (by omega) (ev_pos (by rw [castL_len]; simp; omega) next)
theorem spec_peAll_f {E : Edges} (hn : E.length ≤ 1000) (P : Int) : Ev (fun k => spec_peAll.f k P E) (castL (allE E)) := by
  unfold spec_peAll.f
  exact spec_peAll_l0 hn E.length 0 (by omega)
theorem spec_degrees_l1 {P : Nat} {E : Edges} {x13 : List Int} {n : Int} {r : List Int} {q i : Nat} (e : List Int) (hi : (i : Int) < 9223372036854775806) (he : (e.length : Int) ≤ 9223372036854775806) (hr : ∀ p ∈ e, 0 ≤ p ∧ p < (P : Int)) (ps : List Int) (hps : ps.length + e.length ≤ 1000000)
    (H : Ev (fun k => spec_peDegrees.l0 k (cntL (ps ++ e) P) x13 n ((i + 1 : Nat) : Int) (q : Int) E) r) : ∀ (t pre : List Int), e = pre ++ t →
    Ev (fun k => spec_peDegrees.l1 k (cntL (ps ++ pre) P) x13 n (i : Int) e (e.length : Int) (pre.length : Int) (q : Int) E) r := by
  intro t
  induction t with
  | nil =>
    intro pre h
    have hp : e = pre := by rw [h, List.append_nil]
    subst hp
    refine ev_succ ?_
    simp only [spec_peDegrees.l1]
    refine ev_neg (by omega) ?_
    rw [winc (by omega)]
    exact H
  | cons x t ih =>
    intro pre h
    have hm : ((pre.length : Nat) : Int) < (e.length : Int) := by rw [h]; exact lt_mid
    have hg : rd e (pre.length : Int) = x := by rw [h]; exact rd_mid
    obtain ⟨x0, x1⟩ := hr x (by rw [h]; simp)
    have hc := count_le_len (ps ++ pre) x
    have hl : e.length = pre.length + (t.length + 1) := by rw [h]; simp
    rw [List.length_append] at hc
    refine ev_succ ?_
    simp only [spec_peDegrees.l1, hg]
    refine ev_pos hm (ev_pos (by omega) (ev_pos hm (ev_pos x0 (ev_pos (by rw [cntL_len]; exact x1) ?_))))
    rw [winc (by omega), cntL_rd _ x0 x1, wcount (by omega), cntL_set _ x0, List.append_assoc]
    have := ih (pre ++ [x]) (by rw [h]; simp)
    rw [len_one] at this
    exact this
theorem spec_degrees_l0 {P : Nat} {E : Edges} (hG : GoodH P E) {L : List Nat} (hL : ∀ i ∈ L, i < E.length) (hl : L.length ≤ 1000) (q : Nat) : ∀ (t pre : List Nat), L = pre ++ t →
    Ev (fun k => spec_peDegrees.l0 k (cntL (plsL E pre) P) (castL L) (L.length : Int) (pre.length : Int) (q : Int) E) (cntL (plsL E L) P) := by
  intro t
  have hn := hG.len
  induction t with
  | nil =>
    intro pre h
    have hp : L = pre := by rw [h, List.append_nil]
    subst hp
    refine ev_succ ?_
    simp only [spec_peDegrees.l0]
    exact ev_neg (by omega) (Ev.now _)
  | cons j t ih =>
    intro pre h
    have hm : ((pre.length : Nat) : Int) < (L.length : Int) := by rw [h]; exact lt_mid
    have hg : rd (castL L) (pre.length : Int) = (j : Int) := by rw [h]; exact rd_castmid
    have hj := hL j (by rw [h]; simp)
    have next := ih (pre ++ [j]) (by rw [h]; simp)
    rw [len_one] at next
    have hb := plsL_len hG pre
    obtain ⟨he, hr⟩ := hG.edge j
    have hpe : plsL E (pre ++ [j]) = plsL E pre ++ edg E j := by simp [plsL]
    rw [hpe] at next
    have hlen : L.length = pre.length + (t.length + 1) := by rw [h]; simp
    refine ev_succ ?_
    simp only [spec_peDegrees.l0, hg, rd_edg]
    refine ev_pos hm (ev_pos (by omega) (ev_pos (by rw [castL_len]; exact hm) (ev_pos (by omega) (ev_pos (by omega) ?_))))
    have := spec_degrees_l1 (P := P) (E := E) (x13 := castL L) (n := (L.length : Int)) (q := q) (edg E j) (by omega) (by omega) hr (plsL E pre) (by omega) next (edg E j) [] rfl
    rw [List.append_nil] at this
    exact this
theorem spec_degrees_f {P : Nat} {E : Edges} (hG : GoodH P E) {L : List Nat} (hL : ∀ i ∈ L, i < E.length) (hl : L.length ≤ 1000) : Ev (fun k => spec_peDegrees.f k (P : Int) E (castL L)) (cntL (plsL E L) P) := by
  have hp := hG.plc
  unfold spec_peDegrees.f
  refine ev_pos (by omega) (ev_pos (by omega) ?_)
  have := spec_degrees_l0 hG hL hl P L [] rfl
  rw [show plsL E [] = [] from rfl, cntL_nil] at this
  rw [castL_len]
  exact this
theorem spec_free_l0 {P : Nat} (ps : List Int) (hP : P ≤ 1000) : ∀ (d i : Nat), i + d = P →
    Ev (fun k => spec_peFree.l0 k (freeUp ps i) (cntL ps P) (P : Int) (i : Int)) (freeUp ps P) := by
  intro d
  induction d with
  | zero =>
    intro i h
    have hi : i = P := by omega
    refine ev_succ ?_
    simp only [spec_peFree.l0]
    refine ev_neg (by omega) (ev_some (by rw [hi]))
  | succ d ih =>
    intro i h
    have next := ih (i + 1) (by omega)
    have hl := freeUp_len ps i
    rw [freeUp_succ] at next
    refine ev_succ ?_
    simp only [spec_peFree.l0]
    rw [cntL_rd ps (by omega) (by omega)]
    refine ev_pos (by omega) (ev_pos (by omega) (ev_pos (by rw [cntL_len]; omega) ?_))
    rw [winc (by omega)]
    by_cases c : ps.count (i : Int) = 1
    · rw [if_pos c] at next
      exact ev_pos (by omega) (ev_pos (by omega) next)
    · rw [if_neg c] at next
      exact ev_neg (by omega) next
theorem spec_free_f {P : Nat} {E : Edges} (hG : GoodH P E) {L : List Nat} (hL : ∀ i ∈ L, i < E.length) (hl : L.length ≤ 1000) : Ev (fun k => spec_peFree.f k (P : Int) E (castL L)) (freeL P E L) := by
  unfold spec_peFree.f
  refine ev_bind _ (spec_degrees_f hG hL hl) ?_
  have := spec_free_l0 (plsL E L) hG.plc P 0 (by omega)
  rw [cntL_len, ← freeL_up]
  exact this
def withV (o : Option Nat) : Int := match o with | some j => (j : Int) | none => -1
theorem spec_with_l0 {P : Nat} {E : Edges} (hG : GoodH P E) {L : List Nat} (hL : ∀ i ∈ L, i < E.length) (hl : L.length ≤ 1000) (p : Int) (q : Nat) : ∀ (t pre : List Nat), L = pre ++ t →
    Ev (fun k => spec_peWith.l0 k p (castL L) (L.length : Int) (pre.length : Int) (q : Int) E) (withV (withE E t p)) := by
  intro t
  have hn := hG.len
  induction t with
  | nil =>
    intro pre h
    have hp : L = pre := by rw [h, List.append_nil]
    subst hp
    refine ev_succ ?_
    simp only [spec_peWith.l0]
    exact ev_neg (by omega) (Ev.now _)
  | cons j t ih =>
    intro pre h
    have hm : ((pre.length : Nat) : Int) < (L.length : Int) := by rw [h]; exact lt_mid
    have hg : rd (castL L) (pre.length : Int) = (j : Int) := by rw [h]; exact rd_castmid
    have hj := hL j (by rw [h]; simp)
    have next := ih (pre ++ [j]) (by rw [h]; simp)
    rw [len_one] at next
    have he := (hG.edge j).1
    refine ev_succ ?_
    simp only [spec_peWith.l0, hg, rd_edg]
    refine ev_pos hm (ev_pos (by omega) (ev_pos (by rw [castL_len]; exact hm) (ev_pos (by omega) (ev_pos (by omega) (ev_bind _ (spec_l1Has_f (edg E j) p (by omega)) ?_)))))
    unfold withE
    rw [List.find?_cons, winc (by omega)]
    by_cases c : (edg E j).contains p = true
    · rw [c]; exact ev_pos rfl (Ev.now _)
    · rw [Bool.eq_false_iff.2 c]
      exact ev_neg (by simp) next
theorem spec_with_f {P : Nat} {E : Edges} (hG : GoodH P E) {L : List Nat} (hL : ∀ i ∈ L, i < E.length) (hl : L.length ≤ 1000) (p : Int) : Ev (fun k => spec_peWith.f k (P : Int) E (castL L) p) (withV (withE E L p)) := by
  unfold spec_peWith.f
  rw [castL_len]
  exact spec_with_l0 hG hL hl p P L [] rfl
theorem spec_drop_l0 {L : List Nat} (hl : L.length ≤ 1000) (i : Nat) : ∀ (t pre : List Nat), L = pre ++ t →
    Ev (fun k => spec_l1Drop.l0 k (i : Int) (castL (dropE pre i)) (castL L) (L.length : Int) (pre.length : Int)) (castL (dropE L i)) := by
  intro t
  induction t with
  | nil =>
    intro pre h
    have hp : L = pre := by rw [h, List.append_nil]
    subst hp
    refine ev_succ ?_
    simp only [spec_l1Drop.l0]
    exact ev_neg (by omega) (Ev.now _)
  | cons j t ih =>
    intro pre h
    have hm : ((pre.length : Nat) : Int) < (L.length : Int) := by rw [h]; exact lt_mid
    have hg : rd (castL L) (pre.length : Int) = (j : Int) := by rw [h]; exact rd_castmid
    have next := ih (pre ++ [j]) (by rw [h]; simp)
    rw [len_one] at next
    have hd : dropE (pre ++ [j]) i = if j = i then dropE pre i else dropE pre i ++ [j] := by
      unfold dropE
      rw [List.filter_append]
      by_cases c : j = i <;> simp [c]
    rw [hd] at next
    have hdl := List.Sublist.length_le (dropE_sub pre i)
    have hlen : L.length = pre.length + (t.length + 1) := by rw [h]; simp
    refine ev_succ ?_
    simp only [spec_l1Drop.l0, hg]
    rw [winc (by omega)]
    refine ev_pos hm (ev_pos (by omega) (ev_pos (by rw [castL_len]; exact hm) ?_))
    by_cases c : j = i
    · rw [if_pos c] at next
      exact ev_pos (by omega) next
    · rw [if_neg c, castL_app] at next
      exact ev_neg (by omega) (ev_pos (by rw [castL_len]; omega) next)
theorem spec_drop_f {L : List Nat} (hl : L.length ≤ 1000) (i : Nat) : Ev (fun k => spec_l1Drop.f k (castL L) (i : Int)) (castL (dropE L i)) := by
  unfold spec_l1Drop.f
  rw [castL_len]
  exact spec_drop_l0 hl i L [] rfl
def chc (cs : List Int) : List Nat := cs.map Int.toNat
theorem stepE_rd {P : Nat} {E : Edges} {L : List Nat} {c : Int} (hc : 0 ≤ c) (h : freeL P E L ≠ []) : ∃ i, stepE P E L c.toNat = some (i, rd (freeL P E L) (Int.tmod c ((freeL P E L).length : Int))) ∧ 0 ≤ Int.tmod c ((freeL P E L).length : Int) ∧ Int.tmod c ((freeL P E L).length : Int) < ((freeL P E L).length : Int) := by
  have hl : ¬ (freeL P E L).length = 0 := fun e => h (List.length_eq_zero_iff.1 e)
  have e : Int.tmod c ((freeL P E L).length : Int) = ((c.toNat % (freeL P E L).length : Nat) : Int) := by
    rw [Int.tmod_eq_emod_of_nonneg hc, Int.natCast_emod, Int.toNat_of_nonneg hc]
  have hm : c.toNat % (freeL P E L).length < (freeL P E L).length := Nat.mod_lt _ (by omega)
  unfold stepE
  rw [if_neg hl, e]
  exact ⟨_, rfl, by omega, by omega⟩
section
variable {P : Nat} {E : Edges} (hG : GoodH P E) {cs : List Int} {on : Bool} {acc : List S118} {L : List Nat} (hL : Rg E.length L)
include hG hL
theorem j1_end (hf : freeL P E L = []) (kk : Int) : Ev (fun k => spec_pePeel.j1 k cs on acc (castL L) kk true (P : Int) E) (acc, castL L) := by
  have hn := hG.len
  have hl := hL.len
  refine ev_succ ?_
  simp only [spec_pePeel.j1]
  refine ev_pos trivial (ev_bind _ (spec_free_f hG (fun i hi => hL.lt hi) (by omega)) (ev_pos (by rw [hf]; rfl) (Ev.now _)))
theorem j1_go {kk : Nat} (hk : kk < cs.length) (hkl : kk ≤ 100000) (ha : acc.length ≤ 1000000) {i : Nat} (hs : stepE P E L (rd cs (kk : Int)).toNat = some (i, rd (freeL P E L) (Int.tmod (rd cs (kk : Int)) ((freeL P E L).length : Int))))
    (h0 : 0 ≤ Int.tmod (rd cs (kk : Int)) ((freeL P E L).length : Int)) (h1 : Int.tmod (rd cs (kk : Int)) ((freeL P E L).length : Int) < ((freeL P E L).length : Int)) {r : List S118 × List Int}
    (H : Ev (fun k => spec_pePeel.l0 k cs on (acc ++ [mkS118 (i, rd (freeL P E L) (Int.tmod (rd cs (kk : Int)) ((freeL P E L).length : Int)))]) (castL (dropE L i)) ((kk + 1 : Nat) : Int) (P : Int) E) r) :
    Ev (fun k => spec_pePeel.j1 k cs on acc (castL L) (kk : Int) true (P : Int) E) r := by
  have hn := hG.len
  have hl := hL.len
  obtain ⟨_, _, hw⟩ := stepE_some hs
  have hwv := spec_with_f hG (fun i hi => hL.lt hi) (by omega) (rd (freeL P E L) (Int.tmod (rd cs (kk : Int)) ((freeL P E L).length : Int))) (L := L)
  rw [hw] at hwv
  refine ev_succ ?_
  simp only [spec_pePeel.j1]
  refine ev_pos trivial (ev_bind _ (spec_free_f hG (fun i hi => hL.lt hi) (by omega)) (ev_neg (by omega) (ev_pos (by omega) (ev_pos (by omega) (ev_pos h0 (ev_pos h1 (ev_bind _ hwv (ev_pos (by omega) (ev_bind _ (spec_drop_f (by omega) i) ?_)))))))))
  rw [winc (by omega)]
  exact H
theorem j1_zero {kk : Nat} (hk : cs.length ≤ kk) (hkl : kk ≤ 100000) (ha : acc.length ≤ 1000000) {i : Nat} (hf : freeL P E L ≠ []) (hs : stepE P E L 0 = some (i, rd (freeL P E L) 0)) {r : List S118 × List Int}
    (H : Ev (fun k => spec_pePeel.l0 k cs on (acc ++ [mkS118 (i, rd (freeL P E L) 0)]) (castL (dropE L i)) ((kk + 1 : Nat) : Int) (P : Int) E) r) :
    Ev (fun k => spec_pePeel.j1 k cs on acc (castL L) (kk : Int) true (P : Int) E) r := by
  have hn := hG.len
  have hl := hL.len
  have hz : ¬ (freeL P E L).length = 0 := fun e => hf (List.length_eq_zero_iff.1 e)
  obtain ⟨_, _, hw⟩ := stepE_some hs
  have hwv := spec_with_f hG (fun i hi => hL.lt hi) (by omega) (rd (freeL P E L) 0) (L := L)
  rw [hw] at hwv
  refine ev_succ ?_
  simp only [spec_pePeel.j1]
  refine ev_pos trivial (ev_bind _ (spec_free_f hG (fun i hi => hL.lt hi) (by omega)) (ev_neg (by omega) (ev_neg (by omega) (ev_pos (by omega) (ev_bind _ hwv (ev_pos (by omega) (ev_bind _ (spec_drop_f (by omega) i) ?_)))))))
  rw [winc (by omega)]
  exact H
end
theorem mkApp (acc : List S118) (s : Nat × Int) (l : List (Nat × Int)) : (acc ++ [mkS118 s]) ++ stepsL l = acc ++ stepsL (s :: l) := by simp [stepsL]
theorem spec_peel_on {P : Nat} {E : Edges} (hG : GoodH P E) {cs : List Int} : ∀ (d : Nat) (L : List Nat) (acc : List S118) (kk : Nat), Rg E.length L → L.length ≤ d → cs.length ≤ kk → kk + d ≤ 100000 → acc.length + d ≤ 1000000 →
    Ev (fun k => spec_pePeel.l0 k cs true acc (castL L) (kk : Int) (P : Int) E) (acc ++ stepsL (peelC P E (List.replicate d 0) L).1, castL (peelC P E (List.replicate d 0) L).2) := by
  have stop : ∀ (d : Nat) (L : List Nat) (acc : List S118) (kk : Nat), Rg E.length L → freeL P E L = [] → Ev (fun k => spec_pePeel.l0 k cs true acc (castL L) (kk : Int) (P : Int) E) (acc ++ stepsL (peelC P E (List.replicate d 0) L).1, castL (peelC P E (List.replicate d 0) L).2) := by
    intro d L acc kk hL hf
    have e : peelC P E (List.replicate d 0) L = ([], L) := by
      cases d with
      | zero => rfl
      | succ d => rw [List.replicate_succ, peelC_cons_none _ _ hf]
    rw [e]
    refine ev_succ ?_
    simp only [spec_pePeel.l0]
    refine ev_pos trivial ?_
    have := j1_end hG hL (cs := cs) (on := true) (acc := acc) hf (kk : Int)
    simpa [stepsL] using this
  intro d
  induction d with
  | zero =>
    intro L acc kk hL hd _ _ _
    have : L = [] := List.length_eq_zero_iff.1 (by omega)
    exact stop 0 L acc kk hL (by rw [this]; exact freeL_nil)
  | succ d ih =>
    intro L acc kk hL hd hk hkd ha
    by_cases hf : freeL P E L = []
    · exact stop (d + 1) L acc kk hL hf
    · obtain ⟨i, hs⟩ := step_zero hf
      obtain ⟨_, _, hw⟩ := stepE_some hs
      have hi := (withE_some hw).1
      have hdl := dropE_len hL.nodup hi
      rw [List.replicate_succ, peelC_cons_some _ hs]
      refine ev_succ ?_
      simp only [spec_pePeel.l0]
      refine ev_pos trivial (j1_zero hG hL hk (by omega) (by omega) hf hs ?_)
      have := ih (dropE L i) (acc ++ [mkS118 (i, rd (freeL P E L) 0)]) (kk + 1) (hL.drop i) (by omega) (by omega) (by omega) (by simp; omega)
      rw [mkApp] at this
      exact this
theorem spec_peel_cs {P : Nat} {E : Edges} (hG : GoodH P E) {cs : List Int} (hcs : ∀ c ∈ cs, 0 ≤ c) (hcl : cs.length ≤ 1000) (on : Bool) {d : Nat} (hd : d ≤ 2000) : ∀ (t pre : List Int) (L : List Nat) (acc : List S118), cs = pre ++ t → Rg E.length L → L.length ≤ d → acc.length + t.length ≤ 900000 →
    Ev (fun k => spec_pePeel.l0 k cs on acc (castL L) (pre.length : Int) (P : Int) E) (acc ++ stepsL (peelC P E (chc t ++ if on = true then List.replicate d 0 else []) L).1, castL (peelC P E (chc t ++ if on = true then List.replicate d 0 else []) L).2) := by
  intro t
  induction t with
  | nil =>
    intro pre L acc h hL hld ha
    have hp : cs = pre := by rw [h, List.append_nil]
    subst hp
    cases on with
    | true =>
      rw [if_pos rfl]
      exact spec_peel_on hG d L acc cs.length hL hld (Nat.le_refl _) (by omega) (by omega)
    | false =>
      rw [if_neg (by simp)]
      refine ev_succ ?_
      simp only [spec_pePeel.l0]
      refine ev_neg (by simp) ?_
      rw [decide_eq_false (by omega)]
      refine ev_succ ?_
      simp only [spec_pePeel.j1]
      exact ev_neg (by simp) (ev_some (by simp [chc, peelC, stepsL]))
  | cons c t ih =>
    intro pre L acc h hL hld ha
    have hm : pre.length < cs.length := by rw [h]; simp
    have hg : rd cs (pre.length : Int) = c := by rw [h]; exact rd_mid
    have hc : 0 ≤ c := hcs c (by rw [h]; simp)
    have hl1 : Ev (fun k => spec_pePeel.j1 k cs on acc (castL L) (pre.length : Int) true (P : Int) E) (acc ++ stepsL (peelC P E (chc (c :: t) ++ if on = true then List.replicate d 0 else []) L).1, castL (peelC P E (chc (c :: t) ++ if on = true then List.replicate d 0 else []) L).2) := by
      simp only [chc, List.map_cons, List.cons_append]
      by_cases hf : freeL P E L = []
      · rw [peelC_cons_none _ _ hf]
        have := j1_end hG hL (cs := cs) (on := on) (acc := acc) hf (pre.length : Int)
        simpa [stepsL] using this
      · obtain ⟨i, hs, h0, h1⟩ := stepE_rd hc hf
        obtain ⟨_, _, hw⟩ := stepE_some hs
        have hdl := dropE_len hL.nodup (withE_some hw).1
        rw [peelC_cons_some _ hs]
        have next := ih (pre ++ [c]) (dropE L i) (acc ++ [mkS118 (i, rd (freeL P E L) (Int.tmod c ((freeL P E L).length : Int)))]) (by rw [h]; simp) (hL.drop i) (by omega) (by simp at ha ⊢; omega)
        rw [len_one, mkApp] at next
        simp only [List.length_cons] at ha
        exact j1_go hG hL (kk := pre.length) hm (by omega) (by omega) (by rw [hg]; exact hs) (by rw [hg]; exact h0) (by rw [hg]; exact h1) (by rw [hg]; exact next)
    refine ev_succ ?_
    simp only [spec_pePeel.l0]
    by_cases ho : on = true
    · exact ev_pos ho hl1
    · refine ev_neg ho ?_
      rw [decide_eq_true (by omega)]
      exact hl1
theorem spec_pePeel_f {P : Nat} {E : Edges} (hG : GoodH P E) {cs : List Int} (hcs : ∀ c ∈ cs, 0 ≤ c) (hcl : cs.length ≤ 1000) (on : Bool) :
    Ev (fun k => spec_pePeel.f k (P : Int) E cs on) (stepsL (peelC P E (chc cs ++ if on = true then List.replicate E.length 0 else []) (allE E)).1, castL (peelC P E (chc cs ++ if on = true then List.replicate E.length 0 else []) (allE E)).2) := by
  have hn := hG.len
  unfold spec_pePeel.f
  have := spec_peel_cs hG hcs hcl on (d := E.length) (by omega) cs [] (allE E) [] rfl (Rg.all _) (by simp [allE]) (by simp; omega)
  rw [List.nil_append] at this
  exact ev_bind _ (spec_peAll_f hn _) this
theorem spec_peCore_f {P : Nat} {E : Edges} (hG : GoodH P E) : Ev (fun k => spec_peCore.f k (P : Int) E) (castL (coreE P E)) := by
  unfold spec_peCore.f
  have := spec_pePeel_f hG (cs := []) (by simp) (by simp) true
  exact ev_bind _ this (Ev.now _)
end Go.Proofs.YtmehagedoaopeaaQ
namespace Go.Proofs.YtmehagedoaopeaaQ
open Go Go.RowKit Go.Proofs.YtmehagedoaopeaaW.PrintWords Go.Proofs.YtmehagedoaopeaaGp Go.Proofs.Ytmehagedoaopeaa.PF

def mm (x y : Int) : Int := Int.tmod (wrap64 (x * y)) 65521
theorem mul_range {x y : Int} (hx : 0 ≤ x) (hx1 : x ≤ 65520) (hy : 0 ≤ y) (hy1 : y ≤ 65520) : 0 ≤ x * y ∧ x * y ≤ 4292870400 :=
  ⟨Int.mul_nonneg hx hy, by have := Int.mul_le_mul hx1 hy1 hy (by omega); omega⟩
theorem emod_range (x : Int) : 0 ≤ x % 65521 ∧ x % 65521 ≤ 65520 := by omega
theorem mm_eq {x y : Int} (hx : 0 ≤ x) (hx1 : x ≤ 65520) (hy : 0 ≤ y) (hy1 : y ≤ 65520) : mm x y = x * y % 65521 := by
  obtain ⟨h0, h1⟩ := mul_range hx hx1 hy hy1
  unfold mm
  rw [w64 (by omega) (by omega)]
  exact Int.tmod_eq_emod_of_nonneg h0
theorem mm_mod (a b : Int) : mm (a % 65521) (b % 65521) = a * b % 65521 := by
  rw [mm_eq (emod_range a).1 (emod_range a).2 (emod_range b).1 (emod_range b).2]
  exact (Int.mul_emod a b 65521).symm
def pw (h : Int) : Nat → Int
  | 0 => 1
  | n + 1 => pw h n * h
theorem self_mod {h : Int} (h0 : 0 ≤ h) (h1 : h ≤ 65520) : h = h % 65521 := by omega
theorem mm11 {h : Int} (h0 : 0 ≤ h) (h1 : h ≤ 65520) : mm (mm (mm (mm (mm h h) (mm h h)) h) (mm (mm (mm h h) (mm h h)) h)) h = pw h 11 % 65521 := by
  have e := self_mod h0 h1
  have a2 : mm h h = h * h % 65521 := mm_eq h0 h1 h0 h1
  have a4 : mm (mm h h) (mm h h) = (h * h) * (h * h) % 65521 := by rw [a2, mm_mod]
  have a5 : mm (mm (mm h h) (mm h h)) h = (h * h) * (h * h) * h % 65521 := by
    rw [a4]; conv => lhs; arg 2; rw [e]
    rw [mm_mod]
  rw [a5, mm_mod]
  conv => lhs; arg 2; rw [e]
  rw [mm_mod]
  congr 1
  simp only [pw, Int.one_mul, Int.mul_assoc]
theorem mm_pw {h : Int} (h0 : 0 ≤ h) (h1 : h ≤ 65520) (n : Nat) : mm (pw h n % 65521) h = pw h (n + 1) % 65521 := by
  conv => lhs; arg 2; rw [self_mod h0 h1]
  rw [mm_mod]
  rfl

def hstep (h : Int) (c : UInt8) : Int := Int.tmod (wrap64 ((wrap64 (263 * h)) + (wrap64 (c.toNat : Int)))) 65521
def hfold (h : Int) (l : List UInt8) : Int := l.foldl hstep h
theorem hstep_range {h : Int} {c : UInt8} (h0 : 0 ≤ h) (h1 : h ≤ 65520) : 0 ≤ hstep h c ∧ hstep h c ≤ 65520 := by
  have hc : c.toNat < 256 := c.toNat_lt
  unfold hstep
  rw [w64 (x := 263 * h) (by omega) (by omega), w64 (x := (c.toNat : Int)) (by omega) (by omega), w64 (by omega) (by omega), Int.tmod_eq_emod_of_nonneg (by omega)]
  omega
def hstart (a0 a1 : Int) : Int := Int.tmod (wrap64 ((wrap64 ((wrap64 (31 * a0)) + (wrap64 (977 * a1)))) + 7)) 65521
theorem hstart_range {a0 a1 : Int} (h0 : 0 ≤ a0) (h0' : a0 ≤ 1000000) (h1 : 0 ≤ a1) (h1' : a1 ≤ 1000000) : 0 ≤ hstart a0 a1 ∧ hstart a0 a1 ≤ 65520 := by
  unfold hstart
  rw [w64 (x := 31 * a0) (by omega) (by omega), w64 (x := 977 * a1) (by omega) (by omega), w64 (x := 31 * a0 + 977 * a1) (by omega) (by omega), w64 (by omega) (by omega), Int.tmod_eq_emod_of_nonneg (by omega)]
  omega
def hashV (a0 a1 : Int) (s : ByteArray) : Int := pw (hfold (hstart a0 a1) s.data.toList) 11 % 65521
theorem hashV_range (a0 a1 : Int) (s : ByteArray) : 0 ≤ hashV a0 a1 s ∧ hashV a0 a1 s ≤ 65520 := emod_range _
theorem spec_biHash_l0 (x2 : ByteArray) (hz : (x2.size : Int) ≤ 9223372036854775806) : ∀ (t pre : List UInt8) (h : Int), x2.data.toList = pre ++ t → 0 ≤ h → h ≤ 65520 →
    Ev (fun k => spec_biHash.l0 k x2 h (pre.length : Int)) (pw (hfold h t) 11 % 65521) := by
  intro t
  induction t with
  | nil =>
    intro pre h e h0 h1
    refine ev_succ ?_
    simp only [spec_biHash.l0]
    refine ev_neg (not_lt_size e) (ev_some ?_)
    exact mm11 h0 h1
  | cons c t ih =>
    intro pre h e h0 h1
    have hm := lt_size e
    refine ev_succ ?_
    simp only [spec_biHash.l0, bt_mid e]
    refine ev_pos hm (ev_pos (by omega) ?_)
    rw [winc (by omega)]
    have := ih (pre ++ [c]) (hstep h c) (by rw [e]; simp) (hstep_range h0 h1).1 (hstep_range h0 h1).2
    rw [len_one] at this
    exact this
theorem spec_biHash_f (a0 a1 : Int) (s : ByteArray) (hz : (s.size : Int) ≤ 9223372036854775806) (h0 : 0 ≤ a0) (h0' : a0 ≤ 1000000) (h1 : 0 ≤ a1) (h1' : a1 ≤ 1000000) :
    Ev (fun k => spec_biHash.f k a0 a1 s) (hashV a0 a1 s) := by
  unfold spec_biHash.f
  exact spec_biHash_l0 s hz s.data.toList [] _ rfl (hstart_range h0 h0' h1 h1').1 (hstart_range h0 h0' h1 h1').2
theorem impl_hash_l1 {h : Int} (h0 : 0 ≤ h) (h1 : h ≤ 65520) : ∀ (m i : Nat), i + m = 11 → Ev (fun k => impl_hash.l1 k h (pw h i % 65521) (i : Int)) (pw h 11 % 65521) := by
  intro m
  induction m with
  | zero =>
    intro i e
    obtain rfl : i = 11 := by omega
    refine ev_succ ?_
    simp only [impl_hash.l1]
    exact ev_neg (by omega) (ev_some rfl)
  | succ m ih =>
    intro i e
    refine ev_succ ?_
    simp only [impl_hash.l1]
    refine ev_pos (by omega) ?_
    rw [winc (by omega)]
    have := ih (i + 1) (by omega)
    rw [← mm_pw h0 h1 i] at this
    exact this
theorem impl_hash_l0 (x2 : ByteArray) (hz : (x2.size : Int) ≤ 9223372036854775806) : ∀ (t pre : List UInt8) (h : Int), x2.data.toList = pre ++ t → 0 ≤ h → h ≤ 65520 →
    Ev (fun k => impl_hash.l0 k x2 h (x2.size : Int) (pre.length : Int)) (pw (hfold h t) 11 % 65521) := by
  intro t
  induction t with
  | nil =>
    intro pre h e h0 h1
    refine ev_succ ?_
    simp only [impl_hash.l0]
    exact ev_neg (not_lt_size e) (impl_hash_l1 h0 h1 11 0 rfl)
  | cons c t ih =>
    intro pre h e h0 h1
    have hm := lt_size e
    refine ev_succ ?_
    simp only [impl_hash.l0, bt_mid e]
    refine ev_pos hm (ev_pos (by omega) (ev_pos hm ?_))
    rw [winc (by omega)]
    have := ih (pre ++ [c]) (hstep h c) (by rw [e]; simp) (hstep_range h0 h1).1 (hstep_range h0 h1).2
    rw [len_one] at this
    exact this
theorem impl_hash_f (a0 a1 : Int) (s : ByteArray) (hz : (s.size : Int) ≤ 9223372036854775806) (h0 : 0 ≤ a0) (h0' : a0 ≤ 1000000) (h1 : 0 ≤ a1) (h1' : a1 ≤ 1000000) :
    Ev (fun k => impl_hash.f k a0 a1 s) (hashV a0 a1 s) := by
  unfold impl_hash.f
  exact impl_hash_l0 s hz s.data.toList [] _ rfl (hstart_range h0 h0' h1 h1').1 (hstart_range h0 h0' h1 h1').2

def placeV (a0 a1 : Int) (s : ByteArray) (n : Int) : Int := wrap64 (Int.tdiv (wrap64 (hashV a0 a1 s * n)) 65521)
theorem placeV_range (a0 a1 : Int) (s : ByteArray) {n : Int} (h0 : 1 ≤ n) (h1 : n ≤ 1000000) : 0 ≤ placeV a0 a1 s n ∧ placeV a0 a1 s n < n := by
  obtain ⟨a, b⟩ := hashV_range a0 a1 s
  have c := Int.mul_nonneg a (show (0 : Int) ≤ n by omega)
  have d := Int.mul_le_mul_of_nonneg_right b (show (0 : Int) ≤ n by omega)
  unfold placeV
  generalize hashV a0 a1 s * n = y at *
  rw [w64 (x := y) (by omega) (by omega), Int.tdiv_eq_ediv_of_nonneg (by omega), w64 (by omega) (by omega)]
  omega
theorem spec_biPlace_f (a0 a1 : Int) (s : ByteArray) (n : Int) (hz : (s.size : Int) ≤ 9223372036854775806) (h0 : 0 ≤ a0) (h0' : a0 ≤ 1000000) (h1 : 0 ≤ a1) (h1' : a1 ≤ 1000000) :
    Ev (fun k => spec_biPlace.f k a0 a1 s n) (placeV a0 a1 s n) := by
  unfold spec_biPlace.f
  exact ev_bind _ (spec_biHash_f a0 a1 s hz h0 h0' h1 h1') (Ev.now _)
theorem impl_place_f (a0 a1 : Int) (s : ByteArray) (n : Int) (hz : (s.size : Int) ≤ 9223372036854775806) (h0 : 0 ≤ a0) (h0' : a0 ≤ 1000000) (h1 : 0 ≤ a1) (h1' : a1 ≤ 1000000) :
    Ev (fun k => impl_place.f k a0 a1 s n) (placeV a0 a1 s n) := by
  unfold impl_place.f
  exact ev_bind _ (impl_hash_f a0 a1 s hz h0 h0' h1 h1') (Ev.now _)
end Go.Proofs.YtmehagedoaopeaaQ
namespace Go.Proofs.YtmehagedoaopeaaQ
open Go Go.RowKit Go.Proofs.YtmehagedoaopeaaW.PrintWords Go.Proofs.YtmehagedoaopeaaGp Go.Proofs.Ytmehagedoaopeaa.PF

def tripL (a0 : Int) (s : ByteArray) (n : Int) : Nat → Nat → List Int
  | 0, _ => []
  | m + 1, i => wrap64 (placeV a0 (i : Int) s n + wrap64 ((i : Int) * n)) :: tripL a0 s n m (i + 1)
theorem tripL_range (a0 : Int) (s : ByteArray) {n : Int} (h0 : 1 ≤ n) (h1 : n ≤ 24) : ∀ p ∈ tripL a0 s n 3 0, 0 ≤ p ∧ p < 3 * n := by
  intro p h
  have r0 := placeV_range a0 ((0 : Nat) : Int) s h0 (by omega)
  have r1 := placeV_range a0 ((0 + 1 : Nat) : Int) s h0 (by omega)
  have r2 := placeV_range a0 ((0 + 1 + 1 : Nat) : Int) s h0 (by omega)
  simp only [tripL, List.mem_cons, List.not_mem_nil, or_false] at h
  rcases h with rfl | rfl | rfl
  · rw [w64 (x := ((0 : Nat) : Int) * n) (by omega) (by omega), w64 (by omega) (by omega)]; omega
  · rw [w64 (x := ((0 + 1 : Nat) : Int) * n) (by omega) (by omega), w64 (by omega) (by omega)]; omega
  · rw [w64 (x := ((0 + 1 + 1 : Nat) : Int) * n) (by omega) (by omega), w64 (by omega) (by omega)]; omega
theorem spec_peTriple_l0 (a0 : Int) (n : Int) (s : ByteArray) (hz : (s.size : Int) ≤ 9223372036854775806) (h0 : 0 ≤ a0) (h0' : a0 ≤ 1000000) : ∀ (m i : Nat) (acc : List Int), i + m = 3 → acc.length = i →
    Ev (fun k => spec_peTriple.l0 k a0 s n acc (i : Int)) (acc ++ tripL a0 s n m i) := by
  intro m
  induction m with
  | zero =>
    intro i acc e ha
    refine ev_succ ?_
    simp only [spec_peTriple.l0, tripL]
    exact ev_neg (by omega) (ev_some (by simp))
  | succ m ih =>
    intro i acc e ha
    refine ev_succ ?_
    simp only [spec_peTriple.l0, tripL]
    refine ev_pos (by omega) (ev_bind _ (spec_biPlace_f a0 (i : Int) s n hz h0 h0' (by omega) (by omega)) (ev_pos (by omega) ?_))
    rw [winc (by omega)]
    have := ih (i + 1) (acc ++ [wrap64 (placeV a0 (i : Int) s n + wrap64 ((i : Int) * n))]) (by omega) (by simp [ha])
    rw [List.append_assoc] at this
    exact this
theorem spec_peTriple_f (a0 n : Int) (s : ByteArray) (hz : (s.size : Int) ≤ 9223372036854775806) (h0 : 0 ≤ a0) (h0' : a0 ≤ 1000000) : Ev (fun k => spec_peTriple.f k a0 s n) (tripL a0 s n 3 0) := by
  unfold spec_peTriple.f
  have := spec_peTriple_l0 a0 n s hz h0 h0' 3 0 [] rfl rfl
  exact this
theorem impl_threePlaces_l0 (a0 : Int) (n : Int) (s : ByteArray) (hz : (s.size : Int) ≤ 9223372036854775806) (h0 : 0 ≤ a0) (h0' : a0 ≤ 1000000) : ∀ (m i : Nat) (acc : List Int), i + m = 3 → acc.length = i →
    Ev (fun k => impl_threePlaces.l0 k a0 s n acc (i : Int)) (acc ++ tripL a0 s n m i) := by
  intro m
  induction m with
  | zero =>
    intro i acc e ha
    refine ev_succ ?_
    simp only [impl_threePlaces.l0, tripL]
    exact ev_neg (by omega) (ev_some (by simp))
  | succ m ih =>
    intro i acc e ha
    refine ev_succ ?_
    simp only [impl_threePlaces.l0, tripL]
    refine ev_pos (by omega) (ev_bind _ (impl_place_f a0 (i : Int) s n hz h0 h0' (by omega) (by omega)) (ev_pos (by omega) ?_))
    rw [winc (by omega)]
    have := ih (i + 1) (acc ++ [wrap64 (placeV a0 (i : Int) s n + wrap64 ((i : Int) * n))]) (by omega) (by simp [ha])
    rw [List.append_assoc] at this
    exact this
theorem impl_threePlaces_f (a0 n : Int) (s : ByteArray) (hz : (s.size : Int) ≤ 9223372036854775806) (h0 : 0 ≤ a0) (h0' : a0 ≤ 1000000) : Ev (fun k => impl_threePlaces.f k a0 s n) (tripL a0 s n 3 0) := by
  unfold impl_threePlaces.f
  have := impl_threePlaces_l0 a0 n s hz h0 h0' 3 0 [] rfl rfl
  exact this
end Go.Proofs.YtmehagedoaopeaaQ
namespace Go.Proofs.YtmehagedoaopeaaQ
open Go Go.RowKit Go.Proofs.YtmehagedoaopeaaW.PrintWords Go.Proofs.YtmehagedoaopeaaGp Go.Proofs.Ytmehagedoaopeaa.PF

theorem spec_in (n a b : Int) : spec_l1In.f n a b = some (decide (a ≤ n ∧ n ≤ b)) := by
  unfold spec_l1In.f
  by_cases h : a ≤ n <;> by_cases h' : n ≤ b <;> simp [h, h']
theorem impl_in (n a b : Int) : impl_in.f n a b = some (decide (a ≤ n ∧ n ≤ b)) := by
  unfold impl_in.f
  by_cases h : a ≤ n <;> by_cases h' : n ≤ b <;> simp [h, h']

def byteOk (c : UInt8) : Bool := decide (33 ≤ (c.toNat : Int) ∧ (c.toNat : Int) ≤ 125)
def isKeyB (s : ByteArray) : Bool := s.data.toList.all byteOk && decide (1 ≤ (s.size : Int) ∧ (s.size : Int) ≤ 12)
theorem spec_IsKey_l0 (x0 : ByteArray) (hz : (x0.size : Int) ≤ 9223372036854775806) : ∀ (t pre : List UInt8), x0.data.toList = pre ++ t →
    Ev (fun k => spec_IsKey.l0 k x0 (pre.length : Int)) (t.all byteOk && decide (1 ≤ (x0.size : Int) ∧ (x0.size : Int) ≤ 12)) := by
  intro t
  induction t with
  | nil =>
    intro pre h
    refine ev_succ ?_
    simp only [spec_IsKey.l0, spec_in, Option.bind_some]
    exact ev_neg (not_lt_size h) (ev_some (by simp))
  | cons c t ih =>
    intro pre h
    have hm := lt_size h
    refine ev_succ ?_
    simp only [spec_IsKey.l0, bt_mid h]
    refine ev_pos hm (ev_pos (by omega) ?_)
    by_cases c1 : (c.toNat : Int) < 33
    · exact ev_pos c1 (ev_some (by simp [byteOk]; omega))
    · refine ev_neg c1 ?_
      by_cases c2 : (c.toNat : Int) > 125
      · exact ev_pos c2 (ev_some (by simp [byteOk]; omega))
      · refine ev_neg c2 ?_
        rw [winc (by omega)]
        have := ih (pre ++ [c]) (by rw [h]; simp)
        rw [len_one] at this
        have hb : byteOk c = true := by simp [byteOk]; omega
        simpa [hb] using this
theorem spec_IsKey_f (s : ByteArray) (hz : (s.size : Int) ≤ 9223372036854775806) : Ev (fun k => spec_IsKey.f k s) (isKeyB s) := by
  unfold spec_IsKey.f
  exact spec_IsKey_l0 s hz s.data.toList [] rfl
theorem impl_IsKey_l0 (x0 : ByteArray) (hz : (x0.size : Int) ≤ 9223372036854775806) : ∀ (t pre : List UInt8), x0.data.toList = pre ++ t →
    Ev (fun k => impl_IsKey.l0 k x0 (x0.size : Int) (pre.length : Int)) (t.all byteOk && decide (1 ≤ (x0.size : Int) ∧ (x0.size : Int) ≤ 12)) := by
  intro t
  induction t with
  | nil =>
    intro pre h
    refine ev_succ ?_
    simp only [impl_IsKey.l0, impl_in, Option.bind_some]
    exact ev_neg (not_lt_size h) (ev_some (by simp))
  | cons c t ih =>
    intro pre h
    have hm := lt_size h
    refine ev_succ ?_
    simp only [impl_IsKey.l0, bt_mid h]
    refine ev_pos hm (ev_pos (by omega) (ev_pos hm ?_))
    by_cases c1 : (c.toNat : Int) < 33
    · exact ev_pos c1 (ev_some (by simp [byteOk]; omega))
    · refine ev_neg c1 ?_
      by_cases c2 : (c.toNat : Int) > 125
      · exact ev_pos c2 (ev_some (by simp [byteOk]; omega))
      · refine ev_neg c2 ?_
        rw [winc (by omega)]
        have := ih (pre ++ [c]) (by rw [h]; simp)
        rw [len_one] at this
        have hb : byteOk c = true := by simp [byteOk]; omega
        simpa [hb] using this
theorem impl_IsKey_f (s : ByteArray) (hz : (s.size : Int) ≤ 9223372036854775806) : Ev (fun k => impl_IsKey.f k s) (isKeyB s) := by
  unfold impl_IsKey.f
  exact impl_IsKey_l0 s hz s.data.toList [] rfl
theorem isKeyB_size {s : ByteArray} (h : isKeyB s = true) : 1 ≤ s.size ∧ s.size ≤ 12 := by
  simp [isKeyB] at h
  omega

def keysFrom : Option ByteArray → List ByteArray → Bool
  | _, [] => true
  | p, s :: t => isKeyB s && (match p with | none => true | some q => lessS q s) && keysFrom (some s) t
def areKeysB (l : List ByteArray) : Bool := keysFrom none l && decide ((l.length : Int) ≤ 40)
def lastOf (pre : List ByteArray) : Option ByteArray := pre.getLast?
theorem lastOf_one (pre : List ByteArray) (s : ByteArray) : lastOf (pre ++ [s]) = some s := by simp [lastOf]
theorem lastOf_nil : lastOf [] = none := rfl
theorem last_split {pre : List ByteArray} (h : 0 < pre.length) : ∃ q p, pre = q ++ [p] := by
  obtain ⟨x, hx⟩ : ∃ x, pre.getLast? = some x := by
    cases hp : pre.getLast? with
    | none => rw [List.getLast?_eq_none_iff] at hp; subst hp; simp at h
    | some x => exact ⟨x, rfl⟩
  obtain ⟨q, hq⟩ := List.getLast?_eq_some_iff.1 hx
  exact ⟨q, x, hq⟩

theorem spec_biKeys_l0 (x0 : List ByteArray) (hl : (x0.length : Int) ≤ 9223372036854775806) : ∀ (t pre : List ByteArray), x0 = pre ++ t → (∀ s ∈ t, (s.size : Int) ≤ 9223372036854775806) →
    Ev (fun k => spec_biKeys.l0 k x0 x0 (x0.length : Int) (pre.length : Int)) (keysFrom (lastOf pre) t && decide ((x0.length : Int) ≤ 40)) := by
  intro t
  induction t with
  | nil =>
    intro pre h hs
    refine ev_succ ?_
    simp only [spec_biKeys.l0]
    exact ev_neg (by rw [h]; exact not_lt_end) (ev_some (by simp [keysFrom]))
  | cons s t ih =>
    intro pre h hs
    have hm : ((pre.length : Nat) : Int) < (x0.length : Int) := by rw [h]; exact lt_mid
    have hg : rdOf ByteArray.empty x0 (pre.length : Int) = s := by rw [h]; exact rdOf_mid
    have next := ih (pre ++ [s]) (by rw [h]; simp) (fun x hx => hs x (by simp [hx]))
    rw [len_one, lastOf_one] at next
    refine ev_succ ?_
    simp only [spec_biKeys.l0, hg]
    refine ev_pos hm (ev_pos (by omega) (ev_pos hm (ev_bind _ (spec_IsKey_f s (hs s (by simp))) ?_)))
    cases hk : isKeyB s with
    | false => exact ev_neg (by simp) (ev_some (by simp [keysFrom, hk]))
    | true =>
      refine ev_pos rfl ?_
      by_cases c : 0 < pre.length
      · obtain ⟨q, p, rfl⟩ := last_split c
        have hp : rdOf ByteArray.empty x0 ((q.length : Nat) : Int) = p := by rw [h]; exact rdOf_last
        have hw : wrap64 (((q ++ [p]).length : Int) - 1) = (q.length : Int) := by rw [len_one]; exact wdec (by simp at hm; omega)
        simp only [hw, hp, lastOf_one, keysFrom, hk, Bool.true_and]
        refine ev_pos (by omega) (ev_pos (by omega) (ev_pos (by simp at hm; omega) ?_))
        by_cases c2 : lessS p s = true
        · refine ev_pos c2 ?_
          rw [winc (by omega), c2, Bool.true_and]
          exact next
        · refine ev_neg c2 (ev_some ?_)
          simp only [Bool.not_eq_true] at c2
          simp [c2]
      · obtain rfl := List.length_eq_zero_iff.1 (show pre.length = 0 by omega)
        refine ev_neg (by simp) ?_
        rw [winc (by omega)]
        simp only [lastOf_nil, keysFrom, hk, Bool.true_and]
        exact next
theorem spec_biKeys_f (l : List ByteArray) (hl : (l.length : Int) ≤ 9223372036854775806) (hs : ∀ s ∈ l, (s.size : Int) ≤ 9223372036854775806) : Ev (fun k => spec_biKeys.f k l) (areKeysB l) := by
  unfold spec_biKeys.f
  exact spec_biKeys_l0 l hl l [] rfl hs
theorem impl_AreKeys_l0 (x0 : List ByteArray) (hl : (x0.length : Int) ≤ 9223372036854775806) : ∀ (t pre : List ByteArray), x0 = pre ++ t → (∀ s ∈ t, (s.size : Int) ≤ 9223372036854775806) →
    Ev (fun k => impl_AreKeys.l0 k x0 x0 (x0.length : Int) (pre.length : Int)) (keysFrom (lastOf pre) t && decide ((x0.length : Int) ≤ 40)) := by
  intro t
  induction t with
  | nil =>
    intro pre h hs
    refine ev_succ ?_
    simp only [impl_AreKeys.l0]
    exact ev_neg (by rw [h]; exact not_lt_end) (ev_some (by simp [keysFrom]))
  | cons s t ih =>
    intro pre h hs
    have hm : ((pre.length : Nat) : Int) < (x0.length : Int) := by rw [h]; exact lt_mid
    have hg : rdOf ByteArray.empty x0 (pre.length : Int) = s := by rw [h]; exact rdOf_mid
    have next := ih (pre ++ [s]) (by rw [h]; simp) (fun x hx => hs x (by simp [hx]))
    rw [len_one, lastOf_one] at next
    refine ev_succ ?_
    simp only [impl_AreKeys.l0, hg]
    refine ev_pos hm (ev_pos (by omega) (ev_pos hm (ev_bind _ (impl_IsKey_f s (hs s (by simp))) ?_)))
    cases hk : isKeyB s with
    | false => exact ev_neg (by simp) (ev_some (by simp [keysFrom, hk]))
    | true =>
      refine ev_pos rfl ?_
      by_cases c : 0 < pre.length
      · obtain ⟨q, p, rfl⟩ := last_split c
        have hp : rdOf ByteArray.empty x0 ((q.length : Nat) : Int) = p := by rw [h]; exact rdOf_last
        have hw : wrap64 (((q ++ [p]).length : Int) - 1) = (q.length : Int) := by rw [len_one]; exact wdec (by simp at hm; omega)
        simp only [hw, hp, lastOf_one, keysFrom, hk, Bool.true_and]
        refine ev_pos (by omega) (ev_pos (by omega) (ev_pos (by simp at hm; omega) ?_))
        by_cases c2 : lessS p s = true
        · refine ev_pos c2 ?_
          rw [winc (by omega), c2, Bool.true_and]
          exact next
        · refine ev_neg c2 (ev_some ?_)
          simp only [Bool.not_eq_true] at c2
          simp [c2]
      · obtain rfl := List.length_eq_zero_iff.1 (show pre.length = 0 by omega)
        refine ev_neg (by simp) ?_
        rw [winc (by omega)]
        simp only [lastOf_nil, keysFrom, hk, Bool.true_and]
        exact next
theorem impl_AreKeys_f (l : List ByteArray) (hl : (l.length : Int) ≤ 9223372036854775806) (hs : ∀ s ∈ l, (s.size : Int) ≤ 9223372036854775806) : Ev (fun k => impl_AreKeys.f k l) (areKeysB l) := by
  unfold impl_AreKeys.f
  exact impl_AreKeys_l0 l hl l [] rfl hs
theorem areKeysB_len {l : List ByteArray} (h : areKeysB l = true) : l.length ≤ 40 := by
  simp [areKeysB] at h
  omega
theorem keysFrom_all : ∀ (p : Option ByteArray) (l : List ByteArray), keysFrom p l = true → ∀ s ∈ l, isKeyB s = true
  | _, [], _, s, h => by simp at h
  | p, x :: t, hk, s, h => by
    simp only [keysFrom, Bool.and_eq_true] at hk
    rcases List.mem_cons.1 h with rfl | h
    · exact hk.1.1
    · exact keysFrom_all _ t hk.2 s h
theorem areKeysB_all {l : List ByteArray} (h : areKeysB l = true) : ∀ s ∈ l, isKeyB s = true := by
  simp only [areKeysB, Bool.and_eq_true] at h
  exact keysFrom_all _ _ h.1
end Go.Proofs.YtmehagedoaopeaaQ
namespace Go.Proofs.YtmehagedoaopeaaQ
open Go Go.RowKit Go.Proofs.YtmehagedoaopeaaW.PrintWords Go.Proofs.YtmehagedoaopeaaGp Go.Proofs.Ytmehagedoaopeaa.PF

structure Bys (s : List Int) : Prop where
  len : (s.length : Int) ≤ 1048576
  all : ∀ x ∈ s, 0 ≤ x ∧ x ≤ 255
theorem and255 (x : Int) : 0 ≤ Go.bits .and .u64 x 255 ∧ Go.bits .and .u64 x 255 ≤ 255 := by
  have e : Go.bits .and .u64 x 255 = IntKind.u64.wrap (((BitVec.ofInt 64 x &&& BitVec.ofInt 64 255 : BitVec 64)).toNat : Int) := by unfold Go.bits; rfl
  have h : ((BitVec.ofInt 64 x &&& BitVec.ofInt 64 255 : BitVec 64)).toNat ≤ 255 := by
    rw [BitVec.toNat_and]
    exact Nat.and_le_right
  rw [e]
  unfold IntKind.wrap
  simp only [IntKind.bits, IntKind.signed]
  generalize (BitVec.ofInt 64 x &&& BitVec.ofInt 64 255 : BitVec 64).toNat = m at h
  simp
  omega
theorem rd_by {s : List Int} (hs : Bys s) (i : Int) : 0 ≤ rd s i ∧ rd s i ≤ 255 := by
  unfold rd
  by_cases c : i.toNat < s.length
  · rw [List.getD_eq_getElem?_getD, List.getElem?_eq_getElem c]
    exact hs.all _ (List.getElem_mem c)
  · rw [List.getD_eq_getElem?_getD, List.getElem?_eq_none (by omega)]
    simp
theorem next_ok {s : List Int} (hs : Bys s) {p : Int} (sd : Int) (h0 : 0 ≤ p) (h1 : p ≤ 4000000000000000000) :
    ∃ v p' sd', spec_l1Cur_next.f s p sd = some (v, p', sd') ∧ (0 ≤ v ∧ v ≤ 255) ∧ 0 ≤ p' ∧ p' ≤ p + 1 := by
  have hb := rd_by hs p
  have w1 : wrap64 (p + 1) = p + 1 := w64 (by omega) (by omega)
  have w2 : wrap64 (rd s p) = rd s p := w64 (by omega) (by omega)
  unfold spec_l1Cur_next.f
  rw [w1, w2]
  by_cases c : p < (s.length : Int)
  · rw [if_pos c, if_pos h0]
    split
    · exact ⟨_, _, _, rfl, hb, by omega, by omega⟩
    · omega
  · rw [if_neg c, if_neg (by omega)]
    refine ⟨_, _, _, rfl, ?_, by omega, by omega⟩
    have := and255 ((IntKind.u64.wrap ((IntKind.u64.wrap (IntKind.u64.wrap (sd * 6364136223846793005))) + 1442695040888963407)) / 1099511627776)
    rw [w64 (by omega) (by omega)]
    exact this
theorem pick_ok {s : List Int} (hs : Bys s) {p : Int} (sd : Int) {n : Int} (h0 : 0 ≤ p) (h1 : p ≤ 3000000000000000000) :
    ∃ v p' sd', spec_l1Cur_pick.f s p sd n = some (v, p', sd') ∧ (0 ≤ v ∧ (v < n ∨ v = 0)) ∧ 0 ≤ p' ∧ p' ≤ p + 2 := by
  unfold spec_l1Cur_pick.f
  by_cases c : n ≤ 1
  · rw [if_pos c]; exact ⟨_, _, _, rfl, ⟨by omega, .inr rfl⟩, h0, by omega⟩
  obtain ⟨v, p', sd', e, hv, q0, q1⟩ := next_ok hs sd h0 (by omega)
  have hn : ¬ n = 0 := by omega
  rw [if_neg c, e]
  simp only [Option.bind_some, if_neg hn]
  by_cases d : n > 200
  · obtain ⟨u, p2, sd2, e2, hu, r0, r1⟩ := next_ok hs sd' q0 (by omega)
    rw [if_pos d, e2]
    simp only [Option.bind_some]
    refine ⟨_, _, _, rfl, ?_, r0, by omega⟩
    rw [w64 (x := v * 256) (by omega) (by omega), w64 (x := v * 256 + u) (by omega) (by omega), Int.tmod_eq_emod_of_nonneg (by omega)]
    exact ⟨Int.emod_nonneg _ hn, .inl (Int.emod_lt_of_pos _ (by omega))⟩
  · rw [if_neg d]
    refine ⟨_, _, _, rfl, ?_, q0, by omega⟩
    rw [Int.tmod_eq_emod_of_nonneg hv.1]
    exact ⟨Int.emod_nonneg _ hn, .inl (Int.emod_lt_of_pos _ (by omega))⟩
theorem one_ok {s : List Int} (hs : Bys s) {p : Int} (sd : Int) (n : Int) (h0 : 0 ≤ p) (h1 : p ≤ 3000000000000000000) :
    ∃ v p' sd', spec_l1Cur_one.f s p sd n = some (v, p', sd') ∧ 0 ≤ p' ∧ p' ≤ p + 2 := by
  obtain ⟨v, p', sd', e, _, q0, q1⟩ := pick_ok hs sd (n := n) h0 h1
  unfold spec_l1Cur_one.f
  rw [e]
  exact ⟨_, _, _, rfl, q0, q1⟩
theorem among_ok {s : List Int} (hs : Bys s) {p : Int} (sd : Int) {l : List Int} (hl : 0 < l.length) (h0 : 0 ≤ p) (h1 : p ≤ 3000000000000000000) :
    ∃ v p' sd', spec_l1Cur_among.f s p sd l = some (v, p', sd') ∧ v ∈ l ∧ 0 ≤ p' ∧ p' ≤ p + 2 := by
  obtain ⟨v, p', sd', e, hv, q0, q1⟩ := pick_ok hs sd (n := (l.length : Int)) h0 h1
  have hm : rd l v ∈ l := by
    unfold rd
    have : v.toNat < l.length := by omega
    rw [List.getD_eq_getElem?_getD, List.getElem?_eq_getElem this]
    exact List.getElem_mem this
  unfold spec_l1Cur_among.f
  rw [e]
  simp only [Option.bind_some]
  rw [if_pos (by omega), if_pos (by omega)]
  exact ⟨_, _, _, rfl, hm, q0, q1⟩
theorem strOf_size (l : List Int) : (strOfNums l).size = l.length := by simp [strOfNums, ByteArray.size]

def Dr {α : Type} (g : Nat → Option (α × Int × Int)) (p c : Int) (P : α → Prop) : Prop := ∃ v p' sd', Ev g (v, p', sd') ∧ P v ∧ 0 ≤ p' ∧ p' ≤ p + c
theorem key_l1 (s : List Int) (p sd : Int) : ∀ (d : Nat) (x : List Int), 12 - x.length ≤ d → x.length ≤ 12 →
    ∃ v, Ev (fun k => spec_l1Cur_key.l1 k x s p sd) (v, p, sd) ∧ v.size ≤ 12 := by
  intro d
  induction d with
  | zero =>
    intro x h1 h2
    refine ⟨strOfNums x, ev_succ ?_, by rw [strOf_size]; omega⟩
    simp only [spec_l1Cur_key.l1]
    exact ev_neg (by omega) (Ev.now _)
  | succ d ih =>
    intro x h1 h2
    by_cases c : (x.length : Int) < 12
    · obtain ⟨v, e, hv⟩ := ih (x ++ [97]) (by simp; omega) (by simp; omega)
      refine ⟨v, ev_succ ?_, hv⟩
      simp only [spec_l1Cur_key.l1]
      exact ev_pos c (ev_pos (by omega) e)
    · refine ⟨strOfNums x, ev_succ ?_, by rw [strOf_size]; omega⟩
      simp only [spec_l1Cur_key.l1]
      exact ev_neg c (Ev.now _)
theorem key_l0 {s : List Int} (hs : Bys s) : ∀ (n : Nat) (x : List Int) (p sd : Int), x.length + n ≤ 12 → 0 ≤ p → p + 2 * (n : Int) ≤ 2000000000000000000 →
    Dr (fun k => spec_l1Cur_key.l0 k x (n : Int) s p sd) p (2 * (n : Int) + 2) (fun v => v.size ≤ 12) := by
  intro n
  induction n with
  | zero =>
    intro x p sd hx h0 h1
    obtain ⟨v, p', sd', e, q0, q1⟩ := one_ok hs sd 12 h0 (by omega)
    by_cases c : v = true
    · obtain ⟨u, eu, hu⟩ := key_l1 s p' sd' 12 x (by omega) (by omega)
      refine ⟨u, p', sd', ev_succ ?_, hu, q0, by omega⟩
      simp only [spec_l1Cur_key.l0, e]
      exact ev_neg (by omega) (ev_bind _ (Ev.now _) (ev_pos c eu))
    · refine ⟨strOfNums x, p', sd', ev_succ ?_, (by rw [strOf_size]; omega : (strOfNums x).size ≤ 12), q0, by omega⟩
      simp only [spec_l1Cur_key.l0, e]
      exact ev_neg (by omega) (ev_bind _ (Ev.now _) (ev_neg c (Ev.now _)))
  | succ n ih =>
    intro x p sd hx h0 h1
    obtain ⟨v, p', sd', e, hv, q0, q1⟩ := pick_ok hs sd (n := 11) h0 (by omega)
    obtain ⟨u, p2, sd2, eu, hu, r0, r1⟩ := ih (x ++ [bt (⟨#[97, 97, 98, 98, 99, 120, 121, 122, 33, 125, 48]⟩ : ByteArray) v]) p' sd' (by simp; omega) q0 (by omega)
    refine ⟨u, p2, sd2, ev_succ ?_, hu, r0, by omega⟩
    simp only [spec_l1Cur_key.l0, e]
    refine ev_pos (by omega) (ev_bind _ (Ev.now _) (ev_pos hv.1 (ev_pos (by omega) (ev_pos (by omega) ?_))))
    rw [wdec (by omega)]
    exact eu
theorem key_ok {s : List Int} (hs : Bys s) {p : Int} (sd : Int) (h0 : 0 ≤ p) (h1 : p ≤ 1000000000000000000) : Dr (fun k => spec_l1Cur_key.f k s p sd) p 12 (fun v => v.size ≤ 12) := by
  obtain ⟨v, p', sd', e, hv, q0, q1⟩ := pick_ok hs sd (n := 4) h0 (by omega)
  obtain ⟨u, p2, sd2, eu, hu, r0, r1⟩ := key_l0 hs (v.toNat + 1) [] p' sd' (by simp; omega) q0 (by omega)
  refine ⟨u, p2, sd2, ?_, hu, r0, by omega⟩
  unfold spec_l1Cur_key.f
  rw [e]
  refine ev_bind _ (Ev.now _) ?_
  rw [w64 (by omega) (by omega), show 1 + v = ((v.toNat + 1 : Nat) : Int) from by omega]
  exact eu
def insK (s : ByteArray) : List ByteArray → List ByteArray
  | [] => [s]
  | q :: t => if lessS q s = true then q :: insK s t else if q = s then q :: t else s :: q :: t
theorem insK_len (s : ByteArray) : ∀ l, (insK s l).length ≤ l.length + 1
  | [] => by simp [insK]
  | q :: t => by
    have := insK_len s t
    unfold insK
    split
    · simp; omega
    · split <;> simp
theorem insK_mem (s : ByteArray) : ∀ l, ∀ x ∈ insK s l, x = s ∨ x ∈ l
  | [], x, h => by simp [insK] at h; exact .inl h
  | q :: t, x, h => by
    unfold insK at h
    split at h
    · rcases List.mem_cons.1 h with e | e
      · exact .inr (by simp [e])
      · rcases insK_mem s t x e with e | e
        · exact .inl e
        · exact .inr (by simp [e])
    · split at h
      · exact .inr h
      · rcases List.mem_cons.1 h with e | e
        · exact .inl e
        · exact .inr e
theorem putS_l0 (x0 : List ByteArray) (s : ByteArray) (hx : x0.length ≤ 1000000) : ∀ (t pre : List ByteArray), x0 = pre ++ t →
    Ev (fun k => spec_l1PutS.l0 k x0 s (pre.length : Int)) (pre ++ insK s t) := by
  intro t
  induction t with
  | nil =>
    intro pre h
    have hp : x0 = pre := by rw [h, List.append_nil]
    subst hp
    refine ev_succ ?_
    simp only [spec_l1PutS.l0]
    refine ev_neg (by omega) (ev_bind _ (Ev.now _) (ev_pos (by omega) (ev_pos (by omega) (ev_bind _ (Ev.now _) ?_))))
    rw [Int.toNat_natCast, List.take_length, List.nil_append]
    refine ev_pos (by simp; omega) (ev_bind _ (Ev.now _) (ev_pos (by omega) (ev_bind _ (Ev.now _) (ev_bind _ (Ev.now _) (ev_pos (by simp; omega) (ev_some ?_))))))
    simp [insK]
  | cons q t ih =>
    intro pre h
    have hm : ((pre.length : Nat) : Int) < (x0.length : Int) := by rw [h]; exact lt_mid
    have hg : rdOf ByteArray.empty x0 (pre.length : Int) = q := by rw [h]; exact rdOf_mid
    refine ev_succ ?_
    simp only [spec_l1PutS.l0, hg]
    refine ev_pos hm (ev_pos (by omega) ?_)
    unfold insK
    by_cases c : lessS q s = true
    · refine ev_pos c ?_
      rw [winc (by omega), if_pos c]
      have := ih (pre ++ [q]) (by rw [h]; simp)
      rw [len_one] at this
      simpa using this
    · refine ev_neg c ?_
      rw [if_neg c]
      by_cases d : q = s
      · refine ev_pos (tl_inj.2 d) (ev_some ?_)
        rw [if_pos d, h]
      · refine ev_neg (fun e => d (tl_inj.1 e)) (ev_bind _ (Ev.now _) (ev_pos (by omega) (ev_bind _ (Ev.now _) ?_)))
        have et : x0.take pre.length = pre := by rw [h]; simp
        have ed : x0.drop pre.length = q :: t := by rw [h]; simp
        have hl : x0.length = pre.length + (t.length + 1) := by rw [h]; simp
        rw [Int.toNat_natCast, et, ed, List.nil_append, if_neg d]
        refine ev_pos (by simp; omega) (ev_bind _ (Ev.now _) (ev_pos (by omega) (ev_bind _ (Ev.now _) (ev_bind _ (Ev.now _) (ev_pos (by simp; omega) (ev_some ?_))))))
        simp
theorem putS_f (l : List ByteArray) (s : ByteArray) (h : l.length ≤ 1000000) : Ev (fun k => spec_l1PutS.f k l s) (insK s l) := putS_l0 l s h l [] rfl
def Kys (m : Nat) (l : List ByteArray) : Prop := l.length ≤ m ∧ ∀ s ∈ l, s.size ≤ 13
theorem Kys.ins {m : Nat} {l : List ByteArray} (h : Kys m l) {s : ByteArray} (hs : s.size ≤ 13) : Kys (m + 1) (insK s l) :=
  ⟨by have := insK_len s l; have := h.1; omega, fun x hx => by exact (insK_mem s l x hx).elim (fun e => e ▸ hs) (h.2 x)⟩
theorem Kys.one {m : Nat} {l : List ByteArray} (h : Kys m l) {s : ByteArray} (hs : s.size ≤ 13) : Kys (m + 1) (l ++ [s]) :=
  ⟨by have := h.1; simp; omega, fun x hx => by exact (List.mem_append.1 hx).elim (h.2 x) (fun e => List.mem_singleton.1 e ▸ hs)⟩
theorem Kys.mono {m m' : Nat} {l : List ByteArray} (h : Kys m l) (hm : m ≤ m') : Kys m' l := ⟨Nat.le_trans h.1 hm, h.2⟩
theorem keys_l0 {s : List Int} (hs : Bys s) : ∀ (n m : Nat) (x : List ByteArray) (p sd : Int), Kys m x → m + n ≤ 1000 → 0 ≤ p → p + 12 * (n : Int) ≤ 500000000000000000 →
    Dr (fun k => spec_l1Cur_keys.l0 k x (n : Int) s p sd) p (12 * (n : Int)) (Kys (m + n)) := by
  intro n
  induction n with
  | zero =>
    intro m x p sd hx hm h0 h1
    refine ⟨x, p, sd, ev_succ ?_, hx, h0, by omega⟩
    simp only [spec_l1Cur_keys.l0]
    exact ev_neg (by omega) (Ev.now _)
  | succ n ih =>
    intro m x p sd hx hm h0 h1
    obtain ⟨v, p', sd', e, hv, q0, q1⟩ := key_ok hs sd h0 (by omega)
    have hl := hx.1
    obtain ⟨u, p2, sd2, eu, hu, r0, r1⟩ := ih (m + 1) (insK v x) p' sd' (hx.ins (by omega)) (by omega) q0 (by omega)
    refine ⟨u, p2, sd2, ev_succ ?_, hu.mono (by omega), r0, by omega⟩
    simp only [spec_l1Cur_keys.l0]
    refine ev_pos (by omega) (ev_bind _ e (ev_bind _ (putS_f x v (by omega)) ?_))
    rw [wdec (by omega)]
    exact eu
theorem keys_ok {s : List Int} (hs : Bys s) {p : Int} (sd : Int) {n : Nat} (hn : n ≤ 100) (h0 : 0 ≤ p) (h1 : p ≤ 400000000000000000) : Dr (fun k => spec_l1Cur_keys.f k s p sd (n : Int)) p (12 * (n : Int) + 2) (Kys n) := by
  obtain ⟨v, p', sd', e, hv, q0, q1⟩ := pick_ok hs sd (n := (n : Int) + 1) h0 (by omega)
  obtain ⟨u, p2, sd2, eu, hu, r0, r1⟩ := keys_l0 hs v.toNat 0 [] p' sd' ⟨by simp, by simp⟩ (by omega) q0 (by omega)
  refine ⟨u, p2, sd2, ?_, hu.mono (by omega), r0, by omega⟩
  unfold spec_l1Cur_keys.f
  rw [w64 (x := (n : Int) + 1) (by omega) (by omega), e]
  refine ev_bind _ (Ev.now _) ?_
  rw [show ((v.toNat : Nat) : Int) = v from by omega] at eu
  exact eu
end Go.Proofs.YtmehagedoaopeaaQ
namespace Go.Proofs.YtmehagedoaopeaaQ
open Go Go.RowKit Go.Proofs.YtmehagedoaopeaaW.PrintWords Go.Proofs.YtmehagedoaopeaaGp Go.Proofs.Ytmehagedoaopeaa.PF

theorem Dr.mono {α : Type} {g : Nat → Option (α × Int × Int)} {p c c' : Int} {P P' : α → Prop} (h : Dr g p c P) (hc : c ≤ c') (hP : ∀ x, P x → P' x) : Dr g p c' P' := by
  obtain ⟨v, p', sd', e, hv, q0, q1⟩ := h
  exact ⟨v, p', sd', e, hP v hv, q0, by omega⟩
theorem seed9_ok {s : List Int} (hs : Bys s) {p : Int} (sd : Int) (h0 : 0 ≤ p) (h1 : p ≤ 1000000000000000000) :
    ∃ v p' sd', spec_l1Cur_seed9.f s p sd = some (v, p', sd') ∧ (-1 ≤ v ∧ v ≤ 10000) ∧ 0 ≤ p' ∧ p' ≤ p + 4 := by
  obtain ⟨v, p', sd', e, hv, q0, q1⟩ := pick_ok hs sd (n := 12) h0 (by omega)
  unfold spec_l1Cur_seed9.f
  rw [e]
  simp only [Option.bind_some]
  by_cases c : v = 0
  · obtain ⟨u, p2, sd2, eu, hu, r0, r1⟩ := among_ok hs sd' (l := [(-1), 9999, 10000]) (by simp) q0 (by omega)
    rw [if_pos c, eu]
    refine ⟨u, p2, sd2, rfl, ?_, r0, by omega⟩
    simp only [List.mem_cons, List.not_mem_nil, or_false] at hu
    omega
  · rw [if_neg c]
    by_cases d : v = 1
    · obtain ⟨u, p2, sd2, eu, hu, r0, r1⟩ := pick_ok hs sd' (n := 10000) q0 (by omega)
      rw [if_pos d, eu]
      exact ⟨u, p2, sd2, rfl, by omega, r0, by omega⟩
    · obtain ⟨u, p2, sd2, eu, hu, r0, r1⟩ := pick_ok hs sd' (n := 20) q0 (by omega)
      rw [if_neg d, eu]
      exact ⟨u, p2, sd2, rfl, by omega, r0, by omega⟩
theorem of_ok {s : List Int} (hs : Bys s) {p : Int} (sd : Int) {l : List ByteArray} (hl : 0 < l.length) (h0 : 0 ≤ p) (h1 : p ≤ 3000000000000000000) :
    ∃ v p' sd', spec_l1Cur_of.f s p sd l = some (v, p', sd') ∧ v ∈ l ∧ 0 ≤ p' ∧ p' ≤ p + 2 := by
  obtain ⟨v, p', sd', e, hv, q0, q1⟩ := pick_ok hs sd (n := (l.length : Int)) h0 h1
  have hm : rdOf ByteArray.empty l v ∈ l := by
    unfold rdOf
    have : v.toNat < l.length := by omega
    rw [List.getD_eq_getElem?_getD, List.getElem?_eq_getElem this]
    exact List.getElem_mem this
  unfold spec_l1Cur_of.f
  rw [e]
  simp only [Option.bind_some]
  rw [if_pos (by omega), if_pos (by omega)]
  exact ⟨_, _, _, rfl, hm, q0, q1⟩
theorem text_ok {s : List Int} (hs : Bys s) {p : Int} (sd : Int) (h0 : 0 ≤ p) (h1 : p ≤ 500000000000000000) : Dr (fun k => spec_l1Cur_text.f k s p sd) p 14 (fun v => v.size ≤ 13) := by
  obtain ⟨v, p', sd', e, hv, q0, q1⟩ := pick_ok hs sd (n := 16) h0 (by omega)
  obtain ⟨u, p2, sd2, eu, hu, r0, r1⟩ := key_ok hs sd' q0 (by omega)
  unfold spec_l1Cur_text.f
  rw [e]
  simp only [Option.bind_some]
  by_cases c0 : v = 0
  · exact ⟨_, p', sd', ev_pos c0 (Ev.now _), by decide, q0, by omega⟩
  · by_cases c1 : v = 1
    · have h1 : (⟨#[32]⟩ : ByteArray).size = 1 := rfl
      refine ⟨u ++ ⟨#[32]⟩, p2, sd2, ev_neg c0 (ev_pos c1 (ev_bind _ eu (ev_pos (by simp only []; omega) (Ev.now _)))), ?_, r0, by omega⟩
      show (u ++ ⟨#[32]⟩ : ByteArray).size ≤ 13
      rw [ByteArray.size_append]
      omega
    · by_cases c2 : v = 2
      · exact ⟨_, p', sd', ev_neg c0 (ev_neg c1 (ev_pos c2 (Ev.now _))), by decide, q0, by omega⟩
      · by_cases c3 : v = 3
        · obtain ⟨x, p3, sd3, ex, hx, t0, t1⟩ := of_ok hs sd' (l := [(⟨#[126]⟩ : ByteArray), (⟨#[125]⟩ : ByteArray), (⟨#[97, 126]⟩ : ByteArray), (⟨#[127]⟩ : ByteArray)]) (by simp) q0 (by omega)
          refine ⟨x, p3, sd3, ev_neg c0 (ev_neg c1 (ev_neg c2 (ev_pos c3 ?_))), ?_, t0, by omega⟩
          · rw [ex]; exact ev_bind _ (Ev.now _) (Ev.now _)
          · simp only [List.mem_cons, List.not_mem_nil, or_false] at hx
            rcases hx with rfl | rfl | rfl | rfl <;> decide
        · exact ⟨u, p2, sd2, ev_neg c0 (ev_neg c1 (ev_neg c2 (ev_neg c3 (ev_bind _ eu (Ev.now _))))), by omega, r0, by omega⟩
theorem big_f {l0 l1 : List Int} (h0 : l0.length ≤ maxLen) (h1 : l1.length ≤ maxLen) : ∃ b, laws_big.f l0 l1 = some b ∧ (b = false → (l0.length : Int) ≤ 1048576 ∧ (l1.length : Int) ≤ 1048576) := by
  rw [maxLen_eq] at h0 h1
  unfold laws_big.f
  by_cases c : (l0.length : Int) > 1048576
  · exact ⟨true, if_pos c, by simp⟩
  · refine ⟨_, if_neg c, fun h => ?_⟩
    rw [decide_eq_false_iff_not, w64 (by omega) (by omega)] at h
    omega
theorem bys {l : List Int} (h : (l.length : Int) ≤ 1048576) (hw : ∀ x ∈ l, (Lit.int .u8 x).wf = true) : Bys l := by
  refine ⟨h, fun x hx => ?_⟩
  have := hw x hx
  simp only [Lit.wf, Bool.and_eq_true, decide_eq_true_eq] at this
  exact this
end Go.Proofs.YtmehagedoaopeaaQ
namespace Go.Proofs.YtmehagedoaopeaaQ
open Go Go.RowKit Go.Proofs.YtmehagedoaopeaaW.PrintWords Go.Proofs.YtmehagedoaopeaaGp Go.Proofs.Ytmehagedoaopeaa.PF

def isEdgeB (P : Int) (e : List Int) : Bool := decide (e.length = 3) && decide (0 ≤ rd e 0) && decide (rd e 0 < rd e 1) && decide (rd e 1 < rd e 2) && decide (rd e 2 < P)
def goodB (P : Int) (E : Edges) : Bool := decide (1 ≤ P ∧ P ≤ 72) && decide (E.length ≤ 40) && E.all (isEdgeB P)
theorem isEdgeB_ok {P : Int} {e : List Int} (h : isEdgeB P e = true) : e.length ≤ 3 ∧ ∀ p ∈ e, 0 ≤ p ∧ p < P := by
  unfold isEdgeB at h
  simp only [Bool.and_eq_true, decide_eq_true_eq] at h
  obtain ⟨⟨⟨⟨h1, h2⟩, h3⟩, h4⟩, h5⟩ := h
  match e, h1 with
  | [a, b, c], _ =>
    simp only [rd] at h2 h3 h4 h5
    change 0 ≤ a at h2
    change a < b at h3
    change b < c at h4
    change c < P at h5
    refine ⟨by simp, fun p hp => ?_⟩
    simp only [List.mem_cons, List.not_mem_nil, or_false] at hp
    omega
theorem goodB_ok {P : Int} {E : Edges} (h : goodB P E = true) : GoodH P.toNat E ∧ (P.toNat : Int) = P ∧ E.length ≤ 40 ∧ P ≤ 72 := by
  unfold goodB at h
  simp only [Bool.and_eq_true, decide_eq_true_eq, List.all_eq_true] at h
  obtain ⟨⟨h1, h2⟩, h3⟩ := h
  refine ⟨⟨fun e he p hp => ?_, by omega, fun e he => (isEdgeB_ok (h3 e he)).1, by omega⟩, by omega, h2, h1.2⟩
  have := (isEdgeB_ok (h3 e he)).2 p hp
  omega
def hypE (a0 n : Int) (l : List ByteArray) : Edges := l.map fun s => tripL a0 s n 3 0
theorem hypE_len (a0 n : Int) (l : List ByteArray) : (hypE a0 n l).length = l.length := by simp [hypE]
theorem hypE_app (a0 n : Int) (l : List ByteArray) (s : ByteArray) : hypE a0 n (l ++ [s]) = hypE a0 n l ++ [tripL a0 s n 3 0] := by simp [hypE]
theorem impl_hyper_l0 {a0 n : Int} (h0 : 0 ≤ a0) (h0' : a0 ≤ 1000000) (q : Int) {x0 : List ByteArray} (hx : x0.length ≤ 1000) (hz : ∀ s ∈ x0, s.size ≤ 1000) : ∀ (t pre : List ByteArray), x0 = pre ++ t →
    Ev (fun k => impl_hyper.l0 k a0 n x0 (x0.length : Int) (pre.length : Int) q (hypE a0 n pre)) (q, hypE a0 n x0) := by
  intro t
  induction t with
  | nil =>
    intro pre h
    have hp : x0 = pre := by rw [h, List.append_nil]
    subst hp
    refine ev_succ ?_
    simp only [impl_hyper.l0]
    exact ev_neg (by omega) (Ev.now _)
  | cons x t ih =>
    intro pre h
    have hm : ((pre.length : Nat) : Int) < (x0.length : Int) := by rw [h]; exact lt_mid
    have hg : rdOf ByteArray.empty x0 (pre.length : Int) = x := by rw [h]; exact rdOf_mid
    have hxs := hz x (by rw [h]; simp)
    refine ev_succ ?_
    simp only [impl_hyper.l0, hg]
    refine ev_pos hm (ev_pos (by omega) (ev_pos hm (ev_bind _ (impl_threePlaces_f a0 n x (by omega) h0 h0') (ev_pos (by rw [hypE_len]; omega) ?_))))
    rw [winc (by omega), ← hypE_app]
    have := ih (pre ++ [x]) (by rw [h]; simp)
    rw [len_one] at this
    exact this
theorem impl_hyper_f {a0 n : Int} (h0 : 0 ≤ a0) (h0' : a0 ≤ 1000000) (hn : 0 ≤ n) (hn' : n ≤ 1000) {x0 : List ByteArray} (hx : x0.length ≤ 1000) (hz : ∀ s ∈ x0, s.size ≤ 1000) : Ev (fun k => impl_hyper.f k a0 x0 n) (3 * n, hypE a0 n x0) := by
  unfold impl_hyper.f
  rw [w64 (by omega) (by omega)]
  exact impl_hyper_l0 h0 h0' (3 * n) hx hz x0 [] rfl
theorem spec_peHyper_l0 {a0 n : Int} (h0 : 0 ≤ a0) (h0' : a0 ≤ 1000000) (q : Int) {x0 : List ByteArray} (hx : x0.length ≤ 1000) (hz : ∀ s ∈ x0, s.size ≤ 1000) : ∀ (t pre : List ByteArray), x0 = pre ++ t →
    Ev (fun k => spec_peHyper.l0 k a0 n x0 (x0.length : Int) (pre.length : Int) q (hypE a0 n pre)) (q, hypE a0 n x0) := by
  intro t
  induction t with
  | nil =>
    intro pre h
    have hp : x0 = pre := by rw [h, List.append_nil]
    subst hp
    refine ev_succ ?_
    simp only [spec_peHyper.l0]
    exact ev_neg (by omega) (Ev.now _)
  | cons x t ih =>
    intro pre h
    have hm : ((pre.length : Nat) : Int) < (x0.length : Int) := by rw [h]; exact lt_mid
    have hg : rdOf ByteArray.empty x0 (pre.length : Int) = x := by rw [h]; exact rdOf_mid
    have hxs := hz x (by rw [h]; simp)
    refine ev_succ ?_
    simp only [spec_peHyper.l0, hg]
    refine ev_pos hm (ev_pos (by omega) (ev_pos hm (ev_bind _ (spec_peTriple_f a0 n x (by omega) h0 h0') (ev_pos (by rw [hypE_len]; omega) ?_))))
    rw [winc (by omega), ← hypE_app]
    have := ih (pre ++ [x]) (by rw [h]; simp)
    rw [len_one] at this
    exact this
theorem spec_peHyper_f {a0 n : Int} (h0 : 0 ≤ a0) (h0' : a0 ≤ 1000000) (hn : 0 ≤ n) (hn' : n ≤ 1000) {x0 : List ByteArray} (hx : x0.length ≤ 1000) (hz : ∀ s ∈ x0, s.size ≤ 1000) : Ev (fun k => spec_peHyper.f k a0 x0 n) (3 * n, hypE a0 n x0) := by
  unfold spec_peHyper.f
  rw [w64 (by omega) (by omega)]
  exact spec_peHyper_l0 h0 h0' (3 * n) hx hz x0 [] rfl
theorem trip_edge (a0 : Int) (s : ByteArray) {n : Int} (h0 : 1 ≤ n) (h1 : n ≤ 24) : isEdgeB (3 * n) (tripL a0 s n 3 0) = true := by
  have r0 := placeV_range a0 ((0 : Nat) : Int) s h0 (by omega)
  have r1 := placeV_range a0 ((0 + 1 : Nat) : Int) s h0 (by omega)
  have r2 := placeV_range a0 ((0 + 1 + 1 : Nat) : Int) s h0 (by omega)
  have e0 : wrap64 (placeV a0 ((0 : Nat) : Int) s n + wrap64 (((0 : Nat) : Int) * n)) = placeV a0 ((0 : Nat) : Int) s n := by
    rw [w64 (x := ((0 : Nat) : Int) * n) (by omega) (by omega), w64 (by omega) (by omega)]; omega
  have e1 : wrap64 (placeV a0 ((0 + 1 : Nat) : Int) s n + wrap64 (((0 + 1 : Nat) : Int) * n)) = placeV a0 ((0 + 1 : Nat) : Int) s n + n := by
    rw [w64 (x := ((0 + 1 : Nat) : Int) * n) (by omega) (by omega), w64 (by omega) (by omega)]; omega
  have e2 : wrap64 (placeV a0 ((0 + 1 + 1 : Nat) : Int) s n + wrap64 (((0 + 1 + 1 : Nat) : Int) * n)) = placeV a0 ((0 + 1 + 1 : Nat) : Int) s n + 2 * n := by
    rw [w64 (x := ((0 + 1 + 1 : Nat) : Int) * n) (by omega) (by omega), w64 (by omega) (by omega)]; omega
  have et : tripL a0 s n 3 0 = [placeV a0 ((0 : Nat) : Int) s n, placeV a0 ((0 + 1 : Nat) : Int) s n + n, placeV a0 ((0 + 1 + 1 : Nat) : Int) s n + 2 * n] := by
    simp only [tripL]
    rw [e0, e1, e2]
  rw [et]
  generalize placeV a0 ((0 : Nat) : Int) s n = x0 at r0
  generalize placeV a0 ((0 + 1 : Nat) : Int) s n = x1 at r1
  generalize placeV a0 ((0 + 1 + 1 : Nat) : Int) s n = x2 at r2
  unfold isEdgeB
  simp only [Bool.and_eq_true, decide_eq_true_eq]
  refine ⟨⟨⟨⟨rfl, ?_⟩, ?_⟩, ?_⟩, ?_⟩
  · exact r0.1
  · show x0 < x1 + n; omega
  · show x1 + n < x2 + 2 * n; omega
  · show x2 + 2 * n < 3 * n; omega
theorem hyp_good (a0 : Int) {n : Int} (h0 : 1 ≤ n) (h1 : n ≤ 24) {l : List ByteArray} (hl : l.length ≤ 40) : goodB (3 * n) (hypE a0 n l) = true := by
  unfold goodB
  simp only [Bool.and_eq_true, decide_eq_true_eq, List.all_eq_true]
  refine ⟨⟨by omega, by rw [hypE_len]; exact hl⟩, fun e he => ?_⟩
  simp only [hypE, List.mem_map] at he
  obtain ⟨s, _, rfl⟩ := he
  exact trip_edge a0 s h0 h1
def peelsB (a0 : Int) (l : List ByteArray) (n : Int) : Bool := (coreE (3 * n).toNat (hypE a0 n l)).length == 0
theorem spec_pePeels_f {a0 n : Int} (h0 : 0 ≤ a0) (h0' : a0 ≤ 1000000) (hn : 1 ≤ n) (hn' : n ≤ 24) {x0 : List ByteArray} (hx : x0.length ≤ 40) (hz : ∀ s ∈ x0, s.size ≤ 1000) : Ev (fun k => spec_pePeels.f k a0 x0 n) (peelsB a0 x0 n) := by
  obtain ⟨hG, hP, _, _⟩ := goodB_ok (hyp_good a0 hn hn' hx)
  have := spec_peCore_f hG
  rw [hP] at this
  unfold spec_pePeels.f
  refine ev_bind _ (spec_peHyper_f h0 h0' (by omega) (by omega) (by omega) hz) (ev_bind _ this (ev_some ?_))
  rw [castL_len, peelsB, Bool.eq_iff_iff, beq_iff_eq, beq_iff_eq]
  omega
theorem impl_segmentOk_f (n : Int) : impl_segmentOk.f n = some (decide (1 ≤ n ∧ n ≤ 24)) := by
  unfold impl_segmentOk.f
  rw [impl_in]; rfl
theorem impl_isSeedP_f (n : Int) : impl_isSeed.f n = some (decide (0 ≤ n ∧ n ≤ 9999)) := by
  unfold impl_isSeed.f
  rw [impl_in]; rfl
theorem keys_small {l : List ByteArray} (h : areKeysB l = true) : l.length ≤ 40 ∧ ∀ s ∈ l, s.size ≤ 1000 :=
  ⟨areKeysB_len h, fun s hs => by have := isKeyB_size (areKeysB_all h s hs); omega⟩
theorem impl_HyperOf_f {a0 n : Int} (h0 : 0 ≤ a0) (h0' : a0 ≤ 9999) (hn : 1 ≤ n) (hn' : n ≤ 24) {l : List ByteArray} (hk : areKeysB l = true) : Ev (fun k => impl_HyperOf.f k a0 l n) (3 * n, hypE a0 n l, true) := by
  obtain ⟨hl, hz⟩ := keys_small hk
  have e := impl_AreKeys_f l (by omega) (fun s hs => by have := hz s hs; omega)
  rw [hk] at e
  unfold impl_HyperOf.f
  rw [impl_isSeedP_f, impl_segmentOk_f, decide_eq_true ⟨h0, h0'⟩, decide_eq_true ⟨hn, hn'⟩]
  exact ev_bind _ (Ev.now _) (ev_pos rfl (ev_bind _ e (ev_pos rfl (ev_bind _ (Ev.now _) (ev_pos rfl (ev_bind _ (impl_hyper_f h0 (by omega) (by omega) (by omega) (by omega) hz) (Ev.now _)))))))
def keyedB (a0 : Int) (l : List ByteArray) (n : Int) : Bool := decide (0 ≤ a0 ∧ a0 ≤ 9999) && areKeysB l && decide (1 ≤ n ∧ n ≤ 24)
theorem spec_peKeyed_f (a0 n : Int) {l : List ByteArray} (hl : l.length ≤ 1000) (hz : ∀ s ∈ l, s.size ≤ 1000) : Ev (fun k => spec_peKeyed.f k a0 l n) (keyedB a0 l n) := by
  unfold spec_peKeyed.f keyedB
  rw [spec_in, spec_in]
  refine ev_bind _ (Ev.now _) ?_
  by_cases c : 0 ≤ a0 ∧ a0 ≤ 9999
  · rw [decide_eq_true c]
    refine ev_pos rfl (ev_bind _ (spec_biKeys_f l (by omega) (fun s hs => by have := hz s hs; omega)) ?_)
    by_cases d : areKeysB l = true
    · rw [d]; exact ev_pos rfl (ev_bind _ (Ev.now _) (ev_some (by simp)))
    · rw [Bool.eq_false_iff.2 d]; exact ev_neg (by simp) (ev_some (by simp))
  · rw [decide_eq_false c]
    exact ev_neg (by simp) (ev_some (by simp))
theorem segment_ok {s : List Int} (hs : Bys s) {p : Int} (sd : Int) (h0 : 0 ≤ p) (h1 : p ≤ 1000000000000000000) : ∃ v p' sd', spec_l1Cur_segment.f s p sd = some (v, p', sd') ∧ (-1 ≤ v ∧ v ≤ 25) ∧ 0 ≤ p' ∧ p' ≤ p + 4 := by
  obtain ⟨v, p', sd', e, q0, q1⟩ := one_ok hs sd 8 h0 (by omega)
  unfold spec_l1Cur_segment.f
  rw [e]
  simp only [Option.bind_some]
  by_cases c : v = true
  · obtain ⟨u, p2, sd2, eu, hu, r0, r1⟩ := among_ok hs sd' (l := [(-1), 0, 1, 24, 25]) (by simp) q0 (by omega)
    rw [if_pos c, eu]
    simp only [List.mem_cons, List.not_mem_nil, or_false] at hu
    exact ⟨u, p2, sd2, rfl, by omega, r0, by omega⟩
  · obtain ⟨u, p2, sd2, eu, hu, r0, r1⟩ := pick_ok hs sd' (n := 10) q0 (by omega)
    rw [if_neg c, eu]
    refine ⟨wrap64 (1 + u), p2, sd2, rfl, ?_, r0, by omega⟩
    rw [w64 (by omega) (by omega)]
    omega
end Go.Proofs.YtmehagedoaopeaaQ
namespace Go.Proofs.YtmehagedoaopeaaQ
open Go Go.RowKit Go.Proofs.YtmehagedoaopeaaW.PrintWords Go.Proofs.YtmehagedoaopeaaGp Go.Proofs.Ytmehagedoaopeaa.PF

theorem pfSum_l0 (l e : List Int) (hl : (e.length : Int) ≤ 9223372036854775806) (he : ∀ p ∈ e, 0 ≤ p ∧ p < (l.length : Int)) : ∀ (t pre : List Int) (a : Int), e = pre ++ t →
    ∃ v, Ev (fun k => spec_pfSum.l0 k l a e (e.length : Int) (pre.length : Int)) v := by
  intro t
  induction t with
  | nil =>
    intro pre a h
    refine ⟨a, ev_succ ?_⟩
    simp only [spec_pfSum.l0]
    exact ev_neg (by rw [h]; exact not_lt_end) (Ev.now _)
  | cons p t ih =>
    intro pre a h
    have hm : ((pre.length : Nat) : Int) < (e.length : Int) := by rw [h]; exact lt_mid
    have hg : rd e (pre.length : Int) = p := by rw [h]; exact rd_mid
    obtain ⟨h0, h1⟩ := he p (by rw [h]; simp)
    obtain ⟨v, hv⟩ := ih (pre ++ [p]) (wrap64 (a + rd l p)) (by rw [h]; simp)
    rw [len_one] at hv
    refine ⟨v, ev_succ ?_⟩
    simp only [spec_pfSum.l0, hg]
    rw [winc (by omega)]
    exact ev_pos hm (ev_pos (by omega) (ev_pos hm (ev_pos h0 (ev_pos h1 hv))))
theorem pfSum_ok (l e : List Int) (hl : (e.length : Int) ≤ 9223372036854775806) (he : ∀ p ∈ e, 0 ≤ p ∧ p < (l.length : Int)) : ∃ v, Ev (fun k => spec_pfSum.f k l e) v := pfSum_l0 l e hl he e [] 0 rfl
theorem stepE_in {P : Nat} {E : Edges} {L : List Nat} {c i : Nat} {p : Int} (h : stepE P E L c = some (i, p)) : (0 ≤ p ∧ p < (P : Int)) ∧ i ∈ L := by
  unfold stepE at h
  split at h
  · simp at h
  · rename_i hx
    simp only [Option.some.injEq, Prod.mk.injEq] at h
    obtain ⟨rfl, rfl⟩ := h
    have hlt : c % (freeL P E L).length < (freeL P E L).length := Nat.mod_lt _ (by omega)
    have hm : (freeL P E L).getD (c % (freeL P E L).length) 0 ∈ freeL P E L := by
      rw [List.getD_eq_getElem?_getD, List.getElem?_eq_getElem hlt]
      exact List.getElem_mem hlt
    obtain ⟨h1, h2⟩ := mem_freeL.1 hm
    obtain ⟨i, hi⟩ := withE_ex (E := E) (L := L) (by omega : 1 ≤ degOf E L ((freeL P E L).getD (c % (freeL P E L).length) 0))
    rw [hi]
    exact ⟨h1, (withE_some hi).1⟩
theorem peelC_in {P : Nat} {E : Edges} : ∀ (cs L : List Nat), ∀ s ∈ (peelC P E cs L).1, (0 ≤ s.2 ∧ s.2 < (P : Int)) ∧ s.1 ∈ L
  | [], L, s, h => by simp [peelC] at h
  | c :: cs, L, s, h => by
    cases hs : stepE P E L c with
    | none => rw [peelC, hs] at h; simp at h
    | some x =>
      obtain ⟨i, p⟩ := x
      rw [peelC, hs] at h
      rcases List.mem_cons.1 h with rfl | h
      · exact stepE_in hs
      · obtain ⟨h1, h2⟩ := peelC_in cs (dropE L i) s h
        exact ⟨h1, (mem_dropE.1 h2).1⟩
theorem pfIndex_ok (e : List Int) (p : Int) (hl : (e.length : Int) ≤ 9223372036854775806) : ∃ v, Ev (fun k => spec_pfIndex.f k e p) v := by
  have go : ∀ (t pre : List Int), e = pre ++ t → ∃ v, Ev (fun k => spec_pfIndex.l0 k p e (e.length : Int) (pre.length : Int)) v := by
    intro t
    induction t with
    | nil =>
      intro pre h
      refine ⟨0, ev_succ ?_⟩
      simp only [spec_pfIndex.l0]
      exact ev_neg (by rw [h]; exact not_lt_end) (Ev.now _)
    | cons x t ih =>
      intro pre h
      have hm : ((pre.length : Nat) : Int) < (e.length : Int) := by rw [h]; exact lt_mid
      have hg : rd e (pre.length : Int) = x := by rw [h]; exact rd_mid
      by_cases c : x = p
      · refine ⟨(pre.length : Int), ev_succ ?_⟩
        simp only [spec_pfIndex.l0, hg]
        exact ev_pos hm (ev_pos (by omega) (ev_pos hm (ev_pos c (Ev.now _))))
      · obtain ⟨v, hv⟩ := ih (pre ++ [x]) (by rw [h]; simp)
        rw [len_one] at hv
        refine ⟨v, ev_succ ?_⟩
        simp only [spec_pfIndex.l0, hg]
        rw [winc (by omega)]
        exact ev_pos hm (ev_pos (by omega) (ev_pos hm (ev_neg c hv)))
  exact go e [] rfl
theorem rd_edge (E : Edges) (i : Nat) : rd_L3 E (i : Int) = edg E i := by
  unfold rd_L3 edg
  rw [Int.toNat_natCast]
theorem rd_step (xs : List (Nat × Int)) {n : Nat} (h : n < xs.length) : rd_T118 (stepsL xs) (n : Int) = mkS118 xs[n] := by
  unfold rd_T118 stepsL
  rw [Int.toNat_natCast, List.getD_eq_getElem?_getD, List.getElem?_eq_getElem (by simpa using h)]
  simp
theorem build_l1 {P : Nat} {E : Edges} (hE : ∀ i, i < E.length → (edg E i).length ≤ 3 ∧ ∀ p ∈ edg E i, 0 ≤ p ∧ p < (P : Int)) {xs : List (Nat × Int)} (hx : xs.length ≤ 1000) (hs : ∀ s ∈ xs, (0 ≤ s.2 ∧ s.2 < (P : Int)) ∧ s.1 < E.length) (q a seg : Int) : ∀ (n : Nat) (m : List Int), n ≤ xs.length → m.length = P →
    ∃ m', Ev (fun k => spec_BuildPeeled.l1 k (stepsL xs) ((n : Int) - 1) q E a seg m) (a, seg, m', true) ∧ (m' : List Int).length = P := by
  intro n
  induction n with
  | zero =>
    intro m _ hm
    refine ⟨m, ev_succ ?_, hm⟩
    simp only [spec_BuildPeeled.l1]
    exact ev_neg (by omega) (Ev.now _)
  | succ n ih =>
    intro m hn hm
    obtain ⟨⟨h0, h1⟩, h2⟩ := hs xs[n] (List.getElem_mem (by omega))
    obtain ⟨e0, e1⟩ := hE _ h2
    obtain ⟨v, hv⟩ := pfIndex_ok (edg E (xs[n]).1) (xs[n]).2 (by omega)
    obtain ⟨u, hu⟩ := pfSum_ok m (edg E (xs[n]).1) (by omega) (by rw [hm]; exact e1)
    obtain ⟨m', hm', hl⟩ := ih (m.set ((xs[n]).2 : Int).toNat (Int.tmod (wrap64 (v + (wrap64 (2 * u)))) 3)) (by omega) (by rw [List.length_set]; exact hm)
    have hst := rd_step xs (n := n) (by omega)
    have hsl : (stepsL xs).length = xs.length := by simp [stepsL]
    refine ⟨m', ev_succ ?_, hl⟩
    rw [show (((n + 1 : Nat) : Int) - 1) = (n : Int) from by omega]
    simp only [spec_BuildPeeled.l1, hst, mkS118, rd_edge]
    rw [w64 (x := (n : Int) - 1) (by omega) (by omega)]
    exact ev_pos (by omega) (ev_pos (by omega) (ev_pos (by omega) (ev_pos (by omega) (ev_pos (by omega) (ev_bind _ hv (ev_bind _ hu (ev_pos h0 (ev_pos (by omega) hm'))))))))
theorem build_l0 {P : Nat} {E : Edges} (hE : ∀ i, i < E.length → (edg E i).length ≤ 3 ∧ ∀ p ∈ edg E i, 0 ≤ p ∧ p < (P : Int)) {xs : List (Nat × Int)} (hx : xs.length ≤ 1000) (hs : ∀ s ∈ xs, (0 ≤ s.2 ∧ s.2 < (P : Int)) ∧ s.1 < E.length) {n : Int} (hn : 3 * n = (P : Int)) (hP : P ≤ 1000) (q a seg : Int) : ∀ (d i : Nat) (m : List Int), i + d = P → m.length = i →
    ∃ m', Ev (fun k => spec_BuildPeeled.l0 k n (stepsL xs) (i : Int) q E a seg m) (a, seg, m', true) ∧ (m' : List Int).length = P := by
  have hw : wrap64 (3 * n) = (P : Int) := by rw [hn]; exact w64 (by omega) (by omega)
  have hsl : (stepsL xs).length = xs.length := by simp [stepsL]
  intro d
  induction d with
  | zero =>
    intro i m h hm
    obtain ⟨m', h1, h2⟩ := build_l1 hE hx hs q a seg xs.length m (Nat.le_refl _) (by omega)
    refine ⟨m', ev_succ ?_, h2⟩
    simp only [spec_BuildPeeled.l0, hw, hsl]
    rw [w64 (x := (xs.length : Int) - 1) (by omega) (by omega)]
    exact ev_neg (by omega) h1
  | succ d ih =>
    intro i m h hm
    obtain ⟨m', h1, h2⟩ := ih (i + 1) (m ++ [3]) (by omega) (by simp [hm])
    refine ⟨m', ev_succ ?_, h2⟩
    simp only [spec_BuildPeeled.l0, hw]
    rw [winc (by omega)]
    exact ev_pos (by omega) (ev_pos (by omega) h1)
theorem BuildPeeled_ok (a0 n : Int) {l : List ByteArray} (hl : l.length ≤ 1000) (hz : ∀ s ∈ l, s.size ≤ 1000) : ∃ r s m ok, Ev (fun k => spec_BuildPeeled.f k a0 l n) (r, s, m, ok) ∧ (m : List Int).length ≤ 1000 := by
  have bad : ∀ b : Bool, b = true → Ev (fun k => spec_BuildPeeled.j0 k a0 l n b) (0, 0, [], false) := fun b hb => by
    refine ev_succ ?_
    simp only [spec_BuildPeeled.j0]
    exact ev_pos hb (Ev.now _)
  unfold spec_BuildPeeled.f
  by_cases c : keyedB a0 l n = true
  · have c' := c
    simp only [keyedB, Bool.and_eq_true, decide_eq_true_eq] at c'
    obtain ⟨⟨⟨g0, g1⟩, gk⟩, g2, g3⟩ := c'
    have hl40 := (keys_small gk).1
    by_cases c2 : peelsB a0 l n = true
    · obtain ⟨hG, hP, _, _⟩ := goodB_ok (hyp_good a0 g2 g3 hl40)
      have hp := spec_pePeel_f hG (cs := []) (by simp) (by simp) true
      have hin := peelC_in (P := (3 * n).toNat) (E := hypE a0 n l) (chc [] ++ if true = true then List.replicate (hypE a0 n l).length 0 else []) (allE (hypE a0 n l))
      have hxl := peelC_len (P := (3 * n).toNat) (E := hypE a0 n l) (chc [] ++ if true = true then List.replicate (hypE a0 n l).length 0 else []) (allE (hypE a0 n l)) (by simp [allE, List.nodup_range])
      generalize (peelC (3 * n).toNat (hypE a0 n l) (chc [] ++ if true = true then List.replicate (hypE a0 n l).length 0 else []) (allE (hypE a0 n l))) = X at hp hin hxl
      have hal : (allE (hypE a0 n l)).length = l.length := by simp [allE, hypE_len]
      obtain ⟨m', h1, h2⟩ := build_l0 (P := (3 * n).toNat) (E := hypE a0 n l) (fun i _ => hG.edge i) (xs := X.1) (by omega) (fun s hs => ⟨(hin s hs).1, by have := (hin s hs).2; simpa [allE] using this⟩) (n := n) (by omega) (by omega) (3 * n) a0 n (3 * n).toNat 0 [] (by omega) rfl
      rw [hP] at hp
      refine ⟨a0, n, m', true, ev_bind _ (spec_peKeyed_f a0 n hl hz) (ev_pos c (ev_bind _ (spec_pePeels_f g0 (by omega) g2 g3 hl40 hz) (ev_succ ?_))), by omega⟩
      simp only [spec_BuildPeeled.j0]
      exact ev_neg (by simp [c2]) (ev_bind _ (spec_peHyper_f g0 (by omega) (by omega) (by omega) hl hz) (ev_bind _ hp h1))
    · exact ⟨0, 0, [], false, ev_bind _ (spec_peKeyed_f a0 n hl hz) (ev_pos c (ev_bind _ (spec_pePeels_f g0 (by omega) g2 g3 hl40 hz) (bad _ (by simp [c2])))), by simp⟩
  · exact ⟨0, 0, [], false, ev_bind _ (spec_peKeyed_f a0 n hl hz) (ev_neg c (bad _ rfl)), by simp⟩
def allIn (lo hi : Int) (l : List Int) : Bool := l.all (fun x => decide (lo ≤ x ∧ x ≤ hi))
theorem spec_all_l0 (lo hi : Int) (x0 : List Int) (hl : (x0.length : Int) ≤ 9223372036854775806) : ∀ (t pre : List Int), x0 = pre ++ t →
    Ev (fun k => spec_l1All.l0 k lo hi x0 (x0.length : Int) (pre.length : Int)) (allIn lo hi t) := by
  intro t
  induction t with
  | nil =>
    intro pre h
    refine ev_succ ?_
    simp only [spec_l1All.l0]
    exact ev_neg (by rw [h]; exact not_lt_end) (ev_some (by simp [allIn]))
  | cons s t ih =>
    intro pre h
    have hm : ((pre.length : Nat) : Int) < (x0.length : Int) := by rw [h]; exact lt_mid
    have hg : rd x0 (pre.length : Int) = s := by rw [h]; exact rd_mid
    refine ev_succ ?_
    simp only [spec_l1All.l0, hg, spec_in]
    refine ev_pos hm (ev_pos (by omega) (ev_pos hm (ev_bind _ (Ev.now _) ?_)))
    by_cases c : lo ≤ s ∧ s ≤ hi
    · refine ev_pos (by simpa using c) ?_
      rw [winc (by omega)]
      have := ih (pre ++ [s]) (by rw [h]; simp)
      rw [len_one] at this
      rw [show allIn lo hi (s :: t) = allIn lo hi t from by simp [allIn, c]]
      exact this
    · refine ev_neg (by simpa using c) (ev_some ?_)
      have : decide (lo ≤ s ∧ s ≤ hi) = false := decide_eq_false c
      simp only [allIn, List.all_cons, this, Bool.false_and]
def isPeeledB (a n : Int) (m : List Int) : Bool := decide (0 ≤ a ∧ a ≤ 9999) && decide (1 ≤ n ∧ n ≤ 24) && decide ((m.length : Int) = 3 * n) && allIn 0 3 m
theorem spec_pfPeeled_f (a n : Int) (m : List Int) (hl : (m.length : Int) ≤ 9223372036854775806) : Ev (fun k => spec_pfPeeled.f k a n m) (isPeeledB a n m) := by
  unfold spec_pfPeeled.f isPeeledB
  simp only [spec_in, Option.bind_some]
  by_cases c : 0 ≤ a ∧ a ≤ 9999
  · by_cases c2 : 1 ≤ n ∧ n ≤ 24
    · rw [w64 (x := 3 * n) (by omega) (by omega)]
      by_cases c3 : (m.length : Int) = 3 * n
      · refine ev_pos (by simpa using c) (ev_pos (by simpa using c2) (ev_pos c3 (ev_bind (allIn 0 3 m) (spec_all_l0 0 3 m hl m [] rfl) (ev_some ?_))))
        rw [decide_eq_true c, decide_eq_true c2, decide_eq_true c3]; rfl
      · exact ev_pos (by simpa using c) (ev_pos (by simpa using c2) (ev_neg c3 (ev_some (by simp [c3]))))
    · exact ev_pos (by simpa using c) (ev_neg (by simpa using c2) (ev_some (by rw [decide_eq_false c2]; simp)))
  · exact ev_neg (by simpa using c) (ev_some (by rw [decide_eq_false c]; simp))
def DrP (g : Nat → Option (Int × Int × List Int × List ByteArray × Int × Int)) (p c : Int) : Prop := ∃ a n m ks p' sd', Ev g (a, n, m, ks, p', sd') ∧ (m : List Int).length ≤ 1000 ∧ Kys 9 ks ∧ 0 ≤ p' ∧ p' ≤ p + c
theorem peeled_j2 {s : List Int} (hs : Bys s) {ks : List ByteArray} (hk : Kys 9 ks) {p : Int} (sd : Int) (h0 : 0 ≤ p) (h1 : p ≤ 100000000000000000) (a n : Int) (m : List Int) (hm0 : 0 < m.length) (hm : m.length ≤ 900) : DrP (fun k => spec_l1Cur_peeled.j2 k ks s p sd a n m) p 100 := by
  obtain ⟨v, p1, sd1, e1, hv, q0, q1⟩ := pick_ok hs sd (n := 14) h0 (by omega)
  by_cases c0 : v = 0
  · obtain ⟨u, p2, sd2, e2, hu, r0, r1⟩ := pick_ok hs sd1 (n := (m.length : Int)) q0 (by omega)
    obtain ⟨w, p3, sd3, e3, hw, t0, t1⟩ := pick_ok hs sd2 (n := 6) r0 (by omega)
    refine ⟨a, n, m.set u.toNat (wrap64 (w - 1)), ks, p3, sd3, ev_succ ?_, by rw [List.length_set]; omega, hk, t0, by omega⟩
    simp only [spec_l1Cur_peeled.j2, e1, Option.bind_some, e2, e3]
    exact ev_pos c0 (ev_pos (by omega) (ev_pos (by omega) (Ev.now _)))
  by_cases c1 : v = 1
  · obtain ⟨u, p2, sd2, e2, _, r0, r1⟩ := segment_ok hs sd1 q0 (by omega)
    refine ⟨a, u, m, ks, p2, sd2, ev_succ ?_, by omega, hk, r0, by omega⟩
    simp only [spec_l1Cur_peeled.j2, e1, Option.bind_some, e2]
    exact ev_neg c0 (ev_pos c1 (Ev.now _))
  by_cases c2 : v = 2
  · refine ⟨a, n, m ++ [0], ks, p1, sd1, ev_succ ?_, by simp; omega, hk, q0, by omega⟩
    simp only [spec_l1Cur_peeled.j2, e1, Option.bind_some]
    exact ev_neg c0 (ev_neg c1 (ev_pos c2 (ev_pos (by omega) (Ev.now _))))
  · refine ⟨a, n, m, ks, p1, sd1, ev_succ ?_, by omega, hk, q0, by omega⟩
    simp only [spec_l1Cur_peeled.j2, e1, Option.bind_some]
    exact ev_neg c0 (ev_neg c1 (ev_neg c2 (Ev.now _)))
theorem peeled_l0 {s : List Int} (hs : Bys s) {ks : List ByteArray} (hk : Kys 9 ks) (a : Int) {n : Int} (hn : 1 ≤ n) (hn' : n ≤ 20) : ∀ (d i : Nat) (m : List Int) (p sd : Int), ((i + d : Nat) : Int) = 3 * n → m.length = i → 0 ≤ p → p + 2 * (d : Int) ≤ 90000000000000000 →
    DrP (fun k => spec_l1Cur_peeled.l0 k ks n (i : Int) s p sd a n m) p (2 * (d : Int) + 100) := by
  have hw : wrap64 (3 * n) = 3 * n := w64 (by omega) (by omega)
  intro d
  induction d with
  | zero =>
    intro i m p sd h hm h0 h1
    obtain ⟨a', n', m', ks', p', sd', e, x1, x2, x3, x4⟩ := peeled_j2 hs hk sd h0 (by omega) a n m (by omega) (by omega)
    refine ⟨a', n', m', ks', p', sd', ev_succ ?_, x1, x2, x3, by omega⟩
    simp only [spec_l1Cur_peeled.l0, hw]
    exact ev_neg (by omega) e
  | succ d ih =>
    intro i m p sd h hm h0 h1
    obtain ⟨v, p1, sd1, e1, hv, q0, q1⟩ := pick_ok hs sd (n := 4) h0 (by omega)
    obtain ⟨a', n', m', ks', p', sd', e, x1, x2, x3, x4⟩ := ih (i + 1) (m ++ [v]) p1 sd1 (by omega) (by simp [hm]) q0 (by omega)
    refine ⟨a', n', m', ks', p', sd', ev_succ ?_, x1, x2, x3, by omega⟩
    simp only [spec_l1Cur_peeled.l0, hw, e1, Option.bind_some]
    rw [winc (by omega)]
    exact ev_pos (by omega) (ev_pos (by omega) e)
theorem peeled_j0 {s : List Int} (hs : Bys s) {ks : List ByteArray} (hk : Kys 9 ks) (b : Bool) {p : Int} (sd : Int) (h0 : 0 ≤ p) (h1 : p ≤ 10000000000000000) (a n : Int) (m : List Int) (hm : b = false → 0 < m.length ∧ m.length ≤ 900) : DrP (fun k => spec_l1Cur_peeled.j0 k ks (1 + (ks.length : Int)) b s p sd a n m) p 300 := by
  by_cases c : b = true
  · obtain ⟨u, p1, sd1, e1, _, q0, q1⟩ := seed9_ok hs sd h0 (by omega)
    have hl := hk.1
    obtain ⟨a', n', m', ks', p', sd', e, x1, x2, x3, x4⟩ := peeled_l0 hs hk u (n := 1 + (ks.length : Int)) (by omega) (by omega) (3 * (1 + ks.length)) 0 [] p1 sd1 (by omega) rfl q0 (by omega)
    refine ⟨a', n', m', ks', p', sd', ev_succ ?_, x1, x2, x3, by omega⟩
    simp only [spec_l1Cur_peeled.j0, e1, Option.bind_some]
    exact ev_pos c e
  · obtain ⟨g1, g2⟩ := hm (by simpa using c)
    obtain ⟨a', n', m', ks', p', sd', e, x1, x2, x3, x4⟩ := peeled_j2 hs hk sd h0 (by omega) a n m g1 g2
    refine ⟨a', n', m', ks', p', sd', ev_succ ?_, x1, x2, x3, by omega⟩
    simp only [spec_l1Cur_peeled.j0]
    exact ev_neg c e
theorem peeled_ok {s : List Int} (hs : Bys s) {p : Int} (sd : Int) (h0 : 0 ≤ p) (h1 : p ≤ 1000000000000000) : DrP (fun k => spec_l1Cur_peeled.f k s p sd) p 1000 := by
  obtain ⟨ks, p1, sd1, e1, hk, q0, q1⟩ := keys_ok hs sd (n := 9) (by omega) h0 (by omega)
  obtain ⟨v, p2, sd2, e2, hv, r0, r1⟩ := pick_ok hs sd1 (n := 20) q0 (by omega)
  have hl := hk.1
  have hw : wrap64 (1 + (ks.length : Int)) = 1 + (ks.length : Int) := w64 (by omega) (by omega)
  obtain ⟨a, n, m, ok, e3, hm⟩ := BuildPeeled_ok v (1 + (ks.length : Int)) (l := ks) (by omega) (fun x hx => by have := hk.2 x hx; omega)
  have e4 := spec_pfPeeled_f a n m (by omega)
  unfold spec_l1Cur_peeled.f
  by_cases c : isPeeledB a n m = true
  · obtain ⟨u, p3, sd3, e5, t0, t1⟩ := one_ok hs sd2 10 r0 (by omega)
    have c' := c
    simp only [isPeeledB, Bool.and_eq_true, decide_eq_true_eq] at c'
    obtain ⟨a', n', m', ks', p', sd', e, x1, x2, x3, x4⟩ := peeled_j0 hs hk u sd3 t0 (by omega) a n m (fun _ => by omega)
    refine ⟨a', n', m', ks', p', sd', ev_bind _ e1 ?_, x1, x2, x3, by omega⟩
    simp only [e2, Option.bind_some, hw]
    refine ev_bind _ e3 (ev_bind _ e4 (ev_pos c ?_))
    simp only [e5, Option.bind_some]
    exact e
  · obtain ⟨a', n', m', ks', p', sd', e, x1, x2, x3, x4⟩ := peeled_j0 hs hk true sd2 r0 (by omega) a n m (fun h => by cases h)
    refine ⟨a', n', m', ks', p', sd', ev_bind _ e1 ?_, x1, x2, x3, by omega⟩
    simp only [e2, Option.bind_some, hw]
    exact ev_bind _ e3 (ev_bind _ e4 (ev_neg c e))
theorem other_ok {s : List Int} (hs : Bys s) {ks : List ByteArray} {m : Nat} (hk : Kys m ks) {p : Int} (sd : Int) (h0 : 0 ≤ p) (h1 : p ≤ 100000000000000000) : Dr (fun k => spec_l1Cur_other.f k s p sd ks) p 100 (fun v => v.size ≤ 13) := by
  have text : ∀ {p : Int} (sd : Int) (_ : 0 ≤ p) (_ : p ≤ 200000000000000000), Dr (fun k => spec_l1Cur_other.j0 k ks false s p sd) p 14 (fun v => v.size ≤ 13) := fun {p} sd h0 h1 => by
    obtain ⟨v, p1, sd1, e1, hv, q0, q1⟩ := text_ok hs sd h0 (by omega)
    refine ⟨v, p1, sd1, ev_succ ?_, hv, q0, by omega⟩
    simp only [spec_l1Cur_other.j0]
    exact ev_neg (by simp) (ev_bind _ e1 (Ev.now _))
  unfold spec_l1Cur_other.f
  by_cases c : (ks.length : Int) > 0
  · obtain ⟨u, p1, sd1, e1, q0, q1⟩ := one_ok hs sd 2 h0 (by omega)
    by_cases cu : u = true
    · obtain ⟨v, p2, sd2, e2, hv, r0, r1⟩ := of_ok hs sd1 (l := ks) (by omega) q0 (by omega)
      refine ⟨v, p2, sd2, ev_pos c ?_, hk.2 v hv, r0, by omega⟩
      simp only [e1, Option.bind_some]
      refine ev_succ ?_
      simp only [spec_l1Cur_other.j0, e2, Option.bind_some]
      exact ev_pos cu (Ev.now _)
    · obtain ⟨v, p2, sd2, e2, hv, r0, r1⟩ := text sd1 q0 (by omega)
      refine ⟨v, p2, sd2, ev_pos c ?_, hv, r0, by omega⟩
      simp only [e1, Option.bind_some]
      rw [show u = false from by simpa using cu]
      exact e2
  · obtain ⟨v, p2, sd2, e2, hv, r0, r1⟩ := text sd h0 (by omega)
    exact ⟨v, p2, sd2, ev_neg c e2, hv, r0, by omega⟩
theorem DrawPeeledIndex_ok {s : List Int} (hs : Bys s) : ∃ a n m t, Ev (fun k => spec_DrawPeeledIndex.f k s) (a, n, m, t) ∧ (m : List Int).length ≤ 1000 ∧ (t : ByteArray).size ≤ 13 := by
  obtain ⟨a, n, m, ks, p1, sd1, e1, hm, hk, q0, q1⟩ := peeled_ok hs 0 (p := 0) (by omega) (by omega)
  obtain ⟨t, p2, sd2, e2, ht, r0, r1⟩ := other_ok hs hk sd1 q0 (by omega)
  unfold spec_DrawPeeledIndex.f
  exact ⟨a, n, m, t, ev_bind _ e1 (ev_bind _ e2 (Ev.now _)), hm, ht⟩
end Go.Proofs.YtmehagedoaopeaaQ
namespace Go.Proofs.YtmehagedoaopeaaQ
open Go Go.RowKit Go.Proofs.YtmehagedoaopeaaW.PrintWords Go.Proofs.YtmehagedoaopeaaGp Go.Proofs.Ytmehagedoaopeaa.PF

end Go.Proofs.YtmehagedoaopeaaQ
namespace Go.Proofs.YtmehagedoaopeaaQ
open Go Go.RowKit Go.Proofs.YtmehagedoaopeaaW.PrintWords Go.Proofs.YtmehagedoaopeaaGp Go.Proofs.Ytmehagedoaopeaa.PF

theorem ofInt_wrap (a : BitVec 64) : BitVec.ofInt 64 (IntKind.i64.wrap (a.toNat : Int)) = a := by
  have h : a.toNat < 2 ^ 64 := a.isLt
  apply BitVec.eq_of_toNat_eq
  rw [BitVec.toNat_ofInt]
  show ((IntKind.i64.wrap (a.toNat : Int)) % ((2 ^ 64 : Nat) : Int)).toNat = a.toNat
  have e : IntKind.i64.wrap (a.toNat : Int) = if (a.toNat : Int) % 18446744073709551616 ≥ 9223372036854775808 then (a.toNat : Int) % 18446744073709551616 - 18446744073709551616 else (a.toNat : Int) % 18446744073709551616 := by
    unfold IntKind.wrap
    simp [IntKind.bits, IntKind.signed]
  rw [e]
  have h2 : (2 : Nat) ^ 64 = 18446744073709551616 := by decide
  rw [h2] at h ⊢
  split <;> omega
theorem or_andNot (x b : Int) : Go.bits .or .i64 (Go.bits .andNot .i64 x b) b = Go.bits .or .i64 x b := by
  have e : ∀ op y, Go.bits op .i64 y b = IntKind.i64.wrap (((match op with | .and => BitVec.ofInt 64 y &&& BitVec.ofInt 64 b | .or => BitVec.ofInt 64 y ||| BitVec.ofInt 64 b | .xor => BitVec.ofInt 64 y ^^^ BitVec.ofInt 64 b | _ => BitVec.ofInt 64 y &&& ~~~(BitVec.ofInt 64 b)) : BitVec 64).toNat : Int) := fun op y => by
    unfold Go.bits; cases op <;> rfl
  rw [e .or, e .or, e .andNot]
  simp only
  rw [ofInt_wrap]
  congr 2
  apply congrArg
  apply BitVec.eq_of_getLsbD_eq
  intro i hi
  simp only [BitVec.getLsbD_or, BitVec.getLsbD_and, BitVec.getLsbD_not, hi, decide_true, Bool.true_and]
  cases (BitVec.ofInt 64 x).getLsbD i <;> cases (BitVec.ofInt 64 b).getLsbD i <;> rfl

def setV (l : List Int) (p : Int) : List Int := l.set (p / 16).toNat (Go.bits .or .i64 (rd l (p / 16)) (shl .i64 1 (p % 16)))
theorem setV_len (l : List Int) (p : Int) : (setV l p).length = l.length := by simp [setV]
theorem div16 {p : Int} (h0 : 0 ≤ p) (h1 : p ≤ 1000000) : wrap64 (Int.tdiv p 16) = p / 16 ∧ Int.tmod p 16 = p % 16 := by
  rw [Int.tdiv_eq_ediv_of_nonneg h0, Int.tmod_eq_emod_of_nonneg h0, w64 (by omega) (by omega)]
  exact ⟨rfl, rfl⟩
theorem rd_set {l : List Int} {i : Nat} {v : Int} (h : i < l.length) : rd (l.set i v) (i : Int) = v := by simp [rd, h]
theorem impl_Bits_set_f (n : Int) (l : List Int) {p : Int} (h0 : 0 ≤ p) (h1 : p ≤ 1000000) (h2 : p / 16 < (l.length : Int)) : impl_Bits_set.f n l p true = some (setV l p) := by
  unfold impl_Bits_set.f
  rw [(div16 h0 h1).1, (div16 h0 h1).2, if_pos (by omega), if_pos h2, if_pos (by omega)]
  simp only [Option.bind_some, if_true]
  obtain ⟨q, hq⟩ : ∃ q : Nat, p / 16 = (q : Int) := ⟨(p / 16).toNat, by omega⟩
  unfold setV
  rw [hq] at h2 ⊢
  simp only [Int.toNat_natCast]
  rw [rd_set (by omega), List.set_set, or_andNot]

end Go.Proofs.YtmehagedoaopeaaQ
namespace Go.Proofs.YtmehagedoaopeaaQ
open Go Go.RowKit Go.Proofs.YtmehagedoaopeaaW.PrintWords Go.Proofs.YtmehagedoaopeaaGp Go.Proofs.Ytmehagedoaopeaa.PF

def atV (l : List Int) (p : Int) : Bool := Go.bits .and .i64 (shr .i64 (rd l (p / 16)) (p % 16)) 1 == 1
theorem div16' {p : Int} (h0 : 0 ≤ p) (h1 : p ≤ 1000000) : wrap64 (Int.tdiv p 16) = p / 16 ∧ Int.tmod p 16 = p % 16 := by
  rw [Int.tdiv_eq_ediv_of_nonneg h0, Int.tmod_eq_emod_of_nonneg h0, w64 (by omega) (by omega)]
  exact ⟨rfl, rfl⟩
theorem impl_Bits_at_f (n : Int) (l : List Int) {p : Int} (h0 : 0 ≤ p) (h1 : p ≤ 1000000) (h2 : p / 16 < (l.length : Int)) : impl_Bits_at.f n l p = some (atV l p) := by
  unfold impl_Bits_at.f
  rw [(div16' h0 h1).1, (div16' h0 h1).2, if_pos (by omega), if_pos h2, if_pos (by omega)]
  rfl
end Go.Proofs.YtmehagedoaopeaaQ
namespace Go.Proofs.YtmehagedoaopeaaQ
open Go Go.RowKit Go.Proofs.YtmehagedoaopeaaW.PrintWords Go.Proofs.YtmehagedoaopeaaW.PrintMore Go.Proofs.YtmehagedoaopeaaGp

theorem wraps_i64 (n : Int) (h0 : 0 ≤ n) (h1 : n < 2 ^ 62) : IntKind.i64.wrap n = n := by
  rw [IntKind.wrap_i64]
  have : (2 : Int) ^ 62 = 4611686018427387904 := by decide
  omega
theorem bits64 (a b : Nat) (ha : a < 2 ^ 62) (hb : b < 2 ^ 62) : Go.bits .and .i64 a b = ((a &&& b : Nat) : Int) ∧ Go.bits .or .i64 a b = ((a ||| b : Nat) : Int) :=
  bits_nat .i64 62 (by decide) wraps_i64 a b ha hb
theorem two62 : (2 : Nat) ^ 62 = 4611686018427387904 := by decide
theorem two64 : (2 : Nat) ^ 64 = 18446744073709551616 := by decide
theorem pow16 {j : Nat} (h : j < 16) : 2 ^ j < 65536 := by
  have : 2 ^ j ≤ 2 ^ 15 := Nat.pow_le_pow_right (by decide) (by omega)
  have e : (2 : Nat) ^ 15 = 32768 := by decide
  omega
theorem shl1 {j : Nat} (h : j < 16) : shl .i64 1 (j : Int) = ((2 ^ j : Nat) : Int) := by
  unfold shl
  have hj : min (j : Int).toNat IntKind.i64.bits = j := by simp [IntKind.bits]; omega
  rw [hj, Int.one_mul, show ((2 : Int) ^ j) = ((2 ^ j : Nat) : Int) from by simp]
  have hp := pow16 h
  generalize 2 ^ j = z at hp ⊢
  refine wraps_i64 _ (by omega) ?_
  have : (2 : Int) ^ 62 = 4611686018427387904 := by decide
  omega
theorem shrN {w j : Nat} (h : j < 16) : shr .i64 (w : Int) (j : Int) = ((w / 2 ^ j : Nat) : Int) := by
  unfold shr
  have hj : min (j : Int).toNat IntKind.i64.bits = j := by simp [IntKind.bits]; omega
  rw [hj]
  simp
theorem and1 {w j : Nat} (hw : w < 65536) (h : j < 16) : (Go.bits .and .i64 (shr .i64 (w : Int) (j : Int)) 1 == 1) = w.testBit j := by
  have hd : w / 2 ^ j ≤ w := Nat.div_le_self _ _
  have e : Go.bits .and .i64 ((w / 2 ^ j : Nat) : Int) ((1 : Nat) : Int) = (((w / 2 ^ j) &&& 1 : Nat) : Int) := (bits64 _ _ (by rw [two62]; omega) (by rw [two62]; omega)).1
  rw [shrN h, show (1 : Int) = ((1 : Nat) : Int) from rfl, e, Nat.and_one_is_mod, Nat.testBit_eq_decide_div_mod_eq]
  rw [Bool.eq_iff_iff]
  simp only [beq_iff_eq, decide_eq_true_eq]
  omega
theorem or1 {w j : Nat} (hw : w < 65536) (h : j < 16) : Go.bits .or .i64 (w : Int) (shl .i64 1 (j : Int)) = ((w ||| 2 ^ j : Nat) : Int) := by
  have := pow16 h
  rw [shl1 h]
  exact (bits64 _ _ (by rw [two62]; omega) (by rw [two62]; omega)).2
theorem or1_lt {w j : Nat} (hw : w < 65536) (h : j < 16) : w ||| 2 ^ j < 65536 := by
  have e : (65536 : Nat) = 2 ^ 16 := by decide
  rw [e] at hw ⊢
  have := pow16 h
  exact Nat.or_lt_two_pow hw (by omega)
theorem clr1 {w j : Nat} (hw : w < 65536) (h : j < 16) (hz : w.testBit j = false) : Go.bits .andNot .i64 (w : Int) (shl .i64 1 (j : Int)) = (w : Int) := by
  rw [shl1 h]
  have e : Go.bits .andNot .i64 (w : Int) ((2 ^ j : Nat) : Int) = IntKind.i64.wrap (((BitVec.ofInt 64 (w : Int) &&& ~~~ BitVec.ofInt 64 ((2 ^ j : Nat) : Int) : BitVec 64)).toNat : Int) := by unfold Go.bits; rfl
  have z : (BitVec.ofInt 64 (w : Int) &&& ~~~ BitVec.ofInt 64 ((2 ^ j : Nat) : Int) : BitVec 64) = BitVec.ofInt 64 (w : Int) := by
    rw [BitVec.ofInt_natCast, BitVec.ofInt_natCast]
    apply BitVec.eq_of_getLsbD_eq
    intro i hi
    simp only [BitVec.getLsbD_and, BitVec.getLsbD_not, BitVec.getLsbD_ofNat, hi, decide_true, Bool.true_and, Nat.testBit_two_pow]
    by_cases c : j = i
    · subst c; simp [hz]
    · simp [c]
  rw [e, z, BitVec.ofInt_natCast, BitVec.toNat_ofNat, Nat.mod_eq_of_lt (by rw [two64]; omega)]
  refine wraps_i64 _ (by omega) ?_
  have : (2 : Int) ^ 62 = 4611686018427387904 := by decide
  omega

def okW (l : List Int) : Prop := ∀ w ∈ l, 0 ≤ w ∧ w ≤ 65535
def bitN (l : List Int) (p : Nat) : Bool := (l.getD (p / 16) 0).toNat.testBit (p % 16)
theorem rdN {l : List Int} {p : Nat} (h : p / 16 < l.length) : rd l ((p : Int) / 16) = l.getD (p / 16) 0 := by
  have : ((p : Int) / 16) = ((p / 16 : Nat) : Int) := by omega
  rw [this, rd_get h, List.getD_eq_getElem?_getD, List.getElem?_eq_getElem h]
  rfl
theorem okW_get {l : List Int} (hl : okW l) {i : Nat} (h : i < l.length) : ∃ w : Nat, l.getD i 0 = (w : Int) ∧ w < 65536 := by
  have hm := hl _ (List.getElem_mem h)
  rw [List.getD_eq_getElem?_getD, List.getElem?_eq_getElem h]
  exact ⟨l[i].toNat, by simp; omega, by omega⟩
theorem atV_bit {l : List Int} (hl : okW l) {p : Nat} (h : p / 16 < l.length) : atV l (p : Int) = bitN l p := by
  obtain ⟨w, hw, hw2⟩ := okW_get hl h
  unfold atV bitN
  rw [rdN h, hw, show ((p : Int) % 16) = ((p % 16 : Nat) : Int) from by omega, and1 hw2 (by omega)]
  simp
theorem setV_get {l : List Int} (hl : okW l) {p : Nat} (h : p / 16 < l.length) : ∃ w : Nat, w < 65536 ∧ l.getD (p / 16) 0 = (w : Int) ∧ setV l (p : Int) = l.set (p / 16) ((w ||| 2 ^ (p % 16) : Nat) : Int) := by
  obtain ⟨w, hw, hw2⟩ := okW_get hl h
  refine ⟨w, hw2, hw, ?_⟩
  unfold setV
  rw [rdN h, hw, show ((p : Int) % 16) = ((p % 16 : Nat) : Int) from by omega, or1 hw2 (by omega)]
  congr 1
theorem okW_setV {l : List Int} (hl : okW l) {p : Nat} (h : p / 16 < l.length) : okW (setV l (p : Int)) := by
  obtain ⟨w, hw, _, e⟩ := setV_get hl h
  rw [e]
  intro x hx
  rcases List.mem_or_eq_of_mem_set hx with hx | rfl
  · exact hl x hx
  · have := or1_lt hw (show p % 16 < 16 by omega)
    omega
theorem bit_setV {l : List Int} (hl : okW l) {p q : Nat} (h : p / 16 < l.length) : bitN (setV l (p : Int)) q = (decide (p = q) || bitN l q) := by
  obtain ⟨w, hw, hg, e⟩ := setV_get hl h
  rw [e]
  unfold bitN
  by_cases c : p / 16 = q / 16
  · rw [← c, List.getD_eq_getElem?_getD, List.getElem?_set_self (by simpa using h), hg]
    simp only [Option.getD_some, Int.toNat_natCast, Nat.testBit_or, Nat.testBit_two_pow]
    rw [show decide (p % 16 = q % 16) = decide (p = q) from by
      rw [Bool.eq_iff_iff]; simp; omega, Bool.or_comm]
  · rw [List.getD_eq_getElem?_getD, List.getElem?_set_ne c, ← List.getD_eq_getElem?_getD, decide_eq_false (by omega), Bool.false_or]
theorem clrV {l : List Int} (hl : okW l) {p : Nat} (h : p / 16 < l.length) (hz : bitN l p = false) : l.set ((p : Int) / 16).toNat (Go.bits .andNot .i64 (rd l ((p : Int) / 16)) (shl .i64 1 ((p : Int) % 16))) = l := by
  obtain ⟨w, hw, hw2⟩ := okW_get hl h
  unfold bitN at hz
  rw [hw] at hz
  rw [rdN h, hw, show ((p : Int) % 16) = ((p % 16 : Nat) : Int) from by omega, clr1 hw2 (by omega) (by simpa using hz), show ((p : Int) / 16).toNat = p / 16 from by omega, ← hw]
  apply List.ext_getElem?
  intro i
  by_cases c : p / 16 = i
  · subst c
    rw [List.getElem?_set_self (by simpa using h), List.getD_eq_getElem?_getD, List.getElem?_eq_getElem h]
    rfl
  · rw [List.getElem?_set_ne c]

end Go.Proofs.YtmehagedoaopeaaQ
namespace Go.Proofs.YtmehagedoaopeaaQ
open Go Go.RowKit Go.Proofs.YtmehagedoaopeaaW.PrintWords Go.Proofs.YtmehagedoaopeaaGp Go.Proofs.Ytmehagedoaopeaa.PF

def blankV (n : Int) : List Int := List.replicate ((n + 15) / 16).toNat 0
end Go.Proofs.YtmehagedoaopeaaQ
namespace Go.Proofs.YtmehagedoaopeaaQ
open Go Go.RowKit Go.Proofs.YtmehagedoaopeaaW.PrintWords Go.Proofs.YtmehagedoaopeaaGp Go.Proofs.Ytmehagedoaopeaa.PF

end Go.Proofs.YtmehagedoaopeaaQ
namespace Go.Proofs.YtmehagedoaopeaaQ
open Go Go.RowKit Go.Proofs.YtmehagedoaopeaaW.PrintWords Go.Proofs.YtmehagedoaopeaaGp Go.Proofs.Ytmehagedoaopeaa.PF

def all16 (l : List Int) : Bool := l.all (fun x => decide (0 ≤ x ∧ x ≤ 65535))
def bitsB (n : Int) (l : List Int) : Bool :=
  decide (0 ≤ n ∧ n ≤ 4096) && (decide ((l.length : Int) = (n + 15) / 16) && (all16 l && (decide (n % 16 = 0) || (shr .i64 (rd l ((l.length : Int) - 1)) (n % 16) == 0))))
theorem bitsB_len {n : Int} {l : List Int} (h : bitsB n l = true) : 0 ≤ n ∧ n ≤ 4096 ∧ (l.length : Int) = (n + 15) / 16 := by
  simp only [bitsB, Bool.and_eq_true, decide_eq_true_eq] at h
  exact ⟨h.1.1, h.1.2, h.2.1⟩
theorem impl_IsBits_l0 (n : Int) (x20 : List Int) (c : 0 ≤ n ∧ n ≤ 4096) (c2 : (x20.length : Int) = (n + 15) / 16) : ∀ (t pre : List Int), x20 = pre ++ t →
    Ev (fun k => impl_IsBits.l0 k x20 (x20.length : Int) (pre.length : Int) n x20) (all16 t && (decide (n % 16 = 0) || (shr .i64 (rd x20 ((x20.length : Int) - 1)) (n % 16) == 0))) := by
  intro t
  induction t with
  | nil =>
    intro pre h
    refine ev_succ ?_
    simp only [impl_IsBits.l0]
    refine ev_neg (by rw [h]; exact not_lt_end) ?_
    rw [Int.tmod_eq_emod_of_nonneg c.1]
    by_cases c4 : n % 16 = 0
    · exact ev_pos c4 (ev_some (by simp [all16, c4]))
    · refine ev_neg c4 ?_
      rw [w64 (x := (x20.length : Int) - 1) (by omega) (by omega)]
      refine ev_pos (by omega) (ev_pos (by omega) (ev_pos (by omega) (ev_some ?_)))
      simp [all16, c4]
  | cons s t ih =>
    intro pre h
    have hm : ((pre.length : Nat) : Int) < (x20.length : Int) := by rw [h]; exact lt_mid
    have hg : rd x20 (pre.length : Int) = s := by rw [h]; exact rd_mid
    refine ev_succ ?_
    simp only [impl_IsBits.l0, hg, impl_in]
    refine ev_pos hm (ev_pos (by omega) (ev_pos hm (ev_bind _ (Ev.now _) ?_)))
    by_cases c5 : 0 ≤ s ∧ s ≤ 65535
    · refine ev_pos (by simpa using c5) ?_
      rw [winc (by omega)]
      have := ih (pre ++ [s]) (by rw [h]; simp)
      rw [len_one] at this
      rw [show all16 (s :: t) = all16 t from by simp [all16, c5]]
      exact this
    · refine ev_neg (by simpa using c5) (ev_some ?_)
      have : decide (0 ≤ s ∧ s ≤ 65535) = false := decide_eq_false c5
      simp only [all16, List.all_cons, this, Bool.false_and]
theorem impl_words_f {n : Int} (h0 : 0 ≤ n) (h1 : n ≤ 4096) : impl_words.f n = some ((n + 15) / 16) := by
  unfold impl_words.f
  rw [w64 (x := n + 16) (by omega) (by omega), w64 (x := n + 16 - 1) (by omega) (by omega), Int.tdiv_eq_ediv_of_nonneg (by omega), w64 (by omega) (by omega), show n + 16 - 1 = n + 15 from by omega]
theorem impl_IsBits_f (n : Int) (l : List Int) : Ev (fun k => impl_IsBits.f k n l) (bitsB n l) := by
  unfold impl_IsBits.f
  simp only [impl_in]
  refine ev_bind _ (Ev.now _) ?_
  by_cases c : 0 ≤ n ∧ n ≤ 4096
  · refine ev_pos (by simpa using c) ?_
    rw [impl_words_f c.1 c.2]
    simp only [Option.bind_some]
    refine ev_succ ?_
    simp only [impl_IsBits.j0]
    by_cases c2 : (l.length : Int) = (n + 15) / 16
    · refine ev_neg (by simp [c2]) ?_
      have := impl_IsBits_l0 n l c c2 l [] rfl
      rw [show bitsB n l = (all16 l && (decide (n % 16 = 0) || (shr .i64 (rd l ((l.length : Int) - 1)) (n % 16) == 0))) from by simp [bitsB, c, c2]]
      exact this
    · exact ev_pos (by simpa using c2) (ev_some (by simp [bitsB, c2]))
  · refine ev_neg (by simpa using c) (ev_succ ?_)
    simp only [impl_IsBits.j0]
    refine ev_pos (by trivial) (ev_some ?_)
    have : decide (0 ≤ n ∧ n ≤ 4096) = false := decide_eq_false c
    simp only [bitsB, this, Bool.false_and]
end Go.Proofs.YtmehagedoaopeaaQ
namespace Go.Proofs.YtmehagedoaopeaaQ
open Go Go.RowKit Go.Proofs.YtmehagedoaopeaaW.PrintWords Go.Proofs.YtmehagedoaopeaaW.PrintMore Go.Proofs.YtmehagedoaopeaaGp

theorem all16_ok {l : List Int} : all16 l = true ↔ okW l := by
  unfold all16 okW
  rw [List.all_eq_true]
  simp
theorem bitsB_setV {n : Int} {l : List Int} (h : bitsB n l = true) {p : Int} (h0 : 0 ≤ p) (h1 : p < n) : bitsB n (setV l p) = true := by
  obtain ⟨n0, n1, hlen⟩ := bitsB_len h
  have hl : okW l := by
    simp only [bitsB, Bool.and_eq_true] at h
    exact all16_ok.1 h.2.2.1
  have hp16 : p.toNat / 16 < l.length := by omega
  have e : setV l p = setV l ((p.toNat : Nat) : Int) := by rw [Int.toNat_of_nonneg h0]
  have hl2 : okW (setV l p) := by rw [e]; exact okW_setV hl hp16
  simp only [bitsB, Bool.and_eq_true, decide_eq_true_eq, Bool.or_eq_true, beq_iff_eq] at h ⊢
  refine ⟨h.1, by rw [setV_len]; exact h.2.1, all16_ok.2 hl2, ?_⟩
  rcases h.2.2.2 with c | c
  · exact .inl c
  · by_cases cm : n % 16 = 0
    · exact .inl cm
    right
    rw [setV_len]
    obtain ⟨w, hw, hg, e2⟩ := setV_get hl hp16
    rw [← e] at e2
    obtain ⟨k, hk⟩ : ∃ k : Nat, (l.length : Int) - 1 = (k : Int) := ⟨l.length - 1, by omega⟩
    have hkl : k < l.length := by omega
    obtain ⟨v, hv, _⟩ := okW_get hl hkl
    have hm : n % 16 = (((n % 16).toNat : Nat) : Int) := by omega
    have rv : rd l (k : Int) = (v : Int) := by rw [← hv]; rfl
    rw [hk, hm] at c ⊢
    rw [rv, shrN (by omega)] at c
    rw [e2]
    by_cases ck : p.toNat / 16 = k
    · subst ck
      have hwv : w = v := by rw [hg] at hv; exact Int.ofNat.inj hv
      subst hwv
      have r : rd (l.set (p.toNat / 16) ((w ||| 2 ^ (p.toNat % 16) : Nat) : Int)) ((p.toNat / 16 : Nat) : Int) = ((w ||| 2 ^ (p.toNat % 16) : Nat) : Int) := rd_set hkl
      rw [r, shrN (by omega)]
      have hlt : w < 2 ^ (n % 16).toNat := by
        have hz : w / 2 ^ (n % 16).toNat = 0 := by omega
        rcases (Nat.div_eq_zero_iff).1 hz with hz | hz
        · have := Nat.two_pow_pos (n % 16).toNat
          omega
        · exact hz
      have hpm : p.toNat % 16 < (n % 16).toNat := by omega
      have hlt2 : 2 ^ (p.toNat % 16) < 2 ^ (n % 16).toNat := Nat.pow_lt_pow_right (by decide) hpm
      have := Nat.or_lt_two_pow hlt hlt2
      rw [Nat.div_eq_of_lt this]
      rfl
    · have r : rd (l.set (p.toNat / 16) ((w ||| 2 ^ (p.toNat % 16) : Nat) : Int)) (k : Int) = rd l (k : Int) := by
        simp [rd, List.getElem?_set_ne ck]
      rw [r, rv, shrN (by omega)]
      exact c
end Go.Proofs.YtmehagedoaopeaaQ
namespace Go.Proofs.YtmehagedoaopeaaQ
open Go Go.RowKit Go.Proofs.YtmehagedoaopeaaW.PrintWords Go.Proofs.YtmehagedoaopeaaW.PrintMore Go.Proofs.YtmehagedoaopeaaGp Go.Proofs.Ytmehagedoaopeaa.PF

theorem bitN_blankV (n : Int) (q : Nat) : bitN (blankV n) q = false := by
  unfold bitN blankV
  rw [List.getD_eq_getElem?_getD, List.getElem?_replicate]
  split <;> simp
theorem okW_blankV (n : Int) : okW (blankV n) := fun w hw => by rw [List.eq_of_mem_replicate hw]; omega
theorem blankV_len' {n : Int} (h : 0 ≤ n) : ((blankV n).length : Int) = (n + 15) / 16 := by simp [blankV]; omega
def madeL (g : Nat → Bool) : Nat → Nat → List Int → List Int
  | 0, _, acc => acc
  | m + 1, i, acc => madeL g m (i + 1) (if g i = true then setV acc (i : Int) else acc)
theorem madeL_len (g : Nat → Bool) : ∀ (m i : Nat) (acc : List Int), (madeL g m i acc).length = acc.length
  | 0, _, _ => rfl
  | m + 1, i, acc => by
    rw [madeL, madeL_len]
    split
    · rw [setV_len]
    · rfl
theorem madeL_ok (g : Nat → Bool) : ∀ (m i : Nat) (acc : List Int), okW acc → i + m ≤ 16 * acc.length → okW (madeL g m i acc) ∧ ∀ q, bitN (madeL g m i acc) q = (bitN acc q || (decide (i ≤ q ∧ q < i + m) && g q))
  | 0, i, acc, h, _ => ⟨h, fun q => by
    rw [madeL, decide_eq_false (by omega)]; simp⟩
  | m + 1, i, acc, h, hm => by
    rw [madeL]
    by_cases c : g i = true
    · rw [if_pos c]
      obtain ⟨g1, g2⟩ := madeL_ok g m (i + 1) (setV acc (i : Int)) (okW_setV h (by omega)) (by rw [setV_len]; omega)
      refine ⟨g1, fun q => ?_⟩
      rw [g2, bit_setV h (by omega)]
      by_cases e : i = q
      · subst e
        rw [c, decide_eq_true (show i ≤ i ∧ i < i + (m + 1) by omega)]
        simp
      · rw [show decide (i + 1 ≤ q ∧ q < i + 1 + m) = decide (i ≤ q ∧ q < i + (m + 1)) from by rw [Bool.eq_iff_iff, decide_eq_true_eq, decide_eq_true_eq]; omega, decide_eq_false e, Bool.false_or]
    · rw [if_neg c]
      obtain ⟨g1, g2⟩ := madeL_ok g m (i + 1) acc h (by omega)
      refine ⟨g1, fun q => ?_⟩
      rw [g2]
      by_cases e : i = q
      · subst e
        simp only [Bool.not_eq_true] at c
        rw [c]
        simp
      · rw [show decide (i + 1 ≤ q ∧ q < i + 1 + m) = decide (i ≤ q ∧ q < i + (m + 1)) from by rw [Bool.eq_iff_iff, decide_eq_true_eq, decide_eq_true_eq]; omega]
theorem bitsB_madeL {n : Int} (g : Nat → Bool) : ∀ (m i : Nat) (acc : List Int), bitsB n acc = true → ((i + m : Nat) : Int) ≤ n → bitsB n (madeL g m i acc) = true
  | 0, _, _, h, _ => h
  | m + 1, i, acc, h, hm => by
    rw [madeL]
    refine bitsB_madeL g m (i + 1) _ ?_ (by omega)
    split
    · exact bitsB_setV h (by omega) (by omega)
    · exact h
theorem bitsB_blankV {n : Int} (h0 : 0 ≤ n) (h1 : n ≤ 4096) : bitsB n (blankV n) = true := by
  have hr : ∀ i : Int, rd (blankV n) i = 0 := fun i => by
    unfold rd blankV
    rw [List.getD_eq_getElem?_getD, List.getElem?_replicate]
    split <;> rfl
  have hs : shr .i64 0 (n % 16) = 0 := by
    have := shrN (w := 0) (j := (n % 16).toNat) (by omega)
    rw [show (((n % 16).toNat : Nat) : Int) = n % 16 from by omega] at this
    simpa using this
  simp only [bitsB, hr, hs, Bool.and_eq_true, decide_eq_true_eq, Bool.or_eq_true, beq_self_eq_true, or_true, and_true]
  exact ⟨⟨h0, h1⟩, by simp [blankV]; omega, all16_ok.2 (okW_blankV n)⟩
theorem impl_clr_f (n : Int) {l : List Int} (hl : okW l) {p : Nat} (h1 : (p : Int) ≤ 1000000) (h2 : p / 16 < l.length) (hz : bitN l p = false) : impl_Bits_set.f n l (p : Int) false = some l := by
  have hc := clrV hl h2 hz
  unfold impl_Bits_set.f
  rw [(div16 (p := (p : Int)) (by omega) h1).1, (div16 (p := (p : Int)) (by omega) h1).2, if_pos (by omega), if_pos (by omega), if_pos (by omega)]
  simp only [Option.bind_some, Bool.false_eq_true, if_false]
  rw [hc]
theorem impl_blank_f {n : Int} (h0 : 0 ≤ n) (h1 : n ≤ 4096) : impl_blank.f n = some (n, blankV n) := by
  unfold impl_blank.f
  rw [impl_words_f h0 h1]
  simp only [Option.bind_some]
  rw [if_pos (by omega), if_pos (by omega)]
  rfl

def cntL' (l : List Int) : Nat → Nat → Nat
  | 0, _ => 0
  | m + 1, i => (if atV l (i : Int) = true then 1 else 0) + cntL' l m (i + 1)
theorem impl_count_l0 (z : Int) (l : List Int) {n : Nat} (hn : n ≤ 100000) (h1 : n ≤ 16 * l.length) : ∀ (m i c : Nat), i + m = n → c ≤ i + 100000 → Ev (fun k => impl_Bits_count.l0 k (n : Int) (c : Int) (i : Int) z l) ((c + cntL' l m i : Nat) : Int) := by
  intro m
  induction m with
  | zero =>
    intro i c e hc
    refine ev_succ ?_
    simp only [impl_Bits_count.l0]
    exact ev_neg (by omega) (ev_some (by simp [cntL']))
  | succ m ih =>
    intro i c e hc
    refine ev_succ ?_
    simp only [impl_Bits_count.l0]
    rw [impl_Bits_at_f _ l (by omega) (by omega) (by omega), winc (i := i) (by omega), winc (i := c) (by omega), cntL']
    simp only [Option.bind_some]
    refine ev_pos (by omega) ?_
    by_cases h : atV l (i : Int) = true
    · rw [if_pos h]
      have := ih (i + 1) (c + 1) (by omega) (by omega)
      rw [show c + (1 + cntL' l m (i + 1)) = c + 1 + cntL' l m (i + 1) from by omega]
      exact ev_pos h this
    · rw [if_neg h, Nat.zero_add]
      exact ev_neg h (ih (i + 1) c (by omega) (by omega))
theorem cntL'_le (l : List Int) : ∀ (m i : Nat), cntL' l m i ≤ m
  | 0, _ => Nat.le_refl _
  | m + 1, i => by
    have := cntL'_le l m (i + 1)
    rw [cntL']
    split <;> omega
theorem impl_count_f (z : Int) (l : List Int) {i n : Nat} (hi : i ≤ n) (hn : n ≤ 100000) (h1 : n ≤ 16 * l.length) : Ev (fun k => impl_Bits_count.f k z l (i : Int) (n : Int)) ((cntL' l (n - i) i : Nat) : Int) := by
  have := impl_count_l0 z l hn h1 (n - i) i 0 (by omega) (by omega)
  rw [Nat.zero_add] at this
  unfold impl_Bits_count.f
  exact this

theorem impl_ranked_l0 {n : Nat} (hn : n ≤ 4096) {l : List Int} (h1 : n ≤ 16 * l.length) (y0 : Int) (y1 : List Int) : ∀ (d i : Nat) (a b : Int) (S B : List Int), n ≤ i + 16 * d → i ≤ n + 16 → S.length ≤ i → B.length ≤ i →
    0 ≤ a → a ≤ (i : Int) → 0 ≤ b → b ≤ (i : Int) → ∃ S' B', Ev (fun k => impl_ranked.l0 k a b (i : Int) (n : Int) l y0 y1 S B) (y0, y1, S', B') ∧ (S' : List Int).length ≤ n + 16 ∧ (B' : List Int).length ≤ n + 16 := by
  intro d
  induction d with
  | zero =>
    intro i a b S B h h' hS hB ha ha' hb hb'
    refine ⟨S, B, ev_succ ?_, by omega, by omega⟩
    simp only [impl_ranked.l0]
    exact ev_neg (by omega) (Ev.now _)
  | succ d ih =>
    intro i a b S B h h' hS hB ha ha' hb hb'
    by_cases c : (i : Int) < (n : Int)
    · have hm : mn (wrap64 ((i : Int) + 16)) (n : Int) = ((min (i + 16) n : Nat) : Int) := by
        rw [w64 (by omega) (by omega)]
        unfold mn
        split <;> omega
      have hc := impl_count_f (n : Int) l (i := i) (n := min (i + 16) n) (by omega) (by omega) (by omega)
      have hle := cntL'_le l (min (i + 16) n - i) i
      by_cases c2 : Int.tmod (i : Int) 64 = 0
      · obtain ⟨S', B', e, l1, l2⟩ := ih (i + 16) (a + ((cntL' l (min (i + 16) n - i) i : Nat) : Int)) a (S ++ [a]) (B ++ [0]) (by omega) (by omega) (by simp; omega) (by simp; omega) (by omega) (by omega) (by omega) (by omega)
        refine ⟨S', B', ev_succ ?_, l1, l2⟩
        simp only [impl_ranked.l0]
        rw [hm, w64 (x := (i : Int) + 16) (by omega) (by omega)]
        refine ev_pos c (ev_pos c2 (ev_pos (by omega) (ev_pos (by omega) (ev_bind _ hc ?_))))
        rw [w64 (x := a + ((cntL' l (min (i + 16) n - i) i : Nat) : Int)) (by omega) (by omega)]
        exact e
      · obtain ⟨S', B', e, l1, l2⟩ := ih (i + 16) (a + ((cntL' l (min (i + 16) n - i) i : Nat) : Int)) b S (B ++ [a - b]) (by omega) (by omega) (by omega) (by simp; omega) (by omega) (by omega) (by omega) (by omega)
        refine ⟨S', B', ev_succ ?_, l1, l2⟩
        simp only [impl_ranked.l0]
        rw [hm, w64 (x := (i : Int) + 16) (by omega) (by omega), w64 (x := a - b) (by omega) (by omega)]
        refine ev_pos c (ev_neg c2 (ev_pos (by omega) (ev_bind _ hc ?_)))
        rw [w64 (x := a + ((cntL' l (min (i + 16) n - i) i : Nat) : Int)) (by omega) (by omega)]
        exact e
    · refine ⟨S, B, ev_succ ?_, by omega, by omega⟩
      simp only [impl_ranked.l0]
      exact ev_neg c (Ev.now _)
theorem impl_ranked_f {n : Nat} (hn : n ≤ 4096) {l : List Int} (h1 : n ≤ 16 * l.length) (hl : l.length ≤ 1000) : ∃ S B, Ev (fun k => impl_ranked.f k (n : Int) l) ((n : Int), l, S, B) ∧ (S : List Int).length ≤ n + 16 ∧ (B : List Int).length ≤ n + 16 := by
  obtain ⟨S, B, e, l1, l2⟩ := impl_ranked_l0 hn h1 (n : Int) l (n / 16 + 1) 0 0 0 [] [] (by omega) (by omega) (by simp) (by simp) (by omega) (by omega) (by omega) (by omega)
  refine ⟨S, B, ?_, l1, l2⟩
  unfold impl_ranked.f impl_cloneBits.f slices_Clone_int_int.f
  simp only [Option.bind_some, List.nil_append, List.length_nil, Nat.zero_add]
  rw [if_pos (by omega)]
  exact e
theorem equal_same_l0 (l : List Int) (hl : (l.length : Int) ≤ 9223372036854775806) : ∀ (t pre : List Int), l = pre ++ t → Ev (fun k => slices_Equal_int_int.l0 k l l (l.length : Int) (pre.length : Int)) true := by
  intro t
  induction t with
  | nil =>
    intro pre h
    refine ev_succ ?_
    simp only [slices_Equal_int_int.l0]
    exact ev_neg (by rw [h]; exact not_lt_end) (Ev.now _)
  | cons x t ih =>
    intro pre h
    have hm : ((pre.length : Nat) : Int) < (l.length : Int) := by rw [h]; exact lt_mid
    have := ih (pre ++ [x]) (by rw [h]; simp)
    rw [len_one] at this
    refine ev_succ ?_
    simp only [slices_Equal_int_int.l0]
    rw [winc (by omega)]
    exact ev_pos hm (ev_pos (by omega) (ev_pos hm (ev_pos hm (ev_pos trivial this))))
theorem equal_same_f (l : List Int) (hl : (l.length : Int) ≤ 9223372036854775806) : Ev (fun k => slices_Equal_int_int.f k l l) true := by
  unfold slices_Equal_int_int.f
  exact ev_pos rfl (equal_same_l0 l hl l [] rfl)
theorem impl_IsRanked_f {n : Nat} {l S B : List Int} (hb : bitsB (n : Int) l = true) (hr : Ev (fun k => impl_ranked.f k (n : Int) l) ((n : Int), l, S, B)) (hS : S.length ≤ 100000) (hB : B.length ≤ 100000) : Ev (fun k => impl_IsRanked.f k (n : Int) l S B) true := by
  have e := impl_IsBits_f (n : Int) l
  rw [hb] at e
  unfold impl_IsRanked.f
  exact ev_bind _ e (ev_pos rfl (ev_bind _ hr (ev_bind _ (equal_same_f S (by omega)) (ev_pos rfl (ev_bind _ (equal_same_f B (by omega)) (Ev.now _))))))
theorem impl_Rank1_f {n : Nat} (hn : n ≤ 4096) {l S B : List Int} (hb : bitsB (n : Int) l = true) (hr : Ev (fun k => impl_ranked.f k (n : Int) l) ((n : Int), l, S, B)) (hS : S.length ≤ 100000) (hB : B.length ≤ 100000) {i : Nat} (hi : i ≤ n) : Ev (fun k => impl_Rank1.f k (n : Int) l S B (i : Int)) (((cntL' l i 0 : Nat) : Int), true) := by
  have h16 := (bitsB_len hb).2.2
  have hc := impl_count_f (n : Int) l (i := 0) (n := i) (by omega) (by omega) (by omega)
  unfold impl_Rank1.f
  rw [impl_in]
  refine ev_bind _ (impl_IsRanked_f hb hr hS hB) (ev_pos rfl (ev_bind _ (Ev.now _) (ev_pos (by simp; omega) (ev_bind _ ?_ (Ev.now _)))))
  exact hc
end Go.Proofs.YtmehagedoaopeaaQ
namespace Go.Proofs.YtmehagedoaopeaaQ
open Go Go.RowKit Go.Proofs.YtmehagedoaopeaaW.PrintWords Go.Proofs.YtmehagedoaopeaaW.PrintMore Go.Proofs.YtmehagedoaopeaaGp Go.Proofs.Ytmehagedoaopeaa.PF

theorem trip_form (a0 : Int) (s : ByteArray) {n : Int} (h0 : 1 ≤ n) (h1 : n ≤ 24) : ∃ x y z, tripL a0 s n 3 0 = [x, y, z] ∧ 0 ≤ x ∧ x < y ∧ y < z ∧ z < 3 * n := by
  have h := trip_edge a0 s h0 h1
  unfold isEdgeB at h
  simp only [Bool.and_eq_true, decide_eq_true_eq] at h
  obtain ⟨⟨⟨⟨g1, g2⟩, g3⟩, g4⟩, g5⟩ := h
  match e : tripL a0 s n 3 0, g1 with
  | [a, b, c], _ =>
    rw [e] at g2 g3 g4 g5
    exact ⟨a, b, c, rfl, g2, g3, g4, g5⟩
theorem allIn_rd {lo hi : Int} {m : List Int} (h : allIn lo hi m = true) {p : Int} (h0 : 0 ≤ p) (h1 : p < (m.length : Int)) : lo ≤ rd m p ∧ rd m p ≤ hi := by
  unfold allIn at h
  rw [List.all_eq_true] at h
  have hm : rd m p ∈ m := by
    unfold rd
    rw [List.getD_eq_getElem?_getD, List.getElem?_eq_getElem (by omega)]
    exact List.getElem_mem _
  simpa using h _ hm
theorem isPeeledB_ok {a n : Int} {m : List Int} (h : isPeeledB a n m = true) : (0 ≤ a ∧ a ≤ 9999) ∧ (1 ≤ n ∧ n ≤ 24) ∧ (m.length : Int) = 3 * n ∧ ∀ p, 0 ≤ p → p < (m.length : Int) → 0 ≤ rd m p ∧ rd m p ≤ 3 := by
  unfold isPeeledB at h
  simp only [Bool.and_eq_true, decide_eq_true_eq] at h
  exact ⟨h.1.1.1, h.1.1.2, h.1.2, fun p h0 h1 => allIn_rd h.2 h0 h1⟩
theorem impl_IsPeeled_l0 (x0 : List Int) (hl : (x0.length : Int) ≤ 9223372036854775806) : ∀ (t pre : List Int), x0 = pre ++ t →
    ∃ r, Ev (fun k => slices_IndexFunc_int_int_at_impl_IsPeeled_1.l0 k x0 (x0.length : Int) (pre.length : Int)) r ∧ decide (r ≥ 0) = !(allIn 0 3 t) := by
  intro t
  induction t with
  | nil =>
    intro pre h
    refine ⟨-1, ev_succ ?_, by simp [allIn]⟩
    simp only [slices_IndexFunc_int_int_at_impl_IsPeeled_1.l0]
    exact ev_neg (by rw [h]; exact not_lt_end) (Ev.now _)
  | cons x t ih =>
    intro pre h
    have hm : ((pre.length : Nat) : Int) < (x0.length : Int) := by rw [h]; exact lt_mid
    have hg : rd x0 (pre.length : Int) = x := by rw [h]; exact rd_mid
    have e1 : impl_IsPeeled_1.f x = some (!(decide (0 ≤ x ∧ x ≤ 3))) := by
      unfold impl_IsPeeled_1.f
      rw [impl_in]; rfl
    by_cases c : 0 ≤ x ∧ x ≤ 3
    · obtain ⟨r, h1, h2⟩ := ih (pre ++ [x]) (by rw [h]; simp)
      rw [len_one] at h1
      refine ⟨r, ev_succ ?_, by rw [h2]; simp [allIn, c]⟩
      simp only [slices_IndexFunc_int_int_at_impl_IsPeeled_1.l0, hg, e1]
      rw [decide_eq_true c, winc (by omega)]
      exact ev_pos hm (ev_pos (by omega) (ev_pos hm (ev_bind _ (Ev.now _) (ev_neg (by simp) h1))))
    · have hd : decide (0 ≤ x ∧ x ≤ 3) = false := decide_eq_false c
      refine ⟨(pre.length : Int), ev_succ ?_, by simp only [allIn, List.all_cons, hd]; simp⟩
      simp only [slices_IndexFunc_int_int_at_impl_IsPeeled_1.l0, hg, e1]
      rw [hd]
      exact ev_pos hm (ev_pos (by omega) (ev_pos hm (ev_bind _ (Ev.now _) (ev_pos (by simp) (Ev.now _)))))
theorem impl_IsPeeled_f (a n : Int) (m : List Int) (hl : (m.length : Int) ≤ 9223372036854775806) : Ev (fun k => impl_IsPeeled.f k a n m) (isPeeledB a n m) := by
  obtain ⟨r, h1, h2⟩ := impl_IsPeeled_l0 m hl m [] rfl
  unfold impl_IsPeeled.f slices_ContainsFunc_int_int_at_impl_IsPeeled_1.f slices_IndexFunc_int_int_at_impl_IsPeeled_1.f
  rw [impl_isSeedP_f, impl_segmentOk_f]
  refine ev_bind _ (ev_bind _ h1 (ev_some h2)) ?_
  by_cases c : allIn 0 3 m = true
  · rw [c]
    refine ev_neg (by simp) (ev_bind _ (Ev.now _) ?_)
    by_cases c1 : 0 ≤ a ∧ a ≤ 9999
    · refine ev_pos (decide_eq_true c1) (ev_bind _ (Ev.now _) ?_)
      by_cases c2 : 1 ≤ n ∧ n ≤ 24
      · refine ev_pos (decide_eq_true c2) (ev_some ?_)
        rw [w64 (x := 3 * n) (by omega) (by omega), isPeeledB, decide_eq_true c1, decide_eq_true c2, c, Bool.and_true, Bool.true_and, Bool.true_and, Bool.eq_iff_iff]
        simp
      · refine ev_neg (by simpa using c2) (ev_some ?_)
        rw [isPeeledB, decide_eq_false c2]; simp
    · refine ev_neg (by simpa using c1) (ev_some ?_)
      rw [isPeeledB, decide_eq_false c1]; simp
  · rw [Bool.eq_false_iff.2 c]
    refine ev_pos (by simp) (ev_some ?_)
    rw [isPeeledB, Bool.eq_false_iff.2 c, Bool.and_false]

def sumP (m e : List Int) : Int := rd m (rd e 0) + rd m (rd e 1) + rd m (rd e 2)
theorem impl_led_f {m : List Int} {x y z : Int} (hx : 0 ≤ x) (hxy : x < y) (hyz : y < z) (hz : z < (m.length : Int)) (hb : ∀ p, 0 ≤ p → p < (m.length : Int) → 0 ≤ rd m p ∧ rd m p ≤ 1000) : impl_led.f m [x, y, z] = some ((rd m x + rd m y + rd m z) % 3) := by
  have b1 := hb x hx (by omega)
  have b2 := hb y (by omega) (by omega)
  have b3 := hb z (by omega) (by omega)
  have r0 : rd [x, y, z] 0 = x := rfl
  have r1 : rd [x, y, z] 1 = y := rfl
  have r2 : rd [x, y, z] 2 = z := rfl
  unfold impl_led.f
  simp only [r0, r1, r2, List.length_cons, List.length_nil]
  rw [if_pos (by omega), if_pos (by omega), if_pos (by omega), if_pos (by omega), if_pos (by omega), if_pos (by omega), if_pos (by omega), if_pos (by omega), if_pos (by omega), w64 (x := rd m x + rd m y) (by omega) (by omega), w64 (by omega) (by omega), Int.tmod_eq_emod_of_nonneg (by omega)]
theorem spec_pfSum_f {m : List Int} {x y z : Int} (hx : 0 ≤ x) (hxy : x < y) (hyz : y < z) (hz : z < (m.length : Int)) (hb : ∀ p, 0 ≤ p → p < (m.length : Int) → 0 ≤ rd m p ∧ rd m p ≤ 1000) : Ev (fun k => spec_pfSum.f k m [x, y, z]) (rd m x + rd m y + rd m z) := by
  have b1 := hb x hx (by omega)
  have b2 := hb y (by omega) (by omega)
  have b3 := hb z (by omega) (by omega)
  have r0 : rd [x, y, z] 0 = x := rfl
  have r1 : rd [x, y, z] 1 = y := rfl
  have r2 : rd [x, y, z] 2 = z := rfl
  have i0 : wrap64 ((0 : Int) + 1) = 1 := w64 (by omega) (by omega)
  have i1 : wrap64 ((1 : Int) + 1) = 2 := w64 (by omega) (by omega)
  have i2 : wrap64 ((2 : Int) + 1) = 3 := w64 (by omega) (by omega)
  unfold spec_pfSum.f
  refine ev_succ ?_
  simp only [spec_pfSum.l0, r0, i0, List.length_cons, List.length_nil]
  refine ev_pos (by omega) (ev_pos (by omega) (ev_pos (by omega) (ev_pos (by omega) (ev_pos (by omega) (ev_succ ?_)))))
  simp only [spec_pfSum.l0, r1, i1, List.length_cons, List.length_nil]
  refine ev_pos (by omega) (ev_pos (by omega) (ev_pos (by omega) (ev_pos (by omega) (ev_pos (by omega) (ev_succ ?_)))))
  simp only [spec_pfSum.l0, r2, i2, List.length_cons, List.length_nil]
  refine ev_pos (by omega) (ev_pos (by omega) (ev_pos (by omega) (ev_pos (by omega) (ev_pos (by omega) (ev_succ ?_)))))
  simp only [spec_pfSum.l0, List.length_cons, List.length_nil]
  refine ev_neg (by omega) (ev_some ?_)
  rw [w64 (x := 0 + rd m x) (by omega) (by omega), w64 (x := 0 + rd m x + rd m y) (by omega) (by omega), w64 (by omega) (by omega)]
  omega
def placeP (a n : Int) (m : List Int) (s : ByteArray) : Int := rd (tripL a s n 3 0) (sumP m (tripL a s n 3 0) % 3)
section
variable {a n : Int} {m : List Int} {s : ByteArray}
theorem placeP_mem (h : isPeeledB a n m = true) : placeP a n m s ∈ tripL a s n 3 0 := by
  obtain ⟨_, ⟨h1, h2⟩, hl, hb⟩ := isPeeledB_ok h
  obtain ⟨x, y, z, e, g0, g1, g2, g3⟩ := trip_form a s h1 h2
  have : placeP a n m s = rd [x, y, z] (sumP m [x, y, z] % 3) := by unfold placeP; rw [e]
  rw [this, e]
  have hr : sumP m [x, y, z] % 3 = 0 ∨ sumP m [x, y, z] % 3 = 1 ∨ sumP m [x, y, z] % 3 = 2 := by omega
  rcases hr with hr | hr | hr <;> rw [hr] <;> simp [rd]
theorem placeP_range (h : isPeeledB a n m = true) : 0 ≤ placeP a n m s ∧ placeP a n m s < (m.length : Int) := by
  obtain ⟨_, ⟨h1, h2⟩, hl, hb⟩ := isPeeledB_ok h
  have := tripL_range a s h1 h2 _ (placeP_mem h)
  omega
theorem impl_Peeled_place_f (h : isPeeledB a n m = true) (hs : s.size ≤ 1000) : Ev (fun k => impl_Peeled_place.f k a n m s) (placeP a n m s) := by
  obtain ⟨⟨g0, g0'⟩, ⟨h1, h2⟩, hl, hb⟩ := isPeeledB_ok h
  obtain ⟨x, y, z, e, q0, q1, q2, q3⟩ := trip_form a s h1 h2
  have h3 := impl_threePlaces_f a n s (by omega) g0 (by omega)
  have hp : placeP a n m s = rd [x, y, z] ((rd m x + rd m y + rd m z) % 3) := by unfold placeP; rw [e]; rfl
  rw [e] at h3
  unfold impl_Peeled_place.f
  refine ev_bind _ h3 ?_
  rw [impl_led_f q0 q1 q2 (by omega) (fun p a b => by have := hb p a b; omega), hp]
  refine ev_bind _ (Ev.now _) (ev_pos (by omega) (ev_pos ?_ (Ev.now _)))
  simp only [List.length_cons, List.length_nil]
  omega
theorem spec_pfPlace_f (h : isPeeledB a n m = true) (hs : s.size ≤ 1000) : Ev (fun k => spec_pfPlace.f k a n m s) (placeP a n m s) := by
  obtain ⟨⟨g0, g0'⟩, ⟨h1, h2⟩, hl, hb⟩ := isPeeledB_ok h
  obtain ⟨x, y, z, e, q0, q1, q2, q3⟩ := trip_form a s h1 h2
  have h3 := spec_peTriple_f a n s (by omega) g0 (by omega)
  have hp : placeP a n m s = rd [x, y, z] ((rd m x + rd m y + rd m z) % 3) := by unfold placeP; rw [e]; rfl
  have b1 := hb x (by omega) (by omega)
  have b2 := hb y (by omega) (by omega)
  have b3 := hb z (by omega) (by omega)
  rw [e] at h3
  unfold spec_pfPlace.f
  refine ev_bind _ h3 (ev_bind _ (spec_pfSum_f q0 q1 q2 (by omega) (fun p a b => by have := hb p a b; omega)) ?_)
  rw [Int.tmod_eq_emod_of_nonneg (by omega), hp]
  refine ev_pos (by omega) (ev_pos ?_ (Ev.now _))
  simp only [List.length_cons, List.length_nil]
  omega

def usedN (l : List Int) : Nat := l.countP (fun x => x != 3)
theorem usedN_cons (x : Int) (l : List Int) : usedN (x :: l) = (if x = 3 then 0 else 1) + usedN l := by
  unfold usedN
  rw [List.countP_cons]
  by_cases c : x = 3
  · subst c; simp
  · rw [if_neg c, if_pos (by simpa using c)]; omega
theorem impl_used_l0 (x0 : List Int) (hl : (x0.length : Int) ≤ 1000000) : ∀ (t pre : List Int) (c : Nat), x0 = pre ++ t → c ≤ pre.length →
    Ev (fun k => impl_Peeled_used.l0 k (c : Int) x0 (x0.length : Int) (pre.length : Int)) ((c + usedN t : Nat) : Int) := by
  intro t
  induction t with
  | nil =>
    intro pre c h hc
    refine ev_succ ?_
    simp only [impl_Peeled_used.l0]
    exact ev_neg (by rw [h]; exact not_lt_end) (ev_some (by simp [usedN]))
  | cons x t ih =>
    intro pre c h hc
    have hm : ((pre.length : Nat) : Int) < (x0.length : Int) := by rw [h]; exact lt_mid
    have hg : rd x0 (pre.length : Int) = x := by rw [h]; exact rd_mid
    refine ev_succ ?_
    simp only [impl_Peeled_used.l0, hg]
    rw [winc (i := pre.length) (by omega), winc (i := c) (by omega), usedN_cons]
    refine ev_pos hm (ev_pos (by omega) (ev_pos hm ?_))
    by_cases e : x = 3
    · have := ih (pre ++ [x]) c (by rw [h]; simp) (by simp; omega)
      rw [len_one] at this
      rw [if_pos e, Nat.zero_add]
      exact ev_pos e this
    · have := ih (pre ++ [x]) (c + 1) (by rw [h]; simp) (by simp; omega)
      rw [len_one] at this
      rw [if_neg e, show c + (1 + usedN t) = c + 1 + usedN t from by omega]
      exact ev_neg e this
theorem impl_used_f (a n : Int) {m : List Int} (hl : m.length ≤ 1000000) {p : Int} (h0 : 0 ≤ p) (h1 : p ≤ (m.length : Int)) : Ev (fun k => impl_Peeled_used.f k a n m p) ((usedN (m.take p.toNat) : Nat) : Int) := by
  have := impl_used_l0 (m.take p.toNat) (by simp; omega) (m.take p.toNat) [] 0 rfl (Nat.le_refl _)
  rw [Nat.zero_add] at this
  unfold impl_Peeled_used.f
  exact ev_pos h0 (ev_pos h1 this)
theorem spec_rank_l0 (x0 : List Int) (hl : (x0.length : Int) ≤ 1000000) : ∀ (t pre : List Int) (c : Nat), x0 = pre ++ t → c ≤ pre.length →
    Ev (fun k => spec_pfRank.l0 k (c : Int) x0 (x0.length : Int) (pre.length : Int)) ((c + usedN t : Nat) : Int) := by
  intro t
  induction t with
  | nil =>
    intro pre c h hc
    refine ev_succ ?_
    simp only [spec_pfRank.l0]
    exact ev_neg (by rw [h]; exact not_lt_end) (ev_some (by simp [usedN]))
  | cons x t ih =>
    intro pre c h hc
    have hm : ((pre.length : Nat) : Int) < (x0.length : Int) := by rw [h]; exact lt_mid
    have hg : rd x0 (pre.length : Int) = x := by rw [h]; exact rd_mid
    refine ev_succ ?_
    simp only [spec_pfRank.l0, hg]
    rw [winc (i := pre.length) (by omega), winc (i := c) (by omega), usedN_cons]
    refine ev_pos hm (ev_pos (by omega) (ev_pos hm ?_))
    by_cases e : x = 3
    · have := ih (pre ++ [x]) c (by rw [h]; simp) (by simp; omega)
      rw [len_one] at this
      rw [if_pos e, Nat.zero_add]
      exact ev_pos e this
    · have := ih (pre ++ [x]) (c + 1) (by rw [h]; simp) (by simp; omega)
      rw [len_one] at this
      rw [if_neg e, show c + (1 + usedN t) = c + 1 + usedN t from by omega]
      exact ev_neg e this
theorem spec_pfRank_f (a n : Int) {m : List Int} (hl : m.length ≤ 1000000) {p : Int} (h0 : 0 ≤ p) (h1 : p ≤ (m.length : Int)) : Ev (fun k => spec_pfRank.f k a n m p) ((usedN (m.take p.toNat) : Nat) : Int) := by
  have := spec_rank_l0 (m.take p.toNat) (by simp; omega) (m.take p.toNat) [] 0 rfl (Nat.le_refl _)
  rw [Nat.zero_add] at this
  unfold spec_pfRank.f
  exact ev_pos h0 (ev_pos h1 this)
def indexP (a n : Int) (m : List Int) (s : ByteArray) : Int × Bool :=
  if rd m (placeP a n m s) = 3 then (0, false) else (((usedN (m.take (placeP a n m s).toNat) : Nat) : Int), true)
def indexV (a n : Int) (m : List Int) (s : ByteArray) : Int × Bool := if isPeeledB a n m = true ∧ isKeyB s = true then indexP a n m s else (0, false)
theorem impl_Peeled_index_f (h : isPeeledB a n m = true) (hm : m.length ≤ 1000) (hs : s.size ≤ 1000) : Ev (fun k => impl_Peeled_index.f k a n m s) (indexP a n m s) := by
  obtain ⟨p0, p1⟩ := placeP_range (s := s) h
  unfold impl_Peeled_index.f indexP
  refine ev_bind _ (impl_Peeled_place_f h hs) (ev_pos p0 (ev_pos p1 ?_))
  by_cases c : rd m (placeP a n m s) = 3
  · rw [if_pos c]; exact ev_pos c (Ev.now _)
  · rw [if_neg c]; exact ev_neg c (ev_bind _ (impl_used_f a n (by omega) p0 (by omega)) (Ev.now _))
theorem impl_PeeledIndex_f (hm : m.length ≤ 1000) (hs : s.size ≤ 1000) : Ev (fun k => impl_PeeledIndex.f k a n m s) (indexV a n m s) := by
  unfold impl_PeeledIndex.f indexV
  refine ev_bind _ (impl_IsPeeled_f a n m (by omega)) ?_
  by_cases c : isPeeledB a n m = true
  · refine ev_pos c (ev_bind _ (impl_IsKey_f s (by omega)) ?_)
    by_cases c2 : isKeyB s = true
    · rw [if_pos ⟨c, c2⟩]
      exact ev_pos c2 (ev_bind _ (impl_Peeled_index_f c hm hs) (Ev.now _))
    · rw [if_neg (fun h => c2 h.2)]
      exact ev_neg c2 (Ev.now _)
  · rw [if_neg (fun h => c h.1)]
    exact ev_neg c (Ev.now _)
theorem spec_PeeledIndex_f (hm : m.length ≤ 1000) (hs : s.size ≤ 1000) : Ev (fun k => spec_PeeledIndex.f k a n m s) (indexV a n m s) := by
  have bad : ∀ b : Bool, b = true → Ev (fun k => spec_PeeledIndex.j0 k s b a n m) (0, false) := fun b hb => by
    refine ev_succ ?_
    simp only [spec_PeeledIndex.j0]
    exact ev_pos hb (Ev.now _)
  unfold spec_PeeledIndex.f indexV
  refine ev_bind _ (spec_pfPeeled_f a n m (by omega)) ?_
  by_cases c : isPeeledB a n m = true
  · refine ev_pos c (ev_bind _ (spec_IsKey_f s (by omega)) ?_)
    by_cases c2 : isKeyB s = true
    · obtain ⟨p0, p1⟩ := placeP_range (s := s) c
      rw [if_pos ⟨c, c2⟩]
      refine ev_pos c2 (ev_bind _ (spec_pfPlace_f c hs) (ev_pos p0 (ev_pos p1 ?_)))
      unfold indexP
      by_cases c3 : rd m (placeP a n m s) = 3
      · rw [if_pos c3]; exact bad _ (by simpa using c3)
      · rw [if_neg c3]
        refine ev_succ ?_
        simp only [spec_PeeledIndex.j0]
        exact ev_neg (by simpa using c3) (ev_bind _ (spec_pfPlace_f c hs) (ev_bind _ (spec_pfRank_f a n (by omega) p0 (by omega)) (Ev.now _)))
    · rw [if_neg (fun h => c2 h.2)]
      exact ev_neg c2 (bad _ rfl)
  · rw [if_neg (fun h => c h.1)]
    exact ev_neg c (bad _ rfl)
theorem impl_PeeledPlace_f (hm : m.length ≤ 1000) (hs : s.size ≤ 1000) : Ev (fun k => impl_PeeledPlace.f k a n m s) (if isPeeledB a n m = true ∧ isKeyB s = true then (placeP a n m s, true) else (0, false)) := by
  unfold impl_PeeledPlace.f
  refine ev_bind _ (impl_IsPeeled_f a n m (by omega)) ?_
  by_cases c : isPeeledB a n m = true
  · refine ev_pos c (ev_bind _ (impl_IsKey_f s (by omega)) ?_)
    by_cases c2 : isKeyB s = true
    · rw [if_pos ⟨c, c2⟩]
      exact ev_pos c2 (ev_bind _ (impl_Peeled_place_f c hs) (Ev.now _))
    · rw [if_neg (fun h => c2 h.2)]
      exact ev_neg c2 (Ev.now _)
  · rw [if_neg (fun h => c h.1)]
    exact ev_neg c (Ev.now _)
end

def usedG (m : List Int) (i : Nat) : Bool := rd m (i : Int) != 3
def usedL (m : List Int) : List Int := madeL (usedG m) m.length 0 (blankV (m.length : Int))
theorem impl_made_l0 (y0 y1 : Int) {m : List Int} (hn : m.length ≤ 1000) (z : Int) : ∀ (d i : Nat) (acc : List Int), i + d = m.length → okW acc → m.length ≤ 16 * acc.length → (∀ q, i ≤ q → bitN acc q = false) →
    Ev (fun k => impl_madeBits_at_impl_UsedOf_1.l0 k (m.length : Int) (i : Int) y0 y1 m z acc) (z, madeL (usedG m) d i acc) := by
  intro d
  induction d with
  | zero =>
    intro i acc e hW hl hz
    refine ev_succ ?_
    simp only [impl_madeBits_at_impl_UsedOf_1.l0]
    exact ev_neg (by omega) (ev_some rfl)
  | succ d ih =>
    intro i acc e hW hl hz
    refine ev_succ ?_
    have e1 : impl_UsedOf_1.f (i : Int) y0 y1 m = some (usedG m i) := by
      unfold impl_UsedOf_1.f
      rw [if_pos (by omega), if_pos (by omega)]
      rfl
    simp only [impl_madeBits_at_impl_UsedOf_1.l0]
    rw [e1, winc (by omega), madeL]
    refine ev_pos (by omega) (ev_bind _ (Ev.now _) ?_)
    by_cases c : usedG m i = true
    · rw [c, if_pos rfl, impl_Bits_set_f z acc (by omega) (by omega) (by omega)]
      refine ev_bind _ (Ev.now _) (ih (i + 1) (setV acc (i : Int)) (by omega) (okW_setV hW (by omega)) (by rw [setV_len]; exact hl) (fun q hq => ?_))
      rw [bit_setV hW (by omega), hz q (by omega), decide_eq_false (by omega)]
      rfl
    · simp only [Bool.not_eq_true] at c
      rw [c, if_neg (by simp), impl_clr_f z hW (by omega) (by omega) (hz i (Nat.le_refl _))]
      exact ev_bind _ (Ev.now _) (ih (i + 1) acc (by omega) hW hl (fun q hq => hz q (by omega)))
theorem usedL_bits {m : List Int} (hm : m.length ≤ 1000) : bitsB (m.length : Int) (usedL m) = true := bitsB_madeL _ _ _ _ (bitsB_blankV (by omega) (by omega)) (by omega)
theorem usedL_at {m : List Int} (hm : m.length ≤ 1000) {i : Nat} (hi : i < m.length) : atV (usedL m) (i : Int) = usedG m i := by
  have hb := blankV_len' (n := (m.length : Int)) (by omega)
  obtain ⟨h1, h2⟩ := madeL_ok (usedG m) m.length 0 (blankV (m.length : Int)) (okW_blankV _) (by omega)
  unfold usedL
  rw [atV_bit h1 (by rw [madeL_len]; omega), h2 i, bitN_blankV, decide_eq_true (by omega), Bool.false_or, Bool.true_and]
theorem impl_UsedOf_f {a n : Int} {m : List Int} (h : isPeeledB a n m = true) (hm : m.length ≤ 1000) : ∃ S B, Ev (fun k => impl_UsedOf.f k a n m) ((m.length : Int), usedL m, S, B, true) ∧ Ev (fun k => impl_ranked.f k (m.length : Int) (usedL m)) ((m.length : Int), usedL m, S, B) ∧ (S : List Int).length ≤ 100000 ∧ (B : List Int).length ≤ 100000 := by
  have hb := blankV_len' (n := (m.length : Int)) (by omega)
  have hl : (usedL m).length = (blankV (m.length : Int)).length := madeL_len _ _ _ _
  obtain ⟨S, B, e, l1, l2⟩ := impl_ranked_f (n := m.length) (l := usedL m) (by omega) (by omega) (by omega)
  have e0 := impl_IsPeeled_f a n m (by omega)
  rw [h] at e0
  have e1 := impl_made_l0 a n hm (m.length : Int) m.length 0 (blankV (m.length : Int)) (by omega) (okW_blankV _) (by omega) (fun q _ => bitN_blankV _ q)
  refine ⟨S, B, ?_, e, by omega, by omega⟩
  unfold impl_UsedOf.f impl_madeBits_at_impl_UsedOf_1.f
  rw [impl_blank_f (by omega) (by omega)]
  exact ev_bind _ e0 (ev_pos rfl (ev_bind _ (ev_bind _ (Ev.now _) e1) (ev_bind _ e (Ev.now _))))
theorem cnt_used {m : List Int} (hm : m.length ≤ 1000) : ∀ (d i : Nat), i + d ≤ m.length → cntL' (usedL m) d i = usedN ((m.drop i).take d)
  | 0, _, _ => by simp [cntL', usedN]
  | d + 1, i, h => by
    have hc : m.drop i = m[i]'(by omega) :: m.drop (i + 1) := List.drop_eq_getElem_cons (by omega)
    rw [cntL', usedL_at hm (by omega), cnt_used hm d (i + 1) (by omega), hc, List.take_succ_cons, usedN_cons]
    have hr : rd m (i : Int) = m[i]'(by omega) := rd_get (by omega)
    congr 1
    unfold usedG
    rw [hr]
    by_cases c : m[i]'(by omega) = 3
    · rw [if_pos c, if_neg (by simp [c])]
    · rw [if_neg c, if_pos (by simpa using c)]
theorem cnt_used' {m : List Int} (hm : m.length ≤ 1000) {p : Nat} (h : p ≤ m.length) : cntL' (usedL m) p 0 = usedN (m.take p) := by
  rw [cnt_used hm p 0 (by omega), List.drop_zero]
end Go.Proofs.YtmehagedoaopeaaQ
namespace Go.Proofs.YtmehagedoaopeaaQ
open Go Go.RowKit Go.Proofs.YtmehagedoaopeaaW.PrintWords Go.Proofs.YtmehagedoaopeaaGp Go.Proofs.Ytmehagedoaopeaa.PF

end Go.Proofs.YtmehagedoaopeaaQ
namespace Go.Proofs.YtmehagedoaopeaaQ
open Go Go.RowKit Go.Proofs.YtmehagedoaopeaaW.PrintWords Go.Proofs.YtmehagedoaopeaaGp Go.Proofs.Ytmehagedoaopeaa.PF

namespace LW
theorem has_l0 (x0 : List Int) (a : Int) (hl : (x0.length : Int) ≤ 9223372036854775806) : ∀ (t pre : List Int), x0 = pre ++ t →
    Ev (fun k => laws_pHas.l0 k a x0 (x0.length : Int) (pre.length : Int)) (t.contains a) := by
  intro t
  induction t with
  | nil =>
    intro pre h
    refine ev_succ ?_
    simp only [laws_pHas.l0]
    exact ev_neg (by rw [h]; exact not_lt_end) (ev_some (by simp))
  | cons x t ih =>
    intro pre h
    have hm : ((pre.length : Nat) : Int) < (x0.length : Int) := by rw [h]; exact lt_mid
    have hg : rd x0 (pre.length : Int) = x := by rw [h]; exact rd_mid
    refine ev_succ ?_
    simp only [laws_pHas.l0, hg]
    refine ev_pos hm (ev_pos (by omega) (ev_pos hm ?_))
    by_cases c : x = a
    · exact ev_pos c (ev_some (by simp [c]))
    · refine ev_neg c ?_
      rw [winc (by omega)]
      have := ih (pre ++ [x]) (by rw [h]; simp)
      rw [len_one] at this
      have e : (x :: t).contains a = t.contains a := by simp [Ne.symm c]
      rw [e]
      exact this
theorem has_f (l : List Int) (a : Int) (hl : (l.length : Int) ≤ 9223372036854775806) : Ev (fun k => laws_pHas.f k l a) (l.contains a) := by
  unfold laws_pHas.f
  exact has_l0 l a hl l [] rfl
end LW
end Go.Proofs.YtmehagedoaopeaaQ
namespace Go.Proofs.Ytmehagedoaopeaa.Pure
open Go Go.RowKit Go.Proofs.YtmehagedoaopeaaW.PrintWords Go.Proofs.YtmehagedoaopeaaW.PrintMore Go.Proofs.YtmehagedoaopeaaGp Go.Proofs.Ytmehagedoaopeaa.PF Go.Proofs.YtmehagedoaopeaaQ

theorem keys_one {s : ByteArray} (h : isKeyB s = true) : areKeysB [s] = true := by
  simp [areKeysB, keysFrom, h]
theorem FnForeignKeysAreLed : laws_FnForeignKeysAreLed.Pure := by
  intro l0 l1 h0 _ hw0 h1 _ _
  refine Ev.rounds (r := true) ?_
  unfold laws_FnForeignKeysAreLed.f
  obtain ⟨b, eb, hb⟩ := big_f h0 h1
  rw [eb]
  refine ev_bind _ (Ev.now _) ?_
  by_cases c : b = true
  · exact ev_pos c (Ev.now _)
  obtain ⟨g0, _⟩ := hb (by simpa using c)
  have hs := bys g0 hw0
  obtain ⟨a, n, m, t, ed, hm, ht⟩ := DrawPeeledIndex_ok hs
  have htz : t.size ≤ 1000 := by omega
  refine ev_neg c (ev_bind _ ed (ev_bind _ (impl_PeeledIndex_f hm htz) (ev_bind _ (spec_PeeledIndex_f hm htz) (ev_neg (by simp) (ev_succ ?_)))))
  simp only [laws_FnForeignKeysAreLed.j0]
  refine ev_neg (by simp) (ev_bind _ (impl_PeeledPlace_f hm htz) ?_)
  by_cases ok : isPeeledB a n m = true ∧ isKeyB t = true
  · rw [if_pos ok]
    obtain ⟨hp, hk⟩ := ok
    obtain ⟨⟨q0, q1⟩, ⟨q2, q3⟩, hl, _⟩ := isPeeledB_ok hp
    obtain ⟨p0, p1⟩ := placeP_range (s := t) hp
    obtain ⟨S, B, eu, er, hS, hB⟩ := impl_UsedOf_f hp hm
    have hbit := usedL_bits hm
    have ebits := impl_IsBits_f (m.length : Int) (usedL m)
    rw [hbit] at ebits
    have hbl := (bitsB_len hbit).2.2
    have hq : (((placeP a n m t).toNat : Nat) : Int) = placeP a n m t := by omega
    have eat : Ev (fun k => impl_BitAt.f k (m.length : Int) (usedL m) (placeP a n m t)) (usedG m (placeP a n m t).toNat, true) := by
      unfold impl_BitAt.f
      rw [impl_in, impl_Bits_at_f (m.length : Int) (usedL m) p0 (by omega) (by omega)]
      refine ev_bind _ ebits (ev_pos rfl (ev_bind _ (Ev.now _) (ev_pos ?_ (ev_bind _ (Ev.now _) (ev_some ?_)))))
      · rw [w64 (by omega) (by omega)]; simp; omega
      · have := usedL_at hm (i := (placeP a n m t).toNat) (by omega)
        rw [hq] at this
        rw [this]
    have erk := impl_Rank1_f (by omega) hbit er hS hB (i := (placeP a n m t).toNat) (by omega)
    rw [hq, cnt_used' hm (by omega)] at erk
    have hin : (tripL a t n 3 0).contains (placeP a n m t) = true := by simpa using placeP_mem (s := t) hp
    have ehas := LW.has_f (tripL a t n 3 0) (placeP a n m t) (by simp [tripL])
    rw [hin] at ehas
    have hhy : rd_L3 (hypE a n [t]) 0 = tripL a t n 3 0 := rfl
    refine ev_pos rfl (ev_bind _ (impl_HyperOf_f q0 q1 q2 q3 (keys_one hk)) (ev_bind _ eu (ev_bind _ eat (ev_bind _ erk (ev_pos rfl (ev_pos rfl (ev_pos rfl (ev_pos rfl (ev_pos (by simp [hypE]) (ev_bind true ?_ (ev_pos rfl ?_)))))))))))
    · simp only [hhy]
      exact ehas
    · have hv : indexV a n m t = indexP a n m t := if_pos ⟨hp, hk⟩
      rw [hv]
      unfold indexP usedG
      rw [hq]
      by_cases c3 : rd m (placeP a n m t) = 3
      · rw [if_pos c3]
        exact ev_pos (by simp [c3]) (ev_neg (by simp) (Ev.now _))
      · rw [if_neg c3]
        exact ev_pos (by simp [c3]) (ev_pos rfl (ev_some (by simp)))
  · rw [if_neg ok]
    have hv : indexV a n m t = (0, false) := if_neg ok
    rw [hv]
    exact ev_neg (by simp) (ev_some rfl)
end Go.Proofs.Ytmehagedoaopeaa.Pure
