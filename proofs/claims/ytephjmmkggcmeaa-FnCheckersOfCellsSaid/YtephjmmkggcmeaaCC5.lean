import Derived.Test.YtephjmmkggcmeaaCC1
import Derived.Test.YtephjmmkggcmeaaCC3
import Derived.Test.YtephjmmkggcmeaaCC0
import Derived.Lib.Bytes
import Derived.Test.YtephjmmkggcmeaaCC4
namespace Go.Proofs.Ytephjmmkggcmeaa.PC
open Go.RowKit Go.Proofs.YtephjmmkggcmeaaW.PrintWords Go.Proofs.YtephjmmkggcmeaaW.PrintLast Go.Proofs.YtephjmmkggcmeaaW.PrintMore Go.Proofs.YtephjmmkggcmeaaSq
attribute [local go_sem] max2_int min2_int max_two min_two max_three min_three max_four min_four   -- for this text's walks alone
attribute [local go_sem] Go.Proofs.YtephjmmkggcmeaaGp.str_geq Go.Proofs.YtephjmmkggcmeaaGp.str_gtr Go.Proofs.YtephjmmkggcmeaaGp.str_leq
set_option linter.unusedVariables false
set_option linter.unusedSimpArgs false

set_option maxHeartbeats 8000000
set_option maxRecDepth 100000
theorem spec_DrawIsPlacement.calls (k : Nat) (A0 : Option Addr) (c0 : Nat) (l0 : List Int) (r1 : Int) (r2 : List ByteArray) (r3 : Int) (r4 : List Int) (w : World) (hr0 : Kd.C (Kd.int .u8) w A0 l0.length l0) (hc0 : l0.length ≤ c0) (h : spec_DrawIsPlacement.f k l0 = some (r1, r2, r3, r4)) :
  Calls Try.prog 36 #[.slice A0 l0.length c0] w fun e w' => ∃ v1_ v3_ : Value, e = .returned (.tuple #[.int .i64 r1, v1_, .int .i64 r3, v3_]) ∧ Kd.R Kd.string 9 w' w.heap.size (fun _ => True) v1_ r2 ∧ Kd.R (Kd.int .i64) 3 w' w.heap.size (fun _ => True) v3_ r4 ∧ Below w.heap.size w w' := by
 have hu75 := Try.underlying75; have HR0 := am hr0; have HC0 := am hc0; clear hr0 hc0; have HB := am (Below.refl w.heap.size w); have H : ((spec_l1Cur_keyed.f k l0 0 0).bind fun bt575 => ((spec_l1Cur_one.f l0 bt575.2.2.2.1 bt575.2.2.2.2 2).bind fun bt582 => (if bt582.1 = true then ((spec_cuKeyed.f k bt575.1 bt575.2.1 bt575.2.2.1).bind fun t585 => (spec_DrawIsPlacement.j0 k bt575.1 bt575.2.1 bt575.2.2.1 ([] : List Int) t585 l0 bt582.2.1 bt582.2.2)) else (spec_DrawIsPlacement.j0 k bt575.1 bt575.2.1 bt575.2.2.1 ([] : List Int) false l0 bt582.2.1 bt582.2.2)))) = some (r1, r2, r3, r4) := h; clear h; obtain ⟨⟨t575, t576, t579, t580, t581⟩, A2, H⟩ := ob H; (try dsimp -simprocs only at H); have HC3 := am H; clear H
 go_enter Try.func36, Try.ntmps36
 go_upto_region 4 with (first | ((with_reducible refine gate_dst (N := 14) rfl ?_); refine bE 14 #[.slice A0 l0.length c0, .int .i64 0, .int .u64 0] 75 ?_; intro gb574 hg w4 hbox hb; have n0_ := Bb HB hb; have n1_ := am (hbox); have n2_ := Gl HB hg; have n3_ := Gl HB hg; clear HB; revert n0_ n1_ n2_ n3_; intro HB BK574 GW574 GE574; clear hb hbox hg; have HI574 := am (show IsS75 w _ gb574 l0 0 0 from ⟨A0, c0, BK574.out, GE574.out, HR0.out⟩); clear BK574) | ((with_reducible refine gate_callee (f := 59) rfl ?_); refine gL (some 17) Try.func59 #[.pointer (some ⟨gb574, 0, none⟩)] ?_; (with_reducible refine (spec_l1Cur_keyed.calls k gb574 l0 0 0 t575 t576 t579 t580 t581 w _ ?side1 ?side2 A2.out).mono ?_); (case side1 => repeat (first | (with_reducible first | exact HI574.out | apply IsS75.alloc | apply IsS75.drewN | apply IsS75.drew | apply IsS75.set_1 | apply IsS75.set_2) | exact HI574.out)); (case side2 => repeat (first | (with_reducible first | exact HB.out | apply below_alloc | apply pw_below_drewN | apply below_drew1 | refine below_set ?_ (IsS75.ge HI574.out)) | exact HB.out)); rintro e w5 ⟨v577, rfl, ho0, hi, hb, hk⟩; refine ⟨_, rfl, ?_⟩; have n0_ := am (Kd.R_lower ho0 (below_size (by repeat (first | (with_reducible first | exact HB.out | apply below_alloc | apply pw_below_drewN | apply below_drew1 | refine below_set ?_ (IsS75.ge HI574.out)) | exact HB.out)))); have n1_ := am (hb); have n2_ := am (hi); clear HB HI574; revert n0_ n1_ n2_; intro HO578 HB HI574; (try clear hb); (try clear hb2); (try clear hk); (try clear hi); (try clear ho0)))
 (try simp only [aP])
 go_cut [28] (fun v28 wc => ∃ (kq : Nat) (x28_2 : Bool) (x575001_2 : Int) (x575002_2 : Int), v28 = .bool x28_2 ∧ Aside0 (spec_DrawIsPlacement.j0 kq t575 t576 t579 ([] : List Int) x28_2 l0 x575001_2 x575002_2 = some (r1, r2, r3, r4)) ∧ Aside0 (kq ≤ k) ∧ Aside0 (Kd.R Kd.string 9 wc w.heap.size (fun _ => True) v577 t576) ∧ Aside0 (Kd.R (Kd.int .i64) 3 wc w.heap.size (fun _ => True) (.slice none 0 0) ([] : List Int)) ∧ Aside0 (IsS75 w wc gb574 l0 x575001_2 x575002_2) ∧ Aside0 (Below w.heap.size w wc))
 case first =>
  have H := HC3.out; clear HC3; obtain ⟨⟨t582, t583, t584⟩, A6, H⟩ := ob H; (try dsimp -simprocs only at H)
  by_cases c7 : t582 = true
  ·subst c7
   rw [if_pos rfl] at H; obtain ⟨t585, A8, H⟩ := ob H; (try dsimp -simprocs only at H); have H' := am H; clear H
   go_wp2_with (first | ((with_reducible refine gate_callee (f := 83) rfl ?_); refine gL (some 22) Try.func83 #[.pointer (some ⟨gb574, 0, none⟩), .int .i64 2] ?_; (with_reducible refine (spec_l1Cur_one.calls gb574 l0 t580 t581 2 true t583 t584 w _ ?side1 ?side2 A6.out).mono ?_); (case side1 => repeat (first | (with_reducible first | exact HI574.out | apply IsS75.alloc | apply IsS75.drewN | apply IsS75.drew | apply IsS75.set_1 | apply IsS75.set_2) | exact HI574.out)); (case side2 => repeat (first | (with_reducible first | exact HB.out | apply below_alloc | apply pw_below_drewN | apply below_drew1 | refine below_set ?_ (IsS75.ge HI574.out)) | exact HB.out)); rintro e w9 ⟨rfl, hi, hb, hk⟩; refine ⟨_, rfl, ?_⟩; have n0_ := am (Kd.R_mono (Kd.R_keep (IsS75.apart (show IsS75 w _ gb574 l0 t580 t581 from by repeat (first | (with_reducible first | exact HI574.out | apply IsS75.alloc | apply IsS75.drewN | apply IsS75.drew | apply IsS75.set_1 | apply IsS75.set_2) | exact HI574.out)) (Rz HO578.out) (by decide)) hk (fun _ h => h.2)) (fun _ h => h.1)); have n1_ := am (hb); have n2_ := am (hi); clear HO578 HB HI574; revert n0_ n1_ n2_; intro HO578 HB HI574; (try clear hb); (try clear hb2); (try clear hk); (try clear hi); obtain ⟨Ao10, co10, eo10⟩ := Kd.R_slice HO578.out; subst eo10) | (go_at_call 62; (with_reducible refine (spec_cuKeyed.calls k t575 _ _ t576 t579 t585 _ ?side1 ?side2 A8.out).mono ?_); (case side1 => exact Cz ((Kd.R_reads' HO578.out).2.2)); (case side2 => exact (Kd.R_reads' HO578.out).2.1); rintro e w' ⟨rfl, ⟨nd, rfl⟩⟩))
   go_meet
   case rel => exact ⟨_, (t585), (t583), (t584), wZ, H', ⟨by first | omega | exact Nat.le_refl _⟩, ⟨Rz HO578.out⟩, ⟨nZ⟩, ⟨by repeat (first | (with_reducible first | exact HI574.out | apply IsS75.alloc | apply IsS75.drewN | apply IsS75.drew | apply IsS75.set_1 | apply IsS75.set_2) | exact HI574.out)⟩, ⟨by repeat (first | (with_reducible first | exact HB.out | apply below_alloc | apply pw_below_drewN | apply below_drew1 | refine below_set ?_ (IsS75.ge HI574.out)) | exact HB.out)⟩⟩
  ·replace c7 := Bool.eq_false_iff.mpr c7
   subst c7
   rw [if_neg Bool.false_ne_true] at H; have H' := am H; clear H
   go_wp2_with (first | ((with_reducible refine gate_callee (f := 83) rfl ?_); refine gL (some 22) Try.func83 #[.pointer (some ⟨gb574, 0, none⟩), .int .i64 2] ?_; (with_reducible refine (spec_l1Cur_one.calls gb574 l0 t580 t581 2 false t583 t584 w _ ?side1 ?side2 A6.out).mono ?_); (case side1 => repeat (first | (with_reducible first | exact HI574.out | apply IsS75.alloc | apply IsS75.drewN | apply IsS75.drew | apply IsS75.set_1 | apply IsS75.set_2) | exact HI574.out)); (case side2 => repeat (first | (with_reducible first | exact HB.out | apply below_alloc | apply pw_below_drewN | apply below_drew1 | refine below_set ?_ (IsS75.ge HI574.out)) | exact HB.out)); rintro e w11 ⟨rfl, hi, hb, hk⟩; refine ⟨_, rfl, ?_⟩; have n0_ := am (Kd.R_mono (Kd.R_keep (IsS75.apart (show IsS75 w _ gb574 l0 t580 t581 from by repeat (first | (with_reducible first | exact HI574.out | apply IsS75.alloc | apply IsS75.drewN | apply IsS75.drew | apply IsS75.set_1 | apply IsS75.set_2) | exact HI574.out)) (Rz HO578.out) (by decide)) hk (fun _ h => h.2)) (fun _ h => h.1)); have n1_ := am (hb); have n2_ := am (hi); clear HO578 HB HI574; revert n0_ n1_ n2_; intro HO578 HB HI574; (try clear hb); (try clear hb2); (try clear hk); (try clear hi)))
   go_meet
   case rel => exact ⟨_, (false), (t583), (t584), wZ, H', ⟨by first | omega | exact Nat.le_refl _⟩, ⟨Rz HO578.out⟩, ⟨nZ⟩, ⟨by repeat (first | (with_reducible first | exact HI574.out | apply IsS75.alloc | apply IsS75.drewN | apply IsS75.drew | apply IsS75.set_1 | apply IsS75.set_2) | exact HI574.out)⟩, ⟨by repeat (first | (with_reducible first | exact HB.out | apply below_alloc | apply pw_below_drewN | apply below_drew1 | refine below_set ?_ (IsS75.ge HI574.out)) | exact HB.out)⟩⟩
 case rest =>
  clear HC3
  try clear p2
  try clear c3
  try clear c5
  try clear c7
  try clear c8
  obtain ⟨kq, x28_2, x575001_2, x575002_2, rfl, HA, HJ2, HO_8, HO_10, HI574, HB⟩ := hcut; cases kq with
  | zero => exact absurd HA.out (by simp [spec_DrawIsPlacement.j0])
  | succ kj2 =>
   have H := HA.out; clear HA
   simp only [spec_DrawIsPlacement.j0] at H
   have HC12 := am H; clear H
   go_upto_if 28 with (fail)
   go_cut [10] (fun v10 wc => ∃ (kq : Nat) (x10_11 : List Int), Aside0 (spec_DrawIsPlacement.j1 kq t575 t576 t579 x10_11 l0 x575001_2 x575002_2 = some (r1, r2, r3, r4)) ∧ Aside0 (kq ≤ kj2) ∧ Aside0 (Kd.R Kd.string 9 wc w.heap.size (fun _ => True) v577 t576) ∧ Aside0 (Kd.R (Kd.int .i64) 3 wc w.heap.size (fun _ => True) v10 x10_11) ∧ Aside0 (IsS75 w wc gb574 l0 x575001_2 x575002_2) ∧ Aside0 (Below w.heap.size w wc))
   case first =>
    have H := HC12.out; clear HC12
    by_cases c13 : x28_2 = true
    ·subst c13
     rw [if_pos rfl] at H; obtain ⟨t586, A14, H⟩ := ob H; (try dsimp -simprocs only at H); obtain ⟨⟨t589, t592⟩, A15, H⟩ := ob H; (try dsimp -simprocs only at H); have H' := am H; clear H; obtain ⟨Ao16, co16, eo16⟩ := Kd.R_slice HO_8.out; subst eo16
     go_wp2_with (first | ((with_reducible refine gate_callee (f := 64) rfl ?_); refine gL (some 33) Try.func64 #[.int .i64 t575, .slice Ao16 t576.length co16, .int .i64 t579] ?_; (with_reducible refine (spec_cuPairs.calls kj2 t575 _ _ t576 t579 t586 _ ?side1 ?side2 A14.out).mono ?_); (case side1 => exact Cz ((Kd.R_reads' HO_8.out).2.2)); (case side2 => exact (Kd.R_reads' HO_8.out).2.1); rintro e w17 ⟨v587, rfl, ho0, hb⟩; refine ⟨_, rfl, ?_⟩; have n0_ := Rb HO_8 hb; have n1_ := Rb HO_10 hb; have n2_ := am (Kd.S_lower (Kd.S_new' ho0 (Kd.R_lt (Rz HO_10.out))) (below_size (by repeat (first | (with_reducible first | exact HB.out | apply below_alloc | apply pw_below_drewN | apply below_drew1 | refine below_set ?_ (IsS75.ge HI574.out)) | exact HB.out)))); have n3_ := am (IsS75.below (by repeat (first | (with_reducible first | exact HI574.out | apply IsS75.alloc | apply IsS75.drewN | apply IsS75.drew | apply IsS75.set_1 | apply IsS75.set_2) | exact HI574.out)) hb); have n4_ := am (below_step (by repeat (first | (with_reducible first | exact HB.out | apply below_alloc | apply pw_below_drewN | apply below_drew1 | refine below_set ?_ (IsS75.ge HI574.out)) | exact HB.out)) hb); clear HO_8 HO_10 HI574 HB; revert n0_ n1_ n2_ n3_ n4_; intro HO_8 HO_10 HO588 HI574 HB; (try clear hb); (try clear hb2); (try clear hk); (try clear hi); (try clear ho0); obtain ⟨Ao18, co18, eo18⟩ := Kd.S_slice HO588.out; subst eo18) | ((with_reducible refine gate_callee (f := 79) rfl ?_); refine gL (some 34) Try.func79 #[.slice Ao18 t586.length co18] ?_; (with_reducible refine (spec_cuPlace.calls kj2 (fun k_ => (((True ∧ some k_ ≠ (.slice none 0 0 : Value).ownBlock) ∧ some k_ ≠ (.slice Ao16 t576.length co16 : Value).ownBlock) ∧ k_ ≠ gb574)) _ _ t586 t589 t592 _ ?side1 A15.out).mono ?_); (case side1 => exact Kd.S_V (IsS75.apartS HI574.out (Kd.S_apart' (HO588.out) (Kd.R_typed HO_8.out) (by decide)) (by decide))); rintro e w19 ⟨v590, rfl, ho0, hb⟩; refine ⟨_, rfl, ?_⟩; have n0_ := Rb HO_8 hb; have n1_ := Re HO_10 (Kd.R_base ho0) hb; have n2_ := am (Kd.S_elder' (by (with_reducible repeat (first | apply Kd.S_alloc | apply Kd.S_drewN | apply Kd.S_drew)); exact HO588.out) (Kd.R_base ho0) hb); have n3_ := am (Kd.R_lower (Kd.R_new' (Kd.R_mono (ok' := fun k_ => True) ho0 (fun _ hk_ => trivial)) (Kd.R_lt (Rz HO_10.out))) (below_size (by repeat (first | (with_reducible first | exact HB.out | apply below_alloc | apply pw_below_drewN | apply below_drew1 | refine below_set ?_ (IsS75.ge HI574.out)) | exact HB.out)))); have n4_ := am (IsS75.below (by repeat (first | (with_reducible first | exact HI574.out | apply IsS75.alloc | apply IsS75.drewN | apply IsS75.drew | apply IsS75.set_1 | apply IsS75.set_2) | exact HI574.out)) hb); have n5_ := am (below_step (by repeat (first | (with_reducible first | exact HB.out | apply below_alloc | apply pw_below_drewN | apply below_drew1 | refine below_set ?_ (IsS75.ge HI574.out)) | exact HB.out)) hb); clear HO_8 HO_10 HO588 HI574 HB; revert n0_ n1_ n2_ n3_ n4_ n5_; intro HO_8 HO_10 HO588 HO591 HI574 HB; (try clear hb); (try clear hb2); (try clear hk); (try clear hi); (try clear ho0)))
     go_meet
     case rel => exact ⟨_, (t589), H', ⟨by have := HJ2.out; first | omega | exact Nat.le_refl _⟩, ⟨Rz HO_8.out⟩, ⟨Rz (Kd.R_mono HO591.out (fun _ hk => trivial))⟩, ⟨by repeat (first | (with_reducible first | exact HI574.out | apply IsS75.alloc | apply IsS75.drewN | apply IsS75.drew | apply IsS75.set_1 | apply IsS75.set_2) | exact HI574.out)⟩, ⟨by repeat (first | (with_reducible first | exact HB.out | apply below_alloc | apply pw_below_drewN | apply below_drew1 | refine below_set ?_ (IsS75.ge HI574.out)) | exact HB.out)⟩⟩
    ·replace c13 := Bool.eq_false_iff.mpr c13
     subst c13
     rw [if_neg Bool.false_ne_true] at H; have H' := am H; clear H
     go_wp2
     go_meet
     case rel => exact ⟨_, (([] : List Int)), H', ⟨by have := HJ2.out; first | omega | exact Nat.le_refl _⟩, ⟨Rz HO_8.out⟩, ⟨Rz HO_10.out⟩, ⟨by repeat (first | (with_reducible first | exact HI574.out | apply IsS75.alloc | apply IsS75.drewN | apply IsS75.drew | apply IsS75.set_1 | apply IsS75.set_2) | exact HI574.out)⟩, ⟨by repeat (first | (with_reducible first | exact HB.out | apply below_alloc | apply pw_below_drewN | apply below_drew1 | refine below_set ?_ (IsS75.ge HI574.out)) | exact HB.out)⟩⟩
   case rest =>
    clear HC12
    try clear c1
    try clear p2
    try clear c3
    try clear c5
    try clear c6
    try clear c7
    try clear c8
    try clear c13
    try clear p2
    obtain ⟨kq, x10_11, HA, HJ11, HO_8, HO_10, HI574, HB⟩ := hcut; cases kq with
    | zero => exact absurd HA.out (by simp [spec_DrawIsPlacement.j1])
    | succ kj11 =>
     have H := HA.out; clear HA
     simp only [spec_DrawIsPlacement.j1] at H
     obtain ⟨⟨t593, t594, t595⟩, A20, H⟩ := ob H; (try dsimp -simprocs only at H); have H' := am H; clear H
     go_wp2_with (first | ((with_reducible refine gate_callee (f := 81) rfl ?_); refine gL (some 38) Try.func81 #[.pointer (some ⟨gb574, 0, none⟩), .int .i64 3] ?_; (with_reducible refine (spec_l1Cur_pick.calls gb574 l0 x575001_2 x575002_2 3 t593 t594 t595 w _ ?side1 ?side2 A20.out).mono ?_); (case side1 => repeat (first | (with_reducible first | exact HI574.out | apply IsS75.alloc | apply IsS75.drewN | apply IsS75.drew | apply IsS75.set_1 | apply IsS75.set_2) | exact HI574.out)); (case side2 => repeat (first | (with_reducible first | exact HB.out | apply below_alloc | apply pw_below_drewN | apply below_drew1 | refine below_set ?_ (IsS75.ge HI574.out)) | exact HB.out)); rintro e w21 ⟨rfl, hi, hb, hk⟩; refine ⟨_, rfl, ?_⟩; have n0_ := am (Kd.R_mono (Kd.R_keep (IsS75.apart (show IsS75 w _ gb574 l0 x575001_2 x575002_2 from by repeat (first | (with_reducible first | exact HI574.out | apply IsS75.alloc | apply IsS75.drewN | apply IsS75.drew | apply IsS75.set_1 | apply IsS75.set_2) | exact HI574.out)) (Rz HO_8.out) (by decide)) hk (fun _ h => h.2)) (fun _ h => h.1)); have n1_ := am (Kd.R_mono (Kd.R_keep (IsS75.apart (show IsS75 w _ gb574 l0 x575001_2 x575002_2 from by repeat (first | (with_reducible first | exact HI574.out | apply IsS75.alloc | apply IsS75.drewN | apply IsS75.drew | apply IsS75.set_1 | apply IsS75.set_2) | exact HI574.out)) (Rz HO_10.out) (by decide)) hk (fun _ h => h.2)) (fun _ h => h.1)); have n2_ := am (hb); have n3_ := am (hi); clear HO_8 HO_10 HB HI574; revert n0_ n1_ n2_ n3_; intro HO_8 HO_10 HB HI574; (try clear hb); (try clear hb2); (try clear hk); (try clear hi)))
     (try simp only [aP])
     go_loopg [10, 11] kj11 (fun kq v10 v11 w' => ∃ (x10_3 : List Int) (x11_3 : Int) (x575001_3 : Int) (x575002_3 : Int), v11 = .int .i64 x11_3 ∧ Aside0 (spec_DrawIsPlacement.l0 kq t575 t576 t579 x10_3 x11_3 l0 x575001_3 x575002_3 = some (r1, r2, r3, r4)) ∧ Aside0 (kq ≤ kj11) ∧ Aside0 (Kd.R Kd.string 9 w' w.heap.size (fun _ => True) v577 t576) ∧ Aside0 (Kd.R (Kd.int .i64) 3 w' w.heap.size (fun _ => True) v10 x10_3) ∧ Aside0 (IsS75 w w' gb574 l0 x575001_3 x575002_3) ∧ Aside0 (Below w.heap.size w w'))
     case atStart => exact ⟨(x10_11), (t593), (t594), (t595), wZ, H', ⟨Nat.le_refl _⟩, ⟨Rz HO_8.out⟩, ⟨Rz HO_10.out⟩, ⟨by repeat (first | (with_reducible first | exact HI574.out | apply IsS75.alloc | apply IsS75.drewN | apply IsS75.drew | apply IsS75.set_1 | apply IsS75.set_2) | exact HI574.out)⟩, ⟨by repeat (first | (with_reducible first | exact HB.out | apply below_alloc | apply pw_below_drewN | apply below_drew1 | refine below_set ?_ (IsS75.ge HI574.out)) | exact HB.out)⟩⟩
     case round =>
      clear H'
      try clear c1
      try clear p2
      try clear c3
      try clear c5
      try clear c6
      try clear c7
      try clear c8
      try clear c13
      try clear p2
      obtain ⟨x10_3, x11_3, x575001_3, x575002_3, rfl, HA, HK3, HO_8, HO_10, HI574, HB⟩ := hrel; cases gk with
      | zero => exact absurd HA.out (by simp [spec_DrawIsPlacement.l0])
      | succ k3 =>
       have H := HA.out; clear HA
       simp only [spec_DrawIsPlacement.l0] at H
       by_cases c22 : x11_3 > 0
       ·rw [if_pos c22] at H
        have c22b0 : decide (0 < x11_3) = true := decide_eq_true c22; clear c22
        by_cases c23 : (x10_3.length : Int) > 0
        ·rw [if_pos c23] at H
         have c23b0 : decide (0 < (x10_3.length : Int)) = true := decide_eq_true c23; have c23b1 : decide (0 < x10_3.length) = true := decide_eq_true (by omega); clear c23; obtain ⟨⟨t596, t597, t598⟩, A24, H⟩ := ob H; (try dsimp -simprocs only at H); obtain ⟨t599, A25, H⟩ := ob H; (try dsimp -simprocs only at H); obtain ⟨⟨t600, t601, t602⟩, A26, H⟩ := ob H; (try dsimp -simprocs only at H)
         by_cases c27 : 0 ≤ t596
         ·rw [if_pos c27] at H
          have c27b0 : decide (0 ≤ t596) = true := decide_eq_true c27; clear c27
          by_cases c28 : t596 < (x10_3.length : Int)
          ·rw [if_pos c28] at H
           have c28b0 : decide (t596 < (x10_3.length : Int)) = true := decide_eq_true c28; clear c28; obtain ⟨y603, hy603⟩ : ∃ y_ : List Int, y_ = (x10_3.set (t596 : Int).toNat t600) := ⟨_, rfl⟩
           replace H : (spec_DrawIsPlacement.l0 k3 t575 t576 t579 y603 (wrap64 (x11_3 - 1)) l0 t601 t602) = some (r1, r2, r3, r4) := by (try rw [hy603]); first | with_reducible exact H | exact (Option.bind_some _ _).symm.trans H | exact H
           have Ny603 := am hy603; clear hy603; have H' := am H; clear H; obtain ⟨Ao30, co30, eo30⟩ := Kd.R_slice HO_10.out; subst eo30
           go_wp2_with (first | ((with_reducible refine gate_callee (f := 81) rfl ?_); refine gL (some 50) Try.func81 #[.pointer (some ⟨gb574, 0, none⟩), .int .i64 (x10_3.length : Int)] ?_; (with_reducible refine (spec_l1Cur_pick.calls gb574 l0 x575001_3 x575002_3 (x10_3.length : Int) t596 t597 t598 w _ ?side1 ?side2 A24.out).mono ?_); (case side1 => repeat (first | (with_reducible first | exact HI574.out | apply IsS75.alloc | apply IsS75.drewN | apply IsS75.drew | apply IsS75.set_1 | apply IsS75.set_2) | exact HI574.out)); (case side2 => repeat (first | (with_reducible first | exact HB.out | apply below_alloc | apply pw_below_drewN | apply below_drew1 | refine below_set ?_ (IsS75.ge HI574.out)) | exact HB.out)); rintro e w31 ⟨rfl, hi, hb, hk⟩; refine ⟨_, rfl, ?_⟩; have n0_ := am (Kd.R_mono (Kd.R_keep (IsS75.apart (show IsS75 w _ gb574 l0 x575001_3 x575002_3 from by repeat (first | (with_reducible first | exact HI574.out | apply IsS75.alloc | apply IsS75.drewN | apply IsS75.drew | apply IsS75.set_1 | apply IsS75.set_2) | exact HI574.out)) (Rz HO_8.out) (by decide)) hk (fun _ h => h.2)) (fun _ h => h.1)); have n1_ := am (Kd.R_mono (Kd.R_keep (IsS75.apart (show IsS75 w _ gb574 l0 x575001_3 x575002_3 from by repeat (first | (with_reducible first | exact HI574.out | apply IsS75.alloc | apply IsS75.drewN | apply IsS75.drew | apply IsS75.set_1 | apply IsS75.set_2) | exact HI574.out)) (Rz HO_10.out) (by decide)) hk (fun _ h => h.2)) (fun _ h => h.1)); have n2_ := am (hb); have n3_ := am (hi); clear HO_8 HO_10 HB HI574; revert n0_ n1_ n2_ n3_; intro HO_8 HO_10 HB HI574; (try clear hb); (try clear hb2); (try clear hk); (try clear hi)) | ((with_reducible refine gate_callee (f := 93) rfl ?_); refine gL (some 53) Try.func93 #[.int .i64 t579, .int .i64 70] ?_; (with_reducible refine (spec_l1Clip.calls t579 70 t599 _ A25.out).mono ?_); rintro e w' ⟨rfl, ⟨nd, rfl⟩⟩; refine ⟨_, rfl, ?_⟩; (try (rw [drewN_self w31]; generalize hq_ : World.drewN w31 _ = w31; have n0_ : Aside0 (Kd.R (Kd.int .i64) 3 w31 w.heap.size (fun _ => True) (.slice Ao30 x10_3.length co30) x10_3) := ⟨by rw [← hq_]; exact (Rz HO_10.out)⟩; have n1_ : Aside0 (Kd.R Kd.string 9 w31 w.heap.size (fun _ => True) v577 t576) := ⟨by rw [← hq_]; exact (Rz HO_8.out)⟩; have n2_ : Aside0 (IsS75 w w31 gb574 l0 t597 t598) := ⟨by rw [← hq_]; exact (by repeat (first | (with_reducible first | exact HI574.out | apply IsS75.alloc | apply IsS75.drewN | apply IsS75.drew | apply IsS75.set_1 | apply IsS75.set_2) | exact HI574.out))⟩; have n3_ : Aside0 (Below w.heap.size w w31) := ⟨by rw [← hq_]; exact (by repeat (first | (with_reducible first | exact HB.out | apply below_alloc | apply pw_below_drewN | apply below_drew1 | refine below_set ?_ (IsS75.ge HI574.out)) | exact HB.out))⟩; clear HO_10 HO_8 HI574 HB hq_; revert n0_ n1_ n2_ n3_; intro HO_10 HO_8 HI574 HB))) | ((with_reducible refine gate_callee (f := 84) rfl ?_); refine gL (some 54) Try.func84 #[.pointer (some ⟨gb574, 0, none⟩), .int .i64 t599] ?_; (with_reducible refine (spec_l1Cur_place.calls gb574 l0 t597 t598 t599 t600 t601 t602 w _ ?side1 ?side2 A26.out).mono ?_); (case side1 => repeat (first | (with_reducible first | exact HI574.out | apply IsS75.alloc | apply IsS75.drewN | apply IsS75.drew | apply IsS75.set_1 | apply IsS75.set_2) | exact HI574.out)); (case side2 => repeat (first | (with_reducible first | exact HB.out | apply below_alloc | apply pw_below_drewN | apply below_drew1 | refine below_set ?_ (IsS75.ge HI574.out)) | exact HB.out)); rintro e w32 ⟨rfl, hi, hb, hk⟩; refine ⟨_, rfl, ?_⟩; have n0_ := am (Kd.R_mono (Kd.R_keep (IsS75.apart (show IsS75 w _ gb574 l0 t597 t598 from by repeat (first | (with_reducible first | exact HI574.out | apply IsS75.alloc | apply IsS75.drewN | apply IsS75.drew | apply IsS75.set_1 | apply IsS75.set_2) | exact HI574.out)) (Rz HO_8.out) (by decide)) hk (fun _ h => h.2)) (fun _ h => h.1)); have n1_ := am (Kd.R_mono (Kd.R_keep (IsS75.apart (show IsS75 w _ gb574 l0 t597 t598 from by repeat (first | (with_reducible first | exact HI574.out | apply IsS75.alloc | apply IsS75.drewN | apply IsS75.drew | apply IsS75.set_1 | apply IsS75.set_2) | exact HI574.out)) (Rz HO_10.out) (by decide)) hk (fun _ h => h.2)) (fun _ h => h.1)); have n2_ := am (hb); have n3_ := am (hi); clear HO_8 HO_10 HB HI574; revert n0_ n1_ n2_ n3_; intro HO_8 HO_10 HB HI574; (try clear hb); (try clear hb2); (try clear hk); (try clear hi); have p29 : 0 ≤ (t596 : Int) := dT; have q29 : (t596 : Int) < ((x10_3.length : Int) : Int) := dT; obtain ⟨go29, co29, eo29, gb29, gl29, cl29, HG29⟩ := Kd.R_form HO_10.out (by omega); (first | cases eo29 | (injection eo29 with ea_ en_ ec_; (first | subst ea_ | (injection ea_ with ea_; subst ea_)); subst ec_; clear en_)); have GB29 := am gb29; have GG29 := am HG29; clear gb29 gl29 HG29; obtain ⟨hx29_0, hf29_0⟩ := Kd.R_celln 0 HO_10.out (t596 : Int) p29 q29; replace p29 := eq_true p29; replace q29 := eq_true q29; obtain ⟨hy33_, hz33_⟩ := Kd.R_celln 0 HO_10.out (t596 : Int) (dT) (dT); have HP33 := Kd.R_putg HO_10.out (t596 : Int) t600) | ((with_reducible refine gate_store (t := 3) (p := 55) rfl ?_); refine store_event (t := 3) (p := 55) (v := ?vo_w34) (w1 := (w32.setCell ⟨go29, (t596 : Int).toNat, none⟩ (.int .i64 t600))) ?hg ?ho ?hn ?hr ?_; (case ho => rfl); (case hg => rfl); (case hn => rfl); (case hr => first | (go_simp; done) | (go_simp; rfl)); intro w34 hw; have hg : w32.grownBy w34 (some go29) := (by rw [hw]; exact HP33.2); have hp_ : Kd.R (Kd.int .i64) 3 w34 w.heap.size (fun _ => True) (.slice (some ⟨go29, 0, none⟩) x10_3.length co30) y603 := (by rw [hw, Ny603.out]; exact HP33.1); clear HP33; have n0_ := am (Kd.R_over' (v := (.slice (some ⟨go29, 0, none⟩) x10_3.length co30)) (Rz HO_8.out) (Kd.R_typed HO_10.out) (by decide) hg); have n1_ := am (hp_); have n2_ := am (IsS75.grown (by repeat (first | (with_reducible first | exact HI574.out | apply IsS75.alloc | apply IsS75.drewN | apply IsS75.drew | apply IsS75.set_1 | apply IsS75.set_2) | exact HI574.out)) hg (IsS75.own_ne HI574.out HO_10.out (by decide))); have n3_ := am ((by rw [hw]; exact below_set (HB.out) GB29.out : Below w.heap.size w w34)); clear HO_8 HO_10 HI574 HB; revert n0_ n1_ n2_ n3_; intro HO_8 HO_10 HI574 HB; clear hg hw hp_))
           go_roundg k3
           case measure => have := HJ2.out; have := HJ11.out; have := HK3.out; omega
           case rel => exact ⟨(y603), (wrap64 (x11_3 - 1)), (t601), (t602), wZ, H', ⟨by have := HJ2.out; have := HJ11.out; have := HK3.out; omega⟩, ⟨Rz HO_8.out⟩, ⟨Rz HO_10.out⟩, ⟨by repeat (first | (with_reducible first | exact HI574.out | apply IsS75.alloc | apply IsS75.drewN | apply IsS75.drew | apply IsS75.set_1 | apply IsS75.set_2) | exact HI574.out)⟩, ⟨by repeat (first | (with_reducible first | exact HB.out | apply below_alloc | apply pw_below_drewN | apply below_drew1 | refine below_set ?_ (IsS75.ge HI574.out)) | exact HB.out)⟩⟩
          ·rw [if_neg c28] at H
           exact absurd H (by simp)
         ·rw [if_neg c27] at H
          exact absurd H (by simp)
        ·rw [if_neg c23] at H
         have c23b0 : decide (0 < (x10_3.length : Int)) = false := decide_eq_false c23; have c23b1 : decide (0 < x10_3.length) = false := decide_eq_false (by omega); clear c23; obtain ⟨⟨t604, t605, t606⟩, A35, H⟩ := ob H; (try dsimp -simprocs only at H)
         by_cases c36 : x10_3.length < 17592186044416
         ·rw [if_pos c36] at H
          have LMc36 := am c36; clear c36; obtain ⟨y607, hy607⟩ : ∃ y_ : List Int, y_ = (x10_3 ++ [t604]) := ⟨_, rfl⟩
          replace H : (spec_DrawIsPlacement.l0 k3 t575 t576 t579 y607 (wrap64 (x11_3 - 1)) l0 t605 t606) = some (r1, r2, r3, r4) := by (try rw [hy607]); first | with_reducible exact H | exact (Option.bind_some _ _).symm.trans H | exact H
          have Ny607 := am hy607; clear hy607; have H' := am H; clear H; obtain ⟨Ao37, co37, eo37⟩ := Kd.R_slice HO_10.out; subst eo37
          go_wp2_with (first | ((with_reducible refine gate_callee (f := 84) rfl ?_); refine gL (some 58) Try.func84 #[.pointer (some ⟨gb574, 0, none⟩), .int .i64 9] ?_; (with_reducible refine (spec_l1Cur_place.calls gb574 l0 x575001_3 x575002_3 9 t604 t605 t606 w _ ?side1 ?side2 A35.out).mono ?_); (case side1 => repeat (first | (with_reducible first | exact HI574.out | apply IsS75.alloc | apply IsS75.drewN | apply IsS75.drew | apply IsS75.set_1 | apply IsS75.set_2) | exact HI574.out)); (case side2 => repeat (first | (with_reducible first | exact HB.out | apply below_alloc | apply pw_below_drewN | apply below_drew1 | refine below_set ?_ (IsS75.ge HI574.out)) | exact HB.out)); rintro e w38 ⟨rfl, hi, hb, hk⟩; refine ⟨_, rfl, ?_⟩; have n0_ := am (Kd.R_mono (Kd.R_keep (IsS75.apart (show IsS75 w _ gb574 l0 x575001_3 x575002_3 from by repeat (first | (with_reducible first | exact HI574.out | apply IsS75.alloc | apply IsS75.drewN | apply IsS75.drew | apply IsS75.set_1 | apply IsS75.set_2) | exact HI574.out)) (Rz HO_8.out) (by decide)) hk (fun _ h => h.2)) (fun _ h => h.1)); have n1_ := am (Kd.R_mono (Kd.R_keep (IsS75.apart (show IsS75 w _ gb574 l0 x575001_3 x575002_3 from by repeat (first | (with_reducible first | exact HI574.out | apply IsS75.alloc | apply IsS75.drewN | apply IsS75.drew | apply IsS75.set_1 | apply IsS75.set_2) | exact HI574.out)) (Rz HO_10.out) (by decide)) hk (fun _ h => h.2)) (fun _ h => h.1)); have n2_ := am (hb); have n3_ := am (hi); clear HO_8 HO_10 HB HI574; revert n0_ n1_ n2_ n3_; intro HO_8 HO_10 HB HI574; (try clear hb); (try clear hb2); (try clear hk); (try clear hi)) | ((with_reducible refine gate_builtin (b := .append) (xs := #[.tmp 56, .tmp 59]) rfl ?_); at_builtin; refine Kd.R_append (Kd.int .i64) (w0 := w) w.heap.size rfl (.tmp 56) (.tmp 59) 31 3 (.int .i64 0) 8 rfl Try.underlying31 info3 rfl (by decide) (by omega) (.slice Ao37 x10_3.length co37) x10_3 t604 [.int .i64 t604] (fun _ => True) (fun _ => False) rfl rfl ?aP (fun _ hk => hk.elim) ?aF ?aO ?aB ?aS ?aL ?_; (case aP => exact rfl); (case aB => exact (by repeat (first | (with_reducible first | exact HB.out | apply below_alloc | apply pw_below_drewN | apply below_drew1 | refine below_set ?_ (IsS75.ge HI574.out)) | exact HB.out))); (case aF => exact (fun _ _ => trivial)); (case aO => exact (Rz HO_10.out)); (case aS => exact (below_size (by repeat (first | (with_reducible first | exact HB.out | apply below_alloc | apply pw_below_drewN | apply below_drew1 | refine below_set ?_ (IsS75.ge HI574.out)) | exact HB.out)))); (case aL => have := LMc36.out; omega); intro v608 w39 ho hb hg hat; rw [← Ny607.out] at ho; have n0_ := am (Kd.R_over' (Rz HO_8.out) (Kd.R_typed (Rz HO_10.out)) (by decide) hg); have n1_ := am (IsS75.grown (by repeat (first | (with_reducible first | exact HI574.out | apply IsS75.alloc | apply IsS75.drewN | apply IsS75.drew | apply IsS75.set_1 | apply IsS75.set_2) | exact HI574.out)) hg (IsS75.own_ne HI574.out HO_10.out (by decide))); have n2_ := am (hb); have n3_ := am (ho); clear HO_8 HI574 HB HO_10; revert n0_ n1_ n2_ n3_; intro HO_8 HI574 HB HO609; clear ho hb hg hat))
          go_roundg k3
          case measure => have := HJ2.out; have := HJ11.out; have := HK3.out; omega
          case rel => exact ⟨(y607), (wrap64 (x11_3 - 1)), (t605), (t606), wZ, H', ⟨by have := HJ2.out; have := HJ11.out; have := HK3.out; omega⟩, ⟨Rz HO_8.out⟩, ⟨Rz HO609.out⟩, ⟨by repeat (first | (with_reducible first | exact HI574.out | apply IsS75.alloc | apply IsS75.drewN | apply IsS75.drew | apply IsS75.set_1 | apply IsS75.set_2) | exact HI574.out)⟩, ⟨by repeat (first | (with_reducible first | exact HB.out | apply below_alloc | apply pw_below_drewN | apply below_drew1 | refine below_set ?_ (IsS75.ge HI574.out)) | exact HB.out)⟩⟩
         ·rw [if_neg c36] at H
          exact absurd H (by simp)
       ·rw [if_neg c22] at H
        have c22b0 : decide (0 < x11_3) = false := decide_eq_false c22; clear c22
        simp only [Option.some.injEq, Prod.mk.injEq] at H
        obtain ⟨rfl, rfl, rfl, rfl⟩ := H
        go_wp2
        refine bodyPost_ret (results_list (rs := [.tmp 2, .tmp 3, .tmp 4, .tmp 5]) rfl (by simp) (.tmp (.tmp (.tmp (.tmp .nil))))) rfl ?_; exact ⟨_, _, eZ, Rz HO_8.out, Rz HO_10.out, by repeat (first | (with_reducible first | exact HB.out | apply below_alloc | apply pw_below_drewN | apply below_drew1 | refine below_set ?_ (IsS75.ge HI574.out)) | exact HB.out)⟩

def spec_cuPlaced.l0 : Nat → List (List Int) → List Int → List Int → Int → Int → Option (Bool)
 | 0, _, _, _, _, _ => none
 | k + 1, x0, x1, x12, x13, x14 => if x14 < x13 then (if 0 ≤ x14 then (if x14 < (x12.length : Int) then (if x14 < (x0.length : Int) then ((spec_l1Has.f k (rd_L3 x0 x14) (rd x12 x14)).bind fun t612 => (if t612 = true then (if x14 ≤ (x1.length : Int) then ((spec_l1Has.f k (x1.take (x14 : Int).toNat) (rd x12 x14)).bind fun t614 => (if t614 = true then (some false) else (spec_cuPlaced.l0 k x0 x1 x12 x13 (wrap64 (x14 + 1))))) else (none)) else (some false))) else (none)) else (none)) else (none)) else (some true)
def spec_cuPlaced.f (k : Nat) (l0 : List (List Int)) (l1 : List Int) : Option (Bool) := if (l1.length : Int) = (l0.length : Int) then (spec_cuPlaced.l0 k l0 l1 l1 (l1.length : Int) 0) else (some false)
theorem spec_cuPlaced.calls (k : Nat) (A0 : Option Addr) (c0 : Nat) (l0 : List (List Int)) (A1 : Option Addr) (c1 : Nat) (l1 : List Int) (r : Bool) (w : World) (hr0 : Kd.C (Kd.slice 3 (Kd.int .i64)) w A0 l0.length l0) (hc0 : l0.length ≤ c0) (hr1 : Kd.C (Kd.int .i64) w A1 l1.length l1) (hc1 : l1.length ≤ c1) (h : spec_cuPlaced.f k l0 l1 = some r) :
  Calls Try.prog 89 #[.slice A0 l0.length c0, .slice A1 l1.length c1] w fun e w' => e = .returned (.bool r) ∧ Drawn0 w w' := by
 have HR0 := am hr0; have HC0 := am hc0; clear hr0 hc0; have HR1 := am hr1; have HC1 := am hc1; clear hr1 hc1; have H : (if (l1.length : Int) = (l0.length : Int) then (spec_cuPlaced.l0 k l0 l1 l1 (l1.length : Int) 0) else (some false)) = some r := h; clear h
 by_cases c3 : (l1.length : Int) = (l0.length : Int)
 ·rw [if_pos c3] at H
  have c3b0 : ((l1.length : Int) == (l0.length : Int)) = true := beq_iff_eq.mpr c3; have c3b1 : ((l1.length : Int) != (l0.length : Int)) = false := bne_eq_false_iff_eq.mpr c3
  have c3b2 : (l1.length == l0.length) = true := by first | simpa using c3 | (simp at c3 ⊢; omega)
  clear c3; have H' := am H; clear H
  go_enter Try.func89, Try.ntmps89
  go_wp2
  go_loopg [14] k (fun kq v14 w' => ∃ (x14_1 : Int), v14 = .int .i64 x14_1 ∧ Aside0 (spec_cuPlaced.l0 kq l0 l1 l1 (l1.length : Int) x14_1 = some r) ∧ Aside0 (kq ≤ k) ∧ Drawn0 w w')
  case atStart => exact ⟨(0), wZ, H', ⟨Nat.le_refl _⟩, by repeat (first | exact Drawn0.refl _ | apply Drawn0.step)⟩
  case round =>
   clear H'
   try clear c1
   try clear p2
   try clear c3
   try clear c3b0
   try clear c3b1
   try clear c3b2
   obtain ⟨x14_1, rfl, HA, HK1, ⟨m1, rfl⟩⟩ := hrel; cases gk with
   | zero => exact absurd HA.out (by simp [spec_cuPlaced.l0])
   | succ k1 =>
    have H := HA.out; clear HA
    simp only [spec_cuPlaced.l0] at H
    by_cases c4 : x14_1 < (l1.length : Int)
    ·rw [if_pos c4] at H
     have c4b0 : decide (x14_1 < (l1.length : Int)) = true := decide_eq_true c4; clear c4
     by_cases c5 : 0 ≤ x14_1
     ·rw [if_pos c5] at H
      have c5b0 : decide (0 ≤ x14_1) = true := decide_eq_true c5; clear c5
      by_cases c6 : x14_1 < (l1.length : Int)
      ·rw [if_pos c6] at H
       have c6b0 : decide (x14_1 < (l1.length : Int)) = true := decide_eq_true c6; clear c6
       by_cases c7 : x14_1 < (l0.length : Int)
       ·rw [if_pos c7] at H
        have c7b0 : decide (x14_1 < (l0.length : Int)) = true := decide_eq_true c7; clear c7; obtain ⟨t612, A8, H⟩ := ob H; (try dsimp -simprocs only at H)
        by_cases c9 : t612 = true
        ·subst c9
         rw [if_pos rfl] at H; have c10b0 := eq_true (dT : 0 ≤ x14_1)
         by_cases c11 : x14_1 ≤ (l1.length : Int)
         ·rw [if_pos c11] at H
          have c11b0 := eq_true c11; have c11b1 : decide (x14_1 ≤ (l1.length : Int)) = true := decide_eq_true c11; clear c11; obtain ⟨t614, A12, H⟩ := ob H; (try dsimp -simprocs only at H)
          by_cases c13 : t614 = true
          ·subst c13
           rw [if_pos rfl] at H; obtain rfl := Option.some.inj H; obtain ⟨ad610, e610, hx610_0⟩ := Kd.at_int HR1.out x14_1 dT dT; cases e610; have p610 := eT (0 ≤ (x14_1 : Int)); have q610 := eT (x14_1 < (l1.length : Int)); have p611 : 0 ≤ (x14_1 : Int) := dT; have q611 : x14_1 < (l0.length : Int) := dT; obtain ⟨ad611, A611_0, c611_0, e611, hx611_0, hl611_0, hi611_0⟩ := at_L3 HR0.out x14_1 p611 q611; cases e611; have HR611_0 := am hi611_0; have HC611_0 := am hl611_0; clear hi611_0 hl611_0; replace p611 := eq_true p611; replace q611 := eq_true q611
           go_wp2_with (first | ((with_reducible refine gate_callee (f := 82) rfl ?_); refine gL (some 24) Try.func82 #[.slice A611_0 (rd_L3 l0 x14_1).length c611_0, .int .i64 (rd l1 x14_1)] ?_; (with_reducible refine (spec_l1Has.calls k1 _ _ (rd_L3 l0 x14_1) (rd l1 x14_1) true _ ?side1 ?side2 A8.out).mono ?_); (case side1 => exact Cz HR611_0.out); (case side2 => exact HC611_0.out); rintro e w' ⟨rfl, ⟨nd, rfl⟩⟩; refine ⟨_, rfl, ?_⟩; obtain ⟨i014, hi014, _, hsz14, _⟩ := info_parts info3; obtain ⟨hcut14, hA14, hC14⟩ := print_take_of (P := Try.prog) (Value.int .i64) 0 31 3 .i64 Try.underlying31 hi014 hsz14 (some ad610) c1 l1 x14_1 (dT) (dT) HC1.out; have HR613 := am (Kd.C_of_reads (h1 := fun _ => rfl) (hA14 _ (Kd.reads_of_C HR1.out))); have HC613 := am hC14; clear hA14 hC14 hi014 hsz14) | (go_at_call 82; refine calls_of_args (args' := #[.slice (some ad610) (l1.take (x14_1 : Int).toNat).length c1, .int .i64 (rd l1 x14_1)]) (by rw [List.length_take, Nat.min_eq_left (by have h_ : x14_1 ≤ (l1.length : Int) := dT; omega)]) ?_; (with_reducible refine (spec_l1Has.calls k1 _ _ (l1.take (x14_1 : Int).toNat) (rd l1 x14_1) true _ ?side1 ?side2 A12.out).mono ?_); (case side1 => exact Cz HR613.out); (case side2 => exact HC613.out); rintro e w' ⟨rfl, ⟨nd, rfl⟩⟩))
           go_ret
           exact ⟨by first | rfl | (simp; done) | (simp [*]; done), by repeat (first | exact Drawn0.refl _ | apply Drawn0.step)⟩
          ·replace c13 := Bool.eq_false_iff.mpr c13
           subst c13
           rw [if_neg Bool.false_ne_true] at H; have H' := am H; clear H; obtain ⟨ad610, e610, hx610_0⟩ := Kd.at_int HR1.out x14_1 dT dT; cases e610; have p610 := eT (0 ≤ (x14_1 : Int)); have q610 := eT (x14_1 < (l1.length : Int)); have p611 : 0 ≤ (x14_1 : Int) := dT; have q611 : x14_1 < (l0.length : Int) := dT; obtain ⟨ad611, A611_0, c611_0, e611, hx611_0, hl611_0, hi611_0⟩ := at_L3 HR0.out x14_1 p611 q611; cases e611; have HR611_0 := am hi611_0; have HC611_0 := am hl611_0; clear hi611_0 hl611_0; replace p611 := eq_true p611; replace q611 := eq_true q611
           go_wp2_with (first | ((with_reducible refine gate_callee (f := 82) rfl ?_); refine gL (some 24) Try.func82 #[.slice A611_0 (rd_L3 l0 x14_1).length c611_0, .int .i64 (rd l1 x14_1)] ?_; (with_reducible refine (spec_l1Has.calls k1 _ _ (rd_L3 l0 x14_1) (rd l1 x14_1) true _ ?side1 ?side2 A8.out).mono ?_); (case side1 => exact Cz HR611_0.out); (case side2 => exact HC611_0.out); rintro e w' ⟨rfl, ⟨nd, rfl⟩⟩; refine ⟨_, rfl, ?_⟩; obtain ⟨i015, hi015, _, hsz15, _⟩ := info_parts info3; obtain ⟨hcut15, hA15, hC15⟩ := print_take_of (P := Try.prog) (Value.int .i64) 0 31 3 .i64 Try.underlying31 hi015 hsz15 (some ad610) c1 l1 x14_1 (dT) (dT) HC1.out; have HR613 := am (Kd.C_of_reads (h1 := fun _ => rfl) (hA15 _ (Kd.reads_of_C HR1.out))); have HC613 := am hC15; clear hA15 hC15 hi015 hsz15) | (go_at_call 82; refine calls_of_args (args' := #[.slice (some ad610) (l1.take (x14_1 : Int).toNat).length c1, .int .i64 (rd l1 x14_1)]) (by rw [List.length_take, Nat.min_eq_left (by have h_ : x14_1 ≤ (l1.length : Int) := dT; omega)]) ?_; (with_reducible refine (spec_l1Has.calls k1 _ _ (l1.take (x14_1 : Int).toNat) (rd l1 x14_1) false _ ?side1 ?side2 A12.out).mono ?_); (case side1 => exact Cz HR613.out); (case side2 => exact HC613.out); rintro e w' ⟨rfl, ⟨nd, rfl⟩⟩))
           go_roundg k1
           case measure => have := HK1.out; omega
           case rel => exact ⟨(wrap64 (x14_1 + 1)), wZ, H', ⟨by have := HK1.out; omega⟩, by repeat (first | exact Drawn0.refl _ | apply Drawn0.step)⟩
         ·rw [if_neg c11] at H
          exact absurd H (by simp)
        ·replace c9 := Bool.eq_false_iff.mpr c9
         subst c9
         rw [if_neg Bool.false_ne_true] at H; obtain rfl := Option.some.inj H; obtain ⟨ad610, e610, hx610_0⟩ := Kd.at_int HR1.out x14_1 dT dT; cases e610; have p610 := eT (0 ≤ (x14_1 : Int)); have q610 := eT (x14_1 < (l1.length : Int)); have p611 : 0 ≤ (x14_1 : Int) := dT; have q611 : x14_1 < (l0.length : Int) := dT; obtain ⟨ad611, A611_0, c611_0, e611, hx611_0, hl611_0, hi611_0⟩ := at_L3 HR0.out x14_1 p611 q611; cases e611; have HR611_0 := am hi611_0; have HC611_0 := am hl611_0; clear hi611_0 hl611_0; replace p611 := eq_true p611; replace q611 := eq_true q611
         go_wp2_with (first | ((with_reducible refine gate_callee (f := 82) rfl ?_); refine gL (some 24) Try.func82 #[.slice A611_0 (rd_L3 l0 x14_1).length c611_0, .int .i64 (rd l1 x14_1)] ?_; (with_reducible refine (spec_l1Has.calls k1 _ _ (rd_L3 l0 x14_1) (rd l1 x14_1) false _ ?side1 ?side2 A8.out).mono ?_); (case side1 => exact Cz HR611_0.out); (case side2 => exact HC611_0.out); rintro e w' ⟨rfl, ⟨nd, rfl⟩⟩; refine ⟨_, rfl, ?_⟩))
         go_ret
         exact ⟨by first | rfl | (simp; done) | (simp [*]; done), by repeat (first | exact Drawn0.refl _ | apply Drawn0.step)⟩
       ·rw [if_neg c7] at H
        exact absurd H (by simp)
      ·rw [if_neg c6] at H
       exact absurd H (by simp)
     ·rw [if_neg c5] at H
      exact absurd H (by simp)
    ·rw [if_neg c4] at H
     have c4b0 : decide (x14_1 < (l1.length : Int)) = false := decide_eq_false c4; clear c4; obtain rfl := Option.some.inj H
     go_wp2
     go_ret
     exact ⟨by first | rfl | (simp; done) | (simp [*]; done), by repeat (first | exact Drawn0.refl _ | apply Drawn0.step)⟩
 ·rw [if_neg c3] at H
  have c3b0 : ((l1.length : Int) == (l0.length : Int)) = false := beq_eq_false_iff_ne.mpr c3; have c3b1 : ((l1.length : Int) != (l0.length : Int)) = true := bne_iff_ne.mpr c3
  have c3b2 : (l1.length == l0.length) = false := by first | simpa using c3 | (simp at c3 ⊢; omega)
  obtain rfl := Option.some.inj H
  go_enter Try.func89, Try.ntmps89
  go_wp2
  go_ret
  exact ⟨by first | rfl | (simp; done) | (simp [*]; done), by repeat (first | exact Drawn0.refl _ | apply Drawn0.step)⟩


end Go.Proofs.Ytephjmmkggcmeaa.PC
namespace Go.Proofs.Ytephjmmkggcmeaa.PC
open Go.RowKit Go.Proofs.YtephjmmkggcmeaaW.PrintWords Go.Proofs.YtephjmmkggcmeaaW.PrintLast Go.Proofs.YtephjmmkggcmeaaW.PrintMore Go.Proofs.YtephjmmkggcmeaaSq
attribute [local go_sem] max2_int min2_int max_two min_two max_three min_three max_four min_four   -- for this text's walks alone
attribute [local go_sem] Go.Proofs.YtephjmmkggcmeaaGp.str_geq Go.Proofs.YtephjmmkggcmeaaGp.str_gtr Go.Proofs.YtephjmmkggcmeaaGp.str_leq
set_option linter.unusedVariables false
set_option linter.unusedSimpArgs false

set_option maxHeartbeats 8000000
set_option maxRecDepth 100000
def spec_IsPlacement.f (k : Nat) (a0 : Int) (l1 : List ByteArray) (a2 : Int) (l3 : List Int) : Option (Bool × Bool) := (spec_cuKeyed.f k a0 l1 a2).bind fun t615 => (if t615 = true then ((spec_cuPairs.f k a0 l1 a2).bind fun t616 => ((spec_cuPlaced.f k t616 l3).bind fun t619 => (some (t619, true)))) else (some (false, false)))
theorem spec_IsPlacement.calls (k : Nat) (a0 : Int) (A1 : Option Addr) (c1 : Nat) (l1 : List ByteArray) (a2 : Int) (A3 : Option Addr) (c3 : Nat) (l3 : List Int) (r1 : Bool) (r2 : Bool) (w : World) (hr1 : Kd.C Kd.string w A1 l1.length l1) (hc1 : l1.length ≤ c1) (hr3 : Kd.C (Kd.int .i64) w A3 l3.length l3) (hc3 : l3.length ≤ c3) (h : spec_IsPlacement.f k a0 l1 a2 l3 = some (r1, r2)) :
  Calls Try.prog 37 #[.int .i64 a0, .slice A1 l1.length c1, .int .i64 a2, .slice A3 l3.length c3] w fun e w' => e = .returned (.tuple #[.bool r1, .bool r2]) ∧ Below w.heap.size w w' := by
 have HR1 := am hr1; have HC1 := am hc1; clear hr1 hc1; have HR3 := am hr3; have HC3 := am hc3; clear hr3 hc3; have HB := am (Below.refl w.heap.size w); have H : ((spec_cuKeyed.f k a0 l1 a2).bind fun t615 => (if t615 = true then ((spec_cuPairs.f k a0 l1 a2).bind fun t616 => ((spec_cuPlaced.f k t616 l3).bind fun t619 => (some (t619, true)))) else (some (false, false)))) = some (r1, r2) := h; clear h; obtain ⟨t615, A5, H⟩ := ob H; (try dsimp -simprocs only at H)
 by_cases c6 : t615 = true
 ·subst c6
  rw [if_pos rfl] at H; obtain ⟨t616, A7, H⟩ := ob H; (try dsimp -simprocs only at H); obtain ⟨t619, A8, H⟩ := ob H; (try dsimp -simprocs only at H)
  simp only [Option.some.injEq, Prod.mk.injEq] at H
  obtain ⟨rfl, rfl⟩ := H
  go_enter Try.func37, Try.ntmps37
  go_wp2_with (first | ((with_reducible refine gate_callee (f := 62) rfl ?_); refine gL (some 13) Try.func62 #[.int .i64 a0, .slice A1 l1.length c1, .int .i64 a2] ?_; (with_reducible refine (spec_cuKeyed.calls k a0 _ _ l1 a2 true _ ?side1 ?side2 A5.out).mono ?_); (case side1 => exact Cz HR1.out); (case side2 => exact HC1.out); rintro e w' ⟨rfl, ⟨nd, rfl⟩⟩; refine ⟨_, rfl, ?_⟩) | ((with_reducible refine gate_callee (f := 64) rfl ?_); refine gL (some 18) Try.func64 #[.int .i64 a0, .slice A1 l1.length c1, .int .i64 a2] ?_; (with_reducible refine (spec_cuPairs.calls k a0 _ _ l1 a2 t616 _ ?side1 ?side2 A7.out).mono ?_); (case side1 => exact Cz HR1.out); (case side2 => exact HC1.out); rintro e w9 ⟨v617, rfl, ho0, hb⟩; refine ⟨_, rfl, ?_⟩; have n0_ := am (Kd.S_lower ho0 (below_size (Bz HB.out))); have n1_ := Bb HB hb; clear HB; revert n0_ n1_; intro HO618 HB; (try clear hb); (try clear hb2); (try clear hk); (try clear hi); (try clear ho0); obtain ⟨Ao10, co10, eo10⟩ := Kd.S_slice HO618.out; subst eo10) | ((with_reducible refine gate_callee (f := 89) rfl ?_); refine gL (some 20) Try.func89 #[.slice Ao10 t616.length co10, .slice A3 l3.length c3] ?_; (with_reducible refine (spec_cuPlaced.calls k _ _ t616 _ _ l3 t619 _ ?side1 ?side2 ?side3 ?side4 A8.out).mono ?_); (case side1 => exact Cz ((Kd.S_reads' HO618.out).2.2)); (case side2 => exact (Kd.S_reads' HO618.out).2.1); (case side3 => exact Cz (Kd.C_below HR3.out HB.out)); (case side4 => exact HC3.out); rintro e w' ⟨rfl, ⟨nd, rfl⟩⟩; refine ⟨_, rfl, ?_⟩))
  go_ret2
  exact ⟨eZ, Bz HB.out⟩
 ·replace c6 := Bool.eq_false_iff.mpr c6
  subst c6
  rw [if_neg Bool.false_ne_true] at H
  simp only [Option.some.injEq, Prod.mk.injEq] at H
  obtain ⟨rfl, rfl⟩ := H
  go_enter Try.func37, Try.ntmps37
  go_wp2_with (first | ((with_reducible refine gate_callee (f := 62) rfl ?_); refine gL (some 13) Try.func62 #[.int .i64 a0, .slice A1 l1.length c1, .int .i64 a2] ?_; (with_reducible refine (spec_cuKeyed.calls k a0 _ _ l1 a2 false _ ?side1 ?side2 A5.out).mono ?_); (case side1 => exact Cz HR1.out); (case side2 => exact HC1.out); rintro e w' ⟨rfl, ⟨nd, rfl⟩⟩; refine ⟨_, rfl, ?_⟩))
  go_ret2
  exact ⟨eZ, Bz HB.out⟩

def spec_DrawIsCrowd.l0 : Nat → Int → List ByteArray → Int → List Int → Int → Int → List Int → Int → Int → Option (Int × List ByteArray × Int × List Int)
 | 0, _, _, _, _, _, _, _, _, _ => none
 | k + 1, x7, x8, x9, x10, x22, x23, x621000, x621001, x621002 => if x23 < x22 then ((spec_l1Cur_one.f x621000 x621001 x621002 4).bind fun bt628 => (if bt628.1 = true then (spec_DrawIsCrowd.l0 k x7 x8 x9 x10 x22 (wrap64 (x23 + 1)) x621000 bt628.2.1 bt628.2.2) else (if x10.length < 17592186044416 then (spec_DrawIsCrowd.l0 k x7 x8 x9 (x10 ++ [x23]) x22 (wrap64 (x23 + 1)) x621000 bt628.2.1 bt628.2.2) else (none)))) else ((spec_l1Cur_one.f x621000 x621001 x621002 8).bind fun bt634 => (if bt634.1 = true then ((spec_l1Cur_place.f x621000 bt634.2.1 bt634.2.2 (x8.length : Int)).bind fun bt637 => (if x10.length < 17592186044416 then (some (x7, x8, x9, (x10 ++ [bt637.1]))) else (none))) else (some (x7, x8, x9, x10))))
def spec_DrawIsCrowd.f (k : Nat) (l0 : List Int) : Option (Int × List ByteArray × Int × List Int) := (spec_l1Cur_keyed.f k l0 0 0).bind fun bt621 => (spec_DrawIsCrowd.l0 k bt621.1 bt621.2.1 bt621.2.2.1 ([] : List Int) (bt621.2.1.length : Int) 0 l0 bt621.2.2.2.1 bt621.2.2.2.2)
theorem spec_DrawIsCrowd.calls (k : Nat) (A0 : Option Addr) (c0 : Nat) (l0 : List Int) (r1 : Int) (r2 : List ByteArray) (r3 : Int) (r4 : List Int) (w : World) (hr0 : Kd.C (Kd.int .u8) w A0 l0.length l0) (hc0 : l0.length ≤ c0) (h : spec_DrawIsCrowd.f k l0 = some (r1, r2, r3, r4)) :
  Calls Try.prog 38 #[.slice A0 l0.length c0] w fun e w' => ∃ v1_ v3_ : Value, e = .returned (.tuple #[.int .i64 r1, v1_, .int .i64 r3, v3_]) ∧ Kd.R Kd.string 9 w' w.heap.size (fun _ => True) v1_ r2 ∧ Kd.R (Kd.int .i64) 3 w' w.heap.size (fun _ => True) v3_ r4 ∧ Below w.heap.size w w' := by
 have hu75 := Try.underlying75; have HR0 := am hr0; have HC0 := am hc0; clear hr0 hc0; have HB := am (Below.refl w.heap.size w); have H : ((spec_l1Cur_keyed.f k l0 0 0).bind fun bt621 => (spec_DrawIsCrowd.l0 k bt621.1 bt621.2.1 bt621.2.2.1 ([] : List Int) (bt621.2.1.length : Int) 0 l0 bt621.2.2.2.1 bt621.2.2.2.2)) = some (r1, r2, r3, r4) := h; clear h; obtain ⟨⟨t621, t622, t625, t626, t627⟩, A2, H⟩ := ob H; (try dsimp -simprocs only at H); have H' := am H; clear H
 go_enter Try.func38, Try.ntmps38
 go_wp2_with (first | ((with_reducible refine gate_dst (N := 14) rfl ?_); refine bE 14 #[.slice A0 l0.length c0, .int .i64 0, .int .u64 0] 75 ?_; intro gb620 hg w3 hbox hb; have n0_ := Bb HB hb; have n1_ := am (hbox); have n2_ := Gl HB hg; have n3_ := Gl HB hg; clear HB; revert n0_ n1_ n2_ n3_; intro HB BK620 GW620 GE620; clear hb hbox hg; have HI620 := am (show IsS75 w _ gb620 l0 0 0 from ⟨A0, c0, BK620.out, GE620.out, HR0.out⟩); clear BK620) | ((with_reducible refine gate_callee (f := 59) rfl ?_); refine gL (some 17) Try.func59 #[.pointer (some ⟨gb620, 0, none⟩)] ?_; (with_reducible refine (spec_l1Cur_keyed.calls k gb620 l0 0 0 t621 t622 t625 t626 t627 w _ ?side1 ?side2 A2.out).mono ?_); (case side1 => repeat (first | (with_reducible first | exact HI620.out | apply IsS75.alloc | apply IsS75.drewN | apply IsS75.drew | apply IsS75.set_1 | apply IsS75.set_2) | exact HI620.out)); (case side2 => repeat (first | (with_reducible first | exact HB.out | apply below_alloc | apply pw_below_drewN | apply below_drew1 | refine below_set ?_ (IsS75.ge HI620.out)) | exact HB.out)); rintro e w4 ⟨v623, rfl, ho0, hi, hb, hk⟩; refine ⟨_, rfl, ?_⟩; have n0_ := am (Kd.R_lower ho0 (below_size (by repeat (first | (with_reducible first | exact HB.out | apply below_alloc | apply pw_below_drewN | apply below_drew1 | refine below_set ?_ (IsS75.ge HI620.out)) | exact HB.out)))); have n1_ := am (hb); have n2_ := am (hi); clear HB HI620; revert n0_ n1_ n2_; intro HO624 HB HI620; (try clear hb); (try clear hb2); (try clear hk); (try clear hi); (try clear ho0); obtain ⟨Ao5, co5, eo5⟩ := Kd.R_slice HO624.out; subst eo5))
 (try simp only [aP])
 go_loopg [10, 23] k (fun kq v10 v23 w' => ∃ (x10_1 : List Int) (x23_1 : Int) (x621001_1 : Int) (x621002_1 : Int), v23 = .int .i64 x23_1 ∧ Aside0 (spec_DrawIsCrowd.l0 kq t621 t622 t625 x10_1 (t622.length : Int) x23_1 l0 x621001_1 x621002_1 = some (r1, r2, r3, r4)) ∧ Aside0 (kq ≤ k) ∧ Aside0 (Kd.R Kd.string 9 w' w.heap.size (fun _ => True) (.slice Ao5 t622.length co5) t622) ∧ Aside0 (Kd.R (Kd.int .i64) 3 w' w.heap.size (fun _ => True) v10 x10_1) ∧ Aside0 (IsS75 w w' gb620 l0 x621001_1 x621002_1) ∧ Aside0 (Below w.heap.size w w'))
 case atStart => exact ⟨(([] : List Int)), (0), (t626), (t627), wZ, H', ⟨Nat.le_refl _⟩, ⟨Rz HO624.out⟩, ⟨nZ⟩, ⟨by repeat (first | (with_reducible first | exact HI620.out | apply IsS75.alloc | apply IsS75.drewN | apply IsS75.drew | apply IsS75.set_1 | apply IsS75.set_2) | exact HI620.out)⟩, ⟨by repeat (first | (with_reducible first | exact HB.out | apply below_alloc | apply pw_below_drewN | apply below_drew1 | refine below_set ?_ (IsS75.ge HI620.out)) | exact HB.out)⟩⟩
 case round =>
  clear H'
  try clear p2
  try clear c3
  try clear c5
  obtain ⟨x10_1, x23_1, x621001_1, x621002_1, rfl, HA, HK1, HO_8, HO_10, HI620, HB⟩ := hrel; cases gk with
  | zero => exact absurd HA.out (by simp [spec_DrawIsCrowd.l0])
  | succ k1 =>
   have H := HA.out; clear HA
   simp only [spec_DrawIsCrowd.l0] at H
   by_cases c6 : x23_1 < (t622.length : Int)
   ·rw [if_pos c6] at H
    have c6b0 : decide (x23_1 < (t622.length : Int)) = true := decide_eq_true c6; clear c6; obtain ⟨⟨t628, t629, t630⟩, A7, H⟩ := ob H; (try dsimp -simprocs only at H)
    by_cases c8 : t628 = true
    ·subst c8
     rw [if_pos rfl] at H; have H' := am H; clear H
     go_wp2_with (first | ((with_reducible refine gate_callee (f := 83) rfl ?_); refine gL (some 27) Try.func83 #[.pointer (some ⟨gb620, 0, none⟩), .int .i64 4] ?_; (with_reducible refine (spec_l1Cur_one.calls gb620 l0 x621001_1 x621002_1 4 true t629 t630 w _ ?side1 ?side2 A7.out).mono ?_); (case side1 => repeat (first | (with_reducible first | exact HI620.out | apply IsS75.alloc | apply IsS75.drewN | apply IsS75.drew | apply IsS75.set_1 | apply IsS75.set_2) | exact HI620.out)); (case side2 => repeat (first | (with_reducible first | exact HB.out | apply below_alloc | apply pw_below_drewN | apply below_drew1 | refine below_set ?_ (IsS75.ge HI620.out)) | exact HB.out)); rintro e w9 ⟨rfl, hi, hb, hk⟩; refine ⟨_, rfl, ?_⟩; have n0_ := am (Kd.R_mono (Kd.R_keep (IsS75.apart (show IsS75 w _ gb620 l0 x621001_1 x621002_1 from by repeat (first | (with_reducible first | exact HI620.out | apply IsS75.alloc | apply IsS75.drewN | apply IsS75.drew | apply IsS75.set_1 | apply IsS75.set_2) | exact HI620.out)) (Rz HO_8.out) (by decide)) hk (fun _ h => h.2)) (fun _ h => h.1)); have n1_ := am (Kd.R_mono (Kd.R_keep (IsS75.apart (show IsS75 w _ gb620 l0 x621001_1 x621002_1 from by repeat (first | (with_reducible first | exact HI620.out | apply IsS75.alloc | apply IsS75.drewN | apply IsS75.drew | apply IsS75.set_1 | apply IsS75.set_2) | exact HI620.out)) (Rz HO_10.out) (by decide)) hk (fun _ h => h.2)) (fun _ h => h.1)); have n2_ := am (hb); have n3_ := am (hi); clear HO_8 HO_10 HB HI620; revert n0_ n1_ n2_ n3_; intro HO_8 HO_10 HB HI620; (try clear hb); (try clear hb2); (try clear hk); (try clear hi)))
     go_roundg k1
     case measure => have := HK1.out; omega
     case rel => exact ⟨(x10_1), (wrap64 (x23_1 + 1)), (t629), (t630), wZ, H', ⟨by have := HK1.out; omega⟩, ⟨Rz HO_8.out⟩, ⟨Rz HO_10.out⟩, ⟨by repeat (first | (with_reducible first | exact HI620.out | apply IsS75.alloc | apply IsS75.drewN | apply IsS75.drew | apply IsS75.set_1 | apply IsS75.set_2) | exact HI620.out)⟩, ⟨by repeat (first | (with_reducible first | exact HB.out | apply below_alloc | apply pw_below_drewN | apply below_drew1 | refine below_set ?_ (IsS75.ge HI620.out)) | exact HB.out)⟩⟩
    ·replace c8 := Bool.eq_false_iff.mpr c8
     subst c8
     rw [if_neg Bool.false_ne_true] at H
     by_cases c10 : x10_1.length < 17592186044416
     ·rw [if_pos c10] at H
      have LMc10 := am c10; clear c10; obtain ⟨y631, hy631⟩ : ∃ y_ : List Int, y_ = (x10_1 ++ [x23_1]) := ⟨_, rfl⟩
      replace H : (spec_DrawIsCrowd.l0 k1 t621 t622 t625 y631 (t622.length : Int) (wrap64 (x23_1 + 1)) l0 t629 t630) = some (r1, r2, r3, r4) := by (try rw [hy631]); first | with_reducible exact H | exact (Option.bind_some _ _).symm.trans H | exact H
      have Ny631 := am hy631; clear hy631; have H' := am H; clear H
      go_wp2_with (first | ((with_reducible refine gate_callee (f := 83) rfl ?_); refine gL (some 27) Try.func83 #[.pointer (some ⟨gb620, 0, none⟩), .int .i64 4] ?_; (with_reducible refine (spec_l1Cur_one.calls gb620 l0 x621001_1 x621002_1 4 false t629 t630 w _ ?side1 ?side2 A7.out).mono ?_); (case side1 => repeat (first | (with_reducible first | exact HI620.out | apply IsS75.alloc | apply IsS75.drewN | apply IsS75.drew | apply IsS75.set_1 | apply IsS75.set_2) | exact HI620.out)); (case side2 => repeat (first | (with_reducible first | exact HB.out | apply below_alloc | apply pw_below_drewN | apply below_drew1 | refine below_set ?_ (IsS75.ge HI620.out)) | exact HB.out)); rintro e w11 ⟨rfl, hi, hb, hk⟩; refine ⟨_, rfl, ?_⟩; have n0_ := am (Kd.R_mono (Kd.R_keep (IsS75.apart (show IsS75 w _ gb620 l0 x621001_1 x621002_1 from by repeat (first | (with_reducible first | exact HI620.out | apply IsS75.alloc | apply IsS75.drewN | apply IsS75.drew | apply IsS75.set_1 | apply IsS75.set_2) | exact HI620.out)) (Rz HO_8.out) (by decide)) hk (fun _ h => h.2)) (fun _ h => h.1)); have n1_ := am (Kd.R_mono (Kd.R_keep (IsS75.apart (show IsS75 w _ gb620 l0 x621001_1 x621002_1 from by repeat (first | (with_reducible first | exact HI620.out | apply IsS75.alloc | apply IsS75.drewN | apply IsS75.drew | apply IsS75.set_1 | apply IsS75.set_2) | exact HI620.out)) (Rz HO_10.out) (by decide)) hk (fun _ h => h.2)) (fun _ h => h.1)); have n2_ := am (hb); have n3_ := am (hi); clear HO_8 HO_10 HB HI620; revert n0_ n1_ n2_ n3_; intro HO_8 HO_10 HB HI620; (try clear hb); (try clear hb2); (try clear hk); (try clear hi)) | ((with_reducible refine gate_builtin (b := .append) (xs := #[.tmp 29, .tmp 31]) rfl ?_); at_builtin; refine Kd.R_append (Kd.int .i64) (w0 := w) w.heap.size rfl (.tmp 29) (.tmp 31) 31 3 (.int .i64 0) 8 rfl Try.underlying31 info3 rfl (by decide) (by omega) u10 x10_1 x23_1 [.int .i64 x23_1] (fun _ => True) (fun _ => False) rfl rfl ?aP (fun _ hk => hk.elim) ?aF ?aO ?aB ?aS ?aL ?_; (case aP => exact rfl); (case aB => exact (by repeat (first | (with_reducible first | exact HB.out | apply below_alloc | apply pw_below_drewN | apply below_drew1 | refine below_set ?_ (IsS75.ge HI620.out)) | exact HB.out))); (case aF => exact (fun _ _ => trivial)); (case aO => exact (Rz HO_10.out)); (case aS => exact (below_size (by repeat (first | (with_reducible first | exact HB.out | apply below_alloc | apply pw_below_drewN | apply below_drew1 | refine below_set ?_ (IsS75.ge HI620.out)) | exact HB.out)))); (case aL => have := LMc10.out; omega); intro v632 w12 ho hb hg hat; rw [← Ny631.out] at ho; have n0_ := am (Kd.R_over' (Rz HO_8.out) (Kd.R_typed (Rz HO_10.out)) (by decide) hg); have n1_ := am (IsS75.grown (by repeat (first | (with_reducible first | exact HI620.out | apply IsS75.alloc | apply IsS75.drewN | apply IsS75.drew | apply IsS75.set_1 | apply IsS75.set_2) | exact HI620.out)) hg (IsS75.own_ne HI620.out HO_10.out (by decide))); have n2_ := am (hb); have n3_ := am (ho); clear HO_8 HI620 HB HO_10; revert n0_ n1_ n2_ n3_; intro HO_8 HI620 HB HO633; clear ho hb hg hat))
      go_roundg k1
      case measure => have := HK1.out; omega
      case rel => exact ⟨(y631), (wrap64 (x23_1 + 1)), (t629), (t630), wZ, H', ⟨by have := HK1.out; omega⟩, ⟨Rz HO_8.out⟩, ⟨Rz HO633.out⟩, ⟨by repeat (first | (with_reducible first | exact HI620.out | apply IsS75.alloc | apply IsS75.drewN | apply IsS75.drew | apply IsS75.set_1 | apply IsS75.set_2) | exact HI620.out)⟩, ⟨by repeat (first | (with_reducible first | exact HB.out | apply below_alloc | apply pw_below_drewN | apply below_drew1 | refine below_set ?_ (IsS75.ge HI620.out)) | exact HB.out)⟩⟩
     ·rw [if_neg c10] at H
      exact absurd H (by simp)
   ·rw [if_neg c6] at H
    have c6b0 : decide (x23_1 < (t622.length : Int)) = false := decide_eq_false c6; clear c6; obtain ⟨⟨t634, t635, t636⟩, A13, H⟩ := ob H; (try dsimp -simprocs only at H)
    by_cases c14 : t634 = true
    ·subst c14
     rw [if_pos rfl] at H; obtain ⟨⟨t637, t638, t639⟩, A15, H⟩ := ob H; (try dsimp -simprocs only at H)
     by_cases c16 : x10_1.length < 17592186044416
     ·rw [if_pos c16] at H
      have LMc16 := am c16; clear c16; obtain ⟨y640, hy640⟩ : ∃ y_ : List Int, y_ = (x10_1 ++ [t637]) := ⟨_, rfl⟩
      replace H : (some (t621, t622, t625, y640)) = some (r1, r2, r3, r4) := by (try rw [hy640]); first | with_reducible exact H | exact (Option.bind_some _ _).symm.trans H | exact H
      have Ny640 := am hy640; clear hy640
      simp only [Option.some.injEq, Prod.mk.injEq] at H
      obtain ⟨rfl, rfl, rfl, rfl⟩ := H
      go_wp2_with (first | ((with_reducible refine gate_callee (f := 83) rfl ?_); refine gL (some 35) Try.func83 #[.pointer (some ⟨gb620, 0, none⟩), .int .i64 8] ?_; (with_reducible refine (spec_l1Cur_one.calls gb620 l0 x621001_1 x621002_1 8 true t635 t636 w _ ?side1 ?side2 A13.out).mono ?_); (case side1 => repeat (first | (with_reducible first | exact HI620.out | apply IsS75.alloc | apply IsS75.drewN | apply IsS75.drew | apply IsS75.set_1 | apply IsS75.set_2) | exact HI620.out)); (case side2 => repeat (first | (with_reducible first | exact HB.out | apply below_alloc | apply pw_below_drewN | apply below_drew1 | refine below_set ?_ (IsS75.ge HI620.out)) | exact HB.out)); rintro e w17 ⟨rfl, hi, hb, hk⟩; refine ⟨_, rfl, ?_⟩; have n0_ := am (Kd.R_mono (Kd.R_keep (IsS75.apart (show IsS75 w _ gb620 l0 x621001_1 x621002_1 from by repeat (first | (with_reducible first | exact HI620.out | apply IsS75.alloc | apply IsS75.drewN | apply IsS75.drew | apply IsS75.set_1 | apply IsS75.set_2) | exact HI620.out)) (Rz HO_8.out) (by decide)) hk (fun _ h => h.2)) (fun _ h => h.1)); have n1_ := am (Kd.R_mono (Kd.R_keep (IsS75.apart (show IsS75 w _ gb620 l0 x621001_1 x621002_1 from by repeat (first | (with_reducible first | exact HI620.out | apply IsS75.alloc | apply IsS75.drewN | apply IsS75.drew | apply IsS75.set_1 | apply IsS75.set_2) | exact HI620.out)) (Rz HO_10.out) (by decide)) hk (fun _ h => h.2)) (fun _ h => h.1)); have n2_ := am (hb); have n3_ := am (hi); clear HO_8 HO_10 HB HI620; revert n0_ n1_ n2_ n3_; intro HO_8 HO_10 HB HI620; (try clear hb); (try clear hb2); (try clear hk); (try clear hi)) | ((with_reducible refine gate_callee (f := 84) rfl ?_); refine gL (some 40) Try.func84 #[.pointer (some ⟨gb620, 0, none⟩), .int .i64 (t622.length : Int)] ?_; (with_reducible refine (spec_l1Cur_place.calls gb620 l0 t635 t636 (t622.length : Int) t637 t638 t639 w _ ?side1 ?side2 A15.out).mono ?_); (case side1 => repeat (first | (with_reducible first | exact HI620.out | apply IsS75.alloc | apply IsS75.drewN | apply IsS75.drew | apply IsS75.set_1 | apply IsS75.set_2) | exact HI620.out)); (case side2 => repeat (first | (with_reducible first | exact HB.out | apply below_alloc | apply pw_below_drewN | apply below_drew1 | refine below_set ?_ (IsS75.ge HI620.out)) | exact HB.out)); rintro e w18 ⟨rfl, hi, hb, hk⟩; refine ⟨_, rfl, ?_⟩; have n0_ := am (Kd.R_mono (Kd.R_keep (IsS75.apart (show IsS75 w _ gb620 l0 t635 t636 from by repeat (first | (with_reducible first | exact HI620.out | apply IsS75.alloc | apply IsS75.drewN | apply IsS75.drew | apply IsS75.set_1 | apply IsS75.set_2) | exact HI620.out)) (Rz HO_8.out) (by decide)) hk (fun _ h => h.2)) (fun _ h => h.1)); have n1_ := am (Kd.R_mono (Kd.R_keep (IsS75.apart (show IsS75 w _ gb620 l0 t635 t636 from by repeat (first | (with_reducible first | exact HI620.out | apply IsS75.alloc | apply IsS75.drewN | apply IsS75.drew | apply IsS75.set_1 | apply IsS75.set_2) | exact HI620.out)) (Rz HO_10.out) (by decide)) hk (fun _ h => h.2)) (fun _ h => h.1)); have n2_ := am (hb); have n3_ := am (hi); clear HO_8 HO_10 HB HI620; revert n0_ n1_ n2_ n3_; intro HO_8 HO_10 HB HI620; (try clear hb); (try clear hb2); (try clear hk); (try clear hi)) | ((with_reducible refine gate_builtin (b := .append) (xs := #[.tmp 36, .tmp 41]) rfl ?_); at_builtin; refine Kd.R_append (Kd.int .i64) (w0 := w) w.heap.size rfl (.tmp 36) (.tmp 41) 31 3 (.int .i64 0) 8 rfl Try.underlying31 info3 rfl (by decide) (by omega) u10 x10_1 t637 [.int .i64 t637] (fun _ => True) (fun _ => False) rfl rfl ?aP (fun _ hk => hk.elim) ?aF ?aO ?aB ?aS ?aL ?_; (case aP => exact rfl); (case aB => exact (by repeat (first | (with_reducible first | exact HB.out | apply below_alloc | apply pw_below_drewN | apply below_drew1 | refine below_set ?_ (IsS75.ge HI620.out)) | exact HB.out))); (case aF => exact (fun _ _ => trivial)); (case aO => exact (Rz HO_10.out)); (case aS => exact (below_size (by repeat (first | (with_reducible first | exact HB.out | apply below_alloc | apply pw_below_drewN | apply below_drew1 | refine below_set ?_ (IsS75.ge HI620.out)) | exact HB.out)))); (case aL => have := LMc16.out; omega); intro v641 w19 ho hb hg hat; rw [← Ny640.out] at ho; have n0_ := am (Kd.R_over' (Rz HO_8.out) (Kd.R_typed (Rz HO_10.out)) (by decide) hg); have n1_ := am (IsS75.grown (by repeat (first | (with_reducible first | exact HI620.out | apply IsS75.alloc | apply IsS75.drewN | apply IsS75.drew | apply IsS75.set_1 | apply IsS75.set_2) | exact HI620.out)) hg (IsS75.own_ne HI620.out HO_10.out (by decide))); have n2_ := am (hb); have n3_ := am (ho); clear HO_8 HI620 HB HO_10; revert n0_ n1_ n2_ n3_; intro HO_8 HI620 HB HO642; clear ho hb hg hat))
      refine bodyPost_ret (results_list (rs := [.tmp 2, .tmp 3, .tmp 4, .tmp 5]) rfl (by simp) (.tmp (.tmp (.tmp (.tmp .nil))))) rfl ?_; exact ⟨_, _, eZ, Rz HO_8.out, Rz HO642.out, by repeat (first | (with_reducible first | exact HB.out | apply below_alloc | apply pw_below_drewN | apply below_drew1 | refine below_set ?_ (IsS75.ge HI620.out)) | exact HB.out)⟩
     ·rw [if_neg c16] at H
      exact absurd H (by simp)
    ·replace c14 := Bool.eq_false_iff.mpr c14
     subst c14
     rw [if_neg Bool.false_ne_true] at H
     simp only [Option.some.injEq, Prod.mk.injEq] at H
     obtain ⟨rfl, rfl, rfl, rfl⟩ := H
     go_wp2_with (first | ((with_reducible refine gate_callee (f := 83) rfl ?_); refine gL (some 35) Try.func83 #[.pointer (some ⟨gb620, 0, none⟩), .int .i64 8] ?_; (with_reducible refine (spec_l1Cur_one.calls gb620 l0 x621001_1 x621002_1 8 false t635 t636 w _ ?side1 ?side2 A13.out).mono ?_); (case side1 => repeat (first | (with_reducible first | exact HI620.out | apply IsS75.alloc | apply IsS75.drewN | apply IsS75.drew | apply IsS75.set_1 | apply IsS75.set_2) | exact HI620.out)); (case side2 => repeat (first | (with_reducible first | exact HB.out | apply below_alloc | apply pw_below_drewN | apply below_drew1 | refine below_set ?_ (IsS75.ge HI620.out)) | exact HB.out)); rintro e w20 ⟨rfl, hi, hb, hk⟩; refine ⟨_, rfl, ?_⟩; have n0_ := am (Kd.R_mono (Kd.R_keep (IsS75.apart (show IsS75 w _ gb620 l0 x621001_1 x621002_1 from by repeat (first | (with_reducible first | exact HI620.out | apply IsS75.alloc | apply IsS75.drewN | apply IsS75.drew | apply IsS75.set_1 | apply IsS75.set_2) | exact HI620.out)) (Rz HO_8.out) (by decide)) hk (fun _ h => h.2)) (fun _ h => h.1)); have n1_ := am (Kd.R_mono (Kd.R_keep (IsS75.apart (show IsS75 w _ gb620 l0 x621001_1 x621002_1 from by repeat (first | (with_reducible first | exact HI620.out | apply IsS75.alloc | apply IsS75.drewN | apply IsS75.drew | apply IsS75.set_1 | apply IsS75.set_2) | exact HI620.out)) (Rz HO_10.out) (by decide)) hk (fun _ h => h.2)) (fun _ h => h.1)); have n2_ := am (hb); have n3_ := am (hi); clear HO_8 HO_10 HB HI620; revert n0_ n1_ n2_ n3_; intro HO_8 HO_10 HB HI620; (try clear hb); (try clear hb2); (try clear hk); (try clear hi)))
     refine bodyPost_ret (results_list (rs := [.tmp 2, .tmp 3, .tmp 4, .tmp 5]) rfl (by simp) (.tmp (.tmp (.tmp (.tmp .nil))))) rfl ?_; exact ⟨_, _, eZ, Rz HO_8.out, Rz HO_10.out, by repeat (first | (with_reducible first | exact HB.out | apply below_alloc | apply pw_below_drewN | apply below_drew1 | refine below_set ?_ (IsS75.ge HI620.out)) | exact HB.out)⟩

def spec_l1Rising.l0 : Nat → List Int → Int → Int → List Int → Int → Int → Option (Bool)
 | 0, _, _, _, _, _, _ => none
 | k + 1, x0, x1, x2, x9, x10, x11 => if x11 < x10 then (if 0 ≤ x11 then (if x11 < (x9.length : Int) then ((spec_l1In.f (rd x9 x11) x1 x2).bind fun t644 => (if t644 = true then (if x11 > 0 then (if 0 ≤ (wrap64 (x11 - 1)) then (if (wrap64 (x11 - 1)) < (x0.length : Int) then (if (rd x0 (wrap64 (x11 - 1))) ≥ (rd x9 x11) then (some false) else (spec_l1Rising.l0 k x0 x1 x2 x9 x10 (wrap64 (x11 + 1)))) else (none)) else (none)) else (spec_l1Rising.l0 k x0 x1 x2 x9 x10 (wrap64 (x11 + 1)))) else (some false))) else (none)) else (none)) else (some true)
def spec_l1Rising.f (k : Nat) (l0 : List Int) (a1 : Int) (a2 : Int) : Option (Bool) := spec_l1Rising.l0 k l0 a1 a2 l0 (l0.length : Int) 0
theorem spec_l1Rising.calls (k : Nat) (A0 : Option Addr) (c0 : Nat) (l0 : List Int) (a1 : Int) (a2 : Int) (r : Bool) (w : World) (hr0 : Kd.C (Kd.int .i64) w A0 l0.length l0) (hc0 : l0.length ≤ c0) (h : spec_l1Rising.f k l0 a1 a2 = some r) :
  Calls Try.prog 94 #[.slice A0 l0.length c0, .int .i64 a1, .int .i64 a2] w fun e w' => e = .returned (.bool r) ∧ Drawn0 w w' := by
 have HR0 := am hr0; have HC0 := am hc0; clear hr0 hc0; have H : (spec_l1Rising.l0 k l0 a1 a2 l0 (l0.length : Int) 0) = some r := h; clear h; have H' := am H; clear H
 go_enter Try.func94, Try.ntmps94
 go_wp2
 go_loopg [11] k (fun kq v11 w' => ∃ (x11_1 : Int), v11 = .int .i64 x11_1 ∧ Aside0 (spec_l1Rising.l0 kq l0 a1 a2 l0 (l0.length : Int) x11_1 = some r) ∧ Aside0 (kq ≤ k) ∧ Drawn0 w w')
 case atStart => exact ⟨(0), wZ, H', ⟨Nat.le_refl _⟩, by repeat (first | exact Drawn0.refl _ | apply Drawn0.step)⟩
 case round =>
  clear H'
  try clear p2
  obtain ⟨x11_1, rfl, HA, HK1, ⟨m1, rfl⟩⟩ := hrel; cases gk with
  | zero => exact absurd HA.out (by simp [spec_l1Rising.l0])
  | succ k1 =>
   have H := HA.out; clear HA
   simp only [spec_l1Rising.l0] at H
   by_cases c4 : x11_1 < (l0.length : Int)
   ·rw [if_pos c4] at H
    have c4b0 : decide (x11_1 < (l0.length : Int)) = true := decide_eq_true c4; clear c4
    by_cases c5 : 0 ≤ x11_1
    ·rw [if_pos c5] at H
     have c5b0 : decide (0 ≤ x11_1) = true := decide_eq_true c5; clear c5
     by_cases c6 : x11_1 < (l0.length : Int)
     ·rw [if_pos c6] at H
      have c6b0 : decide (x11_1 < (l0.length : Int)) = true := decide_eq_true c6; clear c6; obtain ⟨t644, A7, H⟩ := ob H; (try dsimp -simprocs only at H)
      by_cases c8 : t644 = true
      ·subst c8
       rw [if_pos rfl] at H
       by_cases c9 : x11_1 > 0
       ·rw [if_pos c9] at H
        have c9b0 : decide (0 < x11_1) = true := decide_eq_true c9; clear c9; obtain ⟨ji10, hji10⟩ : ∃ j_ : Int, (wrap64 (x11_1 - 1)) = j_ := ⟨_, rfl⟩
        replace H : (if 0 ≤ (ji10) then (if (ji10) < (l0.length : Int) then (if (rd l0 (ji10)) ≥ (rd l0 x11_1) then (some false) else (spec_l1Rising.l0 k1 l0 a1 a2 l0 (l0.length : Int) (wrap64 (x11_1 + 1)))) else (none)) else (none)) = some r := by first | (rw [hji10] at H; exact H) | (simp only [hji10] at H ⊢; exact H)
        (try rw [hji10] at A7)
        have hji10w : (IntKind.i64.wrap (x11_1 - 1)) = ji10 := (i64_w _).trans hji10
        by_cases c11 : 0 ≤ (ji10)
        ·rw [if_pos c11] at H
         have c11b0 : decide (0 ≤ (ji10)) = true := decide_eq_true c11; clear c11
         by_cases c12 : (ji10) < (l0.length : Int)
         ·rw [if_pos c12] at H
          have c12b0 : decide ((ji10) < (l0.length : Int)) = true := decide_eq_true c12; clear c12
          by_cases c13 : (rd l0 (ji10)) ≥ (rd l0 x11_1)
          ·rw [if_pos c13] at H
           have c13b0 : decide ((rd l0 x11_1) ≤ (rd l0 (ji10))) = true := decide_eq_true c13; clear c13; obtain rfl := Option.some.inj H; obtain ⟨ad643, e643, hx643_0⟩ := Kd.at_int HR0.out x11_1 dT dT; cases e643; have p643 := eT (0 ≤ (x11_1 : Int)); have q643 := eT (x11_1 < (l0.length : Int))
           go_wp2_with (first | ((with_reducible refine gate_callee (f := 76) rfl ?_); refine gL (some 19) Try.func76 #[.int .i64 (rd l0 x11_1), .int .i64 a1, .int .i64 a2] ?_; (with_reducible refine (spec_l1In.calls (rd l0 x11_1) a1 a2 true _ A7.out).mono ?_); rintro e w' ⟨rfl, ⟨nd, rfl⟩⟩; refine ⟨_, rfl, ?_⟩; have p645 : 0 ≤ ((ji10) : Int) := dT; have q645 : (ji10) < (l0.length : Int) := dT; obtain ⟨ad645, e645, hx645_0⟩ := Kd.at_int HR0.out (ji10) p645 q645; obtain rfl : ad643 = ad645 := (by injection e645); replace p645 := eq_true p645; replace q645 := eq_true q645))
           go_ret
           exact ⟨by first | rfl | (simp; done) | (simp only [← hji10] <;> (first | rfl | simp)) | (simp [*]; done), by repeat (first | exact Drawn0.refl _ | apply Drawn0.step)⟩
          ·rw [if_neg c13] at H
           have c13b0 : decide ((rd l0 x11_1) ≤ (rd l0 (ji10))) = false := decide_eq_false c13; clear c13; have H' := am H; clear H; obtain ⟨ad643, e643, hx643_0⟩ := Kd.at_int HR0.out x11_1 dT dT; cases e643; have p643 := eT (0 ≤ (x11_1 : Int)); have q643 := eT (x11_1 < (l0.length : Int))
           go_wp2_with (first | ((with_reducible refine gate_callee (f := 76) rfl ?_); refine gL (some 19) Try.func76 #[.int .i64 (rd l0 x11_1), .int .i64 a1, .int .i64 a2] ?_; (with_reducible refine (spec_l1In.calls (rd l0 x11_1) a1 a2 true _ A7.out).mono ?_); rintro e w' ⟨rfl, ⟨nd, rfl⟩⟩; refine ⟨_, rfl, ?_⟩; have p645 : 0 ≤ ((ji10) : Int) := dT; have q645 : (ji10) < (l0.length : Int) := dT; obtain ⟨ad645, e645, hx645_0⟩ := Kd.at_int HR0.out (ji10) p645 q645; obtain rfl : ad643 = ad645 := (by injection e645); replace p645 := eq_true p645; replace q645 := eq_true q645))
           go_roundg k1
           case measure => have := HK1.out; omega
           case rel => exact ⟨(wrap64 (x11_1 + 1)), wZ, H', ⟨by have := HK1.out; omega⟩, by repeat (first | exact Drawn0.refl _ | apply Drawn0.step)⟩
         ·rw [if_neg c12] at H
          exact absurd H (by simp)
        ·rw [if_neg c11] at H
         exact absurd H (by simp)
       ·rw [if_neg c9] at H
        have c9b0 : decide (0 < x11_1) = false := decide_eq_false c9; clear c9; have H' := am H; clear H; obtain ⟨ad643, e643, hx643_0⟩ := Kd.at_int HR0.out x11_1 dT dT; cases e643; have p643 := eT (0 ≤ (x11_1 : Int)); have q643 := eT (x11_1 < (l0.length : Int))
        go_wp2_with (first | ((with_reducible refine gate_callee (f := 76) rfl ?_); refine gL (some 19) Try.func76 #[.int .i64 (rd l0 x11_1), .int .i64 a1, .int .i64 a2] ?_; (with_reducible refine (spec_l1In.calls (rd l0 x11_1) a1 a2 true _ A7.out).mono ?_); rintro e w' ⟨rfl, ⟨nd, rfl⟩⟩; refine ⟨_, rfl, ?_⟩))
        go_roundg k1
        case measure => have := HK1.out; omega
        case rel => exact ⟨(wrap64 (x11_1 + 1)), wZ, H', ⟨by have := HK1.out; omega⟩, by repeat (first | exact Drawn0.refl _ | apply Drawn0.step)⟩
      ·replace c8 := Bool.eq_false_iff.mpr c8
       subst c8
       rw [if_neg Bool.false_ne_true] at H; obtain rfl := Option.some.inj H; obtain ⟨ad643, e643, hx643_0⟩ := Kd.at_int HR0.out x11_1 dT dT; cases e643; have p643 := eT (0 ≤ (x11_1 : Int)); have q643 := eT (x11_1 < (l0.length : Int))
       go_wp2_with (first | ((with_reducible refine gate_callee (f := 76) rfl ?_); refine gL (some 19) Try.func76 #[.int .i64 (rd l0 x11_1), .int .i64 a1, .int .i64 a2] ?_; (with_reducible refine (spec_l1In.calls (rd l0 x11_1) a1 a2 false _ A7.out).mono ?_); rintro e w' ⟨rfl, ⟨nd, rfl⟩⟩; refine ⟨_, rfl, ?_⟩))
       go_ret
       exact ⟨by first | rfl | (simp; done) | (simp [*]; done), by repeat (first | exact Drawn0.refl _ | apply Drawn0.step)⟩
     ·rw [if_neg c6] at H
      exact absurd H (by simp)
    ·rw [if_neg c5] at H
     exact absurd H (by simp)
   ·rw [if_neg c4] at H
    have c4b0 : decide (x11_1 < (l0.length : Int)) = false := decide_eq_false c4; clear c4; obtain rfl := Option.some.inj H
    go_wp2
    go_ret
    exact ⟨by first | rfl | (simp; done) | (simp [*]; done), by repeat (first | exact Drawn0.refl _ | apply Drawn0.step)⟩

def spec_IsCrowd.f (k : Nat) (a0 : Int) (l1 : List ByteArray) (a2 : Int) (l3 : List Int) : Option (Bool × Bool) := (spec_cuKeyed.f k a0 l1 a2).bind fun t646 => (if t646 = true then ((spec_l1Rising.f k l3 0 (wrap64 ((l1.length : Int) - 1))).bind fun t647 => (if t647 = true then ((spec_cuPairs.f k a0 l1 a2).bind fun t648 => ((spec_cuWide.f k t648 l3).bind fun t651 => (some (decide (t651 < (l3.length : Int)), true)))) else (some (false, true)))) else (some (false, false)))
theorem spec_IsCrowd.calls (k : Nat) (a0 : Int) (A1 : Option Addr) (c1 : Nat) (l1 : List ByteArray) (a2 : Int) (A3 : Option Addr) (c3 : Nat) (l3 : List Int) (r1 : Bool) (r2 : Bool) (w : World) (hr1 : Kd.C Kd.string w A1 l1.length l1) (hc1 : l1.length ≤ c1) (hr3 : Kd.C (Kd.int .i64) w A3 l3.length l3) (hc3 : l3.length ≤ c3) (h : spec_IsCrowd.f k a0 l1 a2 l3 = some (r1, r2)) :
  Calls Try.prog 39 #[.int .i64 a0, .slice A1 l1.length c1, .int .i64 a2, .slice A3 l3.length c3] w fun e w' => e = .returned (.tuple #[.bool r1, .bool r2]) ∧ Below w.heap.size w w' := by
 have HR1 := am hr1; have HC1 := am hc1; clear hr1 hc1; have HR3 := am hr3; have HC3 := am hc3; clear hr3 hc3; have HB := am (Below.refl w.heap.size w); have H : ((spec_cuKeyed.f k a0 l1 a2).bind fun t646 => (if t646 = true then ((spec_l1Rising.f k l3 0 (wrap64 ((l1.length : Int) - 1))).bind fun t647 => (if t647 = true then ((spec_cuPairs.f k a0 l1 a2).bind fun t648 => ((spec_cuWide.f k t648 l3).bind fun t651 => (some (decide (t651 < (l3.length : Int)), true)))) else (some (false, true)))) else (some (false, false)))) = some (r1, r2) := h; clear h; obtain ⟨t646, A5, H⟩ := ob H; (try dsimp -simprocs only at H)
 by_cases c6 : t646 = true
 ·subst c6
  rw [if_pos rfl] at H; obtain ⟨t647, A7, H⟩ := ob H; (try dsimp -simprocs only at H)
  by_cases c8 : t647 = true
  ·subst c8
   rw [if_pos rfl] at H; obtain ⟨t648, A9, H⟩ := ob H; (try dsimp -simprocs only at H); obtain ⟨t651, A10, H⟩ := ob H; (try dsimp -simprocs only at H)
   simp only [Option.some.injEq, Prod.mk.injEq] at H
   obtain ⟨rfl, rfl⟩ := H
   go_enter Try.func39, Try.ntmps39
   go_wp2_with (first | ((with_reducible refine gate_callee (f := 62) rfl ?_); refine gL (some 13) Try.func62 #[.int .i64 a0, .slice A1 l1.length c1, .int .i64 a2] ?_; (with_reducible refine (spec_cuKeyed.calls k a0 _ _ l1 a2 true _ ?side1 ?side2 A5.out).mono ?_); (case side1 => exact Cz HR1.out); (case side2 => exact HC1.out); rintro e w' ⟨rfl, ⟨nd, rfl⟩⟩; refine ⟨_, rfl, ?_⟩) | ((with_reducible refine gate_callee (f := 94) rfl ?_); refine gL (some 19) Try.func94 #[.slice A3 l3.length c3, .int .i64 0, .int .i64 (wrap64 ((l1.length : Int) - 1))] ?_; (with_reducible refine (spec_l1Rising.calls k _ _ l3 0 (wrap64 ((l1.length : Int) - 1)) true _ ?side1 ?side2 A7.out).mono ?_); (case side1 => exact Cz HR3.out); (case side2 => exact HC3.out); rintro e w' ⟨rfl, ⟨nd, rfl⟩⟩; refine ⟨_, rfl, ?_⟩) | (go_at_call 64; (with_reducible refine (spec_cuPairs.calls k a0 _ _ l1 a2 t648 _ ?side1 ?side2 A9.out).mono ?_); (case side1 => exact Cz HR1.out); (case side2 => exact HC1.out); rintro e w11 ⟨v649, rfl, ho0, hb⟩; have n0_ := am (Kd.S_lower ho0 (below_size (Bz HB.out))); have n1_ := Bb HB hb; clear HB; revert n0_ n1_; intro HO650 HB; (try clear hb); (try clear hb2); (try clear hk); (try clear hi); (try clear ho0); obtain ⟨Ao12, co12, eo12⟩ := Kd.S_slice HO650.out; subst eo12) | (go_at_call 91; (with_reducible refine (spec_cuWide.calls k _ _ t648 _ _ l3 t651 _ ?side1 ?side2 ?side3 ?side4 A10.out).mono ?_); (case side1 => exact Cz ((Kd.S_reads' HO650.out).2.2)); (case side2 => exact (Kd.S_reads' HO650.out).2.1); (case side3 => exact Cz (Kd.C_below HR3.out HB.out)); (case side4 => exact HC3.out); rintro e w13 ⟨rfl, hb⟩; have n0_ := am (Kd.S_below (by (with_reducible repeat (first | apply Kd.S_alloc | apply Kd.S_drewN | apply Kd.S_drew)); exact HO650.out) hb); have n1_ := Bb HB hb; clear HO650 HB; revert n0_ n1_; intro HO650 HB; (try clear hb); (try clear hb2); (try clear hk); (try clear hi)))
   go_ret2
   exact ⟨eZ, Bz HB.out⟩
  ·replace c8 := Bool.eq_false_iff.mpr c8
   subst c8
   rw [if_neg Bool.false_ne_true] at H
   simp only [Option.some.injEq, Prod.mk.injEq] at H
   obtain ⟨rfl, rfl⟩ := H
   go_enter Try.func39, Try.ntmps39
   go_wp2_with (first | ((with_reducible refine gate_callee (f := 62) rfl ?_); refine gL (some 13) Try.func62 #[.int .i64 a0, .slice A1 l1.length c1, .int .i64 a2] ?_; (with_reducible refine (spec_cuKeyed.calls k a0 _ _ l1 a2 true _ ?side1 ?side2 A5.out).mono ?_); (case side1 => exact Cz HR1.out); (case side2 => exact HC1.out); rintro e w' ⟨rfl, ⟨nd, rfl⟩⟩; refine ⟨_, rfl, ?_⟩) | ((with_reducible refine gate_callee (f := 94) rfl ?_); refine gL (some 19) Try.func94 #[.slice A3 l3.length c3, .int .i64 0, .int .i64 (wrap64 ((l1.length : Int) - 1))] ?_; (with_reducible refine (spec_l1Rising.calls k _ _ l3 0 (wrap64 ((l1.length : Int) - 1)) false _ ?side1 ?side2 A7.out).mono ?_); (case side1 => exact Cz HR3.out); (case side2 => exact HC3.out); rintro e w' ⟨rfl, ⟨nd, rfl⟩⟩; refine ⟨_, rfl, ?_⟩))
   go_ret2
   exact ⟨eZ, Bz HB.out⟩
 ·replace c6 := Bool.eq_false_iff.mpr c6
  subst c6
  rw [if_neg Bool.false_ne_true] at H
  simp only [Option.some.injEq, Prod.mk.injEq] at H
  obtain ⟨rfl, rfl⟩ := H
  go_enter Try.func39, Try.ntmps39
  go_wp2_with (first | ((with_reducible refine gate_callee (f := 62) rfl ?_); refine gL (some 13) Try.func62 #[.int .i64 a0, .slice A1 l1.length c1, .int .i64 a2] ?_; (with_reducible refine (spec_cuKeyed.calls k a0 _ _ l1 a2 false _ ?side1 ?side2 A5.out).mono ?_); (case side1 => exact Cz HR1.out); (case side2 => exact HC1.out); rintro e w' ⟨rfl, ⟨nd, rfl⟩⟩; refine ⟨_, rfl, ?_⟩))
  go_ret2
  exact ⟨eZ, Bz HB.out⟩

mutual
def laws_FnCheckersOfCells.j0 : Nat → List Int → Int → List ByteArray → Int → List Int → Bool → Bool → Option (Bool)
 | 0, _, _, _, _, _, _, _ => none
 | k + 1, x1, x5, x6, x7, x8, x9, x56 => if x56 = true then (some false) else (if x9 = true then (laws_FnCheckersOfCells.l0 k x1 x5 x6 x7 x8 x6 (x6.length : Int) 0) else (laws_FnCheckersOfCells.j2 k x1))
def laws_FnCheckersOfCells.j2 : Nat → List Int → Option (Bool)
 | 0, _ => none
 | k + 1, x1 => (spec_DrawIsCrowd.f k x1).bind fun bt687 => ((impl_IsCrowd.f k bt687.1 bt687.2.1 bt687.2.2.1 bt687.2.2.2).bind fun bt695 => ((spec_IsCrowd.f k bt687.1 bt687.2.1 bt687.2.2.1 bt687.2.2.2).bind fun bt697 => (if (bt695.2 != bt697.2) = true then (laws_FnCheckersOfCells.j3 k bt687.1 bt687.2.1 bt687.2.2.1 bt695.1 true) else (laws_FnCheckersOfCells.j3 k bt687.1 bt687.2.1 bt687.2.2.1 bt695.1 (bt695.1 != bt697.1)))))
def laws_FnCheckersOfCells.j3 : Nat → Int → List ByteArray → Int → Bool → Bool → Option (Bool)
 | 0, _, _, _, _, _ => none
 | k + 1, x5, x6, x7, x9, x140 => if x140 = true then (some false) else (if x9 = true then ((impl_PlaceKeys.f k x5 x6 x7).bind fun bt699 => (some (!bt699.2))) else (some true))
def laws_FnCheckersOfCells.l0 : Nat → List Int → Int → List ByteArray → Int → List Int → List ByteArray → Int → Int → Option (Bool)
 | 0, _, _, _, _, _, _, _, _ => none
 | k + 1, x1, x5, x6, x7, x8, x58, x59, x60 => if x60 < x59 then (if 0 ≤ x60 then (if x60 < (x58.length : Int) then ((impl_CellsOf.f k x5 (rdOf ByteArray.empty x58 x60) x7).bind fun bt670 => (if bt670.2.2 = true then (if x60 < (x8.length : Int) then (if (rd x8 x60) = bt670.1 then (if x60 ≤ (x8.length : Int) then ((laws_pHas.f k (x8.take (x60 : Int).toNat) (rd x8 x60)).bind fun t679 => (if t679 = true then (some false) else (laws_FnCheckersOfCells.l0 k x1 x5 x6 x7 x8 x58 x59 (wrap64 (x60 + 1))))) else (none)) else (if (rd x8 x60) = bt670.2.1 then (if x60 ≤ (x8.length : Int) then ((laws_pHas.f k (x8.take (x60 : Int).toNat) (rd x8 x60)).bind fun t686 => (if t686 = true then (some false) else (laws_FnCheckersOfCells.l0 k x1 x5 x6 x7 x8 x58 x59 (wrap64 (x60 + 1))))) else (none)) else (some false))) else (none)) else (some false))) else (none)) else (none)) else ((impl_CrowdOf.f k x5 x6 x7).bind fun bt665 => (if bt665.2 = true then (some false) else (laws_FnCheckersOfCells.j2 k x1)))
end
def laws_FnCheckersOfCells.f (k : Nat) (l0 : List Int) (l1 : List Int) : Option (Bool) := (laws_big.f l0 l1).bind fun t652 => (if t652 = true then (some true) else ((spec_DrawIsPlacement.f k l0).bind fun bt653 => ((impl_IsPlacement.f k bt653.1 bt653.2.1 bt653.2.2.1 bt653.2.2.2).bind fun bt661 => ((spec_IsPlacement.f k bt653.1 bt653.2.1 bt653.2.2.1 bt653.2.2.2).bind fun bt663 => (if (bt661.2 != bt663.2) = true then (laws_FnCheckersOfCells.j0 k l1 bt653.1 bt653.2.1 bt653.2.2.1 bt653.2.2.2 bt661.1 true) else (laws_FnCheckersOfCells.j0 k l1 bt653.1 bt653.2.1 bt653.2.2.1 bt653.2.2.2 bt661.1 (bt661.1 != bt663.1)))))))
theorem laws_FnCheckersOfCells.j0.dead (k : Nat) (y0 : List Int) (y1 : Int) (y2 : List ByteArray) (y3 : Int) (y4 : List Int) (y5 : Bool) : laws_FnCheckersOfCells.j0 k y0 y1 y2 y3 y4 y5 true ≠ some true := by cases k <;> simp [laws_FnCheckersOfCells.j0]
theorem laws_FnCheckersOfCells.j3.dead (k : Nat) (y0 : Int) (y1 : List ByteArray) (y2 : Int) (y3 : Bool) : laws_FnCheckersOfCells.j3 k y0 y1 y2 y3 true ≠ some true := by cases k <;> simp [laws_FnCheckersOfCells.j3]
theorem laws_FnCheckersOfCells.calls (k : Nat) (A0 : Option Addr) (c0 : Nat) (l0 : List Int) (A1 : Option Addr) (c1 : Nat) (l1 : List Int) (r : Bool) (w : World) (hr0 : Kd.C (Kd.int .u8) w A0 l0.length l0) (hc0 : l0.length ≤ c0) (hr1 : Kd.C (Kd.int .u8) w A1 l1.length l1) (hc1 : l1.length ≤ c1) (h : laws_FnCheckersOfCells.f k l0 l1 = some r) (hT_ : r = true) :
  Calls Try.prog 7 #[.slice A0 l0.length c0, .slice A1 l1.length c1] w fun e w' => e = .returned (.bool r) ∧ Below w.heap.size w w' := by
 have HR0 := am hr0; have HC0 := am hc0; clear hr0 hc0; have HR1 := am hr1; have HC1 := am hc1; clear hr1 hc1; have HB := am (Below.refl w.heap.size w); have H : ((laws_big.f l0 l1).bind fun t652 => (if t652 = true then (some true) else ((spec_DrawIsPlacement.f k l0).bind fun bt653 => ((impl_IsPlacement.f k bt653.1 bt653.2.1 bt653.2.2.1 bt653.2.2.2).bind fun bt661 => ((spec_IsPlacement.f k bt653.1 bt653.2.1 bt653.2.2.1 bt653.2.2.2).bind fun bt663 => (if (bt661.2 != bt663.2) = true then (laws_FnCheckersOfCells.j0 k l1 bt653.1 bt653.2.1 bt653.2.2.1 bt653.2.2.2 bt661.1 true) else (laws_FnCheckersOfCells.j0 k l1 bt653.1 bt653.2.1 bt653.2.2.1 bt653.2.2.2 bt661.1 (bt661.1 != bt663.1)))))))) = some r := h; clear h; have HQT_ := am hT_; clear hT_; obtain ⟨t652, A3, H⟩ := ob H; (try dsimp -simprocs only at H)
 by_cases c4 : t652 = true
 ·subst c4
  rw [if_pos rfl] at H; obtain rfl := Option.some.inj H
  go_enter Try.func7, Try.ntmps7
  go_wp2_with (first | (go_at_call 11; (with_reducible refine (laws_big.calls _ _ l0 _ _ l1 true _ ?side1 ?side2 ?side3 ?side4 A3.out).mono ?_); (case side1 => exact Cz HR0.out); (case side2 => exact HC0.out); (case side3 => exact Cz HR1.out); (case side4 => exact HC1.out); rintro e w' ⟨rfl, ⟨nd, rfl⟩⟩; (try exact yZ)))
  repeat (go_quiet (first | (go_at_call 11; (with_reducible refine (laws_big.calls _ _ l0 _ _ l1 true _ ?side1 ?side2 ?side3 ?side4 A3.out).mono ?_); (case side1 => exact Cz HR0.out); (case side2 => exact HC0.out); (case side3 => exact Cz HR1.out); (case side4 => exact HC1.out); rintro e w' ⟨rfl, ⟨nd, rfl⟩⟩; (try exact yZ))); try go_wp2_with (first | (go_at_call 11; (with_reducible refine (laws_big.calls _ _ l0 _ _ l1 true _ ?side1 ?side2 ?side3 ?side4 A3.out).mono ?_); (case side1 => exact Cz HR0.out); (case side2 => exact HC0.out); (case side3 => exact Cz HR1.out); (case side4 => exact HC1.out); rintro e w' ⟨rfl, ⟨nd, rfl⟩⟩; (try exact yZ))))
  go_ret
  exact ⟨eZ, Bz HB.out⟩
 ·replace c4 := Bool.eq_false_iff.mpr c4
  subst c4
  rw [if_neg Bool.false_ne_true] at H; obtain ⟨⟨t653, t654, t655, t656⟩, A5, H⟩ := ob H; (try dsimp -simprocs only at H); obtain ⟨⟨t661, t662⟩, A6, H⟩ := ob H; (try dsimp -simprocs only at H); obtain ⟨⟨t663, t664⟩, A7, H⟩ := ob H; (try dsimp -simprocs only at H); have HC8 := am H; clear H
  go_enter Try.func7, Try.ntmps7
  go_upto_region 6 with (first | (go_at_call 11; (with_reducible refine (laws_big.calls _ _ l0 _ _ l1 false _ ?side1 ?side2 ?side3 ?side4 A3.out).mono ?_); (case side1 => exact Cz HR0.out); (case side2 => exact HC0.out); (case side3 => exact Cz HR1.out); (case side4 => exact HC1.out); rintro e w' ⟨rfl, ⟨nd, rfl⟩⟩; (try exact yZ)) | (go_at_call 36; (with_reducible refine (spec_DrawIsPlacement.calls k _ _ l0 t653 t654 t655 t656 _ ?side1 ?side2 A5.out).mono ?_); (case side1 => exact Cz HR0.out); (case side2 => exact HC0.out); rintro e w9 ⟨v657, v659, rfl, ho0, ho1, hb⟩; have n0_ := Rl ho0 HB; have n1_ := Rl ho1 HB; have n2_ := Bb HB hb; clear HB; revert n0_ n1_ n2_; intro HO658 HO660 HB; (try clear hb); (try clear hb2); (try clear hk); (try clear hi); (try clear ho0); (try clear ho1); obtain ⟨Ao10, co10, eo10⟩ := Kd.R_slice HO658.out; subst eo10; obtain ⟨Ao11, co11, eo11⟩ := Kd.R_slice HO660.out; subst eo11) | (go_at_call 31; (with_reducible refine (impl_IsPlacement.calls k t653 _ _ t654 t655 _ _ t656 t661 t662 _ ?side1 ?side2 ?side3 ?side4 A6.out).mono ?_); (case side1 => exact Cz ((Kd.R_reads' HO658.out).2.2)); (case side2 => exact (Kd.R_reads' HO658.out).2.1); (case side3 => exact Cz ((Kd.R_reads' HO660.out).2.2)); (case side4 => exact (Kd.R_reads' HO660.out).2.1); rintro e w12 ⟨rfl, hb⟩; have n0_ := Rb HO658 hb; have n1_ := Rb HO660 hb; have n2_ := Bb HB hb; clear HO658 HO660 HB; revert n0_ n1_ n2_; intro HO658 HO660 HB; (try clear hb); (try clear hb2); (try clear hk); (try clear hi)) | (go_at_call 37; (with_reducible refine (spec_IsPlacement.calls k t653 _ _ t654 t655 _ _ t656 t663 t664 _ ?side1 ?side2 ?side3 ?side4 A7.out).mono ?_); (case side1 => exact Cz ((Kd.R_reads' HO658.out).2.2)); (case side2 => exact (Kd.R_reads' HO658.out).2.1); (case side3 => exact Cz ((Kd.R_reads' HO660.out).2.2)); (case side4 => exact (Kd.R_reads' HO660.out).2.1); rintro e w13 ⟨rfl, hb⟩; have n0_ := Rb HO658 hb; have n1_ := Rb HO660 hb; have n2_ := Bb HB hb; clear HO658 HO660 HB; revert n0_ n1_ n2_; intro HO658 HO660 HB; (try clear hb); (try clear hb2); (try clear hk); (try clear hi)))
  repeat (go_quiet (first | (go_at_call 11; (with_reducible refine (laws_big.calls _ _ l0 _ _ l1 false _ ?side1 ?side2 ?side3 ?side4 A3.out).mono ?_); (case side1 => exact Cz HR0.out); (case side2 => exact HC0.out); (case side3 => exact Cz HR1.out); (case side4 => exact HC1.out); rintro e w' ⟨rfl, ⟨nd, rfl⟩⟩; (try exact yZ)) | (go_at_call 36; (with_reducible refine (spec_DrawIsPlacement.calls k _ _ l0 t653 t654 t655 t656 _ ?side1 ?side2 A5.out).mono ?_); (case side1 => exact Cz HR0.out); (case side2 => exact HC0.out); rintro e w9 ⟨v657, v659, rfl, ho0, ho1, hb⟩; have n0_ := Rl ho0 HB; have n1_ := Rl ho1 HB; have n2_ := Bb HB hb; clear HB; revert n0_ n1_ n2_; intro HO658 HO660 HB; (try clear hb); (try clear hb2); (try clear hk); (try clear hi); (try clear ho0); (try clear ho1); obtain ⟨Ao10, co10, eo10⟩ := Kd.R_slice HO658.out; subst eo10; obtain ⟨Ao11, co11, eo11⟩ := Kd.R_slice HO660.out; subst eo11) | (go_at_call 31; (with_reducible refine (impl_IsPlacement.calls k t653 _ _ t654 t655 _ _ t656 t661 t662 _ ?side1 ?side2 ?side3 ?side4 A6.out).mono ?_); (case side1 => exact Cz ((Kd.R_reads' HO658.out).2.2)); (case side2 => exact (Kd.R_reads' HO658.out).2.1); (case side3 => exact Cz ((Kd.R_reads' HO660.out).2.2)); (case side4 => exact (Kd.R_reads' HO660.out).2.1); rintro e w12 ⟨rfl, hb⟩; have n0_ := Rb HO658 hb; have n1_ := Rb HO660 hb; have n2_ := Bb HB hb; clear HO658 HO660 HB; revert n0_ n1_ n2_; intro HO658 HO660 HB; (try clear hb); (try clear hb2); (try clear hk); (try clear hi)) | (go_at_call 37; (with_reducible refine (spec_IsPlacement.calls k t653 _ _ t654 t655 _ _ t656 t663 t664 _ ?side1 ?side2 ?side3 ?side4 A7.out).mono ?_); (case side1 => exact Cz ((Kd.R_reads' HO658.out).2.2)); (case side2 => exact (Kd.R_reads' HO658.out).2.1); (case side3 => exact Cz ((Kd.R_reads' HO660.out).2.2)); (case side4 => exact (Kd.R_reads' HO660.out).2.1); rintro e w13 ⟨rfl, hb⟩; have n0_ := Rb HO658 hb; have n1_ := Rb HO660 hb; have n2_ := Bb HB hb; clear HO658 HO660 HB; revert n0_ n1_ n2_; intro HO658 HO660 HB; (try clear hb); (try clear hb2); (try clear hk); (try clear hi))); go_upto_region 6 with (first | (go_at_call 11; (with_reducible refine (laws_big.calls _ _ l0 _ _ l1 false _ ?side1 ?side2 ?side3 ?side4 A3.out).mono ?_); (case side1 => exact Cz HR0.out); (case side2 => exact HC0.out); (case side3 => exact Cz HR1.out); (case side4 => exact HC1.out); rintro e w' ⟨rfl, ⟨nd, rfl⟩⟩; (try exact yZ)) | (go_at_call 36; (with_reducible refine (spec_DrawIsPlacement.calls k _ _ l0 t653 t654 t655 t656 _ ?side1 ?side2 A5.out).mono ?_); (case side1 => exact Cz HR0.out); (case side2 => exact HC0.out); rintro e w9 ⟨v657, v659, rfl, ho0, ho1, hb⟩; have n0_ := Rl ho0 HB; have n1_ := Rl ho1 HB; have n2_ := Bb HB hb; clear HB; revert n0_ n1_ n2_; intro HO658 HO660 HB; (try clear hb); (try clear hb2); (try clear hk); (try clear hi); (try clear ho0); (try clear ho1); obtain ⟨Ao10, co10, eo10⟩ := Kd.R_slice HO658.out; subst eo10; obtain ⟨Ao11, co11, eo11⟩ := Kd.R_slice HO660.out; subst eo11) | (go_at_call 31; (with_reducible refine (impl_IsPlacement.calls k t653 _ _ t654 t655 _ _ t656 t661 t662 _ ?side1 ?side2 ?side3 ?side4 A6.out).mono ?_); (case side1 => exact Cz ((Kd.R_reads' HO658.out).2.2)); (case side2 => exact (Kd.R_reads' HO658.out).2.1); (case side3 => exact Cz ((Kd.R_reads' HO660.out).2.2)); (case side4 => exact (Kd.R_reads' HO660.out).2.1); rintro e w12 ⟨rfl, hb⟩; have n0_ := Rb HO658 hb; have n1_ := Rb HO660 hb; have n2_ := Bb HB hb; clear HO658 HO660 HB; revert n0_ n1_ n2_; intro HO658 HO660 HB; (try clear hb); (try clear hb2); (try clear hk); (try clear hi)) | (go_at_call 37; (with_reducible refine (spec_IsPlacement.calls k t653 _ _ t654 t655 _ _ t656 t663 t664 _ ?side1 ?side2 ?side3 ?side4 A7.out).mono ?_); (case side1 => exact Cz ((Kd.R_reads' HO658.out).2.2)); (case side2 => exact (Kd.R_reads' HO658.out).2.1); (case side3 => exact Cz ((Kd.R_reads' HO660.out).2.2)); (case side4 => exact (Kd.R_reads' HO660.out).2.1); rintro e w13 ⟨rfl, hb⟩; have n0_ := Rb HO658 hb; have n1_ := Rb HO660 hb; have n2_ := Bb HB hb; clear HO658 HO660 HB; revert n0_ n1_ n2_; intro HO658 HO660 HB; (try clear hb); (try clear hb2); (try clear hk); (try clear hi))))
  (try simp only [aP])
  go_cut [56] (fun v56 wc => ∃ (kq : Nat) (x56_7 : Bool), v56 = .bool x56_7 ∧ Aside0 (laws_FnCheckersOfCells.j0 kq l1 t653 t654 t655 t656 t661 x56_7 = some r) ∧ Aside0 (kq ≤ k) ∧ Aside0 (Kd.R Kd.string 9 wc w.heap.size (fun _ => True) (.slice Ao10 t654.length co10) t654) ∧ Aside0 (Kd.R (Kd.int .i64) 3 wc w.heap.size (fun _ => True) (.slice Ao11 t656.length co11) t656) ∧ Aside0 (Below w.heap.size w wc))
  case first =>
   have H := HC8.out; clear HC8
   by_cases c14 : (t662 != t664) = true
   ·rw [if_pos c14] at H
    have c14b0 : (t662 != t664) = true := c14
    (try (have c14b1 : decide (t662 = t664) = false := by simpa using c14))
    (try (have c14b2 : (t662 == t664) = false := by simpa using c14))
    (try (have c14b3 : ¬ (t662 = t664) := by simpa using c14))
    (try (have c14b4 : (!(t662 == t664)) = true := c14b0))
    clear c14
    (first | rw [c14b0] | (simp only [i64_w, i32_w]; rw [c14b0]) | skip)
    exact absurd (H.trans (congrArg some HQT_.out)) (laws_FnCheckersOfCells.j0.dead _ _ _ _ _ _ _)
   ·rw [if_neg c14] at H
    have c14b0 : (t662 != t664) = false := by simpa using c14
    (try (have c14b1 : decide (t662 = t664) = true := by simpa using c14))
    (try (have c14b2 : (t662 == t664) = true := by simpa using c14))
    (try (have c14b3 : (!(t662 == t664)) = false := c14b0))
    clear c14
    (first | rw [c14b0] | (simp only [i64_w, i32_w]; rw [c14b0]) | skip)
    have H' := am H; clear H
    go_wp2
    repeat (go_quiet (fail); try go_wp2)
    go_meet
    case rel => exact ⟨_, ((t661 != t663)), wZ, H', ⟨by first | omega | exact Nat.le_refl _⟩, ⟨Rz HO658.out⟩, ⟨Rz HO660.out⟩, ⟨Bz HB.out⟩⟩
  case rest =>
   clear HC8
   try clear c1
   try clear p2
   try clear c4
   try clear c7
   try clear c14
   try clear c14b0
   try clear c14b1
   try clear c14b2
   obtain ⟨kq, x56_7, rfl, HA, HJ7, HO_6, HO_8, HB⟩ := hcut; cases kq with
   | zero => exact absurd HA.out (by simp [laws_FnCheckersOfCells.j0])
   | succ kj7 =>
    have H := HA.out; clear HA
    simp only [laws_FnCheckersOfCells.j0] at H
    by_cases c15 : x56_7 = true
    ·subst c15
     rw [if_pos rfl] at H; exact absurd (Option.some.inj H) (by rw [HQT_.out]; decide)
    ·replace c15 := Bool.eq_false_iff.mpr c15
     subst c15
     rw [if_neg Bool.false_ne_true] at H; have HC16 := am H; clear H
     go_upto_if 57 with (fail)
     repeat (go_quiet (fail); go_upto_if 57 with (fail))
     go_cut [] (fun wc => ∃ (kq : Nat), Aside0 (laws_FnCheckersOfCells.j2 kq l1 = some r) ∧ Aside0 (kq ≤ kj7) ∧ Aside0 (Below w.heap.size w wc))
     case first =>
      have H := HC16.out; clear HC16
      by_cases c17 : t661 = true
      ·subst c17
       rw [if_pos rfl] at H; have H' := am H; clear H
       go_wp2
       repeat (go_quiet (fail); try go_wp2)
       go_loopg [60] kj7 (fun kq v60 w' => ∃ (x60_2 : Int), v60 = .int .i64 x60_2 ∧ Aside0 (laws_FnCheckersOfCells.l0 kq l1 t653 t654 t655 t656 t654 (t654.length : Int) x60_2 = some r) ∧ Aside0 (kq ≤ kj7) ∧ Aside0 (Kd.R Kd.string 9 w' w.heap.size (fun _ => True) (.slice Ao10 t654.length co10) t654) ∧ Aside0 (Kd.R (Kd.int .i64) 3 w' w.heap.size (fun _ => True) (.slice Ao11 t656.length co11) t656) ∧ Aside0 (Kd.R Kd.string 9 w' w.heap.size (fun _ => True) (.slice Ao10 t654.length co10) t654) ∧ Aside0 (Below w.heap.size w w'))
       case atStart => exact ⟨(0), wZ, H', ⟨Nat.le_refl _⟩, ⟨Rz HO_6.out⟩, ⟨Rz HO_8.out⟩, ⟨Rz HO_6.out⟩, ⟨Bz HB.out⟩⟩
       case round =>
        clear H'
        try clear c1
        try clear p2
        try clear c4
        try clear c7
        try clear c14
        try clear c14b0
        try clear c14b1
        try clear c14b2
        try clear c15
        try clear c17
        try clear p2
        obtain ⟨x60_2, rfl, HA, HK2, HO_6, HO_8, HO_58, HB⟩ := hrel; cases gk with
        | zero => exact absurd HA.out (by simp [laws_FnCheckersOfCells.l0])
        | succ k2 =>
         have H := HA.out; clear HA
         simp only [laws_FnCheckersOfCells.l0] at H
         by_cases c18 : x60_2 < (t654.length : Int)
         ·rw [if_pos c18] at H
          have c18b0 : decide (x60_2 < (t654.length : Int)) = true := decide_eq_true c18; clear c18
          (first | rw [c18b0] | (simp only [i64_w, i32_w]; rw [c18b0]) | skip)
          by_cases c19 : 0 ≤ x60_2
          ·rw [if_pos c19] at H
           have c19b0 : decide (0 ≤ x60_2) = true := decide_eq_true c19; clear c19
           by_cases c20 : x60_2 < (t654.length : Int)
           ·rw [if_pos c20] at H
            have c20b0 : decide (x60_2 < (t654.length : Int)) = true := decide_eq_true c20; clear c20; obtain ⟨⟨t670, t671, t672⟩, A21, H⟩ := ob H; (try dsimp -simprocs only at H)
            by_cases c22 : t672 = true
            ·subst c22
             rw [if_pos rfl] at H
             by_cases c23 : x60_2 < (t656.length : Int)
             ·rw [if_pos c23] at H
              have c23b0 : decide (x60_2 < (t656.length : Int)) = true := decide_eq_true c23; clear c23
              by_cases c24 : (rd t656 x60_2) = t670
              ·rw [if_pos c24] at H
               have c24b0 : ((rd t656 x60_2) == t670) = true := beq_iff_eq.mpr c24; have c24b1 : ((rd t656 x60_2) != t670) = false := bne_eq_false_iff_eq.mpr c24; clear c24; have c25b0 := eq_true (dT : 0 ≤ x60_2)
               by_cases c26 : x60_2 ≤ (t656.length : Int)
               ·rw [if_pos c26] at H
                have c26b0 := eq_true c26; have c26b1 : decide (x60_2 ≤ (t656.length : Int)) = true := decide_eq_true c26; clear c26; obtain ⟨y674, hy674⟩ : ∃ y_ : List Int, y_ = (t656.take (x60_2 : Int).toNat) := ⟨_, rfl⟩
                replace H : ((laws_pHas.f k2 y674 (rd t656 x60_2)).bind fun t679 => (if t679 = true then (some false) else (laws_FnCheckersOfCells.l0 k2 l1 t653 t654 t655 t656 t654 (t654.length : Int) (wrap64 (x60_2 + 1))))) = some r := by (try rw [hy674]); first | with_reducible exact H | exact (Option.bind_some _ _).symm.trans H | exact H
                have Ny674 := am hy674; clear hy674; obtain ⟨t679, A27, H⟩ := ob H; (try dsimp -simprocs only at H)
                by_cases c28 : t679 = true
                ·subst c28
                 rw [if_pos rfl] at H; exact absurd (Option.some.inj H) (by rw [HQT_.out]; decide)
                ·replace c28 := Bool.eq_false_iff.mpr c28
                 subst c28
                 rw [if_neg Bool.false_ne_true] at H; have H' := am H; clear H; obtain ⟨ad669, e669, hx669_0⟩ := Kd.at_string (Kd.R_reads' HO_58.out).2.2 x60_2 dT dT; cases e669; have p669 := eT (0 ≤ (x60_2 : Int)); have q669 := eT (x60_2 < (t654.length : Int))
                 go_wp2_with (first | (go_at_call 17; (with_reducible refine (impl_CellsOf.calls k2 t653 (rdOf ByteArray.empty t654 x60_2) t655 t670 t671 true _ A21.out).mono ?_); rintro e w' ⟨rfl, ⟨nd, rfl⟩⟩; (try exact yZ); obtain ⟨ad673, e673, hx673_0⟩ := Kd.at_int (Kd.R_reads' HO_8.out).2.2 x60_2 dT dT; cases e673; have p673 := eT (0 ≤ (x60_2 : Int)); have q673 := eT (x60_2 < (t656.length : Int)); have q29 : (x60_2 : Int) ≤ ((t656.length : Int) : Int) := dT; obtain ⟨i029, hi029, _, hsz29, _⟩ := info_parts info3; have hroom29 : t656.length ≤ co11 := (Kd.R_reads' HO_8.out).2.1; have hC29 : Kd.C (Kd.int .i64) _ (some ad673) t656.length t656 := (Kd.R_reads' HO_8.out).2.2; have hcut29 := cut_to (P := Try.prog) 31 3 .i64 Try.underlying31 hi029 (some ad673) t656.length co11 x60_2 (dT) q29 hroom29; have hr29 := Kd.C_take (m := (x60_2 : Int).toNat) hC29 (by omega); have hy29 : y674.length = (x60_2 : Int).toNat := (by rw [Ny674.out, List.length_take]; omega); rw [← Ny674.out] at hr29; rw [← hy29] at hcut29; have HR677 := am hr29; have HC677 := am (show y674.length ≤ co11 from by omega); clear hr29 hC29 hroom29 hi029 hsz29; have KY29 := am hy29; clear hy29; have KL29 := am (show (x60_2 : Int).toNat ≤ t656.length from by omega); replace q29 := eq_true q29; have p678 : 0 ≤ (x60_2 : Int) := dT; have q678 : x60_2 < (t656.length : Int) := dT; obtain ⟨ad678, e678, hx678_0⟩ := Kd.at_int (Kd.R_reads' HO_8.out).2.2 x60_2 p678 q678; obtain rfl : ad673 = ad678 := (by injection e678); replace p678 := eq_true p678; replace q678 := eq_true q678) | (go_at_call 16; (with_reducible refine (laws_pHas.calls k2 _ _ y674 (rd t656 x60_2) false _ ?side1 ?side2 A27.out).mono ?_); (case side1 => repeat (first | exact (by repeat (first | (with_reducible exact HR677.out) | (with_reducible refine Kd.C_alloc ?_ _) | (with_reducible refine Kd.C_drewN ?_ _) | (with_reducible refine Kd.C_drew ?_) | exact HR677.out)) | (with_reducible refine Kd.C_alloc ?_ _) | (with_reducible refine Kd.C_drewN ?_ _) | (with_reducible refine Kd.C_drew ?_))); (case side2 => exact HC677.out); rintro e w' ⟨rfl, ⟨nd, rfl⟩⟩; (try exact yZ)))
                 repeat (go_quiet (first | (go_at_call 17; (with_reducible refine (impl_CellsOf.calls k2 t653 (rdOf ByteArray.empty t654 x60_2) t655 t670 t671 true _ A21.out).mono ?_); rintro e w' ⟨rfl, ⟨nd, rfl⟩⟩; (try exact yZ); obtain ⟨ad673, e673, hx673_0⟩ := Kd.at_int (Kd.R_reads' HO_8.out).2.2 x60_2 dT dT; cases e673; have p673 := eT (0 ≤ (x60_2 : Int)); have q673 := eT (x60_2 < (t656.length : Int)); have q29 : (x60_2 : Int) ≤ ((t656.length : Int) : Int) := dT; obtain ⟨i029, hi029, _, hsz29, _⟩ := info_parts info3; have hroom29 : t656.length ≤ co11 := (Kd.R_reads' HO_8.out).2.1; have hC29 : Kd.C (Kd.int .i64) _ (some ad673) t656.length t656 := (Kd.R_reads' HO_8.out).2.2; have hcut29 := cut_to (P := Try.prog) 31 3 .i64 Try.underlying31 hi029 (some ad673) t656.length co11 x60_2 (dT) q29 hroom29; have hr29 := Kd.C_take (m := (x60_2 : Int).toNat) hC29 (by omega); have hy29 : y674.length = (x60_2 : Int).toNat := (by rw [Ny674.out, List.length_take]; omega); rw [← Ny674.out] at hr29; rw [← hy29] at hcut29; have HR677 := am hr29; have HC677 := am (show y674.length ≤ co11 from by omega); clear hr29 hC29 hroom29 hi029 hsz29; have KY29 := am hy29; clear hy29; have KL29 := am (show (x60_2 : Int).toNat ≤ t656.length from by omega); replace q29 := eq_true q29; have p678 : 0 ≤ (x60_2 : Int) := dT; have q678 : x60_2 < (t656.length : Int) := dT; obtain ⟨ad678, e678, hx678_0⟩ := Kd.at_int (Kd.R_reads' HO_8.out).2.2 x60_2 p678 q678; obtain rfl : ad673 = ad678 := (by injection e678); replace p678 := eq_true p678; replace q678 := eq_true q678) | (go_at_call 16; (with_reducible refine (laws_pHas.calls k2 _ _ y674 (rd t656 x60_2) false _ ?side1 ?side2 A27.out).mono ?_); (case side1 => repeat (first | exact (by repeat (first | (with_reducible exact HR677.out) | (with_reducible refine Kd.C_alloc ?_ _) | (with_reducible refine Kd.C_drewN ?_ _) | (with_reducible refine Kd.C_drew ?_) | exact HR677.out)) | (with_reducible refine Kd.C_alloc ?_ _) | (with_reducible refine Kd.C_drewN ?_ _) | (with_reducible refine Kd.C_drew ?_))); (case side2 => exact HC677.out); rintro e w' ⟨rfl, ⟨nd, rfl⟩⟩; (try exact yZ))); try go_wp2_with (first | (go_at_call 17; (with_reducible refine (impl_CellsOf.calls k2 t653 (rdOf ByteArray.empty t654 x60_2) t655 t670 t671 true _ A21.out).mono ?_); rintro e w' ⟨rfl, ⟨nd, rfl⟩⟩; (try exact yZ); obtain ⟨ad673, e673, hx673_0⟩ := Kd.at_int (Kd.R_reads' HO_8.out).2.2 x60_2 dT dT; cases e673; have p673 := eT (0 ≤ (x60_2 : Int)); have q673 := eT (x60_2 < (t656.length : Int)); have q29 : (x60_2 : Int) ≤ ((t656.length : Int) : Int) := dT; obtain ⟨i029, hi029, _, hsz29, _⟩ := info_parts info3; have hroom29 : t656.length ≤ co11 := (Kd.R_reads' HO_8.out).2.1; have hC29 : Kd.C (Kd.int .i64) _ (some ad673) t656.length t656 := (Kd.R_reads' HO_8.out).2.2; have hcut29 := cut_to (P := Try.prog) 31 3 .i64 Try.underlying31 hi029 (some ad673) t656.length co11 x60_2 (dT) q29 hroom29; have hr29 := Kd.C_take (m := (x60_2 : Int).toNat) hC29 (by omega); have hy29 : y674.length = (x60_2 : Int).toNat := (by rw [Ny674.out, List.length_take]; omega); rw [← Ny674.out] at hr29; rw [← hy29] at hcut29; have HR677 := am hr29; have HC677 := am (show y674.length ≤ co11 from by omega); clear hr29 hC29 hroom29 hi029 hsz29; have KY29 := am hy29; clear hy29; have KL29 := am (show (x60_2 : Int).toNat ≤ t656.length from by omega); replace q29 := eq_true q29; have p678 : 0 ≤ (x60_2 : Int) := dT; have q678 : x60_2 < (t656.length : Int) := dT; obtain ⟨ad678, e678, hx678_0⟩ := Kd.at_int (Kd.R_reads' HO_8.out).2.2 x60_2 p678 q678; obtain rfl : ad673 = ad678 := (by injection e678); replace p678 := eq_true p678; replace q678 := eq_true q678) | (go_at_call 16; (with_reducible refine (laws_pHas.calls k2 _ _ y674 (rd t656 x60_2) false _ ?side1 ?side2 A27.out).mono ?_); (case side1 => repeat (first | exact (by repeat (first | (with_reducible exact HR677.out) | (with_reducible refine Kd.C_alloc ?_ _) | (with_reducible refine Kd.C_drewN ?_ _) | (with_reducible refine Kd.C_drew ?_) | exact HR677.out)) | (with_reducible refine Kd.C_alloc ?_ _) | (with_reducible refine Kd.C_drewN ?_ _) | (with_reducible refine Kd.C_drew ?_))); (case side2 => exact HC677.out); rintro e w' ⟨rfl, ⟨nd, rfl⟩⟩; (try exact yZ))))
                 go_roundg k2
                 case measure => have := HJ7.out; have := HK2.out; omega
                 case rel => exact ⟨(wrap64 (x60_2 + 1)), wZ, H', ⟨by have := HJ7.out; have := HK2.out; omega⟩, ⟨Rz HO_6.out⟩, ⟨Rz HO_8.out⟩, ⟨Rz HO_58.out⟩, ⟨Bz HB.out⟩⟩
               ·rw [if_neg c26] at H
                exact absurd H (by simp)
              ·rw [if_neg c24] at H
               have c24b0 : ((rd t656 x60_2) == t670) = false := beq_eq_false_iff_ne.mpr c24; have c24b1 : ((rd t656 x60_2) != t670) = true := bne_iff_ne.mpr c24
               by_cases c30 : (rd t656 x60_2) = t671
               ·rw [if_pos c30] at H
                have c30b0 : ((rd t656 x60_2) == t671) = true := beq_iff_eq.mpr c30; have c30b1 : ((rd t656 x60_2) != t671) = false := bne_eq_false_iff_eq.mpr c30; clear c30; have c31b0 := eq_true (dT : 0 ≤ x60_2)
                by_cases c32 : x60_2 ≤ (t656.length : Int)
                ·rw [if_pos c32] at H
                 have c32b0 := eq_true c32; have c32b1 : decide (x60_2 ≤ (t656.length : Int)) = true := decide_eq_true c32; clear c32; obtain ⟨y681, hy681⟩ : ∃ y_ : List Int, y_ = (t656.take (x60_2 : Int).toNat) := ⟨_, rfl⟩
                 replace H : ((laws_pHas.f k2 y681 (rd t656 x60_2)).bind fun t686 => (if t686 = true then (some false) else (laws_FnCheckersOfCells.l0 k2 l1 t653 t654 t655 t656 t654 (t654.length : Int) (wrap64 (x60_2 + 1))))) = some r := by (try rw [hy681]); first | with_reducible exact H | exact (Option.bind_some _ _).symm.trans H | exact H
                 have Ny681 := am hy681; clear hy681; obtain ⟨t686, A33, H⟩ := ob H; (try dsimp -simprocs only at H)
                 by_cases c34 : t686 = true
                 ·subst c34
                  rw [if_pos rfl] at H; exact absurd (Option.some.inj H) (by rw [HQT_.out]; decide)
                 ·replace c34 := Bool.eq_false_iff.mpr c34
                  subst c34
                  rw [if_neg Bool.false_ne_true] at H; have H' := am H; clear H; obtain ⟨ad669, e669, hx669_0⟩ := Kd.at_string (Kd.R_reads' HO_58.out).2.2 x60_2 dT dT; cases e669; have p669 := eT (0 ≤ (x60_2 : Int)); have q669 := eT (x60_2 < (t654.length : Int))
                  go_wp2_with (first | (go_at_call 17; (with_reducible refine (impl_CellsOf.calls k2 t653 (rdOf ByteArray.empty t654 x60_2) t655 t670 t671 true _ A21.out).mono ?_); rintro e w' ⟨rfl, ⟨nd, rfl⟩⟩; (try exact yZ); obtain ⟨ad673, e673, hx673_0⟩ := Kd.at_int (Kd.R_reads' HO_8.out).2.2 x60_2 dT dT; cases e673; have p673 := eT (0 ≤ (x60_2 : Int)); have q673 := eT (x60_2 < (t656.length : Int)); have p680 : 0 ≤ (x60_2 : Int) := dT; have q680 : x60_2 < (t656.length : Int) := dT; obtain ⟨ad680, e680, hx680_0⟩ := Kd.at_int (Kd.R_reads' HO_8.out).2.2 x60_2 p680 q680; obtain rfl : ad673 = ad680 := (by injection e680); replace p680 := eq_true p680; replace q680 := eq_true q680; have q35 : (x60_2 : Int) ≤ ((t656.length : Int) : Int) := dT; obtain ⟨i035, hi035, _, hsz35, _⟩ := info_parts info3; have hroom35 : t656.length ≤ co11 := (Kd.R_reads' HO_8.out).2.1; have hC35 : Kd.C (Kd.int .i64) _ (some ad673) t656.length t656 := (Kd.R_reads' HO_8.out).2.2; have hcut35 := cut_to (P := Try.prog) 31 3 .i64 Try.underlying31 hi035 (some ad673) t656.length co11 x60_2 (dT) q35 hroom35; have hr35 := Kd.C_take (m := (x60_2 : Int).toNat) hC35 (by omega); have hy35 : y681.length = (x60_2 : Int).toNat := (by rw [Ny681.out, List.length_take]; omega); rw [← Ny681.out] at hr35; rw [← hy35] at hcut35; have HR684 := am hr35; have HC684 := am (show y681.length ≤ co11 from by omega); clear hr35 hC35 hroom35 hi035 hsz35; have KY35 := am hy35; clear hy35; have KL35 := am (show (x60_2 : Int).toNat ≤ t656.length from by omega); replace q35 := eq_true q35; have p685 : 0 ≤ (x60_2 : Int) := dT; have q685 : x60_2 < (t656.length : Int) := dT; obtain ⟨ad685, e685, hx685_0⟩ := Kd.at_int (Kd.R_reads' HO_8.out).2.2 x60_2 p685 q685; obtain rfl : ad673 = ad685 := (by injection e685); replace p685 := eq_true p685; replace q685 := eq_true q685) | (go_at_call 16; (with_reducible refine (laws_pHas.calls k2 _ _ y681 (rd t656 x60_2) false _ ?side1 ?side2 A33.out).mono ?_); (case side1 => repeat (first | exact (by repeat (first | (with_reducible exact HR684.out) | (with_reducible refine Kd.C_alloc ?_ _) | (with_reducible refine Kd.C_drewN ?_ _) | (with_reducible refine Kd.C_drew ?_) | exact HR684.out)) | (with_reducible refine Kd.C_alloc ?_ _) | (with_reducible refine Kd.C_drewN ?_ _) | (with_reducible refine Kd.C_drew ?_))); (case side2 => exact HC684.out); rintro e w' ⟨rfl, ⟨nd, rfl⟩⟩; (try exact yZ)))
                  repeat (go_quiet (first | (go_at_call 17; (with_reducible refine (impl_CellsOf.calls k2 t653 (rdOf ByteArray.empty t654 x60_2) t655 t670 t671 true _ A21.out).mono ?_); rintro e w' ⟨rfl, ⟨nd, rfl⟩⟩; (try exact yZ); obtain ⟨ad673, e673, hx673_0⟩ := Kd.at_int (Kd.R_reads' HO_8.out).2.2 x60_2 dT dT; cases e673; have p673 := eT (0 ≤ (x60_2 : Int)); have q673 := eT (x60_2 < (t656.length : Int)); have p680 : 0 ≤ (x60_2 : Int) := dT; have q680 : x60_2 < (t656.length : Int) := dT; obtain ⟨ad680, e680, hx680_0⟩ := Kd.at_int (Kd.R_reads' HO_8.out).2.2 x60_2 p680 q680; obtain rfl : ad673 = ad680 := (by injection e680); replace p680 := eq_true p680; replace q680 := eq_true q680; have q35 : (x60_2 : Int) ≤ ((t656.length : Int) : Int) := dT; obtain ⟨i035, hi035, _, hsz35, _⟩ := info_parts info3; have hroom35 : t656.length ≤ co11 := (Kd.R_reads' HO_8.out).2.1; have hC35 : Kd.C (Kd.int .i64) _ (some ad673) t656.length t656 := (Kd.R_reads' HO_8.out).2.2; have hcut35 := cut_to (P := Try.prog) 31 3 .i64 Try.underlying31 hi035 (some ad673) t656.length co11 x60_2 (dT) q35 hroom35; have hr35 := Kd.C_take (m := (x60_2 : Int).toNat) hC35 (by omega); have hy35 : y681.length = (x60_2 : Int).toNat := (by rw [Ny681.out, List.length_take]; omega); rw [← Ny681.out] at hr35; rw [← hy35] at hcut35; have HR684 := am hr35; have HC684 := am (show y681.length ≤ co11 from by omega); clear hr35 hC35 hroom35 hi035 hsz35; have KY35 := am hy35; clear hy35; have KL35 := am (show (x60_2 : Int).toNat ≤ t656.length from by omega); replace q35 := eq_true q35; have p685 : 0 ≤ (x60_2 : Int) := dT; have q685 : x60_2 < (t656.length : Int) := dT; obtain ⟨ad685, e685, hx685_0⟩ := Kd.at_int (Kd.R_reads' HO_8.out).2.2 x60_2 p685 q685; obtain rfl : ad673 = ad685 := (by injection e685); replace p685 := eq_true p685; replace q685 := eq_true q685) | (go_at_call 16; (with_reducible refine (laws_pHas.calls k2 _ _ y681 (rd t656 x60_2) false _ ?side1 ?side2 A33.out).mono ?_); (case side1 => repeat (first | exact (by repeat (first | (with_reducible exact HR684.out) | (with_reducible refine Kd.C_alloc ?_ _) | (with_reducible refine Kd.C_drewN ?_ _) | (with_reducible refine Kd.C_drew ?_) | exact HR684.out)) | (with_reducible refine Kd.C_alloc ?_ _) | (with_reducible refine Kd.C_drewN ?_ _) | (with_reducible refine Kd.C_drew ?_))); (case side2 => exact HC684.out); rintro e w' ⟨rfl, ⟨nd, rfl⟩⟩; (try exact yZ))); try go_wp2_with (first | (go_at_call 17; (with_reducible refine (impl_CellsOf.calls k2 t653 (rdOf ByteArray.empty t654 x60_2) t655 t670 t671 true _ A21.out).mono ?_); rintro e w' ⟨rfl, ⟨nd, rfl⟩⟩; (try exact yZ); obtain ⟨ad673, e673, hx673_0⟩ := Kd.at_int (Kd.R_reads' HO_8.out).2.2 x60_2 dT dT; cases e673; have p673 := eT (0 ≤ (x60_2 : Int)); have q673 := eT (x60_2 < (t656.length : Int)); have p680 : 0 ≤ (x60_2 : Int) := dT; have q680 : x60_2 < (t656.length : Int) := dT; obtain ⟨ad680, e680, hx680_0⟩ := Kd.at_int (Kd.R_reads' HO_8.out).2.2 x60_2 p680 q680; obtain rfl : ad673 = ad680 := (by injection e680); replace p680 := eq_true p680; replace q680 := eq_true q680; have q35 : (x60_2 : Int) ≤ ((t656.length : Int) : Int) := dT; obtain ⟨i035, hi035, _, hsz35, _⟩ := info_parts info3; have hroom35 : t656.length ≤ co11 := (Kd.R_reads' HO_8.out).2.1; have hC35 : Kd.C (Kd.int .i64) _ (some ad673) t656.length t656 := (Kd.R_reads' HO_8.out).2.2; have hcut35 := cut_to (P := Try.prog) 31 3 .i64 Try.underlying31 hi035 (some ad673) t656.length co11 x60_2 (dT) q35 hroom35; have hr35 := Kd.C_take (m := (x60_2 : Int).toNat) hC35 (by omega); have hy35 : y681.length = (x60_2 : Int).toNat := (by rw [Ny681.out, List.length_take]; omega); rw [← Ny681.out] at hr35; rw [← hy35] at hcut35; have HR684 := am hr35; have HC684 := am (show y681.length ≤ co11 from by omega); clear hr35 hC35 hroom35 hi035 hsz35; have KY35 := am hy35; clear hy35; have KL35 := am (show (x60_2 : Int).toNat ≤ t656.length from by omega); replace q35 := eq_true q35; have p685 : 0 ≤ (x60_2 : Int) := dT; have q685 : x60_2 < (t656.length : Int) := dT; obtain ⟨ad685, e685, hx685_0⟩ := Kd.at_int (Kd.R_reads' HO_8.out).2.2 x60_2 p685 q685; obtain rfl : ad673 = ad685 := (by injection e685); replace p685 := eq_true p685; replace q685 := eq_true q685) | (go_at_call 16; (with_reducible refine (laws_pHas.calls k2 _ _ y681 (rd t656 x60_2) false _ ?side1 ?side2 A33.out).mono ?_); (case side1 => repeat (first | exact (by repeat (first | (with_reducible exact HR684.out) | (with_reducible refine Kd.C_alloc ?_ _) | (with_reducible refine Kd.C_drewN ?_ _) | (with_reducible refine Kd.C_drew ?_) | exact HR684.out)) | (with_reducible refine Kd.C_alloc ?_ _) | (with_reducible refine Kd.C_drewN ?_ _) | (with_reducible refine Kd.C_drew ?_))); (case side2 => exact HC684.out); rintro e w' ⟨rfl, ⟨nd, rfl⟩⟩; (try exact yZ))))
                  go_roundg k2
                  case measure => have := HJ7.out; have := HK2.out; omega
                  case rel => exact ⟨(wrap64 (x60_2 + 1)), wZ, H', ⟨by have := HJ7.out; have := HK2.out; omega⟩, ⟨Rz HO_6.out⟩, ⟨Rz HO_8.out⟩, ⟨Rz HO_58.out⟩, ⟨Bz HB.out⟩⟩
                ·rw [if_neg c32] at H
                 exact absurd H (by simp)
               ·rw [if_neg c30] at H
                have c30b0 : ((rd t656 x60_2) == t671) = false := beq_eq_false_iff_ne.mpr c30; have c30b1 : ((rd t656 x60_2) != t671) = true := bne_iff_ne.mpr c30; exact absurd (Option.some.inj H) (by rw [HQT_.out]; decide)
             ·rw [if_neg c23] at H
              exact absurd H (by simp)
            ·replace c22 := Bool.eq_false_iff.mpr c22
             subst c22
             rw [if_neg Bool.false_ne_true] at H; exact absurd (Option.some.inj H) (by rw [HQT_.out]; decide)
           ·rw [if_neg c20] at H
            exact absurd H (by simp)
          ·rw [if_neg c19] at H
           exact absurd H (by simp)
         ·rw [if_neg c18] at H
          have c18b0 : decide (x60_2 < (t654.length : Int)) = false := decide_eq_false c18; clear c18
          (first | rw [c18b0] | (simp only [i64_w, i32_w]; rw [c18b0]) | skip)
          obtain ⟨⟨t665, t666⟩, A36, H⟩ := ob H; (try dsimp -simprocs only at H)
          by_cases c37 : t666 = true
          ·subst c37
           rw [if_pos rfl] at H; exact absurd (Option.some.inj H) (by rw [HQT_.out]; decide)
          ·replace c37 := Bool.eq_false_iff.mpr c37
           subst c37
           rw [if_neg Bool.false_ne_true] at H; have H' := am H; clear H
           go_wp2_with (first | (go_at_call 23; (with_reducible refine (impl_CrowdOf.calls k2 t653 _ _ t654 t655 t665 false _ ?side1 ?side2 A36.out).mono ?_); (case side1 => exact Cz ((Kd.R_reads' HO_6.out).2.2)); (case side2 => exact (Kd.R_reads' HO_6.out).2.1); rintro e w38 ⟨v667, rfl, ho0, hb⟩; have n0_ := Rb HO_6 hb; have n1_ := Re HO_8 (Kd.R_base ho0) hb; have n2_ := Rb HO_58 hb; have n3_ := Rl (Kd.R_new' ho0 (Kd.R_lt (Rz HO_8.out))) HB; have n4_ := Bb HB hb; clear HO_6 HO_8 HO_58 HB; revert n0_ n1_ n2_ n3_ n4_; intro HO_6 HO_8 HO_58 HO668 HB; (try clear hb); (try clear hb2); (try clear hk); (try clear hi); (try clear ho0)))
           repeat (go_quiet (first | (go_at_call 23; (with_reducible refine (impl_CrowdOf.calls k2 t653 _ _ t654 t655 t665 false _ ?side1 ?side2 A36.out).mono ?_); (case side1 => exact Cz ((Kd.R_reads' HO_6.out).2.2)); (case side2 => exact (Kd.R_reads' HO_6.out).2.1); rintro e w38 ⟨v667, rfl, ho0, hb⟩; have n0_ := Rb HO_6 hb; have n1_ := Re HO_8 (Kd.R_base ho0) hb; have n2_ := Rb HO_58 hb; have n3_ := Rl (Kd.R_new' ho0 (Kd.R_lt (Rz HO_8.out))) HB; have n4_ := Bb HB hb; clear HO_6 HO_8 HO_58 HB; revert n0_ n1_ n2_ n3_ n4_; intro HO_6 HO_8 HO_58 HO668 HB; (try clear hb); (try clear hb2); (try clear hk); (try clear hi); (try clear ho0))); try go_wp2_with (first | (go_at_call 23; (with_reducible refine (impl_CrowdOf.calls k2 t653 _ _ t654 t655 t665 false _ ?side1 ?side2 A36.out).mono ?_); (case side1 => exact Cz ((Kd.R_reads' HO_6.out).2.2)); (case side2 => exact (Kd.R_reads' HO_6.out).2.1); rintro e w38 ⟨v667, rfl, ho0, hb⟩; have n0_ := Rb HO_6 hb; have n1_ := Re HO_8 (Kd.R_base ho0) hb; have n2_ := Rb HO_58 hb; have n3_ := Rl (Kd.R_new' ho0 (Kd.R_lt (Rz HO_8.out))) HB; have n4_ := Bb HB hb; clear HO_6 HO_8 HO_58 HB; revert n0_ n1_ n2_ n3_ n4_; intro HO_6 HO_8 HO_58 HO668 HB; (try clear hb); (try clear hb2); (try clear hk); (try clear hi); (try clear ho0))))
           go_meet
           case rel => exact ⟨_, H', ⟨by have := HJ7.out; have := HK2.out; first | omega | exact Nat.le_refl _⟩, ⟨Bz HB.out⟩⟩
      ·replace c17 := Bool.eq_false_iff.mpr c17
       subst c17
       rw [if_neg Bool.false_ne_true] at H; have H' := am H; clear H
       go_wp2
       repeat (go_quiet (fail); try go_wp2)
       go_meet
       case rel => exact ⟨_, H', ⟨by have := HJ7.out; first | omega | exact Nat.le_refl _⟩, ⟨Bz HB.out⟩⟩
     case rest =>
      clear HC16
      try clear c1
      try clear c2
      try clear p2
      try clear q2
      try clear c3
      try clear q3
      try clear c4
      try clear p6
      try clear q6
      try clear hx6
      try clear c7
      try clear c14
      try clear c14b0
      try clear c14b1
      try clear c14b2
      try clear c15
      try clear c17
      try clear c18
      try clear c18b0
      try clear c19
      try clear c19b0
      try clear c20
      try clear c20b0
      try clear c22
      try clear c23
      try clear c23b0
      try clear c24
      try clear c24b0
      try clear c24b1
      try clear c25
      try clear c25b0
      try clear c26
      try clear c26b0
      try clear c26b1
      try clear c28
      try clear q29
      try clear c30
      try clear c30b0
      try clear c30b1
      try clear c31
      try clear c31b0
      try clear c32
      try clear c32b0
      try clear c32b1
      try clear c34
      try clear q35
      try clear c37
      try clear hx669_0
      try clear hx673_0
      try clear hx678_0
      try clear hx680_0
      try clear hx685_0
      try clear p2
      try clear p669
      try clear p673
      try clear p678
      try clear p680
      try clear p685
      try clear q29
      try clear q35
      try clear q669
      try clear q673
      try clear q678
      try clear q680
      try clear q685
      obtain ⟨kq, HA, HJ15, HB⟩ := hcut; cases kq with
      | zero => exact absurd HA.out (by simp [laws_FnCheckersOfCells.j2])
      | succ kj15 =>
       have H := HA.out; clear HA
       simp only [laws_FnCheckersOfCells.j2] at H
       obtain ⟨⟨t687, t688, t689, t690⟩, A39, H⟩ := ob H; (try dsimp -simprocs only at H); obtain ⟨⟨t695, t696⟩, A40, H⟩ := ob H; (try dsimp -simprocs only at H); obtain ⟨⟨t697, t698⟩, A41, H⟩ := ob H; (try dsimp -simprocs only at H); have HC42 := am H; clear H
       go_upto_region 22 with (first | (go_at_call 38; (with_reducible refine (spec_DrawIsCrowd.calls kj15 _ _ l1 t687 t688 t689 t690 _ ?side1 ?side2 A39.out).mono ?_); (case side1 => exact Cz (Kd.C_below HR1.out HB.out)); (case side2 => exact HC1.out); rintro e w43 ⟨v691, v693, rfl, ho0, ho1, hb⟩; have n0_ := Rl ho0 HB; have n1_ := Rl ho1 HB; have n2_ := Bb HB hb; clear HB; revert n0_ n1_ n2_; intro HO692 HO694 HB; (try clear hb); (try clear hb2); (try clear hk); (try clear hi); (try clear ho0); (try clear ho1); obtain ⟨Ao44, co44, eo44⟩ := Kd.R_slice HO692.out; subst eo44; obtain ⟨Ao45, co45, eo45⟩ := Kd.R_slice HO694.out; subst eo45) | (go_at_call 35; (with_reducible refine (impl_IsCrowd.calls kj15 t687 _ _ t688 t689 _ _ t690 t695 t696 _ ?side1 ?side2 ?side3 ?side4 A40.out).mono ?_); (case side1 => exact Cz ((Kd.R_reads' HO692.out).2.2)); (case side2 => exact (Kd.R_reads' HO692.out).2.1); (case side3 => exact Cz ((Kd.R_reads' HO694.out).2.2)); (case side4 => exact (Kd.R_reads' HO694.out).2.1); rintro e w46 ⟨rfl, hb⟩; have n0_ := Rb HO692 hb; have n1_ := Rb HO694 hb; have n2_ := Bb HB hb; clear HO692 HO694 HB; revert n0_ n1_ n2_; intro HO692 HO694 HB; (try clear hb); (try clear hb2); (try clear hk); (try clear hi)) | (go_at_call 39; (with_reducible refine (spec_IsCrowd.calls kj15 t687 _ _ t688 t689 _ _ t690 t697 t698 _ ?side1 ?side2 ?side3 ?side4 A41.out).mono ?_); (case side1 => exact Cz ((Kd.R_reads' HO692.out).2.2)); (case side2 => exact (Kd.R_reads' HO692.out).2.1); (case side3 => exact Cz ((Kd.R_reads' HO694.out).2.2)); (case side4 => exact (Kd.R_reads' HO694.out).2.1); rintro e w47 ⟨rfl, hb⟩; have n0_ := Rb HO692 hb; have n1_ := Rb HO694 hb; have n2_ := Bb HB hb; clear HO692 HO694 HB; revert n0_ n1_ n2_; intro HO692 HO694 HB; (try clear hb); (try clear hb2); (try clear hk); (try clear hi)))
       repeat (go_quiet (first | (go_at_call 38; (with_reducible refine (spec_DrawIsCrowd.calls kj15 _ _ l1 t687 t688 t689 t690 _ ?side1 ?side2 A39.out).mono ?_); (case side1 => exact Cz (Kd.C_below HR1.out HB.out)); (case side2 => exact HC1.out); rintro e w43 ⟨v691, v693, rfl, ho0, ho1, hb⟩; have n0_ := Rl ho0 HB; have n1_ := Rl ho1 HB; have n2_ := Bb HB hb; clear HB; revert n0_ n1_ n2_; intro HO692 HO694 HB; (try clear hb); (try clear hb2); (try clear hk); (try clear hi); (try clear ho0); (try clear ho1); obtain ⟨Ao44, co44, eo44⟩ := Kd.R_slice HO692.out; subst eo44; obtain ⟨Ao45, co45, eo45⟩ := Kd.R_slice HO694.out; subst eo45) | (go_at_call 35; (with_reducible refine (impl_IsCrowd.calls kj15 t687 _ _ t688 t689 _ _ t690 t695 t696 _ ?side1 ?side2 ?side3 ?side4 A40.out).mono ?_); (case side1 => exact Cz ((Kd.R_reads' HO692.out).2.2)); (case side2 => exact (Kd.R_reads' HO692.out).2.1); (case side3 => exact Cz ((Kd.R_reads' HO694.out).2.2)); (case side4 => exact (Kd.R_reads' HO694.out).2.1); rintro e w46 ⟨rfl, hb⟩; have n0_ := Rb HO692 hb; have n1_ := Rb HO694 hb; have n2_ := Bb HB hb; clear HO692 HO694 HB; revert n0_ n1_ n2_; intro HO692 HO694 HB; (try clear hb); (try clear hb2); (try clear hk); (try clear hi)) | (go_at_call 39; (with_reducible refine (spec_IsCrowd.calls kj15 t687 _ _ t688 t689 _ _ t690 t697 t698 _ ?side1 ?side2 ?side3 ?side4 A41.out).mono ?_); (case side1 => exact Cz ((Kd.R_reads' HO692.out).2.2)); (case side2 => exact (Kd.R_reads' HO692.out).2.1); (case side3 => exact Cz ((Kd.R_reads' HO694.out).2.2)); (case side4 => exact (Kd.R_reads' HO694.out).2.1); rintro e w47 ⟨rfl, hb⟩; have n0_ := Rb HO692 hb; have n1_ := Rb HO694 hb; have n2_ := Bb HB hb; clear HO692 HO694 HB; revert n0_ n1_ n2_; intro HO692 HO694 HB; (try clear hb); (try clear hb2); (try clear hk); (try clear hi))); go_upto_region 22 with (first | (go_at_call 38; (with_reducible refine (spec_DrawIsCrowd.calls kj15 _ _ l1 t687 t688 t689 t690 _ ?side1 ?side2 A39.out).mono ?_); (case side1 => exact Cz (Kd.C_below HR1.out HB.out)); (case side2 => exact HC1.out); rintro e w43 ⟨v691, v693, rfl, ho0, ho1, hb⟩; have n0_ := Rl ho0 HB; have n1_ := Rl ho1 HB; have n2_ := Bb HB hb; clear HB; revert n0_ n1_ n2_; intro HO692 HO694 HB; (try clear hb); (try clear hb2); (try clear hk); (try clear hi); (try clear ho0); (try clear ho1); obtain ⟨Ao44, co44, eo44⟩ := Kd.R_slice HO692.out; subst eo44; obtain ⟨Ao45, co45, eo45⟩ := Kd.R_slice HO694.out; subst eo45) | (go_at_call 35; (with_reducible refine (impl_IsCrowd.calls kj15 t687 _ _ t688 t689 _ _ t690 t695 t696 _ ?side1 ?side2 ?side3 ?side4 A40.out).mono ?_); (case side1 => exact Cz ((Kd.R_reads' HO692.out).2.2)); (case side2 => exact (Kd.R_reads' HO692.out).2.1); (case side3 => exact Cz ((Kd.R_reads' HO694.out).2.2)); (case side4 => exact (Kd.R_reads' HO694.out).2.1); rintro e w46 ⟨rfl, hb⟩; have n0_ := Rb HO692 hb; have n1_ := Rb HO694 hb; have n2_ := Bb HB hb; clear HO692 HO694 HB; revert n0_ n1_ n2_; intro HO692 HO694 HB; (try clear hb); (try clear hb2); (try clear hk); (try clear hi)) | (go_at_call 39; (with_reducible refine (spec_IsCrowd.calls kj15 t687 _ _ t688 t689 _ _ t690 t697 t698 _ ?side1 ?side2 ?side3 ?side4 A41.out).mono ?_); (case side1 => exact Cz ((Kd.R_reads' HO692.out).2.2)); (case side2 => exact (Kd.R_reads' HO692.out).2.1); (case side3 => exact Cz ((Kd.R_reads' HO694.out).2.2)); (case side4 => exact (Kd.R_reads' HO694.out).2.1); rintro e w47 ⟨rfl, hb⟩; have n0_ := Rb HO692 hb; have n1_ := Rb HO694 hb; have n2_ := Bb HB hb; clear HO692 HO694 HB; revert n0_ n1_ n2_; intro HO692 HO694 HB; (try clear hb); (try clear hb2); (try clear hk); (try clear hi))))
       (try simp only [aP])
       go_cut [140] (fun v140 wc => ∃ (kq : Nat) (x140_41 : Bool), v140 = .bool x140_41 ∧ Aside0 (laws_FnCheckersOfCells.j3 kq t687 t688 t689 t695 x140_41 = some r) ∧ Aside0 (kq ≤ kj15) ∧ Aside0 (Kd.R Kd.string 9 wc w.heap.size (fun _ => True) (.slice Ao44 t688.length co44) t688) ∧ Aside0 (Below w.heap.size w wc))
       case first =>
        have H := HC42.out; clear HC42
        by_cases c48 : (t696 != t698) = true
        ·rw [if_pos c48] at H
         have c48b0 : (t696 != t698) = true := c48
         (try (have c48b1 : decide (t696 = t698) = false := by simpa using c48))
         (try (have c48b2 : (t696 == t698) = false := by simpa using c48))
         (try (have c48b3 : ¬ (t696 = t698) := by simpa using c48))
         (try (have c48b4 : (!(t696 == t698)) = true := c48b0))
         clear c48
         (first | rw [c48b0] | (simp only [i64_w, i32_w]; rw [c48b0]) | skip)
         exact absurd (H.trans (congrArg some HQT_.out)) (laws_FnCheckersOfCells.j3.dead _ _ _ _ _)
        ·rw [if_neg c48] at H
         have c48b0 : (t696 != t698) = false := by simpa using c48
         (try (have c48b1 : decide (t696 = t698) = true := by simpa using c48))
         (try (have c48b2 : (t696 == t698) = true := by simpa using c48))
         (try (have c48b3 : (!(t696 == t698)) = false := c48b0))
         clear c48
         (first | rw [c48b0] | (simp only [i64_w, i32_w]; rw [c48b0]) | skip)
         have H' := am H; clear H
         go_wp2
         repeat (go_quiet (fail); try go_wp2)
         go_meet
         case rel => exact ⟨_, ((t695 != t697)), wZ, H', ⟨by have := HJ7.out; have := HJ15.out; first | omega | exact Nat.le_refl _⟩, ⟨Rz HO692.out⟩, ⟨Bz HB.out⟩⟩
       case rest =>
        clear HC42
        try clear c1
        try clear c2
        try clear p2
        try clear q2
        try clear c3
        try clear q3
        try clear c4
        try clear p6
        try clear q6
        try clear hx6
        try clear c7
        try clear c14
        try clear c14b0
        try clear c14b1
        try clear c14b2
        try clear c15
        try clear c17
        try clear c18
        try clear c18b0
        try clear c19
        try clear c19b0
        try clear c20
        try clear c20b0
        try clear c22
        try clear c23
        try clear c23b0
        try clear c24
        try clear c24b0
        try clear c24b1
        try clear c25
        try clear c25b0
        try clear c26
        try clear c26b0
        try clear c26b1
        try clear c28
        try clear q29
        try clear c30
        try clear c30b0
        try clear c30b1
        try clear c31
        try clear c31b0
        try clear c32
        try clear c32b0
        try clear c32b1
        try clear c34
        try clear q35
        try clear c37
        try clear c48
        try clear c48b0
        try clear c48b1
        try clear c48b2
        try clear hx669_0
        try clear hx673_0
        try clear hx678_0
        try clear hx680_0
        try clear hx685_0
        try clear p2
        try clear p6
        try clear p669
        try clear p673
        try clear p678
        try clear p680
        try clear p685
        try clear q2
        try clear q29
        try clear q3
        try clear q35
        try clear q6
        try clear q669
        try clear q673
        try clear q678
        try clear q680
        try clear q685
        obtain ⟨kq, x140_41, rfl, HA, HJ41, HO_6, HB⟩ := hcut; cases kq with
        | zero => exact absurd HA.out (by simp [laws_FnCheckersOfCells.j3])
        | succ kj41 =>
         have H := HA.out; clear HA
         simp only [laws_FnCheckersOfCells.j3] at H
         by_cases c49 : x140_41 = true
         ·subst c49
          rw [if_pos rfl] at H; exact absurd (Option.some.inj H) (by rw [HQT_.out]; decide)
         ·replace c49 := Bool.eq_false_iff.mpr c49
          subst c49
          rw [if_neg Bool.false_ne_true] at H
          by_cases c50 : t695 = true
          ·subst c50
           rw [if_pos rfl] at H; obtain ⟨⟨t699, t700⟩, A51, H⟩ := ob H; (try dsimp -simprocs only at H); obtain rfl := Option.some.inj H
           go_wp2_with (first | (go_at_call 22; (with_reducible refine (impl_PlaceKeys.calls kj41 t687 _ _ t688 t689 t699 t700 _ ?side1 ?side2 A51.out).mono ?_); (case side1 => exact Cz ((Kd.R_reads' HO_6.out).2.2)); (case side2 => exact (Kd.R_reads' HO_6.out).2.1); rintro e w52 ⟨v701, rfl, ho0, hb⟩; have n0_ := Rb HO_6 hb; have n1_ := Rl ho0 HB; have n2_ := Bb HB hb; clear HO_6 HB; revert n0_ n1_ n2_; intro HO_6 HO702 HB; (try clear hb); (try clear hb2); (try clear hk); (try clear hi); (try clear ho0)))
           repeat (go_quiet (first | (go_at_call 22; (with_reducible refine (impl_PlaceKeys.calls kj41 t687 _ _ t688 t689 t699 t700 _ ?side1 ?side2 A51.out).mono ?_); (case side1 => exact Cz ((Kd.R_reads' HO_6.out).2.2)); (case side2 => exact (Kd.R_reads' HO_6.out).2.1); rintro e w52 ⟨v701, rfl, ho0, hb⟩; have n0_ := Rb HO_6 hb; have n1_ := Rl ho0 HB; have n2_ := Bb HB hb; clear HO_6 HB; revert n0_ n1_ n2_; intro HO_6 HO702 HB; (try clear hb); (try clear hb2); (try clear hk); (try clear hi); (try clear ho0))); try go_wp2_with (first | (go_at_call 22; (with_reducible refine (impl_PlaceKeys.calls kj41 t687 _ _ t688 t689 t699 t700 _ ?side1 ?side2 A51.out).mono ?_); (case side1 => exact Cz ((Kd.R_reads' HO_6.out).2.2)); (case side2 => exact (Kd.R_reads' HO_6.out).2.1); rintro e w52 ⟨v701, rfl, ho0, hb⟩; have n0_ := Rb HO_6 hb; have n1_ := Rl ho0 HB; have n2_ := Bb HB hb; clear HO_6 HB; revert n0_ n1_ n2_; intro HO_6 HO702 HB; (try clear hb); (try clear hb2); (try clear hk); (try clear hi); (try clear ho0))))
           go_ret
           exact ⟨eZ, Bz HB.out⟩
          ·replace c50 := Bool.eq_false_iff.mpr c50
           subst c50
           rw [if_neg Bool.false_ne_true] at H; obtain rfl := Option.some.inj H
           go_wp2
           repeat (go_quiet (fail); try go_wp2)
           go_ret
           exact ⟨eZ, Bz HB.out⟩

def laws_FnCheckersOfCells.Pure : Prop := ∀ (l0 : List Int) (l1 : List Int), l0.length ≤ maxLen → l0.length * 1 ≤ 140737488351232 → (∀ x ∈ l0, (Lit.int .u8 x).wf = true) → l1.length ≤ maxLen → l1.length * 1 ≤ 140737488351232 → (∀ x ∈ l1, (Lit.int .u8 x).wf = true) → ∃ k, laws_FnCheckersOfCells.f k l0 l1 = some true
theorem laws_FnCheckersOfCells.walk (P : laws_FnCheckersOfCells.Pure) (a0 : Option Addr) (len0 cap0 : Nat) (z0 : List Int) (a1 : Option Addr) (len1 cap1 : Nat) (z1 : List Int) (w : World) (w0 : (a0 = none ∧ len0 = 0 ∧ cap0 = 0 ∧ z0 = []) ∨ ∃ x, a0 = some x ∧ len0 ≤ cap0 ∧ cap0 ≤ maxLen ∧ z0.length = cap0 ∧ (∀ i, i < z0.length → w.cell? (x.add i) = some (.int .u8 (z0.getD i 0))) ∧ ∀ n ∈ z0, (Lit.int .u8 n).wf = true) (y0 : len0 * 1 ≤ 140737488351232) (w1 : (a1 = none ∧ len1 = 0 ∧ cap1 = 0 ∧ z1 = []) ∨ ∃ x, a1 = some x ∧ len1 ≤ cap1 ∧ cap1 ≤ maxLen ∧ z1.length = cap1 ∧ (∀ i, i < z1.length → w.cell? (x.add i) = some (.int .u8 (z1.getD i 0))) ∧ ∀ n ∈ z1, (Lit.int .u8 n).wf = true) (y1 : len1 * 1 ≤ 140737488351232) :
  Calls Try.prog 7 #[.slice a0 len0 cap0, .slice a1 len1 cap1] w fun e w' => e = .returned (.bool true) ∧ Below w.heap.size w w' := by
 obtain ⟨l0, rfl, hr0, hm0, hw0, hc0⟩ := ReadsInt.ofRowC w0; obtain ⟨l1, rfl, hr1, hm1, hw1, hc1⟩ := ReadsInt.ofRowC w1; obtain ⟨k, h⟩ := P l0 l1 hm0 y0 hw0 hm1 y1 hw1; refine (laws_FnCheckersOfCells.calls k _ _ l0 _ _ l1 true w (Kd.C_of_reads (d := (0 : Int)) (h1 := fun _ => rfl) hr0) hc0 (Kd.C_of_reads (d := (0 : Int)) (h1 := fun _ => rfl) hr1) hc1 h rfl).mono ?_; rintro e w' ⟨rfl, hd⟩; exact ⟨rfl, hd⟩

end Go.Proofs.Ytephjmmkggcmeaa.PC
namespace Go.Proofs.YtephjmmkggcmeaaQ
open Go Go.RowKit Go.Proofs.YtephjmmkggcmeaaW.PrintWords Go.Proofs.YtephjmmkggcmeaaGp

theorem ev_succ {α : Type} {g : Nat → Option α} {r : α} (h : Ev (fun k => g (k + 1)) r) : Ev g r := Ev.step (f := fun k => g (k + 1)) (fun _ => rfl) h
theorem ev_some {α : Type} {a r : α} (h : a = r) : Ev (fun _ => some a) r := h ▸ Ev.now a
theorem ev_pos {α : Type} {c : Prop} [Decidable c] {f g : Nat → Option α} {r : α} (h : c) (k : Ev f r) : Ev (fun n => if c then f n else g n) r := by simpa only [if_pos h] using k
theorem ev_neg {α : Type} {c : Prop} [Decidable c] {f g : Nat → Option α} {r : α} (h : ¬ c) (k : Ev g r) : Ev (fun n => if c then f n else g n) r := by simpa only [if_neg h] using k
theorem ev_bind {α β : Type} {g : Nat → Option α} {f : Nat → α → Option β} {r : β} (a : α) (h : Ev g a) (k : Ev (fun n => f n a) r) : Ev (fun n => (g n).bind (f n)) r := Ev.bind h k
theorem w64 {x : Int} (h0 : -9223372036854775808 ≤ x) (h1 : x ≤ 9223372036854775807) : wrap64 x = x := by unfold wrap64; omega
theorem winc {i : Nat} (h : (i : Int) < 9223372036854775807) : wrap64 ((i : Int) + 1) = ((i + 1 : Nat) : Int) := by unfold wrap64; omega
theorem wdec {i : Nat} (h : (i : Int) < 9223372036854775807) : wrap64 (((i + 1 : Nat) : Int) - 1) = (i : Int) := by unfold wrap64; omega
theorem maxLen_eq : maxLen = 9223372036854775807 := by unfold maxLen; rfl
section
variable {α : Type} {d : α} {pre t : List α} {s : α}
theorem rdOf_mid : rdOf d (pre ++ s :: t) ((pre.length : Nat) : Int) = s := by simp [rdOf]
theorem rdOf_last {p : α} : rdOf d ((pre ++ [p]) ++ s :: t) ((pre.length : Nat) : Int) = p := by simp [rdOf]
theorem rdOf_get {xs : List α} {i : Nat} (h : i < xs.length) : rdOf d xs (i : Int) = xs[i] := by simp [rdOf, h]
theorem lt_mid : ((pre.length : Nat) : Int) < ((pre ++ s :: t).length : Int) := by simp; omega
theorem not_lt_end : ¬ ((pre.length : Nat) : Int) < ((pre ++ ([] : List α)).length : Int) := by simp
theorem len_one : ((pre ++ [s]).length : Int) = ((pre.length + 1 : Nat) : Int) := by simp
end
theorem rd_mid {pre t : List Int} {s : Int} : rd (pre ++ s :: t) ((pre.length : Nat) : Int) = s := by simp [rd]
theorem rd_get {xs : List Int} {i : Nat} (h : i < xs.length) : rd xs (i : Int) = xs[i] := by simp [rd, h]

theorem tl (s : ByteArray) : s.toList = s.data.toList := Lib.toList_data s
theorem tl_inj {x y : ByteArray} : x.toList = y.toList ↔ x = y := by
  rw [tl, tl]
  exact ⟨fun h => ByteArray.ext (Array.toList_inj.1 h), fun h => h ▸ rfl⟩
theorem size_len (s : ByteArray) : s.size = s.data.toList.length := (data_length s).symm
theorem bt_mid {s : ByteArray} {pre t : List UInt8} {c : UInt8} (h : s.data.toList = pre ++ c :: t) : bt s ((pre.length : Nat) : Int) = (c.toNat : Int) := by
  have hs : pre.length < s.size := by rw [size_len, h]; simp
  have hg : s[pre.length]'hs = c := by
    have : s.data.toList[pre.length]'(by rw [h]; simp) = c := by simp [h]
    rw [← this]; rfl
  unfold bt
  rw [dif_pos (by simpa using hs)]
  simp only [Int.toNat_natCast, hg]
theorem lt_size {s : ByteArray} {pre t : List UInt8} {c : UInt8} (h : s.data.toList = pre ++ c :: t) : ((pre.length : Nat) : Int) < (s.size : Int) := by rw [size_len, h]; simp; omega
theorem not_lt_size {s : ByteArray} {pre : List UInt8} (h : s.data.toList = pre ++ []) : ¬ ((pre.length : Nat) : Int) < (s.size : Int) := by rw [size_len, h]; simp
def lessS (a b : ByteArray) : Bool := Op.bytesLess a.toList b.toList
end Go.Proofs.YtephjmmkggcmeaaQ
namespace Go.Proofs.YtephjmmkggcmeaaQ
open Go Go.RowKit Go.Proofs.YtephjmmkggcmeaaW.PrintWords Go.Proofs.YtephjmmkggcmeaaGp Go.Proofs.Ytephjmmkggcmeaa.PC

theorem spec_in (n a b : Int) : spec_l1In.f n a b = some (decide (a ≤ n ∧ n ≤ b)) := by
  unfold spec_l1In.f
  by_cases h : a ≤ n <;> by_cases h' : n ≤ b <;> simp [h, h']
theorem impl_in (n a b : Int) : impl_in.f n a b = some (decide (a ≤ n ∧ n ≤ b)) := by
  unfold impl_in.f
  by_cases h : a ≤ n <;> by_cases h' : n ≤ b <;> simp [h, h']

def byteOk (c : UInt8) : Bool := decide (33 ≤ (c.toNat : Int) ∧ (c.toNat : Int) ≤ 125)
def isKeyB (s : ByteArray) : Bool := s.data.toList.all byteOk && decide (1 ≤ (s.size : Int) ∧ (s.size : Int) ≤ 12)
theorem spec_IsKey_l0 (x0 : ByteArray) (hz : (x0.size : Int) ≤ 9223372036854775806) : ∀ (t pre : List UInt8), x0.data.toList = pre ++ t →
    Ev (fun k => spec_IsKey.l0 k x0 (pre.length : Int)) (t.all byteOk && decide (1 ≤ (x0.size : Int) ∧ (x0.size : Int) ≤ 12)) := by
  intro t
  induction t with
  | nil =>
    intro pre h
    refine ev_succ ?_
    simp only [spec_IsKey.l0, spec_in, Option.bind_some]
    exact ev_neg (not_lt_size h) (ev_some (by simp))
  | cons c t ih =>
    intro pre h
    have hm := lt_size h
    refine ev_succ ?_
    simp only [spec_IsKey.l0, bt_mid h]
    refine ev_pos hm (ev_pos (by omega) ?_)
    by_cases c1 : (c.toNat : Int) < 33
    · exact ev_pos c1 (ev_some (by simp [byteOk]; omega))
    · refine ev_neg c1 ?_
      by_cases c2 : (c.toNat : Int) > 125
      · exact ev_pos c2 (ev_some (by simp [byteOk]; omega))
      · refine ev_neg c2 ?_
        rw [winc (by omega)]
        have := ih (pre ++ [c]) (by rw [h]; simp)
        rw [len_one] at this
        have hb : byteOk c = true := by simp [byteOk]; omega
        simpa [hb] using this
theorem spec_IsKey_f (s : ByteArray) (hz : (s.size : Int) ≤ 9223372036854775806) : Ev (fun k => spec_IsKey.f k s) (isKeyB s) := by
  unfold spec_IsKey.f
  exact spec_IsKey_l0 s hz s.data.toList [] rfl
theorem impl_IsKey_l0 (x0 : ByteArray) (hz : (x0.size : Int) ≤ 9223372036854775806) : ∀ (t pre : List UInt8), x0.data.toList = pre ++ t →
    Ev (fun k => impl_IsKey.l0 k x0 (x0.size : Int) (pre.length : Int)) (t.all byteOk && decide (1 ≤ (x0.size : Int) ∧ (x0.size : Int) ≤ 12)) := by
  intro t
  induction t with
  | nil =>
    intro pre h
    refine ev_succ ?_
    simp only [impl_IsKey.l0, impl_in, Option.bind_some]
    exact ev_neg (not_lt_size h) (ev_some (by simp))
  | cons c t ih =>
    intro pre h
    have hm := lt_size h
    refine ev_succ ?_
    simp only [impl_IsKey.l0, bt_mid h]
    refine ev_pos hm (ev_pos (by omega) (ev_pos hm ?_))
    by_cases c1 : (c.toNat : Int) < 33
    · exact ev_pos c1 (ev_some (by simp [byteOk]; omega))
    · refine ev_neg c1 ?_
      by_cases c2 : (c.toNat : Int) > 125
      · exact ev_pos c2 (ev_some (by simp [byteOk]; omega))
      · refine ev_neg c2 ?_
        rw [winc (by omega)]
        have := ih (pre ++ [c]) (by rw [h]; simp)
        rw [len_one] at this
        have hb : byteOk c = true := by simp [byteOk]; omega
        simpa [hb] using this
theorem impl_IsKey_f (s : ByteArray) (hz : (s.size : Int) ≤ 9223372036854775806) : Ev (fun k => impl_IsKey.f k s) (isKeyB s) := by
  unfold impl_IsKey.f
  exact impl_IsKey_l0 s hz s.data.toList [] rfl
theorem isKeyB_size {s : ByteArray} (h : isKeyB s = true) : 1 ≤ s.size ∧ s.size ≤ 12 := by
  simp [isKeyB] at h
  omega

def keysFrom : Option ByteArray → List ByteArray → Bool
  | _, [] => true
  | p, s :: t => isKeyB s && (match p with | none => true | some q => lessS q s) && keysFrom (some s) t
def areKeysB (l : List ByteArray) : Bool := keysFrom none l && decide ((l.length : Int) ≤ 40)
def lastOf (pre : List ByteArray) : Option ByteArray := pre.getLast?
theorem lastOf_one (pre : List ByteArray) (s : ByteArray) : lastOf (pre ++ [s]) = some s := by simp [lastOf]
theorem lastOf_nil : lastOf [] = none := rfl
theorem last_split {pre : List ByteArray} (h : 0 < pre.length) : ∃ q p, pre = q ++ [p] := by
  obtain ⟨x, hx⟩ : ∃ x, pre.getLast? = some x := by
    cases hp : pre.getLast? with
    | none => rw [List.getLast?_eq_none_iff] at hp; subst hp; simp at h
    | some x => exact ⟨x, rfl⟩
  obtain ⟨q, hq⟩ := List.getLast?_eq_some_iff.1 hx
  exact ⟨q, x, hq⟩

theorem spec_biKeys_l0 (x0 : List ByteArray) (hl : (x0.length : Int) ≤ 9223372036854775806) : ∀ (t pre : List ByteArray), x0 = pre ++ t → (∀ s ∈ t, (s.size : Int) ≤ 9223372036854775806) →
    Ev (fun k => spec_biKeys.l0 k x0 x0 (x0.length : Int) (pre.length : Int)) (keysFrom (lastOf pre) t && decide ((x0.length : Int) ≤ 40)) := by
  intro t
  induction t with
  | nil =>
    intro pre h hs
    refine ev_succ ?_
    simp only [spec_biKeys.l0]
    exact ev_neg (by rw [h]; exact not_lt_end) (ev_some (by simp [keysFrom]))
  | cons s t ih =>
    intro pre h hs
    have hm : ((pre.length : Nat) : Int) < (x0.length : Int) := by rw [h]; exact lt_mid
    have hg : rdOf ByteArray.empty x0 (pre.length : Int) = s := by rw [h]; exact rdOf_mid
    have next := ih (pre ++ [s]) (by rw [h]; simp) (fun x hx => hs x (by simp [hx]))
    rw [len_one, lastOf_one] at next
    refine ev_succ ?_
    simp only [spec_biKeys.l0, hg]
    refine ev_pos hm (ev_pos (by omega) (ev_pos hm (ev_bind _ (spec_IsKey_f s (hs s (by simp))) ?_)))
    cases hk : isKeyB s with
    | false => exact ev_neg (by simp) (ev_some (by simp [keysFrom, hk]))
    | true =>
      refine ev_pos rfl ?_
      by_cases c : 0 < pre.length
      · obtain ⟨q, p, rfl⟩ := last_split c
        have hp : rdOf ByteArray.empty x0 ((q.length : Nat) : Int) = p := by rw [h]; exact rdOf_last
        have hw : wrap64 (((q ++ [p]).length : Int) - 1) = (q.length : Int) := by rw [len_one]; exact wdec (by simp at hm; omega)
        simp only [hw, hp, lastOf_one, keysFrom, hk, Bool.true_and]
        refine ev_pos (by omega) (ev_pos (by omega) (ev_pos (by simp at hm; omega) ?_))
        by_cases c2 : lessS p s = true
        · refine ev_pos c2 ?_
          rw [winc (by omega), c2, Bool.true_and]
          exact next
        · refine ev_neg c2 (ev_some ?_)
          simp only [Bool.not_eq_true] at c2
          simp [c2]
      · obtain rfl := List.length_eq_zero_iff.1 (show pre.length = 0 by omega)
        refine ev_neg (by simp) ?_
        rw [winc (by omega)]
        simp only [lastOf_nil, keysFrom, hk, Bool.true_and]
        exact next
theorem spec_biKeys_f (l : List ByteArray) (hl : (l.length : Int) ≤ 9223372036854775806) (hs : ∀ s ∈ l, (s.size : Int) ≤ 9223372036854775806) : Ev (fun k => spec_biKeys.f k l) (areKeysB l) := by
  unfold spec_biKeys.f
  exact spec_biKeys_l0 l hl l [] rfl hs
theorem impl_AreKeys_l0 (x0 : List ByteArray) (hl : (x0.length : Int) ≤ 9223372036854775806) : ∀ (t pre : List ByteArray), x0 = pre ++ t → (∀ s ∈ t, (s.size : Int) ≤ 9223372036854775806) →
    Ev (fun k => impl_AreKeys.l0 k x0 x0 (x0.length : Int) (pre.length : Int)) (keysFrom (lastOf pre) t && decide ((x0.length : Int) ≤ 40)) := by
  intro t
  induction t with
  | nil =>
    intro pre h hs
    refine ev_succ ?_
    simp only [impl_AreKeys.l0]
    exact ev_neg (by rw [h]; exact not_lt_end) (ev_some (by simp [keysFrom]))
  | cons s t ih =>
    intro pre h hs
    have hm : ((pre.length : Nat) : Int) < (x0.length : Int) := by rw [h]; exact lt_mid
    have hg : rdOf ByteArray.empty x0 (pre.length : Int) = s := by rw [h]; exact rdOf_mid
    have next := ih (pre ++ [s]) (by rw [h]; simp) (fun x hx => hs x (by simp [hx]))
    rw [len_one, lastOf_one] at next
    refine ev_succ ?_
    simp only [impl_AreKeys.l0, hg]
    refine ev_pos hm (ev_pos (by omega) (ev_pos hm (ev_bind _ (impl_IsKey_f s (hs s (by simp))) ?_)))
    cases hk : isKeyB s with
    | false => exact ev_neg (by simp) (ev_some (by simp [keysFrom, hk]))
    | true =>
      refine ev_pos rfl ?_
      by_cases c : 0 < pre.length
      · obtain ⟨q, p, rfl⟩ := last_split c
        have hp : rdOf ByteArray.empty x0 ((q.length : Nat) : Int) = p := by rw [h]; exact rdOf_last
        have hw : wrap64 (((q ++ [p]).length : Int) - 1) = (q.length : Int) := by rw [len_one]; exact wdec (by simp at hm; omega)
        simp only [hw, hp, lastOf_one, keysFrom, hk, Bool.true_and]
        refine ev_pos (by omega) (ev_pos (by omega) (ev_pos (by simp at hm; omega) ?_))
        by_cases c2 : lessS p s = true
        · refine ev_pos c2 ?_
          rw [winc (by omega), c2, Bool.true_and]
          exact next
        · refine ev_neg c2 (ev_some ?_)
          simp only [Bool.not_eq_true] at c2
          simp [c2]
      · obtain rfl := List.length_eq_zero_iff.1 (show pre.length = 0 by omega)
        refine ev_neg (by simp) ?_
        rw [winc (by omega)]
        simp only [lastOf_nil, keysFrom, hk, Bool.true_and]
        exact next
theorem impl_AreKeys_f (l : List ByteArray) (hl : (l.length : Int) ≤ 9223372036854775806) (hs : ∀ s ∈ l, (s.size : Int) ≤ 9223372036854775806) : Ev (fun k => impl_AreKeys.f k l) (areKeysB l) := by
  unfold impl_AreKeys.f
  exact impl_AreKeys_l0 l hl l [] rfl hs
theorem areKeysB_len {l : List ByteArray} (h : areKeysB l = true) : l.length ≤ 40 := by
  simp [areKeysB] at h
  omega
theorem keysFrom_all : ∀ (p : Option ByteArray) (l : List ByteArray), keysFrom p l = true → ∀ s ∈ l, isKeyB s = true
  | _, [], _, s, h => by simp at h
  | p, x :: t, hk, s, h => by
    simp only [keysFrom, Bool.and_eq_true] at hk
    rcases List.mem_cons.1 h with rfl | h
    · exact hk.1.1
    · exact keysFrom_all _ t hk.2 s h
theorem areKeysB_all {l : List ByteArray} (h : areKeysB l = true) : ∀ s ∈ l, isKeyB s = true := by
  simp only [areKeysB, Bool.and_eq_true] at h
  exact keysFrom_all _ _ h.1
end Go.Proofs.YtephjmmkggcmeaaQ
namespace Go.Proofs.YtephjmmkggcmeaaQ
open Go Go.RowKit Go.Proofs.YtephjmmkggcmeaaW.PrintWords Go.Proofs.YtephjmmkggcmeaaGp Go.Proofs.Ytephjmmkggcmeaa.PC

def mm (x y : Int) : Int := Int.tmod (wrap64 (x * y)) 65521
theorem mul_range {x y : Int} (hx : 0 ≤ x) (hx1 : x ≤ 65520) (hy : 0 ≤ y) (hy1 : y ≤ 65520) : 0 ≤ x * y ∧ x * y ≤ 4292870400 :=
  ⟨Int.mul_nonneg hx hy, by have := Int.mul_le_mul hx1 hy1 hy (by omega); omega⟩
theorem emod_range (x : Int) : 0 ≤ x % 65521 ∧ x % 65521 ≤ 65520 := by omega
theorem mm_eq {x y : Int} (hx : 0 ≤ x) (hx1 : x ≤ 65520) (hy : 0 ≤ y) (hy1 : y ≤ 65520) : mm x y = x * y % 65521 := by
  obtain ⟨h0, h1⟩ := mul_range hx hx1 hy hy1
  unfold mm
  rw [w64 (by omega) (by omega)]
  exact Int.tmod_eq_emod_of_nonneg h0
theorem mm_mod (a b : Int) : mm (a % 65521) (b % 65521) = a * b % 65521 := by
  rw [mm_eq (emod_range a).1 (emod_range a).2 (emod_range b).1 (emod_range b).2]
  exact (Int.mul_emod a b 65521).symm
def pw (h : Int) : Nat → Int
  | 0 => 1
  | n + 1 => pw h n * h
theorem self_mod {h : Int} (h0 : 0 ≤ h) (h1 : h ≤ 65520) : h = h % 65521 := by omega
theorem mm11 {h : Int} (h0 : 0 ≤ h) (h1 : h ≤ 65520) : mm (mm (mm (mm (mm h h) (mm h h)) h) (mm (mm (mm h h) (mm h h)) h)) h = pw h 11 % 65521 := by
  have e := self_mod h0 h1
  have a2 : mm h h = h * h % 65521 := mm_eq h0 h1 h0 h1
  have a4 : mm (mm h h) (mm h h) = (h * h) * (h * h) % 65521 := by rw [a2, mm_mod]
  have a5 : mm (mm (mm h h) (mm h h)) h = (h * h) * (h * h) * h % 65521 := by
    rw [a4]; conv => lhs; arg 2; rw [e]
    rw [mm_mod]
  rw [a5, mm_mod]
  conv => lhs; arg 2; rw [e]
  rw [mm_mod]
  congr 1
  simp only [pw, Int.one_mul, Int.mul_assoc]
theorem mm_pw {h : Int} (h0 : 0 ≤ h) (h1 : h ≤ 65520) (n : Nat) : mm (pw h n % 65521) h = pw h (n + 1) % 65521 := by
  conv => lhs; arg 2; rw [self_mod h0 h1]
  rw [mm_mod]
  rfl

def hstep (h : Int) (c : UInt8) : Int := Int.tmod (wrap64 ((wrap64 (263 * h)) + (wrap64 (c.toNat : Int)))) 65521
def hfold (h : Int) (l : List UInt8) : Int := l.foldl hstep h
theorem hstep_range {h : Int} {c : UInt8} (h0 : 0 ≤ h) (h1 : h ≤ 65520) : 0 ≤ hstep h c ∧ hstep h c ≤ 65520 := by
  have hc : c.toNat < 256 := c.toNat_lt
  unfold hstep
  rw [w64 (x := 263 * h) (by omega) (by omega), w64 (x := (c.toNat : Int)) (by omega) (by omega), w64 (by omega) (by omega), Int.tmod_eq_emod_of_nonneg (by omega)]
  omega
def hstart (a0 a1 : Int) : Int := Int.tmod (wrap64 ((wrap64 ((wrap64 (31 * a0)) + (wrap64 (977 * a1)))) + 7)) 65521
theorem hstart_range {a0 a1 : Int} (h0 : 0 ≤ a0) (h0' : a0 ≤ 1000000) (h1 : 0 ≤ a1) (h1' : a1 ≤ 1000000) : 0 ≤ hstart a0 a1 ∧ hstart a0 a1 ≤ 65520 := by
  unfold hstart
  rw [w64 (x := 31 * a0) (by omega) (by omega), w64 (x := 977 * a1) (by omega) (by omega), w64 (x := 31 * a0 + 977 * a1) (by omega) (by omega), w64 (by omega) (by omega), Int.tmod_eq_emod_of_nonneg (by omega)]
  omega
def hashV (a0 a1 : Int) (s : ByteArray) : Int := pw (hfold (hstart a0 a1) s.data.toList) 11 % 65521
theorem hashV_range (a0 a1 : Int) (s : ByteArray) : 0 ≤ hashV a0 a1 s ∧ hashV a0 a1 s ≤ 65520 := emod_range _
theorem spec_biHash_l0 (x2 : ByteArray) (hz : (x2.size : Int) ≤ 9223372036854775806) : ∀ (t pre : List UInt8) (h : Int), x2.data.toList = pre ++ t → 0 ≤ h → h ≤ 65520 →
    Ev (fun k => spec_biHash.l0 k x2 h (pre.length : Int)) (pw (hfold h t) 11 % 65521) := by
  intro t
  induction t with
  | nil =>
    intro pre h e h0 h1
    refine ev_succ ?_
    simp only [spec_biHash.l0]
    refine ev_neg (not_lt_size e) (ev_some ?_)
    exact mm11 h0 h1
  | cons c t ih =>
    intro pre h e h0 h1
    have hm := lt_size e
    refine ev_succ ?_
    simp only [spec_biHash.l0, bt_mid e]
    refine ev_pos hm (ev_pos (by omega) ?_)
    rw [winc (by omega)]
    have := ih (pre ++ [c]) (hstep h c) (by rw [e]; simp) (hstep_range h0 h1).1 (hstep_range h0 h1).2
    rw [len_one] at this
    exact this
theorem spec_biHash_f (a0 a1 : Int) (s : ByteArray) (hz : (s.size : Int) ≤ 9223372036854775806) (h0 : 0 ≤ a0) (h0' : a0 ≤ 1000000) (h1 : 0 ≤ a1) (h1' : a1 ≤ 1000000) :
    Ev (fun k => spec_biHash.f k a0 a1 s) (hashV a0 a1 s) := by
  unfold spec_biHash.f
  exact spec_biHash_l0 s hz s.data.toList [] _ rfl (hstart_range h0 h0' h1 h1').1 (hstart_range h0 h0' h1 h1').2
theorem impl_hash_l1 {h : Int} (h0 : 0 ≤ h) (h1 : h ≤ 65520) : ∀ (m i : Nat), i + m = 11 → Ev (fun k => impl_hash.l1 k h (pw h i % 65521) (i : Int)) (pw h 11 % 65521) := by
  intro m
  induction m with
  | zero =>
    intro i e
    obtain rfl : i = 11 := by omega
    refine ev_succ ?_
    simp only [impl_hash.l1]
    exact ev_neg (by omega) (ev_some rfl)
  | succ m ih =>
    intro i e
    refine ev_succ ?_
    simp only [impl_hash.l1]
    refine ev_pos (by omega) ?_
    rw [winc (by omega)]
    have := ih (i + 1) (by omega)
    rw [← mm_pw h0 h1 i] at this
    exact this
theorem impl_hash_l0 (x2 : ByteArray) (hz : (x2.size : Int) ≤ 9223372036854775806) : ∀ (t pre : List UInt8) (h : Int), x2.data.toList = pre ++ t → 0 ≤ h → h ≤ 65520 →
    Ev (fun k => impl_hash.l0 k x2 h (x2.size : Int) (pre.length : Int)) (pw (hfold h t) 11 % 65521) := by
  intro t
  induction t with
  | nil =>
    intro pre h e h0 h1
    refine ev_succ ?_
    simp only [impl_hash.l0]
    exact ev_neg (not_lt_size e) (impl_hash_l1 h0 h1 11 0 rfl)
  | cons c t ih =>
    intro pre h e h0 h1
    have hm := lt_size e
    refine ev_succ ?_
    simp only [impl_hash.l0, bt_mid e]
    refine ev_pos hm (ev_pos (by omega) (ev_pos hm ?_))
    rw [winc (by omega)]
    have := ih (pre ++ [c]) (hstep h c) (by rw [e]; simp) (hstep_range h0 h1).1 (hstep_range h0 h1).2
    rw [len_one] at this
    exact this
theorem impl_hash_f (a0 a1 : Int) (s : ByteArray) (hz : (s.size : Int) ≤ 9223372036854775806) (h0 : 0 ≤ a0) (h0' : a0 ≤ 1000000) (h1 : 0 ≤ a1) (h1' : a1 ≤ 1000000) :
    Ev (fun k => impl_hash.f k a0 a1 s) (hashV a0 a1 s) := by
  unfold impl_hash.f
  exact impl_hash_l0 s hz s.data.toList [] _ rfl (hstart_range h0 h0' h1 h1').1 (hstart_range h0 h0' h1 h1').2

def placeV (a0 a1 : Int) (s : ByteArray) (n : Int) : Int := wrap64 (Int.tdiv (wrap64 (hashV a0 a1 s * n)) 65521)
theorem placeV_range (a0 a1 : Int) (s : ByteArray) {n : Int} (h0 : 1 ≤ n) (h1 : n ≤ 1000000) : 0 ≤ placeV a0 a1 s n ∧ placeV a0 a1 s n < n := by
  obtain ⟨a, b⟩ := hashV_range a0 a1 s
  have c := Int.mul_nonneg a (show (0 : Int) ≤ n by omega)
  have d := Int.mul_le_mul_of_nonneg_right b (show (0 : Int) ≤ n by omega)
  unfold placeV
  generalize hashV a0 a1 s * n = y at *
  rw [w64 (x := y) (by omega) (by omega), Int.tdiv_eq_ediv_of_nonneg (by omega), w64 (by omega) (by omega)]
  omega
theorem spec_biPlace_f (a0 a1 : Int) (s : ByteArray) (n : Int) (hz : (s.size : Int) ≤ 9223372036854775806) (h0 : 0 ≤ a0) (h0' : a0 ≤ 1000000) (h1 : 0 ≤ a1) (h1' : a1 ≤ 1000000) :
    Ev (fun k => spec_biPlace.f k a0 a1 s n) (placeV a0 a1 s n) := by
  unfold spec_biPlace.f
  exact ev_bind _ (spec_biHash_f a0 a1 s hz h0 h0' h1 h1') (Ev.now _)
theorem impl_place_f (a0 a1 : Int) (s : ByteArray) (n : Int) (hz : (s.size : Int) ≤ 9223372036854775806) (h0 : 0 ≤ a0) (h0' : a0 ≤ 1000000) (h1 : 0 ≤ a1) (h1' : a1 ≤ 1000000) :
    Ev (fun k => impl_place.f k a0 a1 s n) (placeV a0 a1 s n) := by
  unfold impl_place.f
  exact ev_bind _ (impl_hash_f a0 a1 s hz h0 h0' h1 h1') (Ev.now _)
end Go.Proofs.YtephjmmkggcmeaaQ
namespace Go.Proofs.YtephjmmkggcmeaaQ
open Go Go.RowKit Go.Proofs.YtephjmmkggcmeaaW.PrintWords Go.Proofs.YtephjmmkggcmeaaGp Go.Proofs.Ytephjmmkggcmeaa.PC

structure Bys (s : List Int) : Prop where
  len : (s.length : Int) ≤ 1048576
  all : ∀ x ∈ s, 0 ≤ x ∧ x ≤ 255
theorem and255 (x : Int) : 0 ≤ Go.bits .and .u64 x 255 ∧ Go.bits .and .u64 x 255 ≤ 255 := by
  have e : Go.bits .and .u64 x 255 = IntKind.u64.wrap (((BitVec.ofInt 64 x &&& BitVec.ofInt 64 255 : BitVec 64)).toNat : Int) := by unfold Go.bits; rfl
  have h : ((BitVec.ofInt 64 x &&& BitVec.ofInt 64 255 : BitVec 64)).toNat ≤ 255 := by
    rw [BitVec.toNat_and]
    exact Nat.and_le_right
  rw [e]
  unfold IntKind.wrap
  simp only [IntKind.bits, IntKind.signed]
  generalize (BitVec.ofInt 64 x &&& BitVec.ofInt 64 255 : BitVec 64).toNat = m at h
  simp
  omega
theorem rd_by {s : List Int} (hs : Bys s) (i : Int) : 0 ≤ rd s i ∧ rd s i ≤ 255 := by
  unfold rd
  by_cases c : i.toNat < s.length
  · rw [List.getD_eq_getElem?_getD, List.getElem?_eq_getElem c]
    exact hs.all _ (List.getElem_mem c)
  · rw [List.getD_eq_getElem?_getD, List.getElem?_eq_none (by omega)]
    simp
theorem next_ok {s : List Int} (hs : Bys s) {p : Int} (sd : Int) (h0 : 0 ≤ p) (h1 : p ≤ 4000000000000000000) :
    ∃ v p' sd', spec_l1Cur_next.f s p sd = some (v, p', sd') ∧ (0 ≤ v ∧ v ≤ 255) ∧ 0 ≤ p' ∧ p' ≤ p + 1 := by
  have hb := rd_by hs p
  have w1 : wrap64 (p + 1) = p + 1 := w64 (by omega) (by omega)
  have w2 : wrap64 (rd s p) = rd s p := w64 (by omega) (by omega)
  unfold spec_l1Cur_next.f
  rw [w1, w2]
  by_cases c : p < (s.length : Int)
  · rw [if_pos c, if_pos h0]
    split
    · exact ⟨_, _, _, rfl, hb, by omega, by omega⟩
    · omega
  · rw [if_neg c, if_neg (by omega)]
    refine ⟨_, _, _, rfl, ?_, by omega, by omega⟩
    have := and255 ((IntKind.u64.wrap ((IntKind.u64.wrap (IntKind.u64.wrap (sd * 6364136223846793005))) + 1442695040888963407)) / 1099511627776)
    rw [w64 (by omega) (by omega)]
    exact this
theorem pick_ok {s : List Int} (hs : Bys s) {p : Int} (sd : Int) {n : Int} (h0 : 0 ≤ p) (h1 : p ≤ 3000000000000000000) :
    ∃ v p' sd', spec_l1Cur_pick.f s p sd n = some (v, p', sd') ∧ (0 ≤ v ∧ (v < n ∨ v = 0)) ∧ 0 ≤ p' ∧ p' ≤ p + 2 := by
  unfold spec_l1Cur_pick.f
  by_cases c : n ≤ 1
  · rw [if_pos c]; exact ⟨_, _, _, rfl, ⟨by omega, .inr rfl⟩, h0, by omega⟩
  obtain ⟨v, p', sd', e, hv, q0, q1⟩ := next_ok hs sd h0 (by omega)
  have hn : ¬ n = 0 := by omega
  rw [if_neg c, e]
  simp only [Option.bind_some, if_neg hn]
  by_cases d : n > 200
  · obtain ⟨u, p2, sd2, e2, hu, r0, r1⟩ := next_ok hs sd' q0 (by omega)
    rw [if_pos d, e2]
    simp only [Option.bind_some]
    refine ⟨_, _, _, rfl, ?_, r0, by omega⟩
    rw [w64 (x := v * 256) (by omega) (by omega), w64 (x := v * 256 + u) (by omega) (by omega), Int.tmod_eq_emod_of_nonneg (by omega)]
    exact ⟨Int.emod_nonneg _ hn, .inl (Int.emod_lt_of_pos _ (by omega))⟩
  · rw [if_neg d]
    refine ⟨_, _, _, rfl, ?_, q0, by omega⟩
    rw [Int.tmod_eq_emod_of_nonneg hv.1]
    exact ⟨Int.emod_nonneg _ hn, .inl (Int.emod_lt_of_pos _ (by omega))⟩
theorem one_ok {s : List Int} (hs : Bys s) {p : Int} (sd : Int) (n : Int) (h0 : 0 ≤ p) (h1 : p ≤ 3000000000000000000) :
    ∃ v p' sd', spec_l1Cur_one.f s p sd n = some (v, p', sd') ∧ 0 ≤ p' ∧ p' ≤ p + 2 := by
  obtain ⟨v, p', sd', e, _, q0, q1⟩ := pick_ok hs sd (n := n) h0 h1
  unfold spec_l1Cur_one.f
  rw [e]
  exact ⟨_, _, _, rfl, q0, q1⟩
theorem among_ok {s : List Int} (hs : Bys s) {p : Int} (sd : Int) {l : List Int} (hl : 0 < l.length) (h0 : 0 ≤ p) (h1 : p ≤ 3000000000000000000) :
    ∃ v p' sd', spec_l1Cur_among.f s p sd l = some (v, p', sd') ∧ v ∈ l ∧ 0 ≤ p' ∧ p' ≤ p + 2 := by
  obtain ⟨v, p', sd', e, hv, q0, q1⟩ := pick_ok hs sd (n := (l.length : Int)) h0 h1
  have hm : rd l v ∈ l := by
    unfold rd
    have : v.toNat < l.length := by omega
    rw [List.getD_eq_getElem?_getD, List.getElem?_eq_getElem this]
    exact List.getElem_mem this
  unfold spec_l1Cur_among.f
  rw [e]
  simp only [Option.bind_some]
  rw [if_pos (by omega), if_pos (by omega)]
  exact ⟨_, _, _, rfl, hm, q0, q1⟩
theorem strOf_size (l : List Int) : (strOfNums l).size = l.length := by simp [strOfNums, ByteArray.size]

def Dr {α : Type} (g : Nat → Option (α × Int × Int)) (p c : Int) (P : α → Prop) : Prop := ∃ v p' sd', Ev g (v, p', sd') ∧ P v ∧ 0 ≤ p' ∧ p' ≤ p + c
theorem key_l1 (s : List Int) (p sd : Int) : ∀ (d : Nat) (x : List Int), 12 - x.length ≤ d → x.length ≤ 12 →
    ∃ v, Ev (fun k => spec_l1Cur_key.l1 k x s p sd) (v, p, sd) ∧ v.size ≤ 12 := by
  intro d
  induction d with
  | zero =>
    intro x h1 h2
    refine ⟨strOfNums x, ev_succ ?_, by rw [strOf_size]; omega⟩
    simp only [spec_l1Cur_key.l1]
    exact ev_neg (by omega) (Ev.now _)
  | succ d ih =>
    intro x h1 h2
    by_cases c : (x.length : Int) < 12
    · obtain ⟨v, e, hv⟩ := ih (x ++ [97]) (by simp; omega) (by simp; omega)
      refine ⟨v, ev_succ ?_, hv⟩
      simp only [spec_l1Cur_key.l1]
      exact ev_pos c (ev_pos (by omega) e)
    · refine ⟨strOfNums x, ev_succ ?_, by rw [strOf_size]; omega⟩
      simp only [spec_l1Cur_key.l1]
      exact ev_neg c (Ev.now _)
theorem key_l0 {s : List Int} (hs : Bys s) : ∀ (n : Nat) (x : List Int) (p sd : Int), x.length + n ≤ 12 → 0 ≤ p → p + 2 * (n : Int) ≤ 2000000000000000000 →
    Dr (fun k => spec_l1Cur_key.l0 k x (n : Int) s p sd) p (2 * (n : Int) + 2) (fun v => v.size ≤ 12) := by
  intro n
  induction n with
  | zero =>
    intro x p sd hx h0 h1
    obtain ⟨v, p', sd', e, q0, q1⟩ := one_ok hs sd 12 h0 (by omega)
    by_cases c : v = true
    · obtain ⟨u, eu, hu⟩ := key_l1 s p' sd' 12 x (by omega) (by omega)
      refine ⟨u, p', sd', ev_succ ?_, hu, q0, by omega⟩
      simp only [spec_l1Cur_key.l0, e]
      exact ev_neg (by omega) (ev_bind _ (Ev.now _) (ev_pos c eu))
    · refine ⟨strOfNums x, p', sd', ev_succ ?_, (by rw [strOf_size]; omega : (strOfNums x).size ≤ 12), q0, by omega⟩
      simp only [spec_l1Cur_key.l0, e]
      exact ev_neg (by omega) (ev_bind _ (Ev.now _) (ev_neg c (Ev.now _)))
  | succ n ih =>
    intro x p sd hx h0 h1
    obtain ⟨v, p', sd', e, hv, q0, q1⟩ := pick_ok hs sd (n := 11) h0 (by omega)
    obtain ⟨u, p2, sd2, eu, hu, r0, r1⟩ := ih (x ++ [bt (⟨#[97, 97, 98, 98, 99, 120, 121, 122, 33, 125, 48]⟩ : ByteArray) v]) p' sd' (by simp; omega) q0 (by omega)
    refine ⟨u, p2, sd2, ev_succ ?_, hu, r0, by omega⟩
    simp only [spec_l1Cur_key.l0, e]
    refine ev_pos (by omega) (ev_bind _ (Ev.now _) (ev_pos hv.1 (ev_pos (by omega) (ev_pos (by omega) ?_))))
    rw [wdec (by omega)]
    exact eu
theorem key_ok {s : List Int} (hs : Bys s) {p : Int} (sd : Int) (h0 : 0 ≤ p) (h1 : p ≤ 1000000000000000000) : Dr (fun k => spec_l1Cur_key.f k s p sd) p 12 (fun v => v.size ≤ 12) := by
  obtain ⟨v, p', sd', e, hv, q0, q1⟩ := pick_ok hs sd (n := 4) h0 (by omega)
  obtain ⟨u, p2, sd2, eu, hu, r0, r1⟩ := key_l0 hs (v.toNat + 1) [] p' sd' (by simp; omega) q0 (by omega)
  refine ⟨u, p2, sd2, ?_, hu, r0, by omega⟩
  unfold spec_l1Cur_key.f
  rw [e]
  refine ev_bind _ (Ev.now _) ?_
  rw [w64 (by omega) (by omega), show 1 + v = ((v.toNat + 1 : Nat) : Int) from by omega]
  exact eu
def insK (s : ByteArray) : List ByteArray → List ByteArray
  | [] => [s]
  | q :: t => if lessS q s = true then q :: insK s t else if q = s then q :: t else s :: q :: t
theorem insK_len (s : ByteArray) : ∀ l, (insK s l).length ≤ l.length + 1
  | [] => by simp [insK]
  | q :: t => by
    have := insK_len s t
    unfold insK
    split
    · simp; omega
    · split <;> simp
theorem insK_mem (s : ByteArray) : ∀ l, ∀ x ∈ insK s l, x = s ∨ x ∈ l
  | [], x, h => by simp [insK] at h; exact .inl h
  | q :: t, x, h => by
    unfold insK at h
    split at h
    · rcases List.mem_cons.1 h with e | e
      · exact .inr (by simp [e])
      · rcases insK_mem s t x e with e | e
        · exact .inl e
        · exact .inr (by simp [e])
    · split at h
      · exact .inr h
      · rcases List.mem_cons.1 h with e | e
        · exact .inl e
        · exact .inr e
theorem putS_l0 (x0 : List ByteArray) (s : ByteArray) (hx : x0.length ≤ 1000000) : ∀ (t pre : List ByteArray), x0 = pre ++ t →
    Ev (fun k => spec_l1PutS.l0 k x0 s (pre.length : Int)) (pre ++ insK s t) := by
  intro t
  induction t with
  | nil =>
    intro pre h
    have hp : x0 = pre := by rw [h, List.append_nil]
    subst hp
    refine ev_succ ?_
    simp only [spec_l1PutS.l0]
    refine ev_neg (by omega) (ev_bind _ (Ev.now _) (ev_pos (by omega) (ev_pos (by omega) (ev_bind _ (Ev.now _) ?_))))
    rw [Int.toNat_natCast, List.take_length, List.nil_append]
    refine ev_pos (by simp; omega) (ev_bind _ (Ev.now _) (ev_pos (by omega) (ev_bind _ (Ev.now _) (ev_bind _ (Ev.now _) (ev_pos (by simp; omega) (ev_some ?_))))))
    simp [insK]
  | cons q t ih =>
    intro pre h
    have hm : ((pre.length : Nat) : Int) < (x0.length : Int) := by rw [h]; exact lt_mid
    have hg : rdOf ByteArray.empty x0 (pre.length : Int) = q := by rw [h]; exact rdOf_mid
    refine ev_succ ?_
    simp only [spec_l1PutS.l0, hg]
    refine ev_pos hm (ev_pos (by omega) ?_)
    unfold insK
    by_cases c : lessS q s = true
    · refine ev_pos c ?_
      rw [winc (by omega), if_pos c]
      have := ih (pre ++ [q]) (by rw [h]; simp)
      rw [len_one] at this
      simpa using this
    · refine ev_neg c ?_
      rw [if_neg c]
      by_cases d : q = s
      · refine ev_pos (tl_inj.2 d) (ev_some ?_)
        rw [if_pos d, h]
      · refine ev_neg (fun e => d (tl_inj.1 e)) (ev_bind _ (Ev.now _) (ev_pos (by omega) (ev_bind _ (Ev.now _) ?_)))
        have et : x0.take pre.length = pre := by rw [h]; simp
        have ed : x0.drop pre.length = q :: t := by rw [h]; simp
        have hl : x0.length = pre.length + (t.length + 1) := by rw [h]; simp
        rw [Int.toNat_natCast, et, ed, List.nil_append, if_neg d]
        refine ev_pos (by simp; omega) (ev_bind _ (Ev.now _) (ev_pos (by omega) (ev_bind _ (Ev.now _) (ev_bind _ (Ev.now _) (ev_pos (by simp; omega) (ev_some ?_))))))
        simp
theorem putS_f (l : List ByteArray) (s : ByteArray) (h : l.length ≤ 1000000) : Ev (fun k => spec_l1PutS.f k l s) (insK s l) := putS_l0 l s h l [] rfl
def Kys (m : Nat) (l : List ByteArray) : Prop := l.length ≤ m ∧ ∀ s ∈ l, s.size ≤ 13
theorem Kys.ins {m : Nat} {l : List ByteArray} (h : Kys m l) {s : ByteArray} (hs : s.size ≤ 13) : Kys (m + 1) (insK s l) :=
  ⟨by have := insK_len s l; have := h.1; omega, fun x hx => by exact (insK_mem s l x hx).elim (fun e => e ▸ hs) (h.2 x)⟩
theorem Kys.one {m : Nat} {l : List ByteArray} (h : Kys m l) {s : ByteArray} (hs : s.size ≤ 13) : Kys (m + 1) (l ++ [s]) :=
  ⟨by have := h.1; simp; omega, fun x hx => by exact (List.mem_append.1 hx).elim (h.2 x) (fun e => List.mem_singleton.1 e ▸ hs)⟩
theorem Kys.mono {m m' : Nat} {l : List ByteArray} (h : Kys m l) (hm : m ≤ m') : Kys m' l := ⟨Nat.le_trans h.1 hm, h.2⟩
theorem keys_l0 {s : List Int} (hs : Bys s) : ∀ (n m : Nat) (x : List ByteArray) (p sd : Int), Kys m x → m + n ≤ 1000 → 0 ≤ p → p + 12 * (n : Int) ≤ 500000000000000000 →
    Dr (fun k => spec_l1Cur_keys.l0 k x (n : Int) s p sd) p (12 * (n : Int)) (Kys (m + n)) := by
  intro n
  induction n with
  | zero =>
    intro m x p sd hx hm h0 h1
    refine ⟨x, p, sd, ev_succ ?_, hx, h0, by omega⟩
    simp only [spec_l1Cur_keys.l0]
    exact ev_neg (by omega) (Ev.now _)
  | succ n ih =>
    intro m x p sd hx hm h0 h1
    obtain ⟨v, p', sd', e, hv, q0, q1⟩ := key_ok hs sd h0 (by omega)
    have hl := hx.1
    obtain ⟨u, p2, sd2, eu, hu, r0, r1⟩ := ih (m + 1) (insK v x) p' sd' (hx.ins (by omega)) (by omega) q0 (by omega)
    refine ⟨u, p2, sd2, ev_succ ?_, hu.mono (by omega), r0, by omega⟩
    simp only [spec_l1Cur_keys.l0]
    refine ev_pos (by omega) (ev_bind _ e (ev_bind _ (putS_f x v (by omega)) ?_))
    rw [wdec (by omega)]
    exact eu
theorem keys_ok {s : List Int} (hs : Bys s) {p : Int} (sd : Int) {n : Nat} (hn : n ≤ 100) (h0 : 0 ≤ p) (h1 : p ≤ 400000000000000000) : Dr (fun k => spec_l1Cur_keys.f k s p sd (n : Int)) p (12 * (n : Int) + 2) (Kys n) := by
  obtain ⟨v, p', sd', e, hv, q0, q1⟩ := pick_ok hs sd (n := (n : Int) + 1) h0 (by omega)
  obtain ⟨u, p2, sd2, eu, hu, r0, r1⟩ := keys_l0 hs v.toNat 0 [] p' sd' ⟨by simp, by simp⟩ (by omega) q0 (by omega)
  refine ⟨u, p2, sd2, ?_, hu.mono (by omega), r0, by omega⟩
  unfold spec_l1Cur_keys.f
  rw [w64 (x := (n : Int) + 1) (by omega) (by omega), e]
  refine ev_bind _ (Ev.now _) ?_
  rw [show ((v.toNat : Nat) : Int) = v from by omega] at eu
  exact eu
end Go.Proofs.YtephjmmkggcmeaaQ
namespace Go.Proofs.YtephjmmkggcmeaaQ
open Go Go.RowKit Go.Proofs.YtephjmmkggcmeaaW.PrintWords Go.Proofs.YtephjmmkggcmeaaGp Go.Proofs.Ytephjmmkggcmeaa.PC

theorem Dr.mono {α : Type} {g : Nat → Option (α × Int × Int)} {p c c' : Int} {P P' : α → Prop} (h : Dr g p c P) (hc : c ≤ c') (hP : ∀ x, P x → P' x) : Dr g p c' P' := by
  obtain ⟨v, p', sd', e, hv, q0, q1⟩ := h
  exact ⟨v, p', sd', e, hP v hv, q0, by omega⟩
theorem seed9_ok {s : List Int} (hs : Bys s) {p : Int} (sd : Int) (h0 : 0 ≤ p) (h1 : p ≤ 1000000000000000000) :
    ∃ v p' sd', spec_l1Cur_seed9.f s p sd = some (v, p', sd') ∧ (-1 ≤ v ∧ v ≤ 10000) ∧ 0 ≤ p' ∧ p' ≤ p + 4 := by
  obtain ⟨v, p', sd', e, hv, q0, q1⟩ := pick_ok hs sd (n := 12) h0 (by omega)
  unfold spec_l1Cur_seed9.f
  rw [e]
  simp only [Option.bind_some]
  by_cases c : v = 0
  · obtain ⟨u, p2, sd2, eu, hu, r0, r1⟩ := among_ok hs sd' (l := [(-1), 9999, 10000]) (by simp) q0 (by omega)
    rw [if_pos c, eu]
    refine ⟨u, p2, sd2, rfl, ?_, r0, by omega⟩
    simp only [List.mem_cons, List.not_mem_nil, or_false] at hu
    omega
  · rw [if_neg c]
    by_cases d : v = 1
    · obtain ⟨u, p2, sd2, eu, hu, r0, r1⟩ := pick_ok hs sd' (n := 10000) q0 (by omega)
      rw [if_pos d, eu]
      exact ⟨u, p2, sd2, rfl, by omega, r0, by omega⟩
    · obtain ⟨u, p2, sd2, eu, hu, r0, r1⟩ := pick_ok hs sd' (n := 20) q0 (by omega)
      rw [if_neg d, eu]
      exact ⟨u, p2, sd2, rfl, by omega, r0, by omega⟩
theorem of_ok {s : List Int} (hs : Bys s) {p : Int} (sd : Int) {l : List ByteArray} (hl : 0 < l.length) (h0 : 0 ≤ p) (h1 : p ≤ 3000000000000000000) :
    ∃ v p' sd', spec_l1Cur_of.f s p sd l = some (v, p', sd') ∧ v ∈ l ∧ 0 ≤ p' ∧ p' ≤ p + 2 := by
  obtain ⟨v, p', sd', e, hv, q0, q1⟩ := pick_ok hs sd (n := (l.length : Int)) h0 h1
  have hm : rdOf ByteArray.empty l v ∈ l := by
    unfold rdOf
    have : v.toNat < l.length := by omega
    rw [List.getD_eq_getElem?_getD, List.getElem?_eq_getElem this]
    exact List.getElem_mem this
  unfold spec_l1Cur_of.f
  rw [e]
  simp only [Option.bind_some]
  rw [if_pos (by omega), if_pos (by omega)]
  exact ⟨_, _, _, rfl, hm, q0, q1⟩
theorem text_ok {s : List Int} (hs : Bys s) {p : Int} (sd : Int) (h0 : 0 ≤ p) (h1 : p ≤ 500000000000000000) : Dr (fun k => spec_l1Cur_text.f k s p sd) p 14 (fun v => v.size ≤ 13) := by
  obtain ⟨v, p', sd', e, hv, q0, q1⟩ := pick_ok hs sd (n := 16) h0 (by omega)
  obtain ⟨u, p2, sd2, eu, hu, r0, r1⟩ := key_ok hs sd' q0 (by omega)
  unfold spec_l1Cur_text.f
  rw [e]
  simp only [Option.bind_some]
  by_cases c0 : v = 0
  · exact ⟨_, p', sd', ev_pos c0 (Ev.now _), by decide, q0, by omega⟩
  · by_cases c1 : v = 1
    · have h1 : (⟨#[32]⟩ : ByteArray).size = 1 := rfl
      refine ⟨u ++ ⟨#[32]⟩, p2, sd2, ev_neg c0 (ev_pos c1 (ev_bind _ eu (ev_pos (by simp only []; omega) (Ev.now _)))), ?_, r0, by omega⟩
      show (u ++ ⟨#[32]⟩ : ByteArray).size ≤ 13
      rw [ByteArray.size_append]
      omega
    · by_cases c2 : v = 2
      · exact ⟨_, p', sd', ev_neg c0 (ev_neg c1 (ev_pos c2 (Ev.now _))), by decide, q0, by omega⟩
      · by_cases c3 : v = 3
        · obtain ⟨x, p3, sd3, ex, hx, t0, t1⟩ := of_ok hs sd' (l := [(⟨#[126]⟩ : ByteArray), (⟨#[125]⟩ : ByteArray), (⟨#[97, 126]⟩ : ByteArray), (⟨#[127]⟩ : ByteArray)]) (by simp) q0 (by omega)
          refine ⟨x, p3, sd3, ev_neg c0 (ev_neg c1 (ev_neg c2 (ev_pos c3 ?_))), ?_, t0, by omega⟩
          · rw [ex]; exact ev_bind _ (Ev.now _) (Ev.now _)
          · simp only [List.mem_cons, List.not_mem_nil, or_false] at hx
            rcases hx with rfl | rfl | rfl | rfl <;> decide
        · exact ⟨u, p2, sd2, ev_neg c0 (ev_neg c1 (ev_neg c2 (ev_neg c3 (ev_bind _ eu (Ev.now _))))), by omega, r0, by omega⟩
theorem many_l0 (s : List Int) (p sd : Int) : ∀ (d i m : Nat) (x : List ByteArray), Kys m x → m + d ≤ 1000 → i + d ≤ 1000 →
    ∃ v, Ev (fun k => spec_l1Cur_many.l0 k ((i + d : Nat) : Int) x (i : Int) s p sd) (v, p, sd) ∧ Kys (m + d) v := by
  intro d
  induction d with
  | zero =>
    intro i m x hx hm hi
    refine ⟨x, ev_succ ?_, hx⟩
    simp only [spec_l1Cur_many.l0]
    exact ev_neg (by omega) (Ev.now _)
  | succ d ih =>
    intro i m x hx hm hi
    have hl := hx.1
    have hz : (strOfNums [(wrap64 (97 + (wrap64 (Int.tdiv (i : Int) 10)))) % 256, (wrap64 (48 + (Int.tmod (i : Int) 10))) % 256]).size ≤ 13 := by rw [strOf_size]; simp
    obtain ⟨v, e, hv⟩ := ih (i + 1) (m + 1) (insK (strOfNums [(wrap64 (97 + (wrap64 (Int.tdiv (i : Int) 10)))) % 256, (wrap64 (48 + (Int.tmod (i : Int) 10))) % 256]) x) (hx.ins hz) (by omega) (by omega)
    refine ⟨v, ev_succ ?_, hv.mono (by omega)⟩
    simp only [spec_l1Cur_many.l0]
    refine ev_pos (by omega) (ev_bind _ (putS_f x _ (by omega)) ?_)
    rw [winc (by omega), show i + (d + 1) = i + 1 + d from by omega]
    exact e
theorem anyKeys_ok {s : List Int} (hs : Bys s) {p : Int} (sd : Int) {n : Nat} (hn : n ≤ 40) (h0 : 0 ≤ p) (h1 : p ≤ 100000000000000000) : Dr (fun k => spec_l1Cur_anyKeys.f k s p sd (n : Int)) p 600 (Kys 42) := by
  obtain ⟨ks, p', sd', e, hv, q0, q1⟩ := keys_ok hs sd (by omega : n ≤ 100) h0 (by omega)
  obtain ⟨v, p2, sd2, e2, hv2, r0, r1⟩ := pick_ok hs sd' (n := 14) q0 (by omega)
  have hl := hv.1
  unfold spec_l1Cur_anyKeys.f
  by_cases c0 : v = 0
  · obtain ⟨u, p3, sd3, eu, hu, t0, t1⟩ := text_ok hs sd2 r0 (by omega)
    refine ⟨ks ++ [u], p3, sd3, ev_bind _ e ?_, (hv.one hu).mono (by omega), t0, by omega⟩
    simp only [e2]
    exact ev_bind _ (Ev.now _) (ev_pos c0 (ev_bind _ eu (ev_pos (by omega) (Ev.now _))))
  · by_cases c1 : v = 1
    · by_cases c : (ks.length : Int) > 0
      · obtain ⟨u, p3, sd3, eu, hu, t0, t1⟩ := pick_ok hs sd2 (n := (ks.length : Int)) r0 (by omega)
        have hm : rdOf ByteArray.empty ks u ∈ ks := by
          unfold rdOf
          have : u.toNat < ks.length := by omega
          rw [List.getD_eq_getElem?_getD, List.getElem?_eq_getElem this]
          exact List.getElem_mem this
        refine ⟨ks ++ [rdOf ByteArray.empty ks u], p3, sd3, ev_bind _ e ?_, (hv.one (hv.2 _ hm)).mono (by omega), t0, by omega⟩
        simp only [e2]
        refine ev_bind _ (Ev.now _) (ev_neg c0 (ev_pos c1 (ev_pos c ?_)))
        simp only [eu]
        exact ev_bind _ (Ev.now _) (ev_pos (by omega) (ev_pos (by omega) (ev_pos (by omega) (Ev.now _))))
      · refine ⟨ks, p2, sd2, ev_bind _ e ?_, hv.mono (by omega), r0, by omega⟩
        simp only [e2]
        exact ev_bind _ (Ev.now _) (ev_neg c0 (ev_pos c1 (ev_neg c (Ev.now _))))
    · by_cases c2 : v = 2
      · obtain ⟨u, p3, sd3, eu, hu, t0, t1⟩ := pick_ok hs sd2 (n := 2) r0 (by omega)
        obtain ⟨y, ey, hy⟩ := many_l0 s p3 sd3 (40 + u.toNat) 0 0 [] ⟨by simp, by simp⟩ (by omega) (by omega)
        refine ⟨y, p3, sd3, ev_bind _ e ?_, hy.mono (by omega), t0, by omega⟩
        simp only [e2]
        refine ev_bind _ (Ev.now _) (ev_neg c0 (ev_neg c1 (ev_pos c2 ?_)))
        simp only [eu]
        refine ev_bind _ (Ev.now _) (ev_bind (y, p3, sd3) ?_ (Ev.now _))
        unfold spec_l1Cur_many.f
        simp only []
        rw [w64 (by omega) (by omega), show 40 + u = ((0 + (40 + u.toNat) : Nat) : Int) from by omega]
        exact ey
      · refine ⟨ks, p2, sd2, ev_bind _ e ?_, hv.mono (by omega), r0, by omega⟩
        simp only [e2]
        exact ev_bind _ (Ev.now _) (ev_neg c0 (ev_neg c1 (ev_neg c2 (Ev.now _))))
theorem big_f {l0 l1 : List Int} (h0 : l0.length ≤ maxLen) (h1 : l1.length ≤ maxLen) : ∃ b, laws_big.f l0 l1 = some b ∧ (b = false → (l0.length : Int) ≤ 1048576 ∧ (l1.length : Int) ≤ 1048576) := by
  rw [maxLen_eq] at h0 h1
  unfold laws_big.f
  by_cases c : (l0.length : Int) > 1048576
  · exact ⟨true, if_pos c, by simp⟩
  · refine ⟨_, if_neg c, fun h => ?_⟩
    rw [decide_eq_false_iff_not, w64 (by omega) (by omega)] at h
    omega
theorem bys {l : List Int} (h : (l.length : Int) ≤ 1048576) (hw : ∀ x ∈ l, (Lit.int .u8 x).wf = true) : Bys l := by
  refine ⟨h, fun x hx => ?_⟩
  have := hw x hx
  simp only [Lit.wf, Bool.and_eq_true, decide_eq_true_eq] at this
  exact this
end Go.Proofs.YtephjmmkggcmeaaQ
namespace Go.Proofs.YtephjmmkggcmeaaQ
open Go Go.RowKit Go.Proofs.YtephjmmkggcmeaaW.PrintWords Go.Proofs.YtephjmmkggcmeaaGp Go.Proofs.Ytephjmmkggcmeaa.PC

theorem spec_l1Has_l0 (x0 : List Int) (a : Int) (hl : (x0.length : Int) ≤ 9223372036854775806) : ∀ (t pre : List Int), x0 = pre ++ t →
    Ev (fun k => spec_l1Has.l0 k a x0 (x0.length : Int) (pre.length : Int)) (t.contains a) := by
  intro t
  induction t with
  | nil =>
    intro pre h
    refine ev_succ ?_
    simp only [spec_l1Has.l0]
    exact ev_neg (by rw [h]; exact not_lt_end) (ev_some (by simp))
  | cons x t ih =>
    intro pre h
    have hm : ((pre.length : Nat) : Int) < (x0.length : Int) := by rw [h]; exact lt_mid
    have hg : rd x0 (pre.length : Int) = x := by rw [h]; exact rd_mid
    refine ev_succ ?_
    simp only [spec_l1Has.l0, hg]
    refine ev_pos hm (ev_pos (by omega) (ev_pos hm ?_))
    by_cases c : x = a
    · exact ev_pos c (ev_some (by simp [c]))
    · refine ev_neg c ?_
      rw [winc (by omega)]
      have := ih (pre ++ [x]) (by rw [h]; simp)
      rw [len_one] at this
      have e : (x :: t).contains a = t.contains a := by simp [Ne.symm c]
      rw [e]
      exact this
theorem spec_l1Has_f (l : List Int) (a : Int) (hl : (l.length : Int) ≤ 9223372036854775806) : Ev (fun k => spec_l1Has.f k l a) (l.contains a) := by
  unfold spec_l1Has.f
  exact spec_l1Has_l0 l a hl l [] rfl
end Go.Proofs.YtephjmmkggcmeaaQ
namespace Go.Proofs.YtephjmmkggcmeaaQ.CK
open Classical

def el (ls : List (List Int)) (i : Nat) : List Int := ls.getD i []
def Adj (ls : List (List Int)) (i j : Nat) : Prop := ∃ x, x ∈ el ls i ∧ x ∈ el ls j
inductive Reach (ls : List (List Int)) : Nat → Nat → Prop
  | refl (i : Nat) : Reach ls i i
  | step {i j k : Nat} : Reach ls i j → k < ls.length → Adj ls j k → Reach ls i k
theorem Adj.symm {ls : List (List Int)} {i j : Nat} (h : Adj ls i j) : Adj ls j i := by
  obtain ⟨x, h1, h2⟩ := h
  exact ⟨x, h2, h1⟩
theorem Reach.trans {ls : List (List Int)} {i j k : Nat} (h : Reach ls i j) (h' : Reach ls j k) : Reach ls i k := by
  induction h' with
  | refl => exact h
  | step _ hk ha ih => exact .step ih hk ha
theorem Reach.lt {ls : List (List Int)} {i j : Nat} (h : Reach ls i j) (hi : i < ls.length) : j < ls.length := by
  cases h with
  | refl => exact hi
  | step _ hk _ => exact hk
theorem Reach.symm {ls : List (List Int)} {i j : Nat} (h : Reach ls i j) (hi : i < ls.length) : Reach ls j i := by
  induction h with
  | refl => exact .refl _
  | step h1 hk ha ih => exact (Reach.step (.refl _) (h1.lt hi) ha.symm).trans ih
def Cell (ls : List (List Int)) (i : Nat) (x : Int) : Prop := ∃ j, Reach ls i j ∧ x ∈ el ls j
noncomputable def comp (ls : List (List Int)) (i : Nat) : List Nat := (List.range ls.length).filter (fun j => decide (Reach ls i j))
def Fits (ls : List (List Int)) : Prop := ∀ i, i < ls.length → ∀ V : List Int, V.Nodup → (∀ x, x ∈ V ↔ Cell ls i x) → (comp ls i).length ≤ V.length
def Own (ls : List (List Int)) (m : Nat) (f : Nat → Int) : Prop := (∀ i, i < m → f i ∈ el ls i) ∧ ∀ i j, i < m → j < m → f i = f j → i = j
def Pairs (ls : List (List Int)) : Prop := ∀ i, i < ls.length → ∃ a b, el ls i = [a, b]

theorem countP_lt {α : Type} {p q : α → Bool} : ∀ {l : List α}, (∀ x ∈ l, p x = true → q x = true) → (∃ x ∈ l, q x = true ∧ p x = false) → l.countP p + 1 ≤ l.countP q
  | [], _, h => by obtain ⟨x, hx, _⟩ := h; simp at hx
  | y :: l, hm, h => by
    have hle : l.countP p ≤ l.countP q := List.countP_mono_left (fun x hx => hm x (by simp [hx]))
    rw [List.countP_cons, List.countP_cons]
    obtain ⟨x, hx, h1, h2⟩ := h
    rcases List.mem_cons.1 hx with rfl | hx
    · simp [h1, h2]; omega
    · have ih := countP_lt (fun x hx => hm x (by simp [hx])) ⟨x, hx, h1, h2⟩
      have hy := hm y (by simp)
      by_cases c : p y = true
      · simp [c, hy c]; omega
      · simp [c]; omega
noncomputable def cnt (n : Nat) (o : Nat → Int) (v : Int) : Nat := (List.range n).countP (fun i => decide (o i = v))
theorem countP_update {n : Nat} (p q : Nat → Bool) {d : Nat} (h : ∀ i, i ≠ d → p i = q i) (hd : d < n) : (List.range n).countP p + (if q d then 1 else 0) = (List.range n).countP q + (if p d then 1 else 0) := by
  induction n with
  | zero => omega
  | succ n ih =>
    rw [List.range_succ, List.countP_append, List.countP_append, List.countP_singleton, List.countP_singleton]
    by_cases c : d = n
    · subst c
      have e : (List.range d).countP p = (List.range d).countP q := List.countP_congr (fun i hi => by
        rw [List.mem_range] at hi
        rw [h i (by omega)])
      rw [e]; omega
    · have := ih (by omega)
      rw [h n (fun e => c e.symm)]
      omega
theorem cnt_le_one {n : Nat} {o : Nat → Int} (h : ∀ v, cnt n o v ≤ 1) : ∀ i j, i < n → j < n → o i = o j → i = j := by
  intro i j hi hj e
  by_cases c : i = j
  · exact c
  exfalso
  have h2 := countP_update (n := n) (fun q => decide (o q = o i)) (fun q => decide (o q = o i ∧ q ≠ i)) (d := i) (fun q hq => by simp [hq]) hi
  have h3 : 0 < (List.range n).countP (fun q => decide (o q = o i ∧ q ≠ i)) := List.countP_pos_iff.2 ⟨j, List.mem_range.2 hj, by simp [e]; exact fun e' => c e'.symm⟩
  have h4 := h (o i)
  unfold cnt at h4
  rw [show decide (o i = o i) = true from by simp, show decide (o i = o i ∧ i ≠ i) = false from by simp] at h2
  simp only [if_true, Bool.false_eq_true, if_false] at h2
  omega
theorem cnt_inj {n : Nat} {o : Nat → Int} (h : ∀ i j, i < n → j < n → o i = o j → i = j) (v : Int) : cnt n o v ≤ 1 := by
  induction n with
  | zero => simp [cnt]
  | succ n ih =>
    have hi := ih (fun i j hi hj => h i j (by omega) (by omega))
    unfold cnt at *
    rw [List.range_succ, List.countP_append, List.countP_singleton]
    by_cases c : o n = v
    · have : (List.range n).countP (fun i => decide (o i = v)) = 0 := by
        rw [List.countP_eq_zero]
        intro i hi' e
        rw [List.mem_range] at hi'
        have e2 := of_decide_eq_true e
        have := h i n (by omega) (by omega) (e2.trans c.symm)
        omega
      rw [this]; split <;> omega
    · simp [c]; exact hi
theorem sum_cnt {n : Nat} {o : Nat → Int} : ∀ {R : List Int}, R.Nodup → (R.map (cnt n o)).sum = (List.range n).countP (fun i => decide (o i ∈ R))
  | [], _ => by simp
  | v :: R, h => by
    rw [List.nodup_cons] at h
    rw [List.map_cons, List.sum_cons, sum_cnt h.2]
    unfold cnt
    generalize List.range n = l
    induction l with
    | nil => simp
    | cons i l ih =>
      simp only [List.countP_cons]
      by_cases c : o i = v
      · have : ¬ o i ∈ R := fun e => h.1 (c ▸ e)
        simp [c] at this ⊢
        simp [this]
        simp at ih
        omega
      · by_cases c2 : o i ∈ R <;> simp [c, c2] <;> simp at ih <;> omega
theorem sum_ge {g : Int → Nat} {u : Int} : ∀ {R : List Int}, R.Nodup → u ∈ R → g u = 2 → (∀ v ∈ R, 1 ≤ g v) → R.length + 1 ≤ (R.map g).sum
  | [], _, h, _, _ => by simp at h
  | v :: R, hn, h, h2, h1 => by
    rw [List.nodup_cons] at hn
    have base : ∀ R : List Int, (∀ v ∈ R, 1 ≤ g v) → R.length ≤ (R.map g).sum := fun R => by
      induction R with
      | nil => simp
      | cons v R ih =>
        intro h
        have := ih (fun v hv => h v (by simp [hv]))
        have := h v (by simp)
        simp; omega
    rcases List.mem_cons.1 h with rfl | h
    · have := base R (fun v hv => h1 v (by simp [hv]))
      simp; omega
    · have := sum_ge hn.2 h h2 (fun v hv => h1 v (by simp [hv]))
      have := h1 v (by simp)
      simp; omega

section
variable {ls : List (List Int)} {n : Nat}
def Twice (ls : List (List Int)) (n : Nat) (o : Nat → Int) (u : Int) : Prop := (∀ i, i < n → o i ∈ el ls i) ∧ cnt n o u = 2 ∧ ∀ v, v ≠ u → cnt n o v ≤ 1
def Path (ls : List (List Int)) (n : Nat) (o : Nat → Int) : Nat → Int → Int → Prop
  | 0, v, w => w = v
  | k + 1, v, w => ∃ d v', d < n ∧ o d = v ∧ v' ∈ el ls d ∧ Path ls n o k v' w
theorem Path.snoc {o : Nat → Int} : ∀ {k : Nat} {v w : Int}, Path ls n o k v w → ∀ {d : Nat} {x : Int}, d < n → o d = w → x ∈ el ls d → Path ls n o (k + 1) v x
  | 0, _, _, h, d, x, hd, ho, hx => ⟨d, x, hd, ho.trans h, hx, rfl⟩
  | _ + 1, _, _, ⟨e, v', he, ho', hv, hp⟩, _, _, hd, ho, hx => ⟨e, v', he, ho', hv, hp.snoc hd ho hx⟩
theorem path_other {o o' : Nat → Int} {d : Nat} {u : Int} (hd : o d = u) (ho : ∀ i, i ≠ d → o' i = o i) : ∀ (k : Nat) (x w : Int), Path ls n o k x w → Path ls n o' k x w ∨ ∃ j, j ≤ k ∧ Path ls n o j u w
  | 0, x, w, h => .inl h
  | k + 1, x, w, ⟨e, v', he, ho', hv, hp⟩ => by
    by_cases c : e = d
    · subst c
      have : x = u := ho'.symm.trans hd
      subst this
      exact .inr ⟨k + 1, Nat.le_refl _, e, v', he, ho', hv, hp⟩
    · rcases path_other hd ho k v' w hp with h | ⟨j, hj, h⟩
      · exact .inl ⟨e, v', he, (ho e c).trans ho', hv, h⟩
      · exact .inr ⟨j, by omega, h⟩
theorem cnt_switch {o : Nat → Int} {d : Nat} {v' : Int} (hd : d < n) (hne : v' ≠ o d) (w : Int) :
    cnt n (fun i => if i = d then v' else o i) w = if w = o d then cnt n o w - 1 else if w = v' then cnt n o w + 1 else cnt n o w := by
  have h := countP_update (n := n) (fun i => decide ((if i = d then v' else o i) = w)) (fun i => decide (o i = w)) (d := d) (fun i hi => by simp [hi]) hd
  unfold cnt
  show (List.range n).countP (fun i => decide ((if i = d then v' else o i) = w)) = _
  simp only [if_true, decide_eq_true_eq] at h
  by_cases c : w = o d
  · subst c
    rw [if_pos rfl] at h ⊢
    rw [if_neg hne] at h
    omega
  · rw [if_neg c]
    rw [if_neg (fun e => c e.symm)] at h
    by_cases c2 : w = v'
    · subst c2
      rw [if_pos rfl] at h ⊢
      omega
    · rw [if_neg c2]
      rw [if_neg (fun e => c2 e.symm)] at h
      omega
theorem Twice.switch {o : Nat → Int} {u : Int} (h : Twice ls n o u) (hno : ¬ ∃ f, Own ls n f) {d : Nat} {v' : Int} (hd : d < n) (ho : o d = u) (hv : v' ∈ el ls d) (hne : v' ≠ u) :
    cnt n o v' = 1 ∧ Twice ls n (fun i => if i = d then v' else o i) v' := by
  obtain ⟨h1, h2, h3⟩ := h
  subst ho
  have hc := cnt_switch (n := n) (o := o) hd hne
  have hin : ∀ i, i < n → (if i = d then v' else o i) ∈ el ls i := fun i hi => by
    by_cases c : i = d
    · subst c; simpa using hv
    · simpa [c] using h1 i hi
  have hle := h3 v' hne
  have h0 : cnt n o v' ≠ 0 := fun h0 => hno ⟨fun i => if i = d then v' else o i, hin, cnt_le_one (fun w => by
    rw [hc]
    split
    · rename_i e; rw [e, h2]; omega
    · split
      · rename_i e; rw [e, h0]; omega
      · rename_i e _; exact h3 w e)⟩
  have h11 : cnt n o v' = 1 := by omega
  refine ⟨h11, hin, ?_, fun w hw => ?_⟩
  · rw [hc, if_neg hne, if_pos rfl, h11]
  · rw [hc]
    by_cases e : w = o d
    · rw [if_pos e, e, h2]; omega
    · rw [if_neg e, if_neg hw]
      exact h3 w e
theorem Twice.full (hno : ¬ ∃ f, Own ls n f) : ∀ (k : Nat) (o : Nat → Int) (u : Int), Twice ls n o u → ∀ w, Path ls n o k u w → 1 ≤ cnt n o w := by
  intro k
  induction k using Nat.strongRecOn with
  | ind k ih =>
    intro o u h w hp
    cases k with
    | zero =>
      have hw : w = u := hp
      have := h.2.1
      rw [hw]; omega
    | succ k =>
      obtain ⟨d, v', hd, ho, hv, hp⟩ := hp
      by_cases c : v' = u
      · subst c
        exact ih k (by omega) o v' h w hp
      · obtain ⟨h1, h'⟩ := h.switch hno hd ho hv c
        rcases path_other (o' := fun i => if i = d then v' else o i) ho (fun i hi => by simp [hi]) k v' w hp with q | ⟨j, hj, q⟩
        · have := ih k (by omega) _ v' h' w q
          have hc := cnt_switch (n := n) (o := o) (v' := v') hd (by rw [ho]; exact c) w
          rw [ho] at hc
          by_cases e1 : w = u
          · have := h.2.1
            rw [e1]; omega
          · by_cases e2 : w = v'
            · rw [e2]; omega
            · rw [if_neg e1, if_neg e2] at hc
              omega
        · exact ih j (by omega) o u h w q
end

section
variable {ls : List (List Int)}
noncomputable def within (ls : List (List Int)) (S : List Int) : Nat := (List.range ls.length).countP (fun i => decide (∀ x ∈ el ls i, x ∈ S))
def Closed (ls : List (List Int)) (S : List Int) : Prop := ∀ i, i < ls.length → ∀ x ∈ el ls i, x ∈ S → ∀ y ∈ el ls i, y ∈ S
theorem nodup_le : ∀ {S V : List Int}, S.Nodup → (∀ x ∈ S, x ∈ V) → S.length ≤ V.length
  | [], _, _, _ => by simp
  | x :: S, V, hn, h => by
    rw [List.nodup_cons] at hn
    have hx := h x (by simp)
    have := nodup_le (S := S) (V := V.erase x) hn.2 (fun y hy => (List.mem_erase_of_ne (fun e => hn.1 (by rw [← e]; exact hy))).2 (h y (by simp [hy])))
    rw [List.length_erase_of_mem hx] at this
    have := List.length_pos_of_mem hx
    simp; omega
theorem grow (hp : Pairs ls) {m : Nat} {V : List Int} (hV : ∀ x, Cell ls m x → x ∈ V) : ∀ (d : Nat) (S : List Int), V.length - S.length ≤ d → S.Nodup → (∀ x ∈ S, Cell ls m x) → S.length + 1 ≤ within ls S →
    ∃ S', S'.Nodup ∧ (∀ x ∈ S, x ∈ S') ∧ (∀ x ∈ S', Cell ls m x) ∧ S'.length + 1 ≤ within ls S' ∧ Closed ls S' := by
  intro d
  induction d with
  | zero =>
    intro S hd hn hc hw
    refine ⟨S, hn, fun x h => h, hc, hw, ?_⟩
    intro i hi x hx hxS y hy
    apply Classical.byContradiction
    intro hyS
    have hcy : Cell ls m y := by
      obtain ⟨j, hj, hxj⟩ := hc x hxS
      exact ⟨i, .step hj hi ⟨x, hxj, hx⟩, hy⟩
    have h1 := nodup_le (S := y :: S) (V := V) (List.nodup_cons.2 ⟨hyS, hn⟩) (fun z hz => by
      rcases List.mem_cons.1 hz with rfl | hz
      · exact hV _ hcy
      · exact hV _ (hc z hz))
    simp at h1
    omega
  | succ d ih =>
    intro S hd hn hc hw
    by_cases hcl : Closed ls S
    · exact ⟨S, hn, fun x h => h, hc, hw, hcl⟩
    · unfold Closed at hcl
      simp only [Classical.not_forall] at hcl
      obtain ⟨i, hi, x, hx, hxS, y, hy, hyS⟩ := hcl
      have hcy : Cell ls m y := by
        obtain ⟨j, hj, hxj⟩ := hc x hxS
        exact ⟨i, .step hj hi ⟨x, hxj, hx⟩, hy⟩
      have hn' : (y :: S).Nodup := List.nodup_cons.2 ⟨hyS, hn⟩
      have hc' : ∀ z ∈ y :: S, Cell ls m z := fun z hz => by
        rcases List.mem_cons.1 hz with rfl | hz
        · exact hcy
        · exact hc z hz
      have hlen := nodup_le hn' (fun z hz => hV z (hc' z hz))
      have hgrow : within ls S + 1 ≤ within ls (y :: S) := by
        refine countP_lt (fun j _ h => ?_) ⟨i, List.mem_range.2 hi, ?_, ?_⟩
        · exact decide_eq_true (fun z hz => List.mem_cons_of_mem _ (of_decide_eq_true h z hz))
        · refine decide_eq_true (fun z hz => ?_)
          obtain ⟨a, b, e⟩ := hp i hi
          rw [e] at hx hy hz
          simp only [List.mem_cons, List.not_mem_nil, or_false] at hx hy hz
          have hxy : x ≠ y := fun e => hyS (e ▸ hxS)
          have : z = y ∨ z = x := by
            rcases hx with rfl | rfl <;> rcases hy with rfl | rfl <;> rcases hz with rfl | rfl <;> simp_all
          rcases this with rfl | rfl
          · exact List.mem_cons_self
          · exact List.mem_cons_of_mem _ hxS
        · exact decide_eq_false (fun h => hyS (h y hy))
      simp at hlen
      obtain ⟨S', a, b, c, d', e⟩ := ih (y :: S) (by simp; omega) hn' hc' (by simp; omega)
      exact ⟨S', a, fun z hz => b z (by simp [hz]), c, d', e⟩
theorem exists_nodup (p : Int → Prop) : ∀ L : List Int, ∃ V : List Int, V.Nodup ∧ ∀ x, x ∈ V ↔ x ∈ L ∧ p x
  | [] => ⟨[], by simp, by simp⟩
  | y :: L => by
    obtain ⟨V, h1, h2⟩ := exists_nodup p L
    by_cases c : p y ∧ ¬ y ∈ V
    · refine ⟨y :: V, List.nodup_cons.2 ⟨c.2, h1⟩, fun x => ?_⟩
      rw [List.mem_cons, List.mem_cons, h2]
      constructor
      · rintro (rfl | ⟨h, h'⟩)
        · exact ⟨.inl rfl, c.1⟩
        · exact ⟨.inr h, h'⟩
      · rintro ⟨rfl | h, h'⟩
        · exact .inl rfl
        · exact .inr ⟨h, h'⟩
    · refine ⟨V, h1, fun x => ?_⟩
      rw [List.mem_cons, h2]
      constructor
      · rintro ⟨h, h'⟩
        exact ⟨.inr h, h'⟩
      · rintro ⟨rfl | h, h'⟩
        · apply Classical.byContradiction
          intro hn
          exact c ⟨h', fun e => hn ((h2 _).1 e)⟩
        · exact ⟨h, h'⟩
theorem mem_el_flat {i : Nat} {x : Int} (h : x ∈ el ls i) : x ∈ ls.flatten := by
  unfold el at h
  rw [List.getD_eq_getElem?_getD] at h
  by_cases c : i < ls.length
  · rw [List.getElem?_eq_getElem c] at h
    exact List.mem_flatten.2 ⟨_, List.getElem_mem c, h⟩
  · rw [List.getElem?_eq_none (by omega)] at h
    simp at h
theorem own_step (hp : Pairs ls) (hF : Fits ls) {m : Nat} (hm : m < ls.length) {f : Nat → Int} (hf : Own ls m f) : ∃ f', Own ls (m + 1) f' := by
  apply Classical.byContradiction
  intro hno
  obtain ⟨a, b, hab⟩ := hp m hm
  have ha : a ∈ el ls m := by rw [hab]; simp
  have hin : ∀ i, i < m + 1 → (if i = m then a else f i) ∈ el ls i := fun i hi => by
    by_cases c : i = m
    · subst c; simpa using ha
    · simpa [c] using hf.1 i (by omega)
  have hcnt : ∀ v, cnt (m + 1) (fun i => if i = m then a else f i) v = cnt m f v + if a = v then 1 else 0 := fun v => by
    unfold cnt
    rw [List.range_succ, List.countP_append, List.countP_singleton]
    congr 1
    · exact List.countP_congr (fun i hi => by
        rw [List.mem_range] at hi
        simp [show i ≠ m by omega])
    · simp
  have hle := cnt_inj hf.2
  have h2 : cnt (m + 1) (fun i => if i = m then a else f i) a = 2 := by
    have hla := hle a
    have hne : cnt m f a ≠ 0 := fun h0 => hno ⟨_, hin, cnt_le_one (fun v => by
      rw [hcnt]
      by_cases c : a = v
      · subst c; simp [h0]
      · have := hle v; simp [c]; exact this)⟩
    rw [hcnt, if_pos rfl]; omega
  have hT : Twice ls (m + 1) (fun i => if i = m then a else f i) a := ⟨hin, h2, fun v hv => by
    rw [hcnt, if_neg (fun e => hv e.symm)]
    exact hle v⟩
  generalize (fun i => if i = m then a else f i) = o at hT h2 hin hcnt
  have hfull := fun k => Twice.full hno k o a hT
  obtain ⟨R, hRn, hR⟩ := exists_nodup (fun w => ∃ k, Path ls (m + 1) o k a w) ls.flatten
  have hRa : a ∈ R := (hR a).2 ⟨mem_el_flat ha, 0, rfl⟩
  have hRc : ∀ d, d < m + 1 → o d ∈ R → ∀ x ∈ el ls d, x ∈ R := fun d hd ho x hx => by
    obtain ⟨_, k, hk⟩ := (hR _).1 ho
    exact (hR x).2 ⟨mem_el_flat hx, k + 1, hk.snoc hd rfl hx⟩
  have hcell : ∀ (k : Nat) (v w : Int), Cell ls m v → Path ls (m + 1) o k v w → Cell ls m w := by
    intro k
    induction k with
    | zero =>
      intro v w hv hp
      have : w = v := hp
      rw [this]; exact hv
    | succ k ih =>
      rintro v w ⟨j, hj, hvj⟩ ⟨d, v', hd, ho, hv', hp⟩
      exact ih v' w ⟨d, .step hj (by omega) ⟨v, hvj, by have := hT.1 d hd; rw [ho] at this; exact this⟩, hv'⟩ hp
  have hsum := sum_ge (g := cnt (m + 1) o) hRn hRa h2 (fun v hv => by
    obtain ⟨_, k, hk⟩ := (hR v).1 hv
    exact hfull k v hk)
  rw [sum_cnt hRn] at hsum
  have hw : R.length + 1 ≤ within ls R := by
    refine Nat.le_trans hsum ?_
    unfold within
    have hsplit : List.range ls.length = List.range (m + 1) ++ (List.range' (m + 1) (ls.length - (m + 1))) := by
      have := List.range'_append_1 (s := 0) (m := m + 1) (n := ls.length - (m + 1))
      rw [Nat.zero_add, show m + 1 + (ls.length - (m + 1)) = ls.length from by omega] at this
      rw [List.range_eq_range', List.range_eq_range', this]
    rw [hsplit, List.countP_append]
    refine Nat.le_trans (List.countP_mono_left (fun i hi h => ?_)) (Nat.le_add_right _ _)
    exact decide_eq_true (hRc i (List.mem_range.1 hi) (of_decide_eq_true h))
  obtain ⟨S, hSn, hRS, hSc, hSw, hScl⟩ := grow hp (m := m) (V := ls.flatten) (fun x hx => by
    obtain ⟨j, _, h⟩ := hx
    exact mem_el_flat h) (ls.flatten.length) R (by omega) hRn (fun x hx => by
      obtain ⟨_, k, hk⟩ := (hR x).1 hx
      exact hcell k a x ⟨m, .refl _, ha⟩ hk) hw
  have hall : ∀ j, Reach ls m j → ∀ x ∈ el ls j, x ∈ S := by
    intro j hj
    induction hj with
    | refl => exact hScl m hm a ha (hRS a hRa)
    | step _ hk hadj ih =>
      obtain ⟨x, h1, h2⟩ := hadj
      exact hScl _ hk x h2 (ih x h1)
  have hfit := hF m hm S hSn (fun x => ⟨hSc x, fun ⟨j, hj, hx⟩ => hall j hj x hx⟩)
  have hle2 : within ls S ≤ (comp ls m).length := by
    unfold within comp
    rw [← List.countP_eq_length_filter]
    refine List.countP_mono_left (fun i hi h => decide_eq_true ?_)
    rw [List.mem_range] at hi
    obtain ⟨a', b', e⟩ := hp i hi
    have ha' : a' ∈ el ls i := by rw [e]; simp
    obtain ⟨j, hj, hx⟩ := hSc a' (of_decide_eq_true h a' ha')
    exact .step hj hi ⟨a', hx, ha'⟩
  omega
theorem own_of_fits (hp : Pairs ls) (hF : Fits ls) : ∃ f, Own ls ls.length f := by
  have : ∀ m, m ≤ ls.length → ∃ f, Own ls m f := by
    intro m
    induction m with
    | zero => exact fun _ => ⟨fun _ => 0, fun i hi => by omega, fun i j hi => by omega⟩
    | succ m ih =>
      intro h
      obtain ⟨f, hf⟩ := ih (by omega)
      exact own_step hp hF (by omega) hf
  exact this _ (Nat.le_refl _)
theorem own_count {f : Nat → Int} (hf : Own ls ls.length f) {is : List Nat} (hn : is.Nodup) (hi : ∀ i ∈ is, i < ls.length) {V : List Int} (hV : ∀ i ∈ is, ∀ x ∈ el ls i, x ∈ V) : is.length ≤ V.length := by
  have h1 : (is.map f).Nodup := by
    rw [List.Nodup, List.pairwise_map]
    exact List.Pairwise.imp_of_mem (fun {i j} hi' hj' hne e => hne (hf.2 i j (hi i hi') (hi j hj') e)) hn
  have := nodup_le h1 (V := V) (fun x hx => by
    obtain ⟨i, h, rfl⟩ := List.mem_map.1 hx
    exact hV i h _ (hf.1 i (hi i h)))
  simpa using this
theorem fits_of_own {f : Nat → Int} (hf : Own ls ls.length f) : Fits ls := fun i hi V hn hV => by
  refine own_count hf (List.nodup_range.filter _) (fun j hj => List.mem_range.1 (List.mem_filter.1 hj).1) (fun j hj x hx => (hV x).2 ⟨j, of_decide_eq_true (List.mem_filter.1 hj).2, hx⟩)
end
end Go.Proofs.YtephjmmkggcmeaaQ.CK
namespace Go.Proofs.YtephjmmkggcmeaaQ.CK
open Classical
section
variable {ls : List (List Int)}
noncomputable def heads (ls : List (List Int)) : List Nat := (List.range ls.length).filter (fun i => decide (∀ j, Reach ls i j → i ≤ j))
noncomputable def groupsC (ls : List (List Int)) : List (List Nat) := (heads ls).map (comp ls)
theorem mem_comp {i j : Nat} : j ∈ comp ls i ↔ j < ls.length ∧ Reach ls i j := by
  unfold comp
  rw [List.mem_filter, List.mem_range, decide_eq_true_eq]
theorem mem_heads {i : Nat} : i ∈ heads ls ↔ i < ls.length ∧ ∀ j, Reach ls i j → i ≤ j := by
  unfold heads
  rw [List.mem_filter, List.mem_range, decide_eq_true_eq]
theorem comp_eq {i j : Nat} (hi : i < ls.length) (h : Reach ls i j) : comp ls i = comp ls j := by
  unfold comp
  apply List.filter_congr
  intro k _
  rw [decide_eq_decide]
  exact ⟨fun h' => (h.symm hi).trans h', fun h' => h.trans h'⟩
theorem comp_nodup (i : Nat) : (comp ls i).Nodup := List.nodup_range.filter _
theorem comp_self {i : Nat} (hi : i < ls.length) : i ∈ comp ls i := mem_comp.2 ⟨hi, .refl _⟩
theorem head_of : ∀ (n j : Nat), j ≤ n → j < ls.length → ∃ i, i ∈ heads ls ∧ Reach ls i j := by
  intro n
  induction n with
  | zero =>
    intro j hj hl
    exact ⟨j, mem_heads.2 ⟨hl, fun k _ => by omega⟩, .refl _⟩
  | succ n ih =>
    intro j hj hl
    by_cases c : ∀ k, Reach ls j k → j ≤ k
    · exact ⟨j, mem_heads.2 ⟨hl, c⟩, .refl _⟩
    · simp only [Classical.not_forall] at c
      obtain ⟨k, hk, hlt⟩ := c
      obtain ⟨i, h1, h2⟩ := ih k (by omega) (hk.lt hl)
      exact ⟨i, h1, h2.trans (hk.symm hl)⟩
theorem head_uniq {i i' j : Nat} (h : i ∈ heads ls) (h' : i' ∈ heads ls) (hj : Reach ls i j) (hj' : Reach ls i' j) : i = i' := by
  obtain ⟨a1, a2⟩ := mem_heads.1 h
  obtain ⟨b1, b2⟩ := mem_heads.1 h'
  have := a2 i' (hj.trans (hj'.symm b1))
  have := b2 i (hj'.trans (hj.symm a1))
  omega
theorem heads_nodup : (heads ls).Nodup := List.nodup_range.filter _
theorem flat_mem {j : Nat} : j ∈ (groupsC ls).flatten ↔ j < ls.length := by
  rw [List.mem_flatten]
  constructor
  · rintro ⟨g, hg, hj⟩
    obtain ⟨i, _, rfl⟩ := List.mem_map.1 hg
    exact (mem_comp.1 hj).1
  · intro hj
    obtain ⟨i, h1, h2⟩ := head_of j j (Nat.le_refl _) hj
    exact ⟨comp ls i, List.mem_map.2 ⟨i, h1, rfl⟩, mem_comp.2 ⟨hj, h2⟩⟩
theorem flat_nodup : (groupsC ls).flatten.Nodup := by
  unfold List.Nodup
  rw [List.pairwise_flatten]
  refine ⟨fun g hg => ?_, ?_⟩
  · obtain ⟨i, _, rfl⟩ := List.mem_map.1 hg
    exact comp_nodup i
  · unfold groupsC
    rw [List.pairwise_map]
    refine List.Pairwise.imp_of_mem (fun {i i'} hi hi' hne x hx y hy e => ?_) heads_nodup
    subst e
    exact hne (head_uniq hi hi' (mem_comp.1 hx).2 (mem_comp.1 hy).2)
theorem nodup_leN : ∀ {S V : List Nat}, S.Nodup → (∀ x ∈ S, x ∈ V) → S.length ≤ V.length
  | [], _, _, _ => by simp
  | x :: S, V, hn, h => by
    rw [List.nodup_cons] at hn
    have hx := h x (by simp)
    have := nodup_leN (S := S) (V := V.erase x) hn.2 (fun y hy => (List.mem_erase_of_ne (fun e => hn.1 (by rw [← e]; exact hy))).2 (h y (by simp [hy])))
    rw [List.length_erase_of_mem hx] at this
    have := List.length_pos_of_mem hx
    simp; omega
theorem flat_len : (groupsC ls).flatten.length = ls.length := by
  have h1 := nodup_leN (flat_nodup (ls := ls)) (V := List.range ls.length) (fun x hx => List.mem_range.2 (flat_mem.1 hx))
  have h2 := nodup_leN (List.nodup_range (n := ls.length)) (V := (groupsC ls).flatten) (fun x hx => flat_mem.2 (List.mem_range.1 hx))
  rw [List.length_range] at h1 h2
  omega
theorem sum_len : ((groupsC ls).map List.length).sum = ls.length := by rw [← List.length_flatten, flat_len]
theorem heads_len : (groupsC ls).length ≤ ls.length := by
  unfold groupsC heads
  rw [List.length_map]
  exact Nat.le_trans (List.length_filter_le _ _) (by rw [List.length_range]; exact Nat.le_refl _)

structure Found (ls : List (List Int)) (i : Nat) (F : Nat → Prop) (todo : List Nat) : Prop where
  here : F i
  sound : ∀ j, F j → Reach ls i j ∧ j < ls.length
  sub : ∀ j ∈ todo, F j
  shut : ∀ j k, F j → j ∉ todo → k < ls.length → Adj ls j k → F k
theorem Found.all {i : Nat} {F : Nat → Prop} (h : Found ls i F []) : ∀ j, F j ↔ Reach ls i j := by
  intro j
  refine ⟨fun hj => (h.sound j hj).1, fun hj => ?_⟩
  induction hj with
  | refl => exact h.here
  | step h1 hk ha ih => exact h.shut _ _ ih (by simp) hk ha
end
end Go.Proofs.YtephjmmkggcmeaaQ.CK
namespace Go.Proofs.YtephjmmkggcmeaaQ.CK
open Classical

def shareB (a b : List Int) : Bool := a.any (fun n => b.contains n)
def scan (ls : List (List Int)) (p : List Int) (k : Int) : Nat → Nat → List Int → List Nat → List Int × List Nat
  | 0, _, o, t => (o, t)
  | m + 1, j, o, t => if (decide (o.getD j 0 < 0) && shareB (el ls j) p) = true then scan ls p k m (j + 1) (o.set j k) (t ++ [j]) else scan ls p k m (j + 1) o t
def bfs (ls : List (List Int)) (k : Int) : Nat → List Int → List Nat → List Int
  | 0, o, _ => o
  | _ + 1, o, [] => o
  | f + 1, o, i :: t => bfs ls k f (scan ls (el ls i) k ls.length 0 o (i :: t)).1 (scan ls (el ls i) k ls.length 0 o (i :: t)).2.tail
def outer (ls : List (List Int)) : Nat → Nat → List Int → Nat → List Int × Nat
  | 0, _, o, c => (o, c)
  | m + 1, i, o, c => if 0 ≤ o.getD i 0 then outer ls m (i + 1) o c else outer ls m (i + 1) (bfs ls (c : Int) (ls.length + 1) (o.set i (c : Int)) [i]) (c + 1)
def groupsG (ls : List (List Int)) : List (List Nat) :=
  (List.range (outer ls ls.length 0 (List.replicate ls.length (-1)) 0).2).map (fun (k : Nat) => (List.range ls.length).filter (fun i => decide ((outer ls ls.length 0 (List.replicate ls.length (-1)) 0).1.getD i 0 = (k : Int))))

section
variable {ls : List (List Int)}
theorem shareB_iff {i j : Nat} : shareB (el ls j) (el ls i) = true ↔ Adj ls j i := by
  unfold shareB Adj
  rw [List.any_eq_true]
  constructor
  · rintro ⟨x, h1, h2⟩
    exact ⟨x, h1, List.contains_iff_mem.1 h2⟩
  · rintro ⟨x, h1, h2⟩
    exact ⟨x, h1, List.contains_iff_mem.2 h2⟩
theorem getD_set {o : List Int} {j i : Nat} {v : Int} (h : j < o.length) : (o.set j v).getD i 0 = if j = i then v else o.getD i 0 := by
  rw [List.getD_eq_getElem?_getD]
  by_cases c : j = i
  · subst c
    rw [List.getElem?_set_self (by simpa using h), if_pos rfl]
    rfl
  · rw [List.getElem?_set_ne c, if_neg c, ← List.getD_eq_getElem?_getD]
theorem scan_ok (p : List Int) {k : Int} (hk : 0 ≤ k) : ∀ (m j : Nat) (o : List Int) (t : List Nat), j + m ≤ o.length →
    (scan ls p k m j o t).1.length = o.length ∧ (∀ q, (scan ls p k m j o t).1.getD q 0 = if j ≤ q ∧ q < j + m ∧ o.getD q 0 < 0 ∧ shareB (el ls q) p = true then k else o.getD q 0) ∧
    (scan ls p k m j o t).2 = t ++ (List.range' j m).filter (fun q => decide (o.getD q 0 < 0 ∧ shareB (el ls q) p = true))
  | 0, j, o, t, _ => ⟨rfl, fun q => by rw [if_neg (by omega)]; rfl, by simp [scan]⟩
  | m + 1, j, o, t, h => by
    simp only [scan]
    by_cases c : (decide (o.getD j 0 < 0) && shareB (el ls j) p) = true
    · rw [if_pos c]
      rw [Bool.and_eq_true, decide_eq_true_eq] at c
      obtain ⟨h1, h2, h3⟩ := scan_ok p hk m (j + 1) (o.set j k) (t ++ [j]) (by rw [List.length_set]; omega)
      rw [List.length_set] at h1
      refine ⟨h1, fun q => ?_, ?_⟩
      · rw [h2, getD_set (by omega)]
        by_cases e : j = q
        · subst e
          rw [if_neg (by omega), if_pos rfl, if_pos ⟨Nat.le_refl _, by omega, c⟩]
        · rw [if_neg e]
          by_cases g : j + 1 ≤ q ∧ q < j + 1 + m ∧ o.getD q 0 < 0 ∧ shareB (el ls q) p = true
          · rw [if_pos g, if_pos ⟨by omega, by omega, g.2.2⟩]
          · rw [if_neg g, if_neg (fun g' => g ⟨by omega, by omega, g'.2.2⟩)]
      · rw [h3, List.range'_succ, List.filter_cons, if_pos (by simpa using c), List.append_assoc, List.singleton_append]
        congr 2
        apply List.filter_congr
        intro q hq
        have := (List.mem_range'_1.1 hq).1
        rw [getD_set (by omega), if_neg (by omega)]
    · rw [if_neg c]
      obtain ⟨h1, h2, h3⟩ := scan_ok p hk m (j + 1) o t (by omega)
      rw [Bool.and_eq_true, decide_eq_true_eq] at c
      refine ⟨h1, fun q => ?_, ?_⟩
      · rw [h2]
        by_cases e : j = q
        · subst e
          rw [if_neg (by omega), if_neg (fun g => c g.2.2)]
        · by_cases g : j + 1 ≤ q ∧ q < j + 1 + m ∧ o.getD q 0 < 0 ∧ shareB (el ls q) p = true
          · rw [if_pos g, if_pos ⟨by omega, by omega, g.2.2⟩]
          · rw [if_neg g, if_neg (fun g' => g ⟨by omega, by omega, g'.2.2⟩)]
      · rw [h3, List.range'_succ, List.filter_cons, if_neg (by simpa using c)]
structure Bfs (ls : List (List Int)) (k : Int) (i : Nat) (o0 o : List Int) (t : List Nat) : Prop where
  len : o.length = ls.length
  rest : ∀ q, o.getD q 0 ≠ k → o.getD q 0 = o0.getD q 0
  found : Found ls i (fun q => q < ls.length ∧ o.getD q 0 = k) t
  nodup : t.Nodup
def freeN (o : List Int) (n : Nat) : Nat := (List.range n).countP (fun q => decide (o.getD q 0 < 0))
theorem bfs_step {k : Int} (hk : 0 ≤ k) {i : Nat} {o0 o : List Int} {a : Nat} {t : List Nat} (h : Bfs ls k i o0 o (a :: t)) (h0 : ∀ q, Reach ls i q → o0.getD q 0 < 0) :
    Bfs ls k i o0 (scan ls (el ls a) k ls.length 0 o (a :: t)).1 (scan ls (el ls a) k ls.length 0 o (a :: t)).2.tail ∧
    (scan ls (el ls a) k ls.length 0 o (a :: t)).2.tail.length + freeN (scan ls (el ls a) k ls.length 0 o (a :: t)).1 ls.length + 1 ≤ (a :: t).length + freeN o ls.length := by
  obtain ⟨s1, s2, s3⟩ := scan_ok (ls := ls) (el ls a) hk ls.length 0 o (a :: t) (by rw [h.len]; omega)
  have ha := h.found.sub a (by simp)
  have hra := h.found.sound a ha
  have htl : (scan ls (el ls a) k ls.length 0 o (a :: t)).2.tail = t ++ (List.range' 0 ls.length).filter (fun q => decide (o.getD q 0 < 0 ∧ shareB (el ls q) (el ls a) = true)) := by
    rw [s3, List.cons_append, List.tail_cons]
  have new : ∀ q, q < ls.length → o.getD q 0 < 0 → shareB (el ls q) (el ls a) = true → Reach ls i q := fun q hq _ h2 => .step hra.1 hq (shareB_iff.1 h2).symm
  refine ⟨⟨by rw [s1, h.len], fun q hq => ?_, ⟨?_, fun q hq => ?_, fun q hq => ?_, fun q r hq hqt hr hadj => ?_⟩, ?_⟩, ?_⟩
  · rw [s2] at hq ⊢
    by_cases c : 0 ≤ q ∧ q < 0 + ls.length ∧ o.getD q 0 < 0 ∧ shareB (el ls q) (el ls a) = true
    · rw [if_pos c] at hq; exact absurd rfl hq
    · rw [if_neg c] at hq ⊢; exact h.rest q hq
  · have hi := h.found.here
    refine ⟨hi.1, ?_⟩
    rw [s2]
    split
    · rfl
    · exact hi.2
  · obtain ⟨h1, h2⟩ := hq
    rw [s2] at h2
    by_cases c : 0 ≤ q ∧ q < 0 + ls.length ∧ o.getD q 0 < 0 ∧ shareB (el ls q) (el ls a) = true
    · exact ⟨new q h1 c.2.2.1 c.2.2.2, h1⟩
    · rw [if_neg c] at h2
      exact h.found.sound q ⟨h1, h2⟩
  · rw [htl, List.mem_append] at hq
    rcases hq with hq | hq
    · obtain ⟨h1, h2⟩ := h.found.sub q (by simp [hq])
      refine ⟨h1, ?_⟩
      rw [s2]
      split
      · rfl
      · exact h2
    · rw [List.mem_filter, List.mem_range'_1, decide_eq_true_eq] at hq
      refine ⟨by omega, ?_⟩
      rw [s2, if_pos ⟨hq.1.1, hq.1.2, hq.2⟩]
  · obtain ⟨h1, h2⟩ := hq
    refine ⟨hr, ?_⟩
    rw [htl, List.mem_append, not_or] at hqt
    rw [s2] at h2 ⊢
    by_cases c : 0 ≤ q ∧ q < 0 + ls.length ∧ o.getD q 0 < 0 ∧ shareB (el ls q) (el ls a) = true
    · exact absurd (List.mem_filter.2 ⟨List.mem_range'_1.2 ⟨c.1, c.2.1⟩, decide_eq_true c.2.2⟩) hqt.2
    · rw [if_neg c] at h2
      by_cases e : q = a
      · subst e
        by_cases g : o.getD r 0 < 0
        · rw [if_pos ⟨Nat.zero_le _, by omega, g, shareB_iff.2 hadj.symm⟩]
        · rw [if_neg (fun g' => g g'.2.2.1)]
          apply Classical.byContradiction
          intro hne
          have := h.rest r hne
          have h4 := h0 r (.step hra.1 hr hadj)
          omega
      · have := h.found.shut q r ⟨h1, h2⟩ (by simp [e, hqt.1]) hr hadj
        split
        · rfl
        · exact this.2
  · rw [htl]
    rw [List.nodup_append]
    have hn := List.nodup_cons.1 h.nodup
    refine ⟨hn.2, (List.nodup_range' (step := 1)).filter _, fun x hx y hy e => ?_⟩
    subst e
    rw [List.mem_filter, decide_eq_true_eq] at hy
    have := (h.found.sub x (by simp [hx])).2
    omega
  · rw [htl, List.length_append, List.length_cons]
    have hcnt : freeN (scan ls (el ls a) k ls.length 0 o (a :: t)).1 ls.length + ((List.range' 0 ls.length).filter (fun q => decide (o.getD q 0 < 0 ∧ shareB (el ls q) (el ls a) = true))).length = freeN o ls.length := by
      unfold freeN
      rw [← List.countP_eq_length_filter, ← List.range_eq_range']
      have : ∀ l : List Nat, (∀ q ∈ l, q < ls.length) → l.countP (fun q => decide ((scan ls (el ls a) k ls.length 0 o (a :: t)).1.getD q 0 < 0)) + l.countP (fun q => decide (o.getD q 0 < 0 ∧ shareB (el ls q) (el ls a) = true)) = l.countP (fun q => decide (o.getD q 0 < 0)) := fun l => by
        induction l with
        | nil => simp
        | cons q l ih =>
          intro hl
          have ih := ih (fun r hr => hl r (by simp [hr]))
          have hq := hl q (by simp)
          rw [List.countP_cons, List.countP_cons, List.countP_cons]
          by_cases c : o.getD q 0 < 0 ∧ shareB (el ls q) (el ls a) = true
          · have e1 : (scan ls (el ls a) k ls.length 0 o (a :: t)).1.getD q 0 = k := by rw [s2, if_pos ⟨Nat.zero_le _, by omega, c⟩]
            rw [e1, decide_eq_true c, decide_eq_true c.1, decide_eq_false (show ¬ k < 0 by omega)]
            simp only [if_true, Bool.false_eq_true, if_false]
            omega
          · have e1 : (scan ls (el ls a) k ls.length 0 o (a :: t)).1.getD q 0 = o.getD q 0 := by rw [s2, if_neg (fun g => c g.2.2)]
            rw [e1, decide_eq_false c]
            simp only [Bool.false_eq_true, if_false]
            omega
      exact this _ (fun q hq => List.mem_range.1 hq)
    omega
theorem bfs_ok {k : Int} (hk : 0 ≤ k) {i : Nat} {o0 : List Int} (h0 : ∀ q, Reach ls i q → o0.getD q 0 < 0) : ∀ (f : Nat) (o : List Int) (t : List Nat), Bfs ls k i o0 o t → t.length + freeN o ls.length < f → Bfs ls k i o0 (bfs ls k f o t) []
  | 0, _, _, _, hf => by omega
  | f + 1, o, [], h, _ => by simpa [bfs] using h
  | f + 1, o, a :: t, h, hf => by
    obtain ⟨h1, h2⟩ := bfs_step hk h h0
    simp only [bfs]
    exact bfs_ok hk h0 f _ _ h1 (by omega)
structure Outer (ls : List (List Int)) (i : Nat) (o : List Int) (c : Nat) : Prop where
  len : o.length = ls.length
  cnt : c = ((heads ls).filter (fun h => decide (h < i))).length
  told : ∀ (a h : Nat), ((heads ls).filter (fun h => decide (h < i)))[a]? = some h → ∀ q, q < ls.length → (o.getD q 0 = (a : Int) ↔ Reach ls h q)
  free : ∀ q, q < ls.length → (∀ h, h ∈ heads ls → h < i → ¬ Reach ls h q) → o.getD q 0 < 0
theorem heads_sorted : (heads ls).Pairwise (· < ·) := List.pairwise_lt_range.filter _
theorem filter_succ {l : List Nat} (hs : l.Pairwise (· < ·)) (i : Nat) : l.filter (fun h => decide (h < i + 1)) = l.filter (fun h => decide (h < i)) ++ (if i ∈ l then [i] else []) := by
  induction l with
  | nil => simp
  | cons x l ih =>
    rw [List.pairwise_cons] at hs
    have ih := ih hs.2
    rw [List.filter_cons, List.filter_cons]
    rcases Nat.lt_trichotomy x i with h | h | h
    · rw [if_pos (by simpa using by omega), if_pos (by simpa using h), ih, List.cons_append]
      congr 2
      have : (i ∈ x :: l) ↔ i ∈ l := by rw [List.mem_cons]; exact ⟨fun e => e.resolve_left (by omega), .inr⟩
      simp [this]
    · subst h
      have hn : l.filter (fun h => decide (h < x)) = [] := by
        rw [List.filter_eq_nil_iff]
        intro y hy
        have := hs.1 y hy
        simp; omega
      have hn2 : l.filter (fun h => decide (h < x + 1)) = [] := by
        rw [List.filter_eq_nil_iff]
        intro y hy
        have := hs.1 y hy
        simp; omega
      rw [if_pos (by simp), if_neg (by simp), hn, hn2, if_pos (by simp)]
      rfl
    · have hn : ∀ m, m ≤ i + 1 → l.filter (fun h => decide (h < m)) = [] := fun m hm => by
        rw [List.filter_eq_nil_iff]
        intro y hy
        have := hs.1 y hy
        simp; omega
      have : ¬ i ∈ x :: l := fun e => by
        rcases List.mem_cons.1 e with e | e
        · omega
        · have := hs.1 i e; omega
      rw [if_neg (by simpa using by omega), if_neg (by simpa using by omega), hn _ (Nat.le_refl _), hn _ (by omega), if_neg this]
      rfl
theorem outer_ok : ∀ (m i : Nat) (o : List Int) (c : Nat), i + m = ls.length → Outer ls i o c → Outer ls ls.length (outer ls m i o c).1 (outer ls m i o c).2
  | 0, i, o, c, h, H => by
    have : i = ls.length := by omega
    subst this
    exact H
  | m + 1, i, o, c, h, H => by
    simp only [outer]
    have hnth : ∀ (a hh : Nat), ((heads ls).filter (fun h => decide (h < i)))[a]? = some hh → hh ∈ heads ls ∧ hh < i := fun a hh e => by
      have := List.mem_of_getElem? e
      rw [List.mem_filter, decide_eq_true_eq] at this
      exact this
    by_cases g : 0 ≤ o.getD i 0
    · rw [if_pos g]
      have hnh : ¬ i ∈ heads ls := fun hi => by
        have : o.getD i 0 < 0 := H.free i (by omega) (fun h2 hh hlt hr => by
          have := head_uniq hi hh (.refl i) hr
          omega)
        omega
      have hf : (heads ls).filter (fun h => decide (h < i + 1)) = (heads ls).filter (fun h => decide (h < i)) := by
        rw [filter_succ heads_sorted, if_neg hnh, List.append_nil]
      refine outer_ok m (i + 1) o c (by omega) ⟨H.len, by rw [hf]; exact H.cnt, by rw [hf]; exact H.told, fun q hq hno => H.free q hq (fun h2 hh hlt => hno h2 hh (by omega))⟩
    · rw [if_neg g]
      have hi : i ∈ heads ls := by
        obtain ⟨h2, hh, hr⟩ := head_of (ls := ls) i i (Nat.le_refl _) (by omega)
        by_cases e : h2 = i
        · exact e ▸ hh
        · have hlt : h2 < i := by have := (mem_heads.1 hh).2 h2 (.refl _); have := (mem_heads.1 hh).2 i hr; omega
          have hm : h2 ∈ (heads ls).filter (fun h => decide (h < i)) := List.mem_filter.2 ⟨hh, by simpa using hlt⟩
          obtain ⟨a, ha⟩ := List.getElem?_of_mem hm
          have := (H.told a h2 ha i (by omega)).2 hr
          omega
      have h0 : ∀ q, Reach ls i q → o.getD q 0 < 0 := fun q hq => H.free q (hq.lt (by omega)) (fun h2 hh hlt hr => by
        have := head_uniq hi hh hq hr
        omega)
      have hset : ∀ q, (o.set i (c : Int)).getD q 0 = if i = q then (c : Int) else o.getD q 0 := fun q => getD_set (by rw [H.len]; omega)
      have hlt : ∀ q, q < ls.length → o.getD q 0 ≠ (c : Int) := fun q hq e => by
        by_cases r : ∀ h2, h2 ∈ heads ls → h2 < i → ¬ Reach ls h2 q
        · have := H.free q hq r; omega
        · simp only [Classical.not_forall, Classical.not_not] at r
          obtain ⟨h2, hh, hlt, hr⟩ := r
          have hm : h2 ∈ (heads ls).filter (fun h => decide (h < i)) := List.mem_filter.2 ⟨hh, by simpa using hlt⟩
          obtain ⟨a, ha⟩ := List.getElem?_of_mem hm
          have h3 := (H.told a h2 ha q hq).2 hr
          have h4 : a < c := by
            rw [H.cnt]
            exact (List.getElem?_eq_some_iff.1 ha).1
          omega
      have hB : Bfs ls (c : Int) i o (o.set i (c : Int)) [i] := by
        refine ⟨by rw [List.length_set, H.len], fun q hq => ?_, ⟨⟨by omega, by rw [hset, if_pos rfl]⟩, fun q hq => ?_, fun q hq => ?_, fun q r hq hqt => ?_⟩, by simp⟩
        · rw [hset] at hq ⊢
          by_cases e : i = q
          · rw [if_pos e] at hq; exact absurd rfl hq
          · rw [if_neg e]
        · obtain ⟨h1, h2⟩ := hq
          rw [hset] at h2
          by_cases e : i = q
          · subst e; exact ⟨.refl _, h1⟩
          · rw [if_neg e] at h2
            exact absurd h2 (hlt q h1)
        · rw [List.mem_singleton] at hq
          subst hq
          exact ⟨by omega, by rw [hset, if_pos rfl]⟩
        · obtain ⟨h1, h2⟩ := hq
          rw [hset, if_neg (fun e => hqt (by simp [e]))] at h2
          exact absurd h2 (hlt q h1)
      have hfree : freeN (o.set i (c : Int)) ls.length ≤ ls.length - 1 := by
        unfold freeN
        have : (List.range ls.length).countP (fun q => decide ((o.set i (c : Int)).getD q 0 < 0)) + 1 ≤ (List.range ls.length).countP (fun _ => true) := countP_lt (fun _ _ _ => rfl) ⟨i, List.mem_range.2 (by omega), rfl, by
          rw [hset, if_pos rfl]
          exact decide_eq_false (by omega)⟩
        rw [List.countP_true, List.length_range] at this
        omega
      obtain ⟨b1, b2, b3, _⟩ := bfs_ok (by omega) h0 (ls.length + 1) _ [i] hB (by simp; omega)
      have hall := b3.all
      generalize bfs ls (c : Int) (ls.length + 1) (o.set i (c : Int)) [i] = o' at b1 b2 hall
      have hf : (heads ls).filter (fun h => decide (h < i + 1)) = (heads ls).filter (fun h => decide (h < i)) ++ [i] := by
        rw [filter_succ heads_sorted, if_pos hi]
      refine outer_ok m (i + 1) o' (c + 1) (by omega) ⟨b1, by rw [hf, List.length_append, ← H.cnt]; rfl, fun a h2 ha q hq => ?_, fun q hq hno => ?_⟩
      · rw [hf, List.getElem?_append] at ha
        have hc := H.cnt
        by_cases l : a < ((heads ls).filter (fun h => decide (h < i))).length
        · rw [if_pos l] at ha
          rw [← H.told a h2 ha q hq]
          obtain ⟨hh, hlt2⟩ := hnth a h2 ha
          by_cases e : o'.getD q 0 = (c : Int)
          · have hr := (hall q).1 ⟨hq, e⟩
            have := h0 q hr
            constructor
            · intro e2; omega
            · intro e2; omega
          · rw [b2 q e]
        · rw [if_neg l] at ha
          have hac : a = c := by
            have := (List.getElem?_eq_some_iff.1 ha).1
            simp at this
            omega
          rw [show a - ((heads ls).filter (fun h => decide (h < i))).length = 0 from by omega] at ha
          have h2i : h2 = i := by simpa using ha.symm
          subst h2i
          rw [hac]
          exact ⟨fun e => (hall q).1 ⟨hq, e⟩, fun e => ((hall q).2 e).2⟩
      · have hne : o'.getD q 0 ≠ (c : Int) := fun e => hno i hi (by omega) ((hall q).1 ⟨hq, e⟩)
        rw [b2 q hne]
        exact H.free q hq (fun h2 hh hlt2 => hno h2 hh (by omega))
theorem groupsG_eq : groupsG ls = groupsC ls := by
  have H : Outer ls 0 (List.replicate ls.length (-1)) 0 := by
    have hn : (heads ls).filter (fun h => decide (h < 0)) = [] := by
      rw [List.filter_eq_nil_iff]
      intro y _; simp
    refine ⟨List.length_replicate, by rw [hn]; rfl, fun a h e => by rw [hn] at e; simp at e, fun q hq _ => ?_⟩
    rw [List.getD_eq_getElem?_getD, List.getElem?_replicate, if_pos hq]
    decide
  have F := outer_ok ls.length 0 _ 0 (by omega) H
  unfold groupsG groupsC
  generalize (outer ls ls.length 0 (List.replicate ls.length (-1)) 0) = r at F
  have hf : (heads ls).filter (fun h => decide (h < ls.length)) = heads ls := by
    rw [List.filter_eq_self]
    intro h hh
    simpa using (mem_heads.1 hh).1
  obtain ⟨_, f2, f3, _⟩ := F
  rw [hf] at f2 f3
  apply List.ext_getElem
  · rw [List.length_map, List.length_map, List.length_range, f2]
  · intro a h1 h2
    rw [List.length_map] at h2
    rw [List.getElem_map, List.getElem_map, List.getElem_range]
    unfold comp
    apply List.filter_congr
    intro q hq
    rw [decide_eq_decide]
    exact f3 a _ (List.getElem?_eq_getElem h2) q (List.mem_range.1 hq)
end
end Go.Proofs.YtephjmmkggcmeaaQ.CK
namespace Go.Proofs.YtephjmmkggcmeaaQ
open Go Go.RowKit Go.Proofs.YtephjmmkggcmeaaW.PrintWords Go.Proofs.YtephjmmkggcmeaaW.PrintMore Go.Proofs.YtephjmmkggcmeaaGp Go.Proofs.Ytephjmmkggcmeaa.PC
open CK (el)

theorem slices_Index_int_l0 (x0 : List Int) (a : Int) (hl : (x0.length : Int) ≤ 9223372036854775806) : ∀ (t pre : List Int), x0 = pre ++ t →
    ∃ r, Ev (fun k => slices_Index_int_int.l0 k x0 a (x0.length : Int) (pre.length : Int)) r ∧ decide (r ≥ 0) = t.contains a := by
  intro t
  induction t with
  | nil =>
    intro pre h
    refine ⟨-1, ev_succ ?_, by simp⟩
    simp only [slices_Index_int_int.l0]
    exact ev_neg (by rw [h]; exact not_lt_end) (Ev.now _)
  | cons x t ih =>
    intro pre h
    have hm : ((pre.length : Nat) : Int) < (x0.length : Int) := by rw [h]; exact lt_mid
    have hg : rd x0 (pre.length : Int) = x := by rw [h]; exact rd_mid
    by_cases c : a = x
    · refine ⟨(pre.length : Int), ev_succ ?_, by simp [c]⟩
      simp only [slices_Index_int_int.l0, hg]
      exact ev_pos hm (ev_pos (by omega) (ev_pos hm (ev_pos c (Ev.now _))))
    · obtain ⟨r, h1, h2⟩ := ih (pre ++ [x]) (by rw [h]; simp)
      rw [len_one] at h1
      refine ⟨r, ev_succ ?_, by rw [h2]; simp [c]⟩
      simp only [slices_Index_int_int.l0, hg]
      refine ev_pos hm (ev_pos (by omega) (ev_pos hm (ev_neg c ?_)))
      rw [winc (by omega)]
      exact h1
theorem slices_Contains_int_f (l : List Int) (a : Int) (hl : (l.length : Int) ≤ 9223372036854775806) : Ev (fun k => slices_Contains_int_int.f k l a) (l.contains a) := by
  obtain ⟨r, h1, h2⟩ := slices_Index_int_l0 l a hl l [] rfl
  unfold slices_Contains_int_int.f slices_Index_int_int.f
  refine ev_bind _ h1 (ev_some h2)
def zs (l : List Nat) : List Int := l.map fun (n : Nat) => (n : Int)
theorem zs_len (l : List Nat) : (zs l).length = l.length := by simp [zs]
theorem zs_snoc (l : List Nat) (n : Nat) : zs (l ++ [n]) = zs l ++ [(n : Int)] := by simp [zs]
theorem zs_tail (l : List Nat) : (zs l).drop 1 = zs l.tail := by cases l <;> simp [zs]
theorem zs_hd (a : Nat) (t : List Nat) : rd (zs (a :: t)) 0 = (a : Int) := by simp [zs, rd]
theorem zs_mem {l : List Nat} {n : Nat} : (n : Int) ∈ zs l ↔ n ∈ l := by
  unfold zs
  rw [List.mem_map]
  constructor
  · rintro ⟨a, h, e⟩
    have : a = n := by omega
    exact this ▸ h
  · intro h; exact ⟨n, h, rfl⟩
theorem zs_contains (l : List Nat) (n : Nat) : (zs l).contains (n : Int) = decide (n ∈ l) := by
  rw [Bool.eq_iff_iff, List.contains_iff_mem, zs_mem, decide_eq_true_eq]
theorem zs_get (l : List Nat) {i : Nat} (h : i < l.length) : rd (zs l) (i : Int) = (l[i] : Int) := by
  rw [rd_get (by rw [zs_len]; exact h)]
  simp [zs]
theorem rd_nat (l : List Int) (q : Nat) : rd l (q : Int) = l.getD q 0 := by simp [rd]
theorem rdll_nat (L : List (List Int)) (q : Nat) : rd_L3 L (q : Int) = el L q := by
  unfold rd_L3 el
  rw [Int.toNat_natCast]
theorem el_get {L : List (List Int)} {q : Nat} (h : q < L.length) : el L q = L[q] := by
  unfold el
  rw [List.getD_eq_getElem?_getD, List.getElem?_eq_getElem h]
  rfl
theorem el_len {L : List (List Int)} (hL : ∀ e ∈ L, e.length ≤ 1000) (q : Nat) : (el L q).length ≤ 1000 := by
  unfold el
  rw [List.getD_eq_getElem?_getD]
  cases h : L[q]? with
  | none => simp
  | some x => exact hL x (List.mem_of_getElem? h)
def prs (a n : Int) (l : List ByteArray) : List (List Int) := l.map fun s => [placeV a 0 s n, placeV a 1 s n]
theorem prs_len (a n : Int) (l : List ByteArray) : (prs a n l).length = l.length := by simp [prs]
theorem prs_el {a n : Int} {l : List ByteArray} {i : Nat} (h : i < l.length) : el (prs a n l) i = [placeV a 0 l[i] n, placeV a 1 l[i] n] := by
  rw [el_get (by rw [prs_len]; exact h)]
  simp [prs]
theorem prs_pairs (a n : Int) (l : List ByteArray) : CK.Pairs (prs a n l) := fun i hi => ⟨_, _, prs_el (by rwa [prs_len] at hi)⟩
theorem prs_two {a n : Int} {l : List ByteArray} : ∀ e ∈ prs a n l, e.length ≤ 1000 := by
  intro e he
  obtain ⟨s, _, rfl⟩ := List.mem_map.1 he
  simp
def keyedC (a : Int) (l : List ByteArray) (n : Int) : Bool := decide (0 ≤ a ∧ a ≤ 9999) && areKeysB l && decide (1 ≤ n ∧ n ≤ 64)
theorem keyedC_ok {a n : Int} {l : List ByteArray} (h : keyedC a l n = true) : (0 ≤ a ∧ a ≤ 9999) ∧ areKeysB l = true ∧ 1 ≤ n ∧ n ≤ 64 := by
  unfold keyedC at h
  simp only [Bool.and_eq_true, decide_eq_true_eq] at h
  exact ⟨h.1.1, h.1.2, h.2⟩
theorem keys_small {l : List ByteArray} (h : areKeysB l = true) : l.length ≤ 40 ∧ ∀ s ∈ l, s.size ≤ 1000 :=
  ⟨areKeysB_len h, fun s hs => by have := isKeyB_size (areKeysB_all h s hs); omega⟩
section
variable {a n : Int}
theorem spec_cuKeyed_f (a n : Int) {l : List ByteArray} (hl : l.length ≤ 1000) (hz : ∀ s ∈ l, s.size ≤ 1000) : Ev (fun k => spec_cuKeyed.f k a l n) (keyedC a l n) := by
  have hk := spec_biKeys_f l (by omega) (fun s hs => by have := hz s hs; omega)
  unfold spec_cuKeyed.f spec_cuSize.f keyedC
  simp only [spec_in, Option.bind_some]
  by_cases c : 0 ≤ a ∧ a ≤ 9999
  · rw [decide_eq_true c, Bool.true_and, if_pos rfl]
    simp only [Option.bind_some]
    by_cases d : 1 ≤ n ∧ n ≤ 64
    · rw [decide_eq_true d, Bool.and_true]
      exact ev_pos rfl (ev_bind _ hk (Ev.now _))
    · rw [decide_eq_false d, Bool.and_false]
      exact ev_neg (by simp) (Ev.now _)
  · rw [decide_eq_false c, Bool.false_and, Bool.false_and, if_neg (by simp)]
    simp only [Option.bind_some]
    exact ev_neg (by simp) (Ev.now _)
theorem spec_cuCells_f (ha : 0 ≤ a) (ha' : a ≤ 9999) (s : ByteArray) (hz : s.size ≤ 1000) : Ev (fun k => spec_cuCells.f k a s n) [placeV a 0 s n, placeV a 1 s n] := by
  unfold spec_cuCells.f
  exact ev_bind _ (spec_biPlace_f a 0 s n (by omega) ha (by omega) (by omega) (by omega)) (ev_bind _ (spec_biPlace_f a 1 s n (by omega) ha (by omega) (by omega) (by omega)) (Ev.now _))
theorem impl_cellsOf_f (ha : 0 ≤ a) (ha' : a ≤ 9999) (s : ByteArray) (hz : s.size ≤ 1000) : Ev (fun k => impl_cellsOf.f k a s n) (placeV a 0 s n, placeV a 1 s n) := by
  unfold impl_cellsOf.f
  exact ev_bind _ (impl_place_f a 0 s n (by omega) ha (by omega) (by omega) (by omega)) (ev_bind _ (impl_place_f a 1 s n (by omega) ha (by omega) (by omega) (by omega)) (Ev.now _))
theorem spec_cuPairs_f (ha : 0 ≤ a) (ha' : a ≤ 9999) {l : List ByteArray} (hl : l.length ≤ 1000) (hz : ∀ s ∈ l, s.size ≤ 1000) : Ev (fun k => spec_cuPairs.f k a l n) (prs a n l) := by
  have H : ∀ (t pre : List ByteArray), l = pre ++ t → Ev (fun k => spec_cuPairs.l0 k a n (prs a n pre) l (l.length : Int) (pre.length : Int)) (prs a n l) := by
    intro t
    induction t with
    | nil =>
      intro pre h
      have hp : l = pre := by rw [h, List.append_nil]
      subst hp
      refine ev_succ ?_
      simp only [spec_cuPairs.l0]
      exact ev_neg (by omega) (Ev.now _)
    | cons x t ih =>
      intro pre h
      have hm : ((pre.length : Nat) : Int) < (l.length : Int) := by rw [h]; exact lt_mid
      have hg : rdOf ByteArray.empty l (pre.length : Int) = x := by rw [h]; exact rdOf_mid
      refine ev_succ ?_
      simp only [spec_cuPairs.l0, hg]
      refine ev_pos hm (ev_pos (by omega) (ev_pos hm (ev_bind _ (spec_cuCells_f ha ha' x (hz x (by rw [h]; simp))) (ev_pos (by rw [prs_len]; omega) ?_))))
      rw [winc (by omega)]
      have := ih (pre ++ [x]) (by rw [h]; simp)
      rw [len_one] at this
      unfold prs at this ⊢
      rw [List.map_append, List.map_singleton] at this
      exact this
  unfold spec_cuPairs.f
  exact H l [] rfl
theorem impl_pairs_go (ha : 0 ≤ a) (ha' : a ≤ 9999) {l : List ByteArray} (hl : l.length ≤ 1000) (hz : ∀ s ∈ l, s.size ≤ 1000) : Ev (fun k => impl_pairs.l0 k a n [] l (l.length : Int) 0) (prs a n l, true) := by
  have H : ∀ (t pre : List ByteArray), l = pre ++ t → Ev (fun k => impl_pairs.l0 k a n (prs a n pre) l (l.length : Int) (pre.length : Int)) (prs a n l, true) := by
    intro t
    induction t with
    | nil =>
      intro pre h
      have hp : l = pre := by rw [h, List.append_nil]
      subst hp
      refine ev_succ ?_
      simp only [impl_pairs.l0]
      exact ev_neg (by omega) (Ev.now _)
    | cons x t ih =>
      intro pre h
      have hm : ((pre.length : Nat) : Int) < (l.length : Int) := by rw [h]; exact lt_mid
      have hg : rdOf ByteArray.empty l (pre.length : Int) = x := by rw [h]; exact rdOf_mid
      refine ev_succ ?_
      simp only [impl_pairs.l0, hg]
      refine ev_pos hm (ev_pos (by omega) (ev_pos hm (ev_bind _ (impl_cellsOf_f ha ha' x (hz x (by rw [h]; simp))) (ev_pos (by rw [prs_len]; omega) ?_))))
      rw [winc (by omega)]
      have := ih (pre ++ [x]) (by rw [h]; simp)
      rw [len_one] at this
      unfold prs at this ⊢
      rw [List.map_append, List.map_singleton] at this
      exact this
  exact H l [] rfl
theorem impl_pairs_f (a n : Int) {l : List ByteArray} (hl : l.length ≤ 1000) (hz : ∀ s ∈ l, s.size ≤ 1000) : Ev (fun k => impl_pairs.f k a l n) (if keyedC a l n = true then (prs a n l, true) else ([], false)) := by
  have hk := impl_AreKeys_f l (by omega) (fun s hs => by have := hz s hs; omega)
  have j1 : Ev (fun k => impl_pairs.j0 k a l n true) ([], false) := ev_succ (by simp only [impl_pairs.j0]; exact ev_pos (by trivial) (Ev.now _))
  unfold impl_pairs.f impl_isSeed.f impl_cellsOk.f keyedC
  simp only [impl_in, Option.bind_some]
  by_cases c : 0 ≤ a ∧ a ≤ 9999
  · rw [decide_eq_true c, Bool.true_and]
    refine ev_pos rfl (ev_bind _ hk ?_)
    by_cases e : areKeysB l = true
    · rw [e, Bool.true_and]
      refine ev_pos rfl ?_
      by_cases d : 1 ≤ n ∧ n ≤ 64
      · rw [decide_eq_true d, if_pos rfl]
        refine ev_succ ?_
        simp only [impl_pairs.j0]
        exact ev_neg (by simp) (impl_pairs_go c.1 c.2 hl hz)
      · rw [decide_eq_false d, if_neg (by simp)]
        exact j1
    · rw [Bool.eq_false_iff.2 e, Bool.false_and, if_neg (by simp)]
      exact ev_neg (by simp) j1
  · rw [decide_eq_false c, Bool.false_and, Bool.false_and, if_neg (by simp)]
    exact ev_neg (by simp) j1
theorem impl_CellsOf_f {l : List ByteArray} (h : keyedC a l n = true) {s : ByteArray} (hs : s ∈ l) : Ev (fun k => impl_CellsOf.f k a s n) (placeV a 0 s n, placeV a 1 s n, true) := by
  obtain ⟨h1, h2, h3⟩ := keyedC_ok h
  obtain ⟨_, hz⟩ := keys_small h2
  have hk := impl_IsKey_f s (by have := hz s hs; omega)
  rw [areKeysB_all h2 s hs] at hk
  unfold impl_CellsOf.f impl_isSeed.f impl_cellsOk.f
  simp only [impl_in, Option.bind_some, decide_eq_true h1, decide_eq_true h3]
  exact ev_pos (by trivial) (ev_bind _ hk (ev_pos rfl (ev_pos (by trivial) (ev_bind _ (impl_cellsOf_f h1.1 h1.2 s (hz s hs)) (Ev.now _)))))
end
theorem cells_ok {s : List Int} (hs : Bys s) {p : Int} (sd : Int) (h0 : 0 ≤ p) (h1 : p ≤ 100000000000000000) : ∃ v p' sd', spec_l1Cur_cells.f s p sd = some (v, p', sd') ∧ (-1 ≤ v ∧ v ≤ 65) ∧ 0 ≤ p' ∧ p' ≤ p + 10 := by
  obtain ⟨b, p1, sd1, e1, q0, q1⟩ := one_ok hs sd 10 h0 (by omega)
  unfold spec_l1Cur_cells.f
  rw [e1, Option.bind_some]
  by_cases c : b = true
  · obtain ⟨v, p2, sd2, e2, hv, r0, r1⟩ := among_ok hs sd1 (l := [(-1), 0, 64, 65]) (by simp) q0 (by omega)
    rw [if_pos c, e2]
    refine ⟨v, p2, sd2, rfl, ?_, r0, by omega⟩
    simp only [List.mem_cons, List.not_mem_nil, or_false] at hv
    omega
  · obtain ⟨v, p2, sd2, e2, hv, r0, r1⟩ := among_ok hs sd1 (l := [4, 8, 16, 64]) (by simp) q0 (by omega)
    obtain ⟨u, p3, sd3, e3, hu, s0, s1⟩ := pick_ok hs sd2 (n := v) r0 (by omega)
    rw [if_neg c, e2]
    simp only [Option.bind_some, e3]
    simp only [List.mem_cons, List.not_mem_nil, or_false] at hv
    refine ⟨_, p3, sd3, rfl, ?_, s0, by omega⟩
    rw [w64 (by omega) (by omega)]
    omega
theorem keyed_ok {s : List Int} (hs : Bys s) {p : Int} (sd : Int) (h0 : 0 ≤ p) (h1 : p ≤ 10000000000000000) :
    ∃ a l n p' sd', Ev (fun k => spec_l1Cur_keyed.f k s p sd) (a, l, n, p', sd') ∧ (-1 ≤ a ∧ a ≤ 10000) ∧ Kys 42 l ∧ (-1 ≤ n ∧ n ≤ 65) ∧ 0 ≤ p' ∧ p' ≤ p + 700 := by
  obtain ⟨a, p1, sd1, e1, ha, q0, q1⟩ := seed9_ok hs sd h0 (by omega)
  obtain ⟨v, p2, sd2, e2, hv, r0, r1⟩ := among_ok hs sd1 (l := [3, 5, 8, 12]) (by simp) q0 (by omega)
  simp only [List.mem_cons, List.not_mem_nil, or_false] at hv
  obtain ⟨l, p3, sd3, e3, hk, s0, s1⟩ := anyKeys_ok hs sd2 (n := v.toNat) (by omega) r0 (by omega)
  obtain ⟨n, p4, sd4, e4, hn, t0, t1⟩ := cells_ok hs sd3 s0 (by omega)
  obtain ⟨b, p5, sd5, e5, u0, u1⟩ := one_ok hs sd4 2 t0 (by omega)
  obtain ⟨m, p6, sd6, e6, hm, v0, v1⟩ := pick_ok hs sd5 (n := 4) u0 (by omega)
  rw [Int.toNat_of_nonneg (by omega)] at e3
  unfold spec_l1Cur_keyed.f
  simp only [e1, e2, Option.bind_some]
  by_cases c : b = true
  · refine ⟨a, l, wrap64 ((l.length : Int) + m), p6, sd6, ev_bind _ e3 ?_, ha, hk, ?_, v0, by omega⟩
    · simp only [e4, e5, Option.bind_some]
      refine ev_pos c ?_
      rw [e6]
      exact Ev.now _
    · have := hk.1
      rw [w64 (by omega) (by omega)]
      omega
  · refine ⟨a, l, n, p5, sd5, ev_bind _ e3 ?_, ha, hk, hn, u0, by omega⟩
    simp only [e4, e5, Option.bind_some]
    exact ev_neg c (Ev.now _)
end Go.Proofs.YtephjmmkggcmeaaQ
namespace Go.Proofs.YtephjmmkggcmeaaQ
open Go Go.RowKit Go.Proofs.YtephjmmkggcmeaaW.PrintWords Go.Proofs.YtephjmmkggcmeaaW.PrintMore Go.Proofs.YtephjmmkggcmeaaGp Go.Proofs.Ytephjmmkggcmeaa.PC
open CK (el shareB scan bfs outer groupsG groupsC freeN)

section
variable {L : List (List Int)}
theorem idx_val (hL : ∀ e ∈ L, e.length ≤ 1000) {a : Nat} {tt : List Nat} (h1 : a < L.length) (x0 : List Int) (hx : x0.length ≤ 1000) : ∀ (t pre : List Int), x0 = pre ++ t →
    ∃ r : Int, Ev (fun k => slices_IndexFunc_int_int_at_impl_groups_1.l0 k x0 (x0.length : Int) (pre.length : Int) L (zs (a :: tt))) r ∧ decide (r ≥ 0) = shareB t (el L a) := by
  have hlen := el_len hL a
  have hz : (0 : Int) < ((zs (a :: tt)).length : Int) := by rw [zs_len, List.length_cons]; omega
  intro t
  induction t with
  | nil =>
    intro pre h
    refine ⟨-1, ev_succ ?_, rfl⟩
    simp only [slices_IndexFunc_int_int_at_impl_groups_1.l0]
    exact ev_neg (by rw [h]; exact not_lt_end) (Ev.now _)
  | cons x t ih =>
    intro pre h
    have hm : ((pre.length : Nat) : Int) < (x0.length : Int) := by rw [h]; exact lt_mid
    have hxr : rd x0 (pre.length : Int) = x := by rw [h]; exact rd_mid
    have hc := slices_Contains_int_f (el L a) x (by omega)
    have e1 : Ev (fun k => impl_groups_1.f k x L (zs (a :: tt))) ((el L a).contains x) := by
      unfold impl_groups_1.f
      simp only [zs_hd, rdll_nat]
      exact ev_pos (by omega) (ev_pos (by omega) (ev_pos (by omega) (ev_bind _ hc (Ev.now _))))
    by_cases c : (el L a).contains x = true
    · refine ⟨(pre.length : Int), ev_succ ?_, ?_⟩
      · simp only [slices_IndexFunc_int_int_at_impl_groups_1.l0, hxr]
        exact ev_pos hm (ev_pos (by omega) (ev_pos hm (ev_bind _ e1 (ev_pos c (Ev.now _)))))
      · unfold shareB
        rw [List.any_cons, c, Bool.true_or]
        exact decide_eq_true (by omega)
    · obtain ⟨r, hr, hd⟩ := ih (pre ++ [x]) (by rw [h]; simp)
      rw [len_one] at hr
      refine ⟨r, ev_succ ?_, ?_⟩
      · simp only [slices_IndexFunc_int_int_at_impl_groups_1.l0, hxr]
        rw [winc (by omega)]
        exact ev_pos hm (ev_pos (by omega) (ev_pos hm (ev_bind _ e1 (ev_neg c hr))))
      · rw [hd]
        unfold shareB
        rw [List.any_cons, Bool.eq_false_iff.2 c, Bool.false_or]
theorem cont_val (hL : ∀ e ∈ L, e.length ≤ 1000) {a : Nat} {tt : List Nat} (h1 : a < L.length) (x0 : List Int) (hx : x0.length ≤ 1000) : Ev (fun k => slices_ContainsFunc_int_int_at_impl_groups_1.f k x0 L (zs (a :: tt))) (shareB x0 (el L a)) := by
  obtain ⟨r, hr, hd⟩ := idx_val hL (tt := tt) h1 x0 hx x0 [] rfl
  rw [← hd]
  unfold slices_ContainsFunc_int_int_at_impl_groups_1.f slices_IndexFunc_int_int_at_impl_groups_1.f
  exact ev_bind _ hr (Ev.now _)
theorem scan_len {k : Int} (p : List Int) : ∀ (m j : Nat) (o : List Int) (t : List Nat), (scan L p k m j o t).1.length = o.length
  | 0, _, _, _ => rfl
  | m + 1, j, o, t => by
    rw [scan]
    split
    · rw [scan_len p m]; simp
    · rw [scan_len p m]
theorem scan_mem {k : Int} (p : List Int) {n : Nat} : ∀ (m j : Nat) (o : List Int) (t : List Nat), j + m ≤ n → (∀ x ∈ t, x < n) → ∀ x ∈ (scan L p k m j o t).2, x < n
  | 0, _, _, _, _, h => h
  | m + 1, j, o, t, e, h => by
    rw [scan]
    split
    · exact scan_mem p m (j + 1) _ _ (by omega) (fun x hx => by
        rcases List.mem_append.1 hx with hx | hx
        · exact h x hx
        · rw [List.mem_singleton.1 hx]; omega)
    · exact scan_mem p m (j + 1) _ _ (by omega) h
theorem free_set {o : List Int} {j n : Nat} {k : Int} (hk : 0 ≤ k) (hj : j < n) (hl : o.length = n) (h : o.getD j 0 < 0) : freeN (o.set j k) n + 1 = freeN o n := by
  have := CK.countP_update (n := n) (fun q => decide ((o.set j k).getD q 0 < 0)) (fun q => decide (o.getD q 0 < 0)) (d := j) (fun i hi => by rw [CK.getD_set (by omega), if_neg (Ne.symm hi)]) hj
  rw [if_pos (by simpa using h), if_neg (by simp only [decide_eq_true_eq]; rw [CK.getD_set (by omega), if_pos rfl]; omega)] at this
  exact this
theorem scan_free {k : Int} (hk : 0 ≤ k) (p : List Int) {n : Nat} : ∀ (m j : Nat) (o : List Int) (t : List Nat), j + m ≤ n → o.length = n → (scan L p k m j o t).2.length + freeN (scan L p k m j o t).1 n = t.length + freeN o n
  | 0, _, _, _, _, _ => rfl
  | m + 1, j, o, t, e, h => by
    rw [scan]
    split
    · rename_i c
      rw [Bool.and_eq_true, decide_eq_true_eq] at c
      have := free_set hk (by omega : j < n) h c.1
      rw [scan_free hk p m (j + 1) _ _ (by omega) (by rw [List.length_set]; exact h), List.length_append, List.length_singleton]
      omega
    · exact scan_free hk p m (j + 1) _ _ (by omega) h
theorem bfs_len {k : Int} : ∀ (f : Nat) (o : List Int) (t : List Nat), (bfs L k f o t).length = o.length
  | 0, _, _ => rfl
  | _ + 1, _, [] => rfl
  | f + 1, o, i :: t => by rw [bfs, bfs_len f, scan_len]
theorem gv_l3 (hn : L.length ≤ 1000) (hL : ∀ e ∈ L, e.length ≤ 1000) {m i a : Nat} (ha : a < L.length) {X R : List (List Int)} : ∀ (d j : Nat) (o : List Int) (t : List Nat), j + d = L.length → o.length = L.length → t.length + freeN o L.length ≤ 3000 →
    Ev (fun k => impl_groups.l2 k X (scan L (el L a) (m : Int) d j o (a :: t)).1 (m : Int) (L.length : Int) (i : Int) L (zs (scan L (el L a) (m : Int) d j o (a :: t)).2.tail)) R →
    Ev (fun k => impl_groups.l3 k X o (m : Int) (L.length : Int) (i : Int) (L.length : Int) (j : Int) L (zs (a :: t))) R := by
  intro d
  induction d with
  | zero =>
    intro j o t hj ho hf H
    refine ev_succ ?_
    simp only [impl_groups.l3]
    refine ev_neg (by omega) (ev_pos (by rw [zs_len, List.length_cons]; omega) ?_)
    rw [← zs_tail] at H
    exact H
  | succ d ih =>
    intro j o t hj ho hf H
    have hz : (zs (a :: t)).length = t.length + 1 := by simp [zs]
    have hb := cont_val hL (tt := t) ha (el L j) (el_len hL j)
    rw [scan] at H
    refine ev_succ ?_
    simp only [impl_groups.l3, Int.toNat_natCast, rd_nat, rdll_nat, ← zs_snoc]
    rw [winc (by omega)]
    by_cases c : o.getD j 0 < 0
    · by_cases cb : shareB (el L j) (el L a) = true
      · rw [if_pos (by rw [Bool.and_eq_true, decide_eq_true_eq]; exact ⟨c, cb⟩)] at H
        have hfs := free_set (k := (m : Int)) (by omega) (by omega : j < L.length) ho c
        have h1 := ih (j + 1) (o.set j (m : Int)) (t ++ [j]) (by omega) (by rw [List.length_set]; exact ho) (by rw [List.length_append, List.length_singleton]; omega) H
        exact ev_pos (by omega) (ev_pos (by omega) (ev_pos (by omega) (ev_pos c (ev_pos (by omega) (ev_bind _ hb (ev_pos cb (ev_pos (by omega) h1)))))))
      · rw [if_neg (by rw [Bool.and_eq_true]; exact fun g => cb g.2)] at H
        exact ev_pos (by omega) (ev_pos (by omega) (ev_pos (by omega) (ev_pos c (ev_pos (by omega) (ev_bind _ hb (ev_neg cb (ih (j + 1) o t (by omega) ho hf H)))))))
    · rw [if_neg (by rw [Bool.and_eq_true, decide_eq_true_eq]; exact fun g => c g.1)] at H
      exact ev_pos (by omega) (ev_pos (by omega) (ev_pos (by omega) (ev_neg c (ih (j + 1) o t (by omega) ho hf H))))
theorem gv_l2 (hn : L.length ≤ 1000) (hL : ∀ e ∈ L, e.length ≤ 1000) {m i : Nat} (hi : i ≤ 1000) {X R : List (List Int)} (hX : X.length ≤ 1000) : ∀ (f : Nat) (o : List Int) (t : List Nat), f ≤ 2000 → t.length + freeN o L.length < f → o.length = L.length → (∀ x ∈ t, x < L.length) →
    Ev (fun k => impl_groups.l1 k (X ++ [[]]) (bfs L (m : Int) f o t) (L.length : Int) ((i + 1 : Nat) : Int) L) R →
    Ev (fun k => impl_groups.l2 k X o (m : Int) (L.length : Int) (i : Int) L (zs t)) R := by
  intro f
  induction f with
  | zero => intro o t _ h; omega
  | succ f ih =>
    intro o t hf h ho ht H
    cases t with
    | nil =>
      refine ev_succ ?_
      simp only [impl_groups.l2]
      rw [winc (by omega)]
      exact ev_neg (by simp [zs]) (ev_pos (by omega) H)
    | cons a t =>
      have ha := ht a List.mem_cons_self
      have hz : (zs (a :: t)).length = t.length + 1 := by simp [zs]
      rw [bfs] at H
      have hfr := scan_free (L := L) (k := (m : Int)) (by omega) (el L a) L.length 0 o (a :: t) (by omega) ho
      have hle : 0 < (scan L (el L a) (m : Int) L.length 0 o (a :: t)).2.length := by
        have hg : ∀ (d j : Nat) (o : List Int) (t : List Nat), 0 < t.length → 0 < (scan L (el L a) (m : Int) d j o t).2.length := by
          intro d
          induction d with
          | zero => intro j o t h; exact h
          | succ d ih =>
            intro j o t h
            rw [scan]
            split
            · exact ih _ _ _ (by simp)
            · exact ih _ _ _ h
        exact hg _ _ _ _ (by simp)
      refine ev_succ ?_
      simp only [impl_groups.l2]
      refine ev_pos (by omega) (gv_l3 hn hL ha L.length 0 o t (by omega) ho (by simp only [List.length_cons] at h; omega) (ih _ _ (by omega) ?_ (by rw [scan_len]; exact ho) (fun x hx => scan_mem _ _ _ _ _ (by omega) ht x (List.mem_of_mem_tail hx)) H))
      rw [List.length_tail]
      simp only [List.length_cons] at h hfr ⊢
      omega
theorem gv_l1 (hn : L.length ≤ 1000) (hL : ∀ e ∈ L, e.length ≤ 1000) {R : List (List Int)} : ∀ (d i c : Nat) (o : List Int), i + d = L.length → c ≤ i → o.length = L.length →
    Ev (fun k => impl_groups.l4 k (List.replicate (outer L d i o c).2 []) (outer L d i o c).1 (L.length : Int) 0) R →
    Ev (fun k => impl_groups.l1 k (List.replicate c []) o (L.length : Int) (i : Int) L) R := by
  intro d
  induction d with
  | zero =>
    intro i c o hi hc ho H
    refine ev_succ ?_
    simp only [impl_groups.l1, outer] at H ⊢
    rw [← ho] at H ⊢
    exact ev_neg (by omega) H
  | succ d ih =>
    intro i c o hi hc ho H
    rw [outer] at H
    refine ev_succ ?_
    simp only [impl_groups.l1, Int.toNat_natCast, List.length_replicate, rd_nat]
    by_cases g : 0 ≤ o.getD i 0
    · rw [if_pos g] at H
      rw [winc (by omega)]
      exact ev_pos (by omega) (ev_pos (by omega) (ev_pos (by omega) (ev_pos g (ih (i + 1) c o (by omega) (by omega) ho H))))
    · rw [if_neg g] at H
      have hfr := free_set (k := (c : Int)) (by omega) (by omega : i < L.length) ho (by omega)
      have hfl : freeN o L.length ≤ L.length := by
        have := List.countP_le_length (p := fun q => decide (o.getD q 0 < 0)) (l := List.range L.length)
        rw [List.length_range] at this
        exact this
      refine ev_pos (by omega) (ev_pos (by omega) (ev_pos (by omega) (ev_neg g ?_)))
      have h1 := ih (i + 1) (c + 1) _ (by omega) (by omega) (by rw [bfs_len, List.length_set]; exact ho) H
      rw [List.replicate_succ'] at h1
      exact gv_l2 hn hL (by omega) (by simp; omega) (L.length + 1) (o.set i (c : Int)) [i] (by omega) (by simp; omega) (by rw [List.length_set]; exact ho) (fun x hx => by rw [List.mem_singleton.1 hx]; omega) h1
theorem gv_l4 {m n : Nat} {o : List Int} (hn : n ≤ 1000) (hmn : m ≤ n) (ho : o.length = n) (hof : ∀ q, q < n → 0 ≤ o.getD q 0 ∧ o.getD q 0 < (m : Int)) : ∀ (d i : Nat), i + d = n →
    Ev (fun k => impl_groups.l4 k ((List.range m).map fun (q : Nat) => zs ((List.range i).filter fun x => decide (o.getD x 0 = (q : Int)))) o (n : Int) (i : Int))
      ((List.range m).map fun (q : Nat) => zs ((List.range n).filter fun x => decide (o.getD x 0 = (q : Int)))) := by
  intro d
  induction d with
  | zero =>
    intro i hi
    obtain rfl : i = n := by omega
    refine ev_succ ?_
    simp only [impl_groups.l4]
    exact ev_neg (by omega) (Ev.now _)
  | succ d ih =>
    intro i hi
    obtain ⟨o0, o1⟩ := hof i (by omega)
    obtain ⟨q, hq⟩ : ∃ q : Nat, o.getD i 0 = (q : Int) := ⟨(o.getD i 0).toNat, by omega⟩
    have h1 := ih (i + 1) (by omega)
    have hl : ∀ x : Nat, ((List.range m).map fun (q : Nat) => zs ((List.range x).filter fun x => decide (o.getD x 0 = (q : Int)))).length = m := by simp
    have hset : ((List.range m).map fun (q : Nat) => zs ((List.range i).filter fun x => decide (o.getD x 0 = (q : Int)))).set q (el ((List.range m).map fun (q : Nat) => zs ((List.range i).filter fun x => decide (o.getD x 0 = (q : Int)))) q ++ [(i : Int)]) = (List.range m).map fun (q : Nat) => zs ((List.range (i + 1)).filter fun x => decide (o.getD x 0 = (q : Int))) := by
      apply List.ext_getElem
      · simp
      · intro a ha hb
        rw [hl] at hb
        rw [List.getElem_set]
        by_cases e : q = a
        · subst e
          rw [if_pos rfl, List.getElem_map, List.getElem_range, List.range_succ, List.filter_append, List.filter_cons, if_pos (by simpa using hq), List.filter_nil, zs_snoc]
          congr 1
          unfold el
          rw [List.getD_eq_getElem?_getD, List.getElem?_eq_getElem (by rw [hl]; exact hb), Option.getD_some, List.getElem_map, List.getElem_range]
        · rw [if_neg e, List.getElem_map, List.getElem_map, List.getElem_range, List.range_succ, List.filter_append, List.filter_cons, if_neg (by simp only [decide_eq_true_eq, hq]; omega), List.filter_nil, List.append_nil]
    refine ev_succ ?_
    have hle : (el ((List.range m).map fun (q : Nat) => zs ((List.range i).filter fun x => decide (o.getD x 0 = (q : Int)))) q).length ≤ 1000 := by
      refine el_len (fun e he => ?_) q
      obtain ⟨x, _, rfl⟩ := List.mem_map.1 he
      rw [zs_len]
      have := List.length_filter_le (fun y => decide (o.getD y 0 = (x : Int))) (List.range i)
      rw [List.length_range] at this
      omega
    simp only [impl_groups.l4, rd_nat, hq, rdll_nat, Int.toNat_natCast, hset]
    rw [winc (by omega)]
    refine ev_pos (by omega) (ev_pos (by omega) (ev_pos (by omega) (ev_pos (by omega) (ev_pos (by rw [hl]; omega) (ev_pos (by omega) h1)))))
theorem gv_l0 {n : Nat} (hn : n ≤ 1000) {R : List (List Int)} (H : Ev (fun k => impl_groups.l1 k [] (List.replicate n (-1)) (L.length : Int) 0 L) R) : ∀ (d i : Nat) (o : List Int), i + d = n → o.length = n → (∀ p : Nat, p < i → o.getD p 0 = -1) →
    Ev (fun k => impl_groups.l0 k [] o (n : Int) (i : Int) L) R := by
  intro d
  induction d with
  | zero =>
    intro i o hi hl hz
    have e : o = List.replicate n (-1) := by
      apply List.ext_getElem
      · simpa using hl
      · intro a ha hb
        have := hz a (by omega)
        rw [List.getD_eq_getElem?_getD, List.getElem?_eq_getElem ha, Option.getD_some] at this
        rw [this, List.getElem_replicate]
    subst e
    refine ev_succ ?_
    simp only [impl_groups.l0]
    exact ev_neg (by omega) H
  | succ d ih =>
    intro i o hi hl hz
    have h1 := ih (i + 1) (o.set i (-1)) (by omega) (by rw [List.length_set]; exact hl) (fun p hp => by
      rw [CK.getD_set (by omega)]
      split
      · rfl
      · exact hz p (by omega))
    refine ev_succ ?_
    simp only [impl_groups.l0, Int.toNat_natCast]
    rw [winc (by omega)]
    exact ev_pos (by omega) (ev_pos (by omega) (ev_pos (by omega) h1))
theorem impl_groups_val (hn : L.length ≤ 1000) (hL : ∀ e ∈ L, e.length ≤ 1000) : Ev (fun k => impl_groups.f k L) ((groupsC L).map zs) := by
  have H : CK.Outer L 0 (List.replicate L.length (-1)) 0 := by
    have hn : (CK.heads L).filter (fun h => decide (h < 0)) = [] := by
      rw [List.filter_eq_nil_iff]
      intro y _; simp
    refine ⟨List.length_replicate, by rw [hn]; rfl, fun a h e => by rw [hn] at e; simp at e, fun q hq _ => ?_⟩
    rw [List.getD_eq_getElem?_getD, List.getElem?_replicate, if_pos hq]
    decide
  have F := CK.outer_ok L.length 0 _ 0 (by omega) H
  have hG := CK.groupsG_eq (ls := L)
  unfold groupsG at hG
  have hcl : (outer L L.length 0 (List.replicate L.length (-1)) 0).2 ≤ L.length := by
    have h1 := CK.heads_len (ls := L)
    rw [← hG, List.length_map, List.length_range] at h1
    exact h1
  have hrg : ∀ q, q < L.length → 0 ≤ (outer L L.length 0 (List.replicate L.length (-1)) 0).1.getD q 0 ∧ (outer L L.length 0 (List.replicate L.length (-1)) 0).1.getD q 0 < ((outer L L.length 0 (List.replicate L.length (-1)) 0).2 : Int) := by
    intro q hq
    obtain ⟨h, h1, h2⟩ := CK.head_of q q (Nat.le_refl _) hq
    have hf : (CK.heads L).filter (fun h => decide (h < L.length)) = CK.heads L := by
      rw [List.filter_eq_self]
      intro h hh
      simpa using (CK.mem_heads.1 hh).1
    obtain ⟨_, f2, f3, _⟩ := F
    rw [hf] at f2 f3
    obtain ⟨a, ha, e⟩ := List.mem_iff_getElem.1 h1
    have := (f3 a h (by rw [List.getElem?_eq_getElem ha, e]) q hq).2 h2
    omega
  have h4 := gv_l4 (m := (outer L L.length 0 (List.replicate L.length (-1)) 0).2) (n := L.length) (o := (outer L L.length 0 (List.replicate L.length (-1)) 0).1) hn hcl F.len hrg L.length 0 (by omega)
  have e0 : ((List.range (outer L L.length 0 (List.replicate L.length (-1)) 0).2).map fun (q : Nat) => zs ((List.range 0).filter fun x => decide ((outer L L.length 0 (List.replicate L.length (-1)) 0).1.getD x 0 = (q : Int)))) = List.replicate (outer L L.length 0 (List.replicate L.length (-1)) 0).2 [] := by
    apply List.ext_getElem
    · simp
    · intro a ha hb
      simp [zs]
  rw [e0] at h4
  have h1 := gv_l1 hn hL L.length 0 0 (List.replicate L.length (-1)) (by omega) (Nat.le_refl _) (by simp) h4
  have h0 := gv_l0 (L := L) hn h1 L.length 0 (List.replicate L.length 0) (by omega) (by simp) (fun p hp => absurd hp (by omega))
  have e1 : (groupsC L).map zs = (List.range (outer L L.length 0 (List.replicate L.length (-1)) 0).2).map fun (q : Nat) => zs ((List.range L.length).filter fun x => decide ((outer L L.length 0 (List.replicate L.length (-1)) 0).1.getD x 0 = (q : Int))) := by
    rw [← hG, List.map_map]
    rfl
  rw [e1]
  unfold impl_groups.f
  simp only [Int.toNat_natCast, List.length_replicate, Option.bind_some]
  exact ev_pos (by omega) (ev_pos (by omega) h0)
end
end Go.Proofs.YtephjmmkggcmeaaQ
namespace Go.Proofs.YtephjmmkggcmeaaQ.CK
open Classical
section
variable {ls : List (List Int)}
theorem el_set_self {i : Nat} (h : i < ls.length) (p : List Int) : el (ls.set i p) i = p := by
  unfold el
  rw [List.getD_eq_getElem?_getD, List.getElem?_set_self (by simpa using h)]
  rfl
theorem el_set_ne {i j : Nat} (h : i ≠ j) (p : List Int) : el (ls.set i p) j = el ls j := by
  unfold el
  rw [List.getD_eq_getElem?_getD, List.getElem?_set_ne h, ← List.getD_eq_getElem?_getD]
theorem Pairs.set (hp : Pairs ls) (i : Nat) (a b : Int) : Pairs (ls.set i [a, b]) := by
  intro j hj
  rw [List.length_set] at hj
  by_cases c : i = j
  · subst c
    exact ⟨a, b, el_set_self hj _⟩
  · rw [el_set_ne c]
    exact hp j hj
theorem fits_set {f : Nat → Int} (hf : Own ls ls.length f) (i : Nat) : Fits (ls.set i [f i, f i]) := by
  have hO : Own (ls.set i [f i, f i]) (ls.set i [f i, f i]).length f := by
    rw [List.length_set]
    refine ⟨fun j hj => ?_, hf.2⟩
    by_cases c : i = j
    · subst c
      rw [el_set_self hj]; simp
    · rw [el_set_ne c]
      exact hf.1 j hj
  exact fits_of_own hO
theorem fits_step (hp : Pairs ls) (hF : Fits ls) {i : Nat} (hi : i < ls.length) {a b : Int} (e : el ls i = [a, b]) (hn : ¬ Fits (ls.set i [a, a])) : Fits (ls.set i [b, b]) := by
  obtain ⟨f, hf⟩ := own_of_fits hp hF
  have hm := hf.1 i hi
  have hset := fits_set hf i
  rw [e] at hm
  simp only [List.mem_cons, List.not_mem_nil, or_false] at hm
  rcases hm with h | h
  · rw [h] at hset; exact absurd hset hn
  · rw [h] at hset; exact hset
noncomputable def greedy : Nat → Nat → List (List Int) → List Int
  | 0, _, _ => []
  | m + 1, i, ls =>
    let a := (el ls i).getD 0 0
    let b := (el ls i).getD 1 0
    let lo := if a ≤ b then a else b
    let hi := if a ≤ b then b else a
    if Fits (ls.set i [lo, lo]) then lo :: greedy m (i + 1) (ls.set i [lo, lo]) else hi :: greedy m (i + 1) (ls.set i [hi, hi])
theorem greedy_len : ∀ (m i : Nat) (ls : List (List Int)), (greedy m i ls).length = m
  | 0, _, _ => rfl
  | m + 1, i, ls => by
    simp only [greedy]
    have h := greedy_len m (i + 1)
    by_cases c : Fits (ls.set i [if (el ls i).getD 0 0 ≤ (el ls i).getD 1 0 then (el ls i).getD 0 0 else (el ls i).getD 1 0, if (el ls i).getD 0 0 ≤ (el ls i).getD 1 0 then (el ls i).getD 0 0 else (el ls i).getD 1 0])
    · rw [if_pos c, List.length_cons, h]
    · rw [if_neg c, List.length_cons, h]
theorem pair_sorted {p : List Int} {a b : Int} (e : p = [a, b]) : (p.getD 0 0 = a ∧ p.getD 1 0 = b) := by subst e; exact ⟨rfl, rfl⟩
theorem greedy_fits : ∀ (m i : Nat) (ls : List (List Int)), i + m = ls.length → Pairs ls → Fits ls → ∃ ls' : List (List Int), ls'.length = ls.length ∧ Fits ls' ∧ (∀ j, j < i → el ls' j = el ls j) ∧ ∀ j, j < m → el ls' (i + j) = [(greedy m i ls).getD j 0, (greedy m i ls).getD j 0] ∧ (greedy m i ls).getD j 0 ∈ el ls (i + j)
  | 0, i, ls, _, _, hF => ⟨ls, rfl, hF, fun _ _ => rfl, fun j hj => by omega⟩
  | m + 1, i, ls, h, hp, hF => by
    obtain ⟨a, b, e⟩ := hp i (by omega)
    obtain ⟨e1, e2⟩ := pair_sorted e
    have step : ∀ c : Int, c ∈ el ls i → Fits (ls.set i [c, c]) → greedy (m + 1) i ls = c :: greedy m (i + 1) (ls.set i [c, c]) → ∃ ls' : List (List Int), ls'.length = ls.length ∧ Fits ls' ∧ (∀ j, j < i → el ls' j = el ls j) ∧ ∀ j, j < m + 1 → el ls' (i + j) = [(greedy (m + 1) i ls).getD j 0, (greedy (m + 1) i ls).getD j 0] ∧ (greedy (m + 1) i ls).getD j 0 ∈ el ls (i + j) := fun c hc hfc hg => by
      obtain ⟨ls', l1, l2, l3, l4⟩ := greedy_fits m (i + 1) (ls.set i [c, c]) (by rw [List.length_set]; omega) (hp.set i c c) hfc
      rw [List.length_set] at l1
      refine ⟨ls', l1, l2, fun j hj => ?_, fun j hj => ?_⟩
      · rw [l3 j (by omega), el_set_ne (by omega)]
      · rw [hg]
        cases j with
        | zero =>
          rw [Nat.add_zero, l3 i (by omega), el_set_self (by omega)]
          exact ⟨rfl, hc⟩
        | succ j =>
          obtain ⟨q1, q2⟩ := l4 j (by omega)
          rw [show i + 1 + j = i + (j + 1) from by omega] at q1 q2
          rw [el_set_ne (by omega)] at q2
          exact ⟨q1, q2⟩
    have hlo : (if a ≤ b then a else b) ∈ el ls i := by rw [e]; split <;> simp
    have hhi : (if a ≤ b then b else a) ∈ el ls i := by rw [e]; split <;> simp
    by_cases c : Fits (ls.set i [if a ≤ b then a else b, if a ≤ b then a else b])
    · exact step _ hlo c (by simp only [greedy, e1, e2]; rw [if_pos c])
    · refine step _ hhi ?_ (by simp only [greedy, e1, e2]; rw [if_neg c])
      by_cases hab : a ≤ b
      · rw [if_pos hab] at c ⊢
        exact fits_step hp hF (by omega) e c
      · rw [if_neg hab] at c ⊢
        obtain ⟨f, hf⟩ := own_of_fits hp hF
        have hm := hf.1 i (by omega)
        have hset := fits_set hf i
        rw [e] at hm
        simp only [List.mem_cons, List.not_mem_nil, or_false] at hm
        rcases hm with h' | h'
        · rw [h'] at hset; exact hset
        · rw [h'] at hset; exact absurd hset c
theorem greedy_places (hp : Pairs ls) (hF : Fits ls) : (greedy ls.length 0 ls).Nodup ∧ ∀ j, j < ls.length → (greedy ls.length 0 ls).getD j 0 ∈ el ls j := by
  obtain ⟨ls', l1, l2, _, l4⟩ := greedy_fits ls.length 0 ls (by omega) hp hF
  have hp' : Pairs ls' := fun j hj => by
    have := (l4 j (by omega)).1
    rw [Nat.zero_add] at this
    exact ⟨_, _, this⟩
  obtain ⟨f, hf⟩ := own_of_fits hp' l2
  have hfv : ∀ j, j < ls.length → f j = (greedy ls.length 0 ls).getD j 0 := fun j hj => by
    have h1 := hf.1 j (by omega)
    have h2 := (l4 j hj).1
    rw [Nat.zero_add] at h2
    rw [h2] at h1
    simpa using h1
  refine ⟨?_, fun j hj => by have := (l4 j hj).2; rwa [Nat.zero_add] at this⟩
  unfold List.Nodup
  rw [List.pairwise_iff_getElem]
  intro i j hi hj hlt e
  rw [greedy_len] at hi hj
  have := hf.2 i j (by omega) (by omega) (by
    rw [hfv i hi, hfv j hj, List.getD_eq_getElem?_getD, List.getD_eq_getElem?_getD, List.getElem?_eq_getElem (by rw [greedy_len]; exact hi), List.getElem?_eq_getElem (by rw [greedy_len]; exact hj)]
    exact e)
  omega
theorem fits_of_places {pl : List Int} (hl : pl.length = ls.length) (hn : pl.Nodup) (hm : ∀ j, j < ls.length → pl.getD j 0 ∈ el ls j) : Own ls ls.length (fun j => pl.getD j 0) := by
  refine ⟨fun j hj => hm j hj, fun i j hi hj e => ?_⟩
  unfold List.Nodup at hn
  rw [List.pairwise_iff_getElem] at hn
  have get : ∀ i, (h : i < pl.length) → pl.getD i 0 = pl[i] := fun i h => by rw [List.getD_eq_getElem?_getD, List.getElem?_eq_getElem h]; rfl
  have e : pl.getD i 0 = pl.getD j 0 := e
  rw [get i (by omega), get j (by omega)] at e
  rcases Nat.lt_trichotomy i j with h | h | h
  · exact absurd e (hn i j (by omega) (by omega) h)
  · exact h
  · exact absurd e.symm (hn j i (by omega) (by omega) h)
end
end Go.Proofs.YtephjmmkggcmeaaQ.CK
