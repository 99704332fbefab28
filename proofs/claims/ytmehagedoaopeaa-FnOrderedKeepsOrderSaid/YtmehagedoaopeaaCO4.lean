import Derived.Test.YtmehagedoaopeaaCO1
import Derived.Test.YtmehagedoaopeaaCO3
import Derived.Test.YtmehagedoaopeaaCO2
import Derived.Test.YtmehagedoaopeaaCO0
import Derived.Lib.Bytes
-- printed by a program of this session (wip/gp) out of the translation; Lean checks it
namespace Go.Proofs.Ytmehagedoaopeaa.PO
open Go.RowKit Go.Proofs.YtmehagedoaopeaaW.PrintWords Go.Proofs.YtmehagedoaopeaaW.PrintLast Go.Proofs.YtmehagedoaopeaaW.PrintMore Go.Proofs.YtmehagedoaopeaaSq
attribute [local go_sem] max2_int min2_int max_two min_two max_three min_three max_four min_four   -- for this text's walks alone
attribute [local go_sem] Go.Proofs.YtmehagedoaopeaaGp.str_geq Go.Proofs.YtmehagedoaopeaaGp.str_gtr Go.Proofs.YtmehagedoaopeaaGp.str_leq
set_option linter.unusedVariables false
set_option linter.unusedSimpArgs false

set_option maxHeartbeats 8000000
set_option maxRecDepth 100000
mutual
def spec_pePeel.l0 : Nat → List Int → Bool → List (S118) → List Int → Int → Int → List (List Int) → Option ((List (S118)) × List Int)
 | 0, _, _, _, _, _, _, _ => none
 | k + 1, x1, x2, x8, x9, x10, x451000, x451001 => if x2 = true then (spec_pePeel.j1 k x1 x2 x8 x9 x10 true x451000 x451001) else (spec_pePeel.j1 k x1 x2 x8 x9 x10 (decide (x10 < (x1.length : Int))) x451000 x451001)
def spec_pePeel.j1 : Nat → List Int → Bool → List (S118) → List Int → Int → Bool → Int → List (List Int) → Option ((List (S118)) × List Int)
 | 0, _, _, _, _, _, _, _, _ => none
 | k + 1, x1, x2, x8, x9, x10, x22, x451000, x451001 => if x22 = true then ((spec_peFree.f k x451000 x451001 x9).bind fun t454 => (if (t454.length : Int) = 0 then (some (x8, x9)) else (if x10 < (x1.length : Int) then (if 0 ≤ x10 then (if 0 ≤ (Int.tmod (rd x1 x10) (t454.length : Int)) then (if (Int.tmod (rd x1 x10) (t454.length : Int)) < (t454.length : Int) then ((spec_peWith.f k x451000 x451001 x9 (rd t454 (Int.tmod (rd x1 x10) (t454.length : Int)))).bind fun t459 => (if x8.length < 8796093022208 then ((spec_l1Drop.f k x9 t459).bind fun t465 => (spec_pePeel.l0 k x1 x2 (x8 ++ [(⟨t459, rd t454 (Int.tmod (rd x1 x10) (t454.length : Int))⟩ : S118)]) t465 (wrap64 (x10 + 1)) x451000 x451001)) else (none))) else (none)) else (none)) else (none)) else (if 0 < (t454.length : Int) then ((spec_peWith.f k x451000 x451001 x9 (rd t454 0)).bind fun t469 => (if x8.length < 8796093022208 then ((spec_l1Drop.f k x9 t469).bind fun t475 => (spec_pePeel.l0 k x1 x2 (x8 ++ [(⟨t469, rd t454 0⟩ : S118)]) t475 (wrap64 (x10 + 1)) x451000 x451001)) else (none))) else (none))))) else (some (x8, x9))
end
def spec_pePeel.f (k : Nat) (a0_0 : Int) (l0_1 : List (List Int)) (l1 : List Int) (a2 : Bool) : Option ((List (S118)) × List Int) := (spec_peAll.f k a0_0 l0_1).bind fun t451 => (spec_pePeel.l0 k l1 a2 ([] : List (S118)) t451 0 a0_0 l0_1)
def spec_pePeel.T11 : Bool × List (List Nat × List Nat) := (true, [([], []), ([], []), ([], []), ([], []), ([2, 3], [2, 3]), ([4], [4]), ([0, 1, 5], [0, 1, 5]), ([], []), ([], []), ([7, 8], [7, 8]), ([9], [9]), ([6, 10], [6, 10]), ([], []), ([12, 11, 6, 0, 1, 2, 3, 4, 5, 6, 7, 8, 9, 10, 11, 12], [11, 12])])
def spec_pePeel.B11 : List Nat := [0, 0, 0, 0, 12, 28, 63, 0, 0, 384, 896, 2047, 0, 8191]
theorem spec_pePeel.tab11 : rtab .any (opsOf Try.f82 11) = spec_pePeel.T11 := by kernel_rfl
theorem spec_pePeel.bits11 : waitsOk spec_pePeel.T11.2 spec_pePeel.B11 = true := by kernel_rfl
theorem spec_pePeel.calls (k : Nat) (a0_0 : Int) (A0_1 : Option Addr) (c0_1 : Nat) (l0_1 : List (List Int)) (A1 : Option Addr) (c1 : Nat) (l1 : List Int) (a2 : Bool) (r1 : List (S118)) (r2 : List Int) (w : World) (hr0_1 : Kd.C (Kd.slice 3 (Kd.int .i64)) w A0_1 l0_1.length l0_1) (hc0_1 : l0_1.length ≤ c0_1) (hr1 : Kd.C (Kd.int .i64) w A1 l1.length l1) (hc1 : l1.length ≤ c1) (h : spec_pePeel.f k a0_0 l0_1 l1 a2 = some (r1, r2)) :
  Calls Try.prog 82 #[.agg #[.int .i64 a0_0, .slice A0_1 l0_1.length c0_1], .slice A1 l1.length c1, .bool a2] w fun e w' => ∃ v0_ v1_ : Value, e = .returned (.tuple #[v0_, v1_]) ∧ Kd.R k118 118 w' w.heap.size (fun _ => True) v0_ r1 ∧ Kd.R (Kd.int .i64) 3 w' w.heap.size (fun _ => True) v1_ r2 ∧ Below w.heap.size w w' := by
 have hu33 := Try.underlying33; have hu118 := Try.underlying118; have HR0_1 := am hr0_1; have HC0_1 := am hc0_1; clear hr0_1 hc0_1; have HR1 := am hr1; have HC1 := am hc1; clear hr1 hc1; have HB := am (Below.refl w.heap.size w); have H : ((spec_peAll.f k a0_0 l0_1).bind fun t451 => (spec_pePeel.l0 k l1 a2 ([] : List (S118)) t451 0 a0_0 l0_1)) = some (r1, r2) := h; clear h; replace H := Option.bind_eq_some_iff.mp H; obtain ⟨t451, A40, H⟩ := H; (try dsimp -simprocs only at H); have A4 := am A40; clear A40; have H' := am H; clear H
 go_enter Try.func82, Try.ntmps82
 go_wp2_with (first | ((with_reducible refine gate_dst (N := 3) rfl ?_); (try (refine gate_guard (by rfl) ?_; dsimp only)); refine bE 3 #[.int .i64 a0_0, .slice A0_1 l0_1.length c0_1] 33 ?_; intro gb450 hg w5 hbox hb; have n0_ := Bb HB hb; have n1_ := am (hbox); have n2_ := Gl HB hg; have n3_ := Gl HB hg; clear HB; revert n0_ n1_ n2_ n3_; intro HB BK450 GW450 GE450; clear hb hbox hg; obtain ⟨hcz6_0, hcz6_1, hfz6_0, hfz6_1⟩ := cf2 (w := w5) BK450) | ((with_reducible refine gate_callee (f := 148) rfl ?_); refine gL (some 15) Try.func148 #[.agg #[.int .i64 a0_0, .slice A0_1 l0_1.length c0_1]] ?_; (with_reducible refine (spec_peAll.calls k a0_0 _ _ l0_1 t451 _ ?side1 ?side2 A4.out).mono ?_); (case side1 => exact Cz (Kd.C_below HR0_1.out HB.out)); (case side2 => exact HC0_1.out); rintro e w7 ⟨v452, rfl, ho0, hb⟩; refine ⟨_, rfl, ?_⟩; have n0_ := Rm ho0 HB; have n1_ := Kb BK450 hb; have n2_ := Bc HB hb; clear BK450 HB; revert n0_ n1_ n2_; intro HO453 BK450 HB; (try clear hb); (try clear hb2); (try clear hk); (try clear hi); (try clear ho0)))
 (try simp only [aP])
 go_loopg [8, 9, 10] k (fun kq v8 v9 v10 w' => ∃ (x8_1 : List (S118)) (x9_1 : List Int) (x10_1 : Int), v10 = .int .i64 x10_1 ∧ Aside0 (spec_pePeel.l0 kq l1 a2 x8_1 x9_1 x10_1 a0_0 l0_1 = some (r1, r2)) ∧ Aside0 (kq ≤ k) ∧ Aside0 (Kd.R k118 118 w' w.heap.size (fun _ => True) v8 x8_1) ∧ Aside0 (Kd.R (Kd.int .i64) 3 w' w.heap.size (fun _ => True) v9 x9_1) ∧ Aside0 (w'.heap[gb450]? = some (.cells #[.int .i64 a0_0, (.slice A0_1 l0_1.length c0_1)] 33 (0, 0))) ∧ Aside0 (Below w.heap.size w w'))
 case atStart => exact ⟨(([] : List (S118))), (t451), (0), wZ, H', ⟨Nat.le_refl _⟩, ⟨nZ⟩, ⟨Rz HO453.out⟩, ⟨Kz BK450.out⟩, ⟨Bq⟩⟩
 case round =>
  clear H'
  try clear c1
  try clear p2
  try clear hcz6_0
  try clear hcz6_1
  try clear hfz6_0
  try clear hfz6_1
  obtain ⟨x8_1, x9_1, x10_1, rfl, HA, HK1, HO_8, HO_9, BK450, HB⟩ := hrel; cases gk with
  | zero => exact absurd HA.out (by simp [spec_pePeel.l0])
  | succ k1 =>
   have H := HA.out; clear HA
   simp only [spec_pePeel.l0] at H
   have HC8 := am H; clear H
   go_upto_region 4 with (fail)
   go_cut [22] (fun v22 wc => ∃ (kq : Nat) (x22_7 : Bool), v22 = .bool x22_7 ∧ Aside0 (spec_pePeel.j1 kq l1 a2 x8_1 x9_1 x10_1 x22_7 a0_0 l0_1 = some (r1, r2)) ∧ Aside0 (kq ≤ k1) ∧ Aside0 (Kd.R k118 118 wc w.heap.size (fun _ => True) u8 x8_1) ∧ Aside0 (Kd.R (Kd.int .i64) 3 wc w.heap.size (fun _ => True) u9 x9_1) ∧ Aside0 (wc.heap[gb450]? = some (.cells #[.int .i64 a0_0, (.slice A0_1 l0_1.length c0_1)] 33 (0, 0))) ∧ Aside0 (Below w.heap.size w wc))
   case first =>
    have H := HC8.out; clear HC8
    by_cases c9 : a2 = true
    ·subst c9
     rw [if_pos rfl] at H; have H' := am H; clear H
     go_wp2
     go_meet
     case rel => exact ⟨_, (true), wZ, H', ⟨by have := HK1.out; first | omega | exact Nat.le_refl _⟩, ⟨Rz HO_8.out⟩, ⟨Rz HO_9.out⟩, ⟨Kz BK450.out⟩, ⟨Bq⟩⟩
    ·replace c9 := Bool.eq_false_iff.mpr c9
     subst c9
     rw [if_neg (show ¬ (false = true) by decide)] at H; have H' := am H; clear H
     go_wp2
     go_meet
     case rel => exact ⟨_, (decide (x10_1 < (l1.length : Int))), wZ, H', ⟨by have := HK1.out; first | omega | exact Nat.le_refl _⟩, ⟨Rz HO_8.out⟩, ⟨Rz HO_9.out⟩, ⟨Kz BK450.out⟩, ⟨Bq⟩⟩
   case rest =>
    clear HC8
    try clear c1
    try clear p2
    try clear c8
    try clear c9
    try clear hcz6_0
    try clear hcz6_1
    try clear hfz6_0
    try clear hfz6_1
    try clear p2
    obtain ⟨kq, x22_7, rfl, HA, HJ7, HO_8, HO_9, BK450, HB⟩ := hcut; cases kq with
    | zero => exact absurd HA.out (by simp [spec_pePeel.j1])
    | succ kj7 =>
     have H := HA.out; clear HA
     simp only [spec_pePeel.j1] at H
     by_cases c10 : x22_7 = true
     ·subst c10
      rw [if_pos rfl] at H; replace H := Option.bind_eq_some_iff.mp H; obtain ⟨t454, A110, H⟩ := H; (try dsimp -simprocs only at H); have A11 := am A110; clear A110
      by_cases c12 : (t454.length : Int) = 0
      ·rw [if_pos c12] at H
       have c12b0 : ((t454.length : Int) == 0) = true := beq_iff_eq.mpr c12; have c12b1 : ((t454.length : Int) != 0) = false := bne_eq_false_iff_eq.mpr c12; clear c12
       simp only [Option.some.injEq, Prod.mk.injEq] at H
       obtain ⟨rfl, rfl⟩ := H; obtain ⟨hcz13_0, hcz13_1, hfz13_0, hfz13_1⟩ := cf2 (w := wc) BK450; obtain ⟨Ao14, co14, eo14⟩ := Kd.R_slice HO_9.out; subst eo14
       go_wp2_with (first | ((with_reducible refine gate_callee (f := 149) rfl ?_); refine gL (some 27) Try.func149 #[.agg #[.int .i64 a0_0, .slice A0_1 l0_1.length c0_1], .slice Ao14 x9_1.length co14] ?_; (with_reducible refine (spec_peFree.calls kj7 a0_0 _ _ l0_1 _ _ x9_1 t454 _ ?side1 ?side2 ?side3 ?side4 A11.out).mono ?_); (case side1 => exact Cz (Kd.C_below HR0_1.out HB.out)); (case side2 => exact HC0_1.out); (case side3 => exact Cz ((Kd.R_reads' HO_9.out).2.2)); (case side4 => exact (Kd.R_reads' HO_9.out).2.1); rintro e w15 ⟨v455, rfl, ho0, hb⟩; refine ⟨_, rfl, ?_⟩; have n0_ := Rb HO_8 hb; have n1_ := Re HO_9 (Kd.R_base ho0) hb; have n2_ := Rm (Kd.R_new' ho0 (Kd.R_lt (Rz HO_9.out))) HB; have n3_ := Kb BK450 hb; have n4_ := Bc HB hb; clear HO_8 HO_9 BK450 HB; revert n0_ n1_ n2_ n3_ n4_; intro HO_8 HO_9 HO456 BK450 HB; (try clear hb); (try clear hb2); (try clear hk); (try clear hi); (try clear ho0); obtain ⟨Ao16, co16, eo16⟩ := Kd.R_slice HO456.out; subst eo16))
       go_ret2
       exact ⟨_, _, eZ, Rz HO_8.out, Rz (Kd.R_mono HO_9.out (fun _ hk => trivial)), Bq⟩
      ·rw [if_neg c12] at H
       have c12b0 : ((t454.length : Int) == 0) = false := beq_eq_false_iff_ne.mpr c12; have c12b1 : ((t454.length : Int) != 0) = true := bne_iff_ne.mpr c12
       have c12b2 : ¬ (t454 = []) := fun h_ => c12 (by rw [h_]; rfl)
       by_cases c17 : x10_1 < (l1.length : Int)
       ·rw [if_pos c17] at H
        have c17b0 : decide (x10_1 < (l1.length : Int)) = true := decide_eq_true c17; clear c17
        by_cases c18 : 0 ≤ x10_1
        ·rw [if_pos c18] at H
         have c18b0 : decide (0 ≤ x10_1) = true := decide_eq_true c18; clear c18; obtain ⟨ji19, hji19⟩ : ∃ j_ : Int, (Int.tmod (rd l1 x10_1) (t454.length : Int)) = j_ := ⟨_, rfl⟩
         replace H : (if 0 ≤ (ji19) then (if (ji19) < (t454.length : Int) then ((spec_peWith.f kj7 a0_0 l0_1 x9_1 (rd t454 (ji19))).bind fun t459 => (if x8_1.length < 8796093022208 then ((spec_l1Drop.f kj7 x9_1 t459).bind fun t465 => (spec_pePeel.l0 kj7 l1 a2 (x8_1 ++ [(⟨t459, rd t454 (ji19)⟩ : S118)]) t465 (wrap64 (x10_1 + 1)) a0_0 l0_1)) else (none))) else (none)) else (none)) = some (r1, r2) := by first | (rw [hji19] at H; exact H) | (simp only [hji19] at H ⊢; exact H)
         (try rw [hji19] at A11)
         by_cases c20 : 0 ≤ (ji19)
         ·rw [if_pos c20] at H
          have c20b0 : decide (0 ≤ (ji19)) = true := decide_eq_true c20; clear c20
          by_cases c21 : (ji19) < (t454.length : Int)
          ·rw [if_pos c21] at H
           have c21b0 : decide ((ji19) < (t454.length : Int)) = true := decide_eq_true c21; clear c21; replace H := Option.bind_eq_some_iff.mp H; obtain ⟨t459, A220, H⟩ := H; (try dsimp -simprocs only at H); have A22 := am A220; clear A220
           by_cases c23 : x8_1.length < 8796093022208
           ·rw [if_pos c23] at H
            have LMc23 := am c23; clear c23; obtain ⟨y462, hy462⟩ : ∃ y_ : List (S118), y_ = (x8_1 ++ [(⟨t459, rd t454 (ji19)⟩ : S118)]) := ⟨_, rfl⟩
            replace H : ((spec_l1Drop.f kj7 x9_1 t459).bind fun t465 => (spec_pePeel.l0 kj7 l1 a2 y462 t465 (wrap64 (x10_1 + 1)) a0_0 l0_1)) = some (r1, r2) := by first | (rw [hy462]; with_reducible exact H) | (have H2_ := (Option.bind_some _ _).symm.trans H; rw [hy462]; with_reducible exact H2_) | (have H2_ := (Option.bind_some _ _).symm.trans H; with_reducible exact H2_) | with_reducible exact H | (rw [hy462]; exact H) | exact H
            have Ny462 := am hy462; clear hy462; replace H := Option.bind_eq_some_iff.mp H; obtain ⟨t465, A240, H⟩ := H; (try dsimp -simprocs only at H); have A24 := am A240; clear A240; have H' := am H; clear H; obtain ⟨hcz25_0, hcz25_1, hfz25_0, hfz25_1⟩ := cf2 (w := wc) BK450; obtain ⟨Ao26, co26, eo26⟩ := Kd.R_slice HO_9.out; subst eo26
            try go_wp2_with (first | ((with_reducible refine gate_callee (f := 149) rfl ?_); refine gL (some 27) Try.func149 #[.agg #[.int .i64 a0_0, .slice A0_1 l0_1.length c0_1], .slice Ao26 x9_1.length co26] ?_; (with_reducible refine (spec_peFree.calls kj7 a0_0 _ _ l0_1 _ _ x9_1 t454 _ ?side1 ?side2 ?side3 ?side4 A11.out).mono ?_); (case side1 => exact Cz (Kd.C_below HR0_1.out HB.out)); (case side2 => exact HC0_1.out); (case side3 => exact Cz ((Kd.R_reads' HO_9.out).2.2)); (case side4 => exact (Kd.R_reads' HO_9.out).2.1); rintro e w27 ⟨v455, rfl, ho0, hb⟩; refine ⟨_, rfl, ?_⟩; have n0_ := Rb HO_8 hb; have n1_ := Re HO_9 (Kd.R_base ho0) hb; have n2_ := Rm (Kd.R_new' ho0 (Kd.R_lt (Rz HO_9.out))) HB; have n3_ := Kb BK450 hb; have n4_ := Bc HB hb; clear HO_8 HO_9 BK450 HB; revert n0_ n1_ n2_ n3_ n4_; intro HO_8 HO_9 HO456 BK450 HB; (try clear hb); (try clear hb2); (try clear hk); (try clear hi); (try clear ho0); obtain ⟨Ao28, co28, eo28⟩ := Kd.R_slice HO456.out; subst eo28; have p457 : 0 ≤ (x10_1 : Int) := dT; have q457 : x10_1 < (l1.length : Int) := dT; obtain ⟨ad457, e457, hx457_0⟩ := Kd.at_int HR1.out x10_1 p457 q457; cases e457; replace hx457_0 := (HB.out.cell (World.block_lt_of_cell? w _ hx457_0)).trans hx457_0; replace p457 := eq_true p457; replace q457 := eq_true q457))
            have n0_ := am (Kd.R_drew HO_8.out); have n1_ := am (Kd.R_drew HO_9.out); have n2_ := am (Kd.R_drew HO456.out); have n3_ := am (blk_drew BK450.out); have n4_ := am (below_drew1 HB.out); clear HO_8 HO_9 HO456 BK450 HB; revert n0_ n1_ n2_ n3_ n4_; intro HO_8 HO_9 HO456 BK450 HB; obtain ⟨ad458, e458, hx458_0⟩ := Kd.at_int (Kd.R_reads' HO456.out).2.2 (ji19) dT dT; cases e458; have p458 := eT (0 ≤ ((ji19) : Int)); have q458 := eT ((ji19) < (t454.length : Int)); have p460 : 0 ≤ ((ji19) : Int) := dT; have q460 : (ji19) < (t454.length : Int) := dT; obtain ⟨ad460, e460, hx460_0⟩ := Kd.at_int (Kd.R_reads' HO456.out).2.2 (ji19) p460 q460; obtain rfl : ad458 = ad460 := (by injection e460); replace p460 := eq_true p460; replace q460 := eq_true q460; refine start_ (n := 14) (S := fun w' => w'.cell? ⟨gb450, 0, none⟩ = some (.int .i64 a0_0) ∧ w'.cell? ⟨gb450, 1, none⟩ = some (.slice A0_1 l0_1.length c0_1) ∧ w'.cell? (ad458.add ((ji19)).toNat) = some (.int .i64 (rd t454 (ji19))) ∧ w'.cell? (ad458.add ((ji19)).toNat) = some (.int .i64 (rd t454 (ji19)))) (ds := []) (bA 14 0) (by kernel_rfl) rfl rfl ⟨cz BK450 0, cz BK450 1, hx458_0, hx460_0⟩ (fun hHeld => ?_); refine with_tabW spec_pePeel.tab11 spec_pePeel.bits11 (fun HT_ HW_ => ?_); generalize w27.drew = w29 at HO_8 HO_9 HO456 BK450 HB hx458_0 hx460_0 hHeld ⊢; refine pZ 1 (some 43) (bA 14 2) HT_.out ?_; refine pZ 2 (some 44) (bA 14 6) HT_.out ?_; refine pZ 3 (some 45) (bA 14 14) HT_.out ?_; refine pZ 4 (some 46) (bA 14 30) HT_.out ?_; refine pZ 7 (some 49) (bA 14 158) HT_.out ?_; refine pZ 8 (some 50) (bA 14 414) HT_.out ?_; refine pZ 9 (some 51) (bA 14 926) HT_.out ?_; refine tZ4 0 (some 42) (bA 14 927) HT_.out HW_.out hHeld ?_; refine tZ4 5 (some 47) (bA 14 959) HT_.out HW_.out hHeld ?_; refine tZ4 10 (some 52) (bA 14 1983) HT_.out HW_.out hHeld ?_; refine join_ (σ := Nat) 1 (bA 14 8191) (fun s_ => [(48, .int .i64 t459), (13, .pointer (some ⟨s_, 0, none⟩)), (53, .agg #[.int .i64 t459, .int .i64 (rd t454 (ji19))])]) (fun s_ w' => (w'.cell? ⟨gb450, 0, none⟩ = some (.int .i64 a0_0) ∧ w'.cell? ⟨gb450, 1, none⟩ = some (.slice A0_1 l0_1.length c0_1) ∧ w'.cell? (ad458.add ((ji19)).toNat) = some (.int .i64 (rd t454 (ji19))) ∧ w'.cell? (ad458.add ((ji19)).toNat) = some (.int .i64 (rd t454 (ji19)))) ∧ (Kd.R (Kd.int .i64) 3 w' w.heap.size (fun k_ => some k_ ≠ (.slice Ao26 x9_1.length co26 : Value).ownBlock) (.slice (some ad458) t454.length co28) t454) ∧ (Kd.R k118 118 w' w.heap.size (fun k_ => k_ ≠ s_) u8 x8_1) ∧ (Kd.R (Kd.int .i64) 3 w' w.heap.size (fun k_ => some k_ ≠ (.slice (some ad458) t454.length co28 : Value).ownBlock) (.slice Ao26 x9_1.length co26) x9_1) ∧ (w'.heap[gb450]? = some (.cells #[.int .i64 a0_0, .slice A0_1 l0_1.length c0_1] 33 (0, 0))) ∧ (w'.heap[s_]? = some (.cells #[.int .i64 0, .int .i64 0] 118 (0, 0))) ∧ (w.heap.size ≤ s_) ∧ (w.heap.size ≤ s_) ∧ (gb450 ≠ s_) ∧ (s_ ≠ gb450) ∧ (Below w.heap.size w w')) ?_ ?_
            rotate_left
            ·intro hCont
             refine two_ (i := 6) (j := 12) (Ni := some 48) (Nj := some 13) (bA 14 2047) (bA 14 6079) rfl rfl rfl rfl (two_of HT_.out (by kernel_rfl)) (by decide) (by decide) (fun K hK => ?_) (fun K hK => ?_)
             ·skip
              refine goes_ Try.func150 (by kernel_rfl) rfl #[.agg #[.int .i64 a0_0, .slice A0_1 l0_1.length c0_1], .slice Ao26 x9_1.length co26, .int .i64 (rd t454 (ji19))] (by rfl) rfl rfl (by (try simp only [List.map_toArray, List.map_cons, List.map_nil]); first | done | (simp only [hji19]; rfl) | rfl | (simp only [List.length_drop, List.length_take]; rfl)) ?_
              with_reducible refine (spec_peWith.calls kj7 a0_0 _ _ l0_1 _ _ x9_1 (rd t454 (ji19)) t459 _ ?side1 ?side2 ?side3 ?side4 A22.out).mono ?_
              (case side1 => exact Cz (Kd.C_below HR0_1.out HB.out))
              (case side2 => exact HC0_1.out)
              (case side3 => exact Cz ((Kd.R_reads' HO_9.out).2.2))
              (case side4 => exact (Kd.R_reads' HO_9.out).2.1)
              rintro e w30 ⟨rfl, hb⟩; have HS2_ := (hb.cell (World.block_lt_of_cell? _ _ (hHeld.2.2.1))).trans (hHeld.2.2.1); have HS3_ := (hb.cell (World.block_lt_of_cell? _ _ (hHeld.2.2.2))).trans (hHeld.2.2.2); refine ⟨_, rfl, ?_⟩; have n0_ := Rb HO_8 hb; have n1_ := Rb HO_9 hb; have n2_ := Rb HO456 hb; have n3_ := Kb BK450 hb; have n4_ := Bc HB hb; clear HO_8 HO_9 HO456 BK450 HB; revert n0_ n1_ n2_ n3_ n4_; intro HO_8 HO_9 HO456 BK450 HB
              (try clear hb)
              (try clear hb2)
              (try clear hk)
              (try clear hi)
              refine hK.out _ _ ⟨cz BK450 0, cz BK450 1, HS2_, HS3_⟩ (fun hHeld => ?_); clear hK K; refine norm_ (a' := ?_) ?_ ?_; rotate_left; show Act.put _ (some 48) _ = _; simp only [aP, i64_w, i32_w]; rfl; refine pZ 11 (some 53) (bA 14 4095) HT_.out ?_; refine oZ 12 (some 13) (bA 14 8191) HT_.out (fun K hK => ?_); refine box_step ?hg (N := 13) ?hd (cs := #[.int .i64 0, .int .i64 0]) (t := 118) ?hr ?_; (case hd => rfl); (case hg => rfl); (case hr => first | (go_simp; done) | (go_simp; rfl)); intro gb461 hg w31 hbox hb; have HS2_ := (hb.cell (World.block_lt_of_cell? _ _ (hHeld.2.2.1))).trans (hHeld.2.2.1); have HS3_ := (hb.cell (World.block_lt_of_cell? _ _ (hHeld.2.2.2))).trans (hHeld.2.2.2); have n0_ := am (Kd.R_below (Kd.R_elderB (Rz HO_8.out) gb461 (Nat.le_of_eq hg.symm)) hb); have n1_ := Rb HO_9 hb; have n2_ := Rb HO456 hb; have n3_ := Kb BK450 hb; have n4_ := Bc HB hb; have n5_ := am (hbox); have n6_ := Gm HB hg; have n7_ := Gm HB hg; have n8_ := Nl BK450 hg; have n9_ := Ng BK450 hg; clear HO_8 HO_9 HO456 BK450 HB; revert n0_ n1_ n2_ n3_ n4_ n5_ n6_ n7_ n8_ n9_; intro HO_8 HO_9 HO456 BK450 HB BK461 GW461 GE461 NB450_461 NB461_450; clear hb hbox hg; refine hK.out _ _ ⟨cz BK450 0, cz BK450 1, HS2_, HS3_⟩ (fun hHeld => ?_); clear hK K; refine norm_ (a' := ?_) ?_ ?_; rotate_left; show Act.put _ (some 13) _ = _; simp only [aP, i64_w, i32_w]; rfl; exact norm_ (by simp only [putAll, aP]) (hCont (gb461) _ ⟨hHeld, (Rz (Kd.R_mono HO456.out (fun _ hk => hk.2))), (Rz (Kd.R_mono HO_8.out (fun _ hk => hk.2))), (Rz (Kd.R_mono HO_9.out (fun _ hk => hk.2))), (Kz BK450.out), (Kz BK461.out), GW461.out, GE461.out, NB450_461.out, NB461_450.out, (Bq)⟩)
             ·skip
              refine box_step ?hg (N := 13) ?hd (cs := #[.int .i64 0, .int .i64 0]) (t := 118) ?hr ?_; (case hd => rfl); (case hg => rfl); (case hr => first | (go_simp; done) | (go_simp; rfl)); intro gb461 hg w30 hbox hb; have HS2_ := (hb.cell (World.block_lt_of_cell? _ _ (hHeld.2.2.1))).trans (hHeld.2.2.1); have HS3_ := (hb.cell (World.block_lt_of_cell? _ _ (hHeld.2.2.2))).trans (hHeld.2.2.2); have n0_ := am (Kd.R_below (Kd.R_elderB (Rz HO_8.out) gb461 (Nat.le_of_eq hg.symm)) hb); have n1_ := Rb HO_9 hb; have n2_ := Rb HO456 hb; have n3_ := Kb BK450 hb; have n4_ := Bc HB hb; have n5_ := am (hbox); have n6_ := Gm HB hg; have n7_ := Gm HB hg; have n8_ := Nl BK450 hg; have n9_ := Ng BK450 hg; clear HO_8 HO_9 HO456 BK450 HB; revert n0_ n1_ n2_ n3_ n4_ n5_ n6_ n7_ n8_ n9_; intro HO_8 HO_9 HO456 BK450 HB BK461 GW461 GE461 NB450_461 NB461_450; clear hb hbox hg; refine hK.out _ _ ⟨cz BK450 0, cz BK450 1, HS2_, HS3_⟩ (fun hHeld => ?_); clear hK K; refine norm_ (a' := ?_) ?_ ?_; rotate_left; show Act.put _ (some 13) _ = _; simp only [aP, i64_w, i32_w]; rfl; refine oZ 6 (some 48) (bA 14 6143) HT_.out (fun K hK => ?_); refine goes_ Try.func150 (by kernel_rfl) rfl #[.agg #[.int .i64 a0_0, .slice A0_1 l0_1.length c0_1], .slice Ao26 x9_1.length co26, .int .i64 (rd t454 (ji19))] (by rfl) rfl rfl (by (try simp only [List.map_toArray, List.map_cons, List.map_nil]); first | done | (simp only [hji19]; rfl) | rfl | (simp only [List.length_drop, List.length_take]; rfl)) ?_
              with_reducible refine (spec_peWith.calls kj7 a0_0 _ _ l0_1 _ _ x9_1 (rd t454 (ji19)) t459 _ ?side1 ?side2 ?side3 ?side4 A22.out).mono ?_
              (case side1 => exact Cz (Kd.C_below HR0_1.out HB.out))
              (case side2 => exact HC0_1.out)
              (case side3 => exact Cz ((Kd.R_reads' HO_9.out).2.2))
              (case side4 => exact (Kd.R_reads' HO_9.out).2.1)
              rintro e w31 ⟨rfl, hb⟩; have HS2_ := (hb.cell (World.block_lt_of_cell? _ _ (hHeld.2.2.1))).trans (hHeld.2.2.1); have HS3_ := (hb.cell (World.block_lt_of_cell? _ _ (hHeld.2.2.2))).trans (hHeld.2.2.2); refine ⟨_, rfl, ?_⟩; have n0_ := Rb HO_8 hb; have n1_ := Rb HO_9 hb; have n2_ := Rb HO456 hb; have n3_ := Kb BK450 hb; have n4_ := Kb BK461 hb; have n5_ := Bc HB hb; clear HO_8 HO_9 HO456 BK450 BK461 HB; revert n0_ n1_ n2_ n3_ n4_ n5_; intro HO_8 HO_9 HO456 BK450 BK461 HB
              (try clear hb)
              (try clear hb2)
              (try clear hk)
              (try clear hi)
              refine hK.out _ _ ⟨cz BK450 0, cz BK450 1, HS2_, HS3_⟩ (fun hHeld => ?_); clear hK K; refine norm_ (a' := ?_) ?_ ?_; rotate_left; show Act.put _ (some 48) _ = _; simp only [aP, i64_w, i32_w]; rfl; refine pZ 11 (some 53) (bA 14 8191) HT_.out ?_; exact norm_ (by simp only [putAll, aP]) (hCont (gb461) _ ⟨hHeld, (Rz (Kd.R_mono HO456.out (fun _ hk => hk.2))), (Rz (Kd.R_mono HO_8.out (fun _ hk => hk.2))), (Rz (Kd.R_mono HO_9.out (fun _ hk => hk.2))), (Kz BK450.out), (Kz BK461.out), GW461.out, GE461.out, NB450_461.out, NB461_450.out, (Bq)⟩)
            rintro gb461 w32 ⟨hS_, h0_, h1_, h2_, h3_, h4_, h5_, h6_, h7_, h8_, h9_⟩; have n0_ : Aside0 (Kd.R (Kd.int .i64) 3 w32 w.heap.size (fun k_ => some k_ ≠ (.slice Ao26 x9_1.length co26 : Value).ownBlock) (.slice (some ad458) t454.length co28) t454) := ⟨h0_⟩; have n1_ : Aside0 (Kd.R k118 118 w32 w.heap.size (fun k_ => k_ ≠ gb461) u8 x8_1) := ⟨h1_⟩; have n2_ : Aside0 (Kd.R (Kd.int .i64) 3 w32 w.heap.size (fun k_ => some k_ ≠ (.slice (some ad458) t454.length co28 : Value).ownBlock) (.slice Ao26 x9_1.length co26) x9_1) := ⟨h2_⟩; have n3_ : Aside0 (w32.heap[gb450]? = some (.cells #[.int .i64 a0_0, .slice A0_1 l0_1.length c0_1] 33 (0, 0))) := ⟨h3_⟩; have n4_ : Aside0 (w32.heap[gb461]? = some (.cells #[.int .i64 0, .int .i64 0] 118 (0, 0))) := ⟨h4_⟩; have n5_ : Aside0 (w.heap.size ≤ gb461) := ⟨h5_⟩; have n6_ : Aside0 (w.heap.size ≤ gb461) := ⟨h6_⟩; have n7_ : Aside0 (gb450 ≠ gb461) := ⟨h7_⟩; have n8_ : Aside0 (gb461 ≠ gb450) := ⟨h8_⟩; have n9_ : Aside0 (Below w.heap.size w w32) := ⟨h9_⟩; clear HO_8 HO_9 HO456 BK450 HB; clear h0_ h1_ h2_ h3_ h4_ h5_ h6_ h7_ h8_ h9_; revert n0_ n1_ n2_ n3_ n4_ n5_ n6_ n7_ n8_ n9_; intro HO456 HO_8 HO_9 BK450 BK461 GW461 GE461 NB450_461 NB461_450 HB; have hHeld : w32.cell? ⟨gb450, 0, none⟩ = some (.int .i64 a0_0) ∧ w32.cell? ⟨gb450, 1, none⟩ = some (.slice A0_1 l0_1.length c0_1) ∧ w32.cell? (ad458.add ((ji19)).toNat) = some (.int .i64 (rd t454 (ji19))) ∧ w32.cell? (ad458.add ((ji19)).toNat) = some (.int .i64 (rd t454 (ji19))) := hS_; refine norm_ (a' := ?_) ?_ ?_
            rotate_left
            ·simp only [putAll, aP]
             rfl
            refine oZ 13 none (bA 14 16383) HT_.out (fun K hK => ?_); have hs33 : w32.cell? ⟨gb461, 0, none⟩ = some (.int .i64 0) := cz BK461 0; have hfs33 := blk_frozen BK461.out 0; have hns33_0 := NB450_461.out; have hms33_0 := NB461_450.out; have hs34 : w32.cell? ⟨gb461, 1, none⟩ = some (.int .i64 0) := cz BK461 1; have hfs34 := blk_frozen BK461.out 1; have hns34_0 := NB450_461.out; have hms34_0 := NB461_450.out; refine skip_ (w1 := ?_) (by rfl) rfl ?_ ?_
            rotate_left
            ·go_simp
             rfl
            refine hK.out _ _ ⟨((cell_far (p := ⟨gb461, _, none⟩) NB450_461.out _).trans (((cell_far (p := ⟨gb461, _, none⟩) NB450_461.out _).trans (hHeld.1)))), ((cell_far (p := ⟨gb461, _, none⟩) NB450_461.out _).trans (((cell_far (p := ⟨gb461, _, none⟩) NB450_461.out _).trans (hHeld.2.1)))), ((cell_far (p := ⟨gb461, _, none⟩) (by first | exact Kd.own_blk (Kd.R_ne HO456.out BK461.out (by decide)) | (rw [add_block]; exact Kd.own_blk (Kd.R_ne HO456.out BK461.out (by decide))) | (show (Addr.add _ _).block ≠ _; rw [add_block]; exact Kd.own_blk (Kd.R_ne HO456.out BK461.out (by decide))) | (dsimp only; exact Kd.own_blk (Kd.R_ne HO456.out BK461.out (by decide)))) _).trans (((cell_far (p := ⟨gb461, _, none⟩) (by first | exact Kd.own_blk (Kd.R_ne HO456.out BK461.out (by decide)) | (rw [add_block]; exact Kd.own_blk (Kd.R_ne HO456.out BK461.out (by decide))) | (show (Addr.add _ _).block ≠ _; rw [add_block]; exact Kd.own_blk (Kd.R_ne HO456.out BK461.out (by decide))) | (dsimp only; exact Kd.own_blk (Kd.R_ne HO456.out BK461.out (by decide)))) _).trans (hHeld.2.2.1)))), ((cell_far (p := ⟨gb461, _, none⟩) (by first | exact Kd.own_blk (Kd.R_ne HO456.out BK461.out (by decide)) | (rw [add_block]; exact Kd.own_blk (Kd.R_ne HO456.out BK461.out (by decide))) | (show (Addr.add _ _).block ≠ _; rw [add_block]; exact Kd.own_blk (Kd.R_ne HO456.out BK461.out (by decide))) | (dsimp only; exact Kd.own_blk (Kd.R_ne HO456.out BK461.out (by decide)))) _).trans (((cell_far (p := ⟨gb461, _, none⟩) (by first | exact Kd.own_blk (Kd.R_ne HO456.out BK461.out (by decide)) | (rw [add_block]; exact Kd.own_blk (Kd.R_ne HO456.out BK461.out (by decide))) | (show (Addr.add _ _).block ≠ _; rw [add_block]; exact Kd.own_blk (Kd.R_ne HO456.out BK461.out (by decide))) | (dsimp only; exact Kd.own_blk (Kd.R_ne HO456.out BK461.out (by decide)))) _).trans (hHeld.2.2.2))))⟩ (fun hHeld => ?_); clear hK K; refine done_ (done_of HT_.out (by kernel_rfl)) ?_; have hnb35 := NB461_450.out; have hnc35 := NB450_461.out; obtain ⟨hcz36_0, hcz36_1, hfz36_0, hfz36_1⟩ := cf2 (w := w32) BK461
            try go_wp2_with (first | ((with_reducible refine gate_builtin (b := .append) (xs := #[.tmp 54, .tmp 56]) rfl ?_); (try (refine gate_guard (by rfl) ?_; dsimp only)); at_builtin; refine Kd.R_append k118 (w0 := w) w.heap.size rfl (.tmp 54) (.tmp 56) 111 118 (.agg #[(.int .i64 0), (.int .i64 0)]) 16 rfl Try.underlying111 info118 rfl (by decide) (by omega) u8 x8_1 (⟨t459, rd t454 (ji19)⟩ : S118) [.int .i64 t459, .int .i64 (rd t454 (ji19))] (fun k_ => k_ ≠ gb461) (fun _ => False) rfl (by first | (go_simp; done) | (go_simp; rfl)) ?aP (fun _ hk => hk.elim) ?aF ?aO ?aB ?aS ?aL ?_; (case aP => exact k118_mkM _ _ _ (⟨t459, rd t454 (ji19)⟩ : S118)); (case aB => exact (Bq)); (case aF => exact (fun k_ hk => Kd.freshB (g := gb461) (o := .cells #[.int .i64 t459, .int .i64 (rd t454 (ji19))] 118 (0, 0)) (by (with_reducible repeat (first | refine blk_drewN ?_ _ | refine blk_drew ?_ | refine blk_alloc ?_ _)); refine blk_put (cs := #[.int .i64 t459, .int .i64 0]) ?_ 1 _ rfl; (with_reducible repeat (first | refine blk_drewN ?_ _ | refine blk_drew ?_ | refine blk_alloc ?_ _)); refine blk_put (cs := #[.int .i64 0, .int .i64 0]) ?_ 0 _ rfl; exact Kz BK461.out) k_ hk)); (case aO => exact (Rz (Kd.R_mono (Kd.R_far (p := ⟨gb461, 1, none⟩) (Kd.R_far (p := ⟨gb461, 0, none⟩) (Kd.R_mono HO_8.out (fun k_ hk => (⟨hk, hk⟩ : _ ∧ k_ ≠ gb461))) (fun _ hk => hk.2) (.int .i64 t459)) (fun _ hk => hk.2) (.int .i64 (rd t454 (ji19)))) (fun _ hk => hk.1)))); (case aS => exact (below_size (w := w) (Bq))); (case aL => have := LMc23.out; omega); intro v463 w37 ho hb hg hat; rw [← Ny462.out] at ho; have n0_ := am (Kd.R_over' (Rz (Kd.R_mono (Kd.R_far (p := ⟨gb461, 1, none⟩) (Kd.R_far (p := ⟨gb461, 0, none⟩) (Kd.R_types HO_9.out BK461.out (by decide)) (fun _ hk => hk.2) (.int .i64 t459)) (fun _ hk => hk.2) (.int .i64 (rd t454 (ji19)))) (fun _ h_ => h_.1))) (Kd.R_typed (Rz (Kd.R_mono (Kd.R_far (p := ⟨gb461, 1, none⟩) (Kd.R_far (p := ⟨gb461, 0, none⟩) (Kd.R_mono HO_8.out (fun k_ hk => (⟨hk, hk⟩ : _ ∧ k_ ≠ gb461))) (fun _ hk => hk.2) (.int .i64 t459)) (fun _ hk => hk.2) (.int .i64 (rd t454 (ji19)))) (fun _ h_ => h_.1)))) (by decide) hg); have n1_ := am (blk_grown (g := gb450) (o := .cells #[.int .i64 a0_0, .slice A0_1 l0_1.length c0_1] 33 (0, 0)) (by (with_reducible repeat (first | refine blk_drewN ?_ _ | refine blk_drew ?_ | refine blk_alloc ?_ _)); refine blk_far ?_ NB450_461.out _; (with_reducible repeat (first | refine blk_drewN ?_ _ | refine blk_drew ?_ | refine blk_alloc ?_ _)); refine blk_far ?_ NB450_461.out _; exact Kz BK450.out) hg (Kd.R_ne HO_8.out BK450.out (by decide))); have n2_ := am (Kd.R_over' (Rz (Kd.R_mono (Kd.R_far (p := ⟨gb461, 1, none⟩) (Kd.R_far (p := ⟨gb461, 0, none⟩) (Kd.R_types HO456.out BK461.out (by decide)) (fun _ hk => hk.2) (.int .i64 t459)) (fun _ hk => hk.2) (.int .i64 (rd t454 (ji19)))) (fun _ h_ => h_.1))) (Kd.R_typed (Rz (Kd.R_mono (Kd.R_far (p := ⟨gb461, 1, none⟩) (Kd.R_far (p := ⟨gb461, 0, none⟩) (Kd.R_mono HO_8.out (fun k_ hk => (⟨hk, hk⟩ : _ ∧ k_ ≠ gb461))) (fun _ hk => hk.2) (.int .i64 t459)) (fun _ hk => hk.2) (.int .i64 (rd t454 (ji19)))) (fun _ h_ => h_.1)))) (by decide) hg); have n3_ := am (blk_grown (g := gb461) (o := .cells #[.int .i64 t459, .int .i64 (rd t454 (ji19))] 118 (0, 0)) (by (with_reducible repeat (first | refine blk_drewN ?_ _ | refine blk_drew ?_ | refine blk_alloc ?_ _)); refine blk_put (cs := #[.int .i64 t459, .int .i64 0]) ?_ 1 _ rfl; (with_reducible repeat (first | refine blk_drewN ?_ _ | refine blk_drew ?_ | refine blk_alloc ?_ _)); refine blk_put (cs := #[.int .i64 0, .int .i64 0]) ?_ 0 _ rfl; exact Kz BK461.out) hg (Kd.R_away HO_8.out (fun _ hk => hk))); have n4_ := am (hb); have n5_ := am (ho); clear HO_9 BK450 HO456 BK461 HB HO_8; revert n0_ n1_ n2_ n3_ n4_ n5_; intro HO_9 BK450 HO456 BK461 HB HO464; clear ho hb hg hat; obtain ⟨hcz38_0, hcz38_1, hfz38_0, hfz38_1⟩ := cf2 (w := w37) BK461) | ((with_reducible refine gate_callee (f := 151) rfl ?_); refine gL (some 61) Try.func151 #[.slice Ao26 x9_1.length co26, .int .i64 t459] ?_; (with_reducible refine (spec_l1Drop.calls kj7 _ _ x9_1 t459 t465 _ ?side1 ?side2 A24.out).mono ?_); (case side1 => exact Cz ((Kd.R_reads' HO_9.out).2.2)); (case side2 => exact (Kd.R_reads' HO_9.out).2.1); rintro e w39 ⟨v466, rfl, ho0, hb⟩; refine ⟨_, rfl, ?_⟩; have n0_ := Re HO_9 (Kd.R_base ho0) hb; have n1_ := Re HO456 (Kd.R_base ho0) hb; have n2_ := Rb HO464 hb; have n3_ := Rm (Kd.R_new' (Kd.R_new' ho0 (Kd.R_lt (Rz HO_9.out))) (Kd.R_lt (Rz HO456.out))) HB; have n4_ := Kb BK450 hb; have n5_ := Kb BK461 hb; have n6_ := Bc HB hb; clear HO_9 HO456 HO464 BK450 BK461 HB; revert n0_ n1_ n2_ n3_ n4_ n5_ n6_; intro HO_9 HO456 HO464 HO467 BK450 BK461 HB; (try clear hb); (try clear hb2); (try clear hk); (try clear hi); (try clear ho0)))
            go_roundg kj7
            case measure => have := HK1.out; have := HJ7.out; omega
            case rel => exact ⟨(y462), (t465), (wrap64 (x10_1 + 1)), wZ, H', ⟨by have := HK1.out; have := HJ7.out; omega⟩, ⟨Rz (Kd.R_mono HO464.out (fun _ hk => trivial))⟩, ⟨Rz (Kd.R_mono HO467.out (fun _ hk => trivial))⟩, ⟨Kz BK450.out⟩, ⟨Bq⟩⟩
           ·rw [if_neg c23] at H
            exact absurd H (by simp)
          ·rw [if_neg c21] at H
           exact absurd H (by simp)
         ·rw [if_neg c20] at H
          exact absurd H (by simp)
        ·rw [if_neg c18] at H
         exact absurd H (by simp)
       ·rw [if_neg c17] at H
        have c17b0 : decide (x10_1 < (l1.length : Int)) = false := decide_eq_false c17; clear c17
        by_cases c40 : 0 < (t454.length : Int)
        ·rw [if_pos c40] at H
         have c40b0 : decide (0 < (t454.length : Int)) = true := decide_eq_true c40; have c40b1 : decide (0 < t454.length) = true := decide_eq_true (by omega); clear c40; replace H := Option.bind_eq_some_iff.mp H; obtain ⟨t469, A410, H⟩ := H; (try dsimp -simprocs only at H); have A41 := am A410; clear A410
         by_cases c42 : x8_1.length < 8796093022208
         ·rw [if_pos c42] at H
          have LMc42 := am c42; clear c42; obtain ⟨y472, hy472⟩ : ∃ y_ : List (S118), y_ = (x8_1 ++ [(⟨t469, rd t454 0⟩ : S118)]) := ⟨_, rfl⟩
          replace H : ((spec_l1Drop.f kj7 x9_1 t469).bind fun t475 => (spec_pePeel.l0 kj7 l1 a2 y472 t475 (wrap64 (x10_1 + 1)) a0_0 l0_1)) = some (r1, r2) := by first | (rw [hy472]; with_reducible exact H) | (have H2_ := (Option.bind_some _ _).symm.trans H; rw [hy472]; with_reducible exact H2_) | (have H2_ := (Option.bind_some _ _).symm.trans H; with_reducible exact H2_) | with_reducible exact H | (rw [hy472]; exact H) | exact H
          have Ny472 := am hy472; clear hy472; replace H := Option.bind_eq_some_iff.mp H; obtain ⟨t475, A430, H⟩ := H; (try dsimp -simprocs only at H); have A43 := am A430; clear A430; have H' := am H; clear H; obtain ⟨hcz44_0, hcz44_1, hfz44_0, hfz44_1⟩ := cf2 (w := wc) BK450; obtain ⟨Ao45, co45, eo45⟩ := Kd.R_slice HO_9.out; subst eo45
          try go_wp2_with (first | ((with_reducible refine gate_callee (f := 149) rfl ?_); refine gL (some 27) Try.func149 #[.agg #[.int .i64 a0_0, .slice A0_1 l0_1.length c0_1], .slice Ao45 x9_1.length co45] ?_; (with_reducible refine (spec_peFree.calls kj7 a0_0 _ _ l0_1 _ _ x9_1 t454 _ ?side1 ?side2 ?side3 ?side4 A11.out).mono ?_); (case side1 => exact Cz (Kd.C_below HR0_1.out HB.out)); (case side2 => exact HC0_1.out); (case side3 => exact Cz ((Kd.R_reads' HO_9.out).2.2)); (case side4 => exact (Kd.R_reads' HO_9.out).2.1); rintro e w46 ⟨v455, rfl, ho0, hb⟩; refine ⟨_, rfl, ?_⟩; have n0_ := Rb HO_8 hb; have n1_ := Re HO_9 (Kd.R_base ho0) hb; have n2_ := Rm (Kd.R_new' ho0 (Kd.R_lt (Rz HO_9.out))) HB; have n3_ := Kb BK450 hb; have n4_ := Bc HB hb; clear HO_8 HO_9 BK450 HB; revert n0_ n1_ n2_ n3_ n4_; intro HO_8 HO_9 HO456 BK450 HB; (try clear hb); (try clear hb2); (try clear hk); (try clear hi); (try clear ho0); obtain ⟨Ao47, co47, eo47⟩ := Kd.R_slice HO456.out; subst eo47))
          have n0_ := am (Kd.R_drew HO_8.out); have n1_ := am (Kd.R_drew HO_9.out); have n2_ := am (Kd.R_drew HO456.out); have n3_ := am (blk_drew BK450.out); have n4_ := am (below_drew1 HB.out); clear HO_8 HO_9 HO456 BK450 HB; revert n0_ n1_ n2_ n3_ n4_; intro HO_8 HO_9 HO456 BK450 HB; have p468 : 0 ≤ (0 : Int) := (by omega); have q468 : 0 < (t454.length : Int) := dT; obtain ⟨ad468, e468, hx468_0⟩ := Kd.at_int (Kd.R_reads' HO456.out).2.2 0 p468 q468; cases e468; have qi468 : (0 < t454.length) = True := eq_true (by omega)
          (try rw [show ((0 : Int)).toNat = 0 from rfl] at hx468_0)
          (try rw [Addr.add_zero'] at hx468_0)
          replace p468 := eq_true p468; replace q468 := eq_true q468; have p470 : 0 ≤ (0 : Int) := (by omega); have q470 : 0 < (t454.length : Int) := dT; obtain ⟨ad470, e470, hx470_0⟩ := Kd.at_int (Kd.R_reads' HO456.out).2.2 0 p470 q470; obtain rfl : ad468 = ad470 := (by injection e470); have qi470 : (0 < t454.length) = True := eq_true (by omega)
          (try rw [show ((0 : Int)).toNat = 0 from rfl] at hx470_0)
          (try rw [Addr.add_zero'] at hx470_0)
          replace p470 := eq_true p470; replace q470 := eq_true q470; refine start_ (n := 14) (S := fun w' => w'.cell? ⟨gb450, 0, none⟩ = some (.int .i64 a0_0) ∧ w'.cell? ⟨gb450, 1, none⟩ = some (.slice A0_1 l0_1.length c0_1) ∧ w'.cell? ad468 = some (.int .i64 (rd t454 0)) ∧ w'.cell? ad468 = some (.int .i64 (rd t454 0))) (ds := []) (bA 14 0) (by kernel_rfl) rfl rfl ⟨cz BK450 0, cz BK450 1, hx468_0, hx470_0⟩ (fun hHeld => ?_); refine with_tabW spec_pePeel.tab11 spec_pePeel.bits11 (fun HT_ HW_ => ?_); generalize w46.drew = w48 at HO_8 HO_9 HO456 BK450 HB hx468_0 hx470_0 hHeld ⊢; refine pZ 1 (some 43) (bA 14 2) HT_.out ?_; refine pZ 2 (some 44) (bA 14 6) HT_.out ?_; refine pZ 3 (some 45) (bA 14 14) HT_.out ?_; refine pZ 4 (some 46) (bA 14 30) HT_.out ?_; refine pZ 7 (some 49) (bA 14 158) HT_.out ?_; refine pZ 8 (some 50) (bA 14 414) HT_.out ?_; refine pZ 9 (some 51) (bA 14 926) HT_.out ?_; refine tZ4 0 (some 42) (bA 14 927) HT_.out HW_.out hHeld ?_; refine tZ4 5 (some 47) (bA 14 959) HT_.out HW_.out hHeld ?_; refine tZ4 10 (some 52) (bA 14 1983) HT_.out HW_.out hHeld ?_; refine join_ (σ := Nat) 1 (bA 14 8191) (fun s_ => [(48, .int .i64 t469), (13, .pointer (some ⟨s_, 0, none⟩)), (53, .agg #[.int .i64 t469, .int .i64 (rd t454 0)])]) (fun s_ w' => (w'.cell? ⟨gb450, 0, none⟩ = some (.int .i64 a0_0) ∧ w'.cell? ⟨gb450, 1, none⟩ = some (.slice A0_1 l0_1.length c0_1) ∧ w'.cell? ad468 = some (.int .i64 (rd t454 0)) ∧ w'.cell? ad468 = some (.int .i64 (rd t454 0))) ∧ (Kd.R (Kd.int .i64) 3 w' w.heap.size (fun k_ => some k_ ≠ (.slice Ao45 x9_1.length co45 : Value).ownBlock) (.slice (some ad468) t454.length co47) t454) ∧ (Kd.R k118 118 w' w.heap.size (fun k_ => k_ ≠ s_) u8 x8_1) ∧ (Kd.R (Kd.int .i64) 3 w' w.heap.size (fun k_ => some k_ ≠ (.slice (some ad468) t454.length co47 : Value).ownBlock) (.slice Ao45 x9_1.length co45) x9_1) ∧ (w'.heap[gb450]? = some (.cells #[.int .i64 a0_0, .slice A0_1 l0_1.length c0_1] 33 (0, 0))) ∧ (w'.heap[s_]? = some (.cells #[.int .i64 0, .int .i64 0] 118 (0, 0))) ∧ (w.heap.size ≤ s_) ∧ (w.heap.size ≤ s_) ∧ (gb450 ≠ s_) ∧ (s_ ≠ gb450) ∧ (Below w.heap.size w w')) ?_ ?_
          rotate_left
          ·intro hCont
           refine two_ (i := 6) (j := 12) (Ni := some 48) (Nj := some 13) (bA 14 2047) (bA 14 6079) rfl rfl rfl rfl (two_of HT_.out (by kernel_rfl)) (by decide) (by decide) (fun K hK => ?_) (fun K hK => ?_)
           ·skip
            refine gZ Try.func150 #[.agg #[.int .i64 a0_0, .slice A0_1 l0_1.length c0_1], .slice Ao45 x9_1.length co45, .int .i64 (rd t454 0)] ?_
            with_reducible refine (spec_peWith.calls kj7 a0_0 _ _ l0_1 _ _ x9_1 (rd t454 0) t469 _ ?side1 ?side2 ?side3 ?side4 A41.out).mono ?_
            (case side1 => exact Cz (Kd.C_below HR0_1.out HB.out))
            (case side2 => exact HC0_1.out)
            (case side3 => exact Cz ((Kd.R_reads' HO_9.out).2.2))
            (case side4 => exact (Kd.R_reads' HO_9.out).2.1)
            rintro e w49 ⟨rfl, hb⟩; have HS2_ := (hb.cell (World.block_lt_of_cell? _ _ (hHeld.2.2.1))).trans (hHeld.2.2.1); have HS3_ := (hb.cell (World.block_lt_of_cell? _ _ (hHeld.2.2.2))).trans (hHeld.2.2.2); refine ⟨_, rfl, ?_⟩; have n0_ := Rb HO_8 hb; have n1_ := Rb HO_9 hb; have n2_ := Rb HO456 hb; have n3_ := Kb BK450 hb; have n4_ := Bc HB hb; clear HO_8 HO_9 HO456 BK450 HB; revert n0_ n1_ n2_ n3_ n4_; intro HO_8 HO_9 HO456 BK450 HB
            (try clear hb)
            (try clear hb2)
            (try clear hk)
            (try clear hi)
            refine hK.out _ _ ⟨cz BK450 0, cz BK450 1, HS2_, HS3_⟩ (fun hHeld => ?_); clear hK K; refine norm_ (a' := ?_) ?_ ?_; rotate_left; show Act.put _ (some 48) _ = _; simp only [aP, i64_w, i32_w]; rfl; refine pZ 11 (some 53) (bA 14 4095) HT_.out ?_; refine oZ 12 (some 13) (bA 14 8191) HT_.out (fun K hK => ?_); refine box_step ?hg (N := 13) ?hd (cs := #[.int .i64 0, .int .i64 0]) (t := 118) ?hr ?_; (case hd => rfl); (case hg => rfl); (case hr => first | (go_simp; done) | (go_simp; rfl)); intro gb471 hg w50 hbox hb; have HS2_ := (hb.cell (World.block_lt_of_cell? _ _ (hHeld.2.2.1))).trans (hHeld.2.2.1); have HS3_ := (hb.cell (World.block_lt_of_cell? _ _ (hHeld.2.2.2))).trans (hHeld.2.2.2); have n0_ := am (Kd.R_below (Kd.R_elderB (Rz HO_8.out) gb471 (Nat.le_of_eq hg.symm)) hb); have n1_ := Rb HO_9 hb; have n2_ := Rb HO456 hb; have n3_ := Kb BK450 hb; have n4_ := Bc HB hb; have n5_ := am (hbox); have n6_ := Gm HB hg; have n7_ := Gm HB hg; have n8_ := Nl BK450 hg; have n9_ := Ng BK450 hg; clear HO_8 HO_9 HO456 BK450 HB; revert n0_ n1_ n2_ n3_ n4_ n5_ n6_ n7_ n8_ n9_; intro HO_8 HO_9 HO456 BK450 HB BK471 GW471 GE471 NB450_471 NB471_450; clear hb hbox hg; refine hK.out _ _ ⟨cz BK450 0, cz BK450 1, HS2_, HS3_⟩ (fun hHeld => ?_); clear hK K; refine norm_ (a' := ?_) ?_ ?_; rotate_left; show Act.put _ (some 13) _ = _; simp only [aP, i64_w, i32_w]; rfl; exact norm_ (by simp only [putAll, aP]) (hCont (gb471) _ ⟨hHeld, (Rz (Kd.R_mono HO456.out (fun _ hk => hk.2))), (Rz (Kd.R_mono HO_8.out (fun _ hk => hk.2))), (Rz (Kd.R_mono HO_9.out (fun _ hk => hk.2))), (Kz BK450.out), (Kz BK471.out), GW471.out, GE471.out, NB450_471.out, NB471_450.out, (Bq)⟩)
           ·skip
            refine box_step ?hg (N := 13) ?hd (cs := #[.int .i64 0, .int .i64 0]) (t := 118) ?hr ?_; (case hd => rfl); (case hg => rfl); (case hr => first | (go_simp; done) | (go_simp; rfl)); intro gb471 hg w49 hbox hb; have HS2_ := (hb.cell (World.block_lt_of_cell? _ _ (hHeld.2.2.1))).trans (hHeld.2.2.1); have HS3_ := (hb.cell (World.block_lt_of_cell? _ _ (hHeld.2.2.2))).trans (hHeld.2.2.2); have n0_ := am (Kd.R_below (Kd.R_elderB (Rz HO_8.out) gb471 (Nat.le_of_eq hg.symm)) hb); have n1_ := Rb HO_9 hb; have n2_ := Rb HO456 hb; have n3_ := Kb BK450 hb; have n4_ := Bc HB hb; have n5_ := am (hbox); have n6_ := Gm HB hg; have n7_ := Gm HB hg; have n8_ := Nl BK450 hg; have n9_ := Ng BK450 hg; clear HO_8 HO_9 HO456 BK450 HB; revert n0_ n1_ n2_ n3_ n4_ n5_ n6_ n7_ n8_ n9_; intro HO_8 HO_9 HO456 BK450 HB BK471 GW471 GE471 NB450_471 NB471_450; clear hb hbox hg; refine hK.out _ _ ⟨cz BK450 0, cz BK450 1, HS2_, HS3_⟩ (fun hHeld => ?_); clear hK K; refine norm_ (a' := ?_) ?_ ?_; rotate_left; show Act.put _ (some 13) _ = _; simp only [aP, i64_w, i32_w]; rfl; refine oZ 6 (some 48) (bA 14 6143) HT_.out (fun K hK => ?_); refine gZ Try.func150 #[.agg #[.int .i64 a0_0, .slice A0_1 l0_1.length c0_1], .slice Ao45 x9_1.length co45, .int .i64 (rd t454 0)] ?_
            with_reducible refine (spec_peWith.calls kj7 a0_0 _ _ l0_1 _ _ x9_1 (rd t454 0) t469 _ ?side1 ?side2 ?side3 ?side4 A41.out).mono ?_
            (case side1 => exact Cz (Kd.C_below HR0_1.out HB.out))
            (case side2 => exact HC0_1.out)
            (case side3 => exact Cz ((Kd.R_reads' HO_9.out).2.2))
            (case side4 => exact (Kd.R_reads' HO_9.out).2.1)
            rintro e w50 ⟨rfl, hb⟩; have HS2_ := (hb.cell (World.block_lt_of_cell? _ _ (hHeld.2.2.1))).trans (hHeld.2.2.1); have HS3_ := (hb.cell (World.block_lt_of_cell? _ _ (hHeld.2.2.2))).trans (hHeld.2.2.2); refine ⟨_, rfl, ?_⟩; have n0_ := Rb HO_8 hb; have n1_ := Rb HO_9 hb; have n2_ := Rb HO456 hb; have n3_ := Kb BK450 hb; have n4_ := Kb BK471 hb; have n5_ := Bc HB hb; clear HO_8 HO_9 HO456 BK450 BK471 HB; revert n0_ n1_ n2_ n3_ n4_ n5_; intro HO_8 HO_9 HO456 BK450 BK471 HB
            (try clear hb)
            (try clear hb2)
            (try clear hk)
            (try clear hi)
            refine hK.out _ _ ⟨cz BK450 0, cz BK450 1, HS2_, HS3_⟩ (fun hHeld => ?_); clear hK K; refine norm_ (a' := ?_) ?_ ?_; rotate_left; show Act.put _ (some 48) _ = _; simp only [aP, i64_w, i32_w]; rfl; refine pZ 11 (some 53) (bA 14 8191) HT_.out ?_; exact norm_ (by simp only [putAll, aP]) (hCont (gb471) _ ⟨hHeld, (Rz (Kd.R_mono HO456.out (fun _ hk => hk.2))), (Rz (Kd.R_mono HO_8.out (fun _ hk => hk.2))), (Rz (Kd.R_mono HO_9.out (fun _ hk => hk.2))), (Kz BK450.out), (Kz BK471.out), GW471.out, GE471.out, NB450_471.out, NB471_450.out, (Bq)⟩)
          rintro gb471 w51 ⟨hS_, h0_, h1_, h2_, h3_, h4_, h5_, h6_, h7_, h8_, h9_⟩; have n0_ : Aside0 (Kd.R (Kd.int .i64) 3 w51 w.heap.size (fun k_ => some k_ ≠ (.slice Ao45 x9_1.length co45 : Value).ownBlock) (.slice (some ad468) t454.length co47) t454) := ⟨h0_⟩; have n1_ : Aside0 (Kd.R k118 118 w51 w.heap.size (fun k_ => k_ ≠ gb471) u8 x8_1) := ⟨h1_⟩; have n2_ : Aside0 (Kd.R (Kd.int .i64) 3 w51 w.heap.size (fun k_ => some k_ ≠ (.slice (some ad468) t454.length co47 : Value).ownBlock) (.slice Ao45 x9_1.length co45) x9_1) := ⟨h2_⟩; have n3_ : Aside0 (w51.heap[gb450]? = some (.cells #[.int .i64 a0_0, .slice A0_1 l0_1.length c0_1] 33 (0, 0))) := ⟨h3_⟩; have n4_ : Aside0 (w51.heap[gb471]? = some (.cells #[.int .i64 0, .int .i64 0] 118 (0, 0))) := ⟨h4_⟩; have n5_ : Aside0 (w.heap.size ≤ gb471) := ⟨h5_⟩; have n6_ : Aside0 (w.heap.size ≤ gb471) := ⟨h6_⟩; have n7_ : Aside0 (gb450 ≠ gb471) := ⟨h7_⟩; have n8_ : Aside0 (gb471 ≠ gb450) := ⟨h8_⟩; have n9_ : Aside0 (Below w.heap.size w w51) := ⟨h9_⟩; clear HO_8 HO_9 HO456 BK450 HB; clear h0_ h1_ h2_ h3_ h4_ h5_ h6_ h7_ h8_ h9_; revert n0_ n1_ n2_ n3_ n4_ n5_ n6_ n7_ n8_ n9_; intro HO456 HO_8 HO_9 BK450 BK471 GW471 GE471 NB450_471 NB471_450 HB; have hHeld : w51.cell? ⟨gb450, 0, none⟩ = some (.int .i64 a0_0) ∧ w51.cell? ⟨gb450, 1, none⟩ = some (.slice A0_1 l0_1.length c0_1) ∧ w51.cell? ad468 = some (.int .i64 (rd t454 0)) ∧ w51.cell? ad468 = some (.int .i64 (rd t454 0)) := hS_; refine norm_ (a' := ?_) ?_ ?_
          rotate_left
          ·simp only [putAll, aP]
           rfl
          refine oZ 13 none (bA 14 16383) HT_.out (fun K hK => ?_); have hs52 : w51.cell? ⟨gb471, 0, none⟩ = some (.int .i64 0) := cz BK471 0; have hfs52 := blk_frozen BK471.out 0; have hns52_0 := NB450_471.out; have hms52_0 := NB471_450.out; have hs53 : w51.cell? ⟨gb471, 1, none⟩ = some (.int .i64 0) := cz BK471 1; have hfs53 := blk_frozen BK471.out 1; have hns53_0 := NB450_471.out; have hms53_0 := NB471_450.out; refine skip_ (w1 := ?_) (by rfl) rfl ?_ ?_
          rotate_left
          ·go_simp
           rfl
          refine hK.out _ _ ⟨((cell_far (p := ⟨gb471, _, none⟩) NB450_471.out _).trans (((cell_far (p := ⟨gb471, _, none⟩) NB450_471.out _).trans (hHeld.1)))), ((cell_far (p := ⟨gb471, _, none⟩) NB450_471.out _).trans (((cell_far (p := ⟨gb471, _, none⟩) NB450_471.out _).trans (hHeld.2.1)))), ((cell_far (p := ⟨gb471, _, none⟩) (by first | exact Kd.own_blk (Kd.R_ne HO456.out BK471.out (by decide)) | (rw [add_block]; exact Kd.own_blk (Kd.R_ne HO456.out BK471.out (by decide))) | (show (Addr.add _ _).block ≠ _; rw [add_block]; exact Kd.own_blk (Kd.R_ne HO456.out BK471.out (by decide))) | (dsimp only; exact Kd.own_blk (Kd.R_ne HO456.out BK471.out (by decide)))) _).trans (((cell_far (p := ⟨gb471, _, none⟩) (by first | exact Kd.own_blk (Kd.R_ne HO456.out BK471.out (by decide)) | (rw [add_block]; exact Kd.own_blk (Kd.R_ne HO456.out BK471.out (by decide))) | (show (Addr.add _ _).block ≠ _; rw [add_block]; exact Kd.own_blk (Kd.R_ne HO456.out BK471.out (by decide))) | (dsimp only; exact Kd.own_blk (Kd.R_ne HO456.out BK471.out (by decide)))) _).trans (hHeld.2.2.1)))), ((cell_far (p := ⟨gb471, _, none⟩) (by first | exact Kd.own_blk (Kd.R_ne HO456.out BK471.out (by decide)) | (rw [add_block]; exact Kd.own_blk (Kd.R_ne HO456.out BK471.out (by decide))) | (show (Addr.add _ _).block ≠ _; rw [add_block]; exact Kd.own_blk (Kd.R_ne HO456.out BK471.out (by decide))) | (dsimp only; exact Kd.own_blk (Kd.R_ne HO456.out BK471.out (by decide)))) _).trans (((cell_far (p := ⟨gb471, _, none⟩) (by first | exact Kd.own_blk (Kd.R_ne HO456.out BK471.out (by decide)) | (rw [add_block]; exact Kd.own_blk (Kd.R_ne HO456.out BK471.out (by decide))) | (show (Addr.add _ _).block ≠ _; rw [add_block]; exact Kd.own_blk (Kd.R_ne HO456.out BK471.out (by decide))) | (dsimp only; exact Kd.own_blk (Kd.R_ne HO456.out BK471.out (by decide)))) _).trans (hHeld.2.2.2))))⟩ (fun hHeld => ?_); clear hK K; refine done_ (done_of HT_.out (by kernel_rfl)) ?_; have hnb54 := NB471_450.out; have hnc54 := NB450_471.out; obtain ⟨hcz55_0, hcz55_1, hfz55_0, hfz55_1⟩ := cf2 (w := w51) BK471
          try go_wp2_with (first | ((with_reducible refine gate_builtin (b := .append) (xs := #[.tmp 54, .tmp 56]) rfl ?_); (try (refine gate_guard (by rfl) ?_; dsimp only)); at_builtin; refine Kd.R_append k118 (w0 := w) w.heap.size rfl (.tmp 54) (.tmp 56) 111 118 (.agg #[(.int .i64 0), (.int .i64 0)]) 16 rfl Try.underlying111 info118 rfl (by decide) (by omega) u8 x8_1 (⟨t469, rd t454 0⟩ : S118) [.int .i64 t469, .int .i64 (rd t454 0)] (fun k_ => k_ ≠ gb471) (fun _ => False) rfl (by first | (go_simp; done) | (go_simp; rfl)) ?aP (fun _ hk => hk.elim) ?aF ?aO ?aB ?aS ?aL ?_; (case aP => exact k118_mkM _ _ _ (⟨t469, rd t454 0⟩ : S118)); (case aB => exact (Bq)); (case aF => exact (fun k_ hk => Kd.freshB (g := gb471) (o := .cells #[.int .i64 t469, .int .i64 (rd t454 0)] 118 (0, 0)) (by (with_reducible repeat (first | refine blk_drewN ?_ _ | refine blk_drew ?_ | refine blk_alloc ?_ _)); refine blk_put (cs := #[.int .i64 t469, .int .i64 0]) ?_ 1 _ rfl; (with_reducible repeat (first | refine blk_drewN ?_ _ | refine blk_drew ?_ | refine blk_alloc ?_ _)); refine blk_put (cs := #[.int .i64 0, .int .i64 0]) ?_ 0 _ rfl; exact Kz BK471.out) k_ hk)); (case aO => exact (Rz (Kd.R_mono (Kd.R_far (p := ⟨gb471, 1, none⟩) (Kd.R_far (p := ⟨gb471, 0, none⟩) (Kd.R_mono HO_8.out (fun k_ hk => (⟨hk, hk⟩ : _ ∧ k_ ≠ gb471))) (fun _ hk => hk.2) (.int .i64 t469)) (fun _ hk => hk.2) (.int .i64 (rd t454 0))) (fun _ hk => hk.1)))); (case aS => exact (below_size (w := w) (Bq))); (case aL => have := LMc42.out; omega); intro v473 w56 ho hb hg hat; rw [← Ny472.out] at ho; have n0_ := am (Kd.R_over' (Rz (Kd.R_mono (Kd.R_far (p := ⟨gb471, 1, none⟩) (Kd.R_far (p := ⟨gb471, 0, none⟩) (Kd.R_types HO_9.out BK471.out (by decide)) (fun _ hk => hk.2) (.int .i64 t469)) (fun _ hk => hk.2) (.int .i64 (rd t454 0))) (fun _ h_ => h_.1))) (Kd.R_typed (Rz (Kd.R_mono (Kd.R_far (p := ⟨gb471, 1, none⟩) (Kd.R_far (p := ⟨gb471, 0, none⟩) (Kd.R_mono HO_8.out (fun k_ hk => (⟨hk, hk⟩ : _ ∧ k_ ≠ gb471))) (fun _ hk => hk.2) (.int .i64 t469)) (fun _ hk => hk.2) (.int .i64 (rd t454 0))) (fun _ h_ => h_.1)))) (by decide) hg); have n1_ := am (blk_grown (g := gb450) (o := .cells #[.int .i64 a0_0, .slice A0_1 l0_1.length c0_1] 33 (0, 0)) (by (with_reducible repeat (first | refine blk_drewN ?_ _ | refine blk_drew ?_ | refine blk_alloc ?_ _)); refine blk_far ?_ NB450_471.out _; (with_reducible repeat (first | refine blk_drewN ?_ _ | refine blk_drew ?_ | refine blk_alloc ?_ _)); refine blk_far ?_ NB450_471.out _; exact Kz BK450.out) hg (Kd.R_ne HO_8.out BK450.out (by decide))); have n2_ := am (Kd.R_over' (Rz (Kd.R_mono (Kd.R_far (p := ⟨gb471, 1, none⟩) (Kd.R_far (p := ⟨gb471, 0, none⟩) (Kd.R_types HO456.out BK471.out (by decide)) (fun _ hk => hk.2) (.int .i64 t469)) (fun _ hk => hk.2) (.int .i64 (rd t454 0))) (fun _ h_ => h_.1))) (Kd.R_typed (Rz (Kd.R_mono (Kd.R_far (p := ⟨gb471, 1, none⟩) (Kd.R_far (p := ⟨gb471, 0, none⟩) (Kd.R_mono HO_8.out (fun k_ hk => (⟨hk, hk⟩ : _ ∧ k_ ≠ gb471))) (fun _ hk => hk.2) (.int .i64 t469)) (fun _ hk => hk.2) (.int .i64 (rd t454 0))) (fun _ h_ => h_.1)))) (by decide) hg); have n3_ := am (blk_grown (g := gb471) (o := .cells #[.int .i64 t469, .int .i64 (rd t454 0)] 118 (0, 0)) (by (with_reducible repeat (first | refine blk_drewN ?_ _ | refine blk_drew ?_ | refine blk_alloc ?_ _)); refine blk_put (cs := #[.int .i64 t469, .int .i64 0]) ?_ 1 _ rfl; (with_reducible repeat (first | refine blk_drewN ?_ _ | refine blk_drew ?_ | refine blk_alloc ?_ _)); refine blk_put (cs := #[.int .i64 0, .int .i64 0]) ?_ 0 _ rfl; exact Kz BK471.out) hg (Kd.R_away HO_8.out (fun _ hk => hk))); have n4_ := am (hb); have n5_ := am (ho); clear HO_9 BK450 HO456 BK471 HB HO_8; revert n0_ n1_ n2_ n3_ n4_ n5_; intro HO_9 BK450 HO456 BK471 HB HO474; clear ho hb hg hat; obtain ⟨hcz57_0, hcz57_1, hfz57_0, hfz57_1⟩ := cf2 (w := w56) BK471) | ((with_reducible refine gate_callee (f := 151) rfl ?_); refine gL (some 61) Try.func151 #[.slice Ao45 x9_1.length co45, .int .i64 t469] ?_; (with_reducible refine (spec_l1Drop.calls kj7 _ _ x9_1 t469 t475 _ ?side1 ?side2 A43.out).mono ?_); (case side1 => exact Cz ((Kd.R_reads' HO_9.out).2.2)); (case side2 => exact (Kd.R_reads' HO_9.out).2.1); rintro e w58 ⟨v476, rfl, ho0, hb⟩; refine ⟨_, rfl, ?_⟩; have n0_ := Re HO_9 (Kd.R_base ho0) hb; have n1_ := Re HO456 (Kd.R_base ho0) hb; have n2_ := Rb HO474 hb; have n3_ := Rm (Kd.R_new' (Kd.R_new' ho0 (Kd.R_lt (Rz HO_9.out))) (Kd.R_lt (Rz HO456.out))) HB; have n4_ := Kb BK450 hb; have n5_ := Kb BK471 hb; have n6_ := Bc HB hb; clear HO_9 HO456 HO474 BK450 BK471 HB; revert n0_ n1_ n2_ n3_ n4_ n5_ n6_; intro HO_9 HO456 HO474 HO477 BK450 BK471 HB; (try clear hb); (try clear hb2); (try clear hk); (try clear hi); (try clear ho0)))
          go_roundg kj7
          case measure => have := HK1.out; have := HJ7.out; omega
          case rel => exact ⟨(y472), (t475), (wrap64 (x10_1 + 1)), wZ, H', ⟨by have := HK1.out; have := HJ7.out; omega⟩, ⟨Rz (Kd.R_mono HO474.out (fun _ hk => trivial))⟩, ⟨Rz (Kd.R_mono HO477.out (fun _ hk => trivial))⟩, ⟨Kz BK450.out⟩, ⟨Bq⟩⟩
         ·rw [if_neg c42] at H
          exact absurd H (by simp)
        ·rw [if_neg c40] at H
         exact absurd H (by simp)
     ·replace c10 := Bool.eq_false_iff.mpr c10
      subst c10
      rw [if_neg (show ¬ (false = true) by decide)] at H
      simp only [Option.some.injEq, Prod.mk.injEq] at H
      obtain ⟨rfl, rfl⟩ := H
      go_wp2
      go_ret2
      exact ⟨_, _, eZ, Rz HO_8.out, Rz HO_9.out, Bq⟩

def spec_peCore.f (k : Nat) (a0_0 : Int) (l0_1 : List (List Int)) : Option (List Int) := (spec_pePeel.f k a0_0 l0_1 ([] : List Int) true).bind fun bt479 => (some bt479.2)
theorem spec_peCore.calls (k : Nat) (a0_0 : Int) (A0_1 : Option Addr) (c0_1 : Nat) (l0_1 : List (List Int)) (r : List Int) (w : World) (hr0_1 : Kd.C (Kd.slice 3 (Kd.int .i64)) w A0_1 l0_1.length l0_1) (hc0_1 : l0_1.length ≤ c0_1) (h : spec_peCore.f k a0_0 l0_1 = some r) :
  Calls Try.prog 147 #[.agg #[.int .i64 a0_0, .slice A0_1 l0_1.length c0_1]] w fun e w' => ∃ v0_ : Value, e = .returned (v0_) ∧ Kd.R (Kd.int .i64) 3 w' w.heap.size (fun _ => True) v0_ r ∧ Below w.heap.size w w' := by
 have hu33 := Try.underlying33; have HR0_1 := am hr0_1; have HC0_1 := am hc0_1; clear hr0_1 hc0_1; have HB := am (Below.refl w.heap.size w); have H : ((spec_pePeel.f k a0_0 l0_1 ([] : List Int) true).bind fun bt479 => (some bt479.2)) = some r := h; clear h; replace H := Option.bind_eq_some_iff.mp H; obtain ⟨⟨t479, t482⟩, A20, H⟩ := H; (try dsimp -simprocs only at H); have A2 := am A20; clear A20; obtain rfl := Option.some.inj H
 go_enter Try.func147, Try.ntmps147
 go_wp2_with (first | ((with_reducible refine gate_dst (N := 1) rfl ?_); refine bE 1 #[.int .i64 a0_0, .slice A0_1 l0_1.length c0_1] 33 ?_; intro gb478 hg w3 hbox hb; have n0_ := Bb HB hb; have n1_ := am (hbox); have n2_ := Gl HB hg; have n3_ := Gl HB hg; clear HB; revert n0_ n1_ n2_ n3_; intro HB BK478 GW478 GE478; clear hb hbox hg; obtain ⟨hcz4_0, hcz4_1, hfz4_0, hfz4_1⟩ := cf2 (w := w3) BK478) | ((with_reducible refine gate_callee (f := 82) rfl ?_); refine gL (some 7) Try.func82 #[.agg #[.int .i64 a0_0, .slice A0_1 l0_1.length c0_1], .slice none 0 0, .bool true] ?_; (refine (spec_pePeel.calls k a0_0 _ _ l0_1 _ _ ([] : List Int) true t479 t482 _ ?side1 ?side2 ?side3 ?side4 A2.out).mono ?_); (case side1 => exact Cz (Kd.C_below HR0_1.out HB.out)); (case side2 => exact HC0_1.out); (case side3 => exact Kd.C_nil _ _); (case side4 => exact Nat.le_refl _); rintro e w5 ⟨v480, v483, rfl, ho0, ho1, hb⟩; refine ⟨_, rfl, ?_⟩; have n0_ := Rm ho0 HB; have n1_ := Rm ho1 HB; have n2_ := Kb BK478 hb; have n3_ := Bc HB hb; clear BK478 HB; revert n0_ n1_ n2_ n3_; intro HO481 HO484 BK478 HB; (try clear hb); (try clear hb2); (try clear hk); (try clear hi); (try clear ho0); (try clear ho1)))
 go_ret
 exact ⟨_, eZ, Rz HO484.out, Bq⟩

def spec_pePeels.f (k : Nat) (a0 : Int) (l1 : List ByteArray) (a2 : Int) : Option (Bool) := (spec_peHyper.f k a0 l1 a2).bind fun bt485 => ((spec_peCore.f k bt485.1 bt485.2).bind fun t489 => (some ((t489.length : Int) == 0)))
theorem spec_pePeels.calls (k : Nat) (a0 : Int) (A1 : Option Addr) (c1 : Nat) (l1 : List ByteArray) (a2 : Int) (r : Bool) (w : World) (hr1 : Kd.C Kd.string w A1 l1.length l1) (hc1 : l1.length ≤ c1) (h : spec_pePeels.f k a0 l1 a2 = some r) :
  Calls Try.prog 80 #[.int .i64 a0, .slice A1 l1.length c1, .int .i64 a2] w fun e w' => e = .returned (.bool r) ∧ Below w.heap.size w w' := by
 have HR1 := am hr1; have HC1 := am hc1; clear hr1 hc1; have HB := am (Below.refl w.heap.size w); have H : ((spec_peHyper.f k a0 l1 a2).bind fun bt485 => ((spec_peCore.f k bt485.1 bt485.2).bind fun t489 => (some ((t489.length : Int) == 0)))) = some r := h; clear h; replace H := Option.bind_eq_some_iff.mp H; obtain ⟨⟨t485, t486⟩, A40, H⟩ := H; (try dsimp -simprocs only at H); have A4 := am A40; clear A40; replace H := Option.bind_eq_some_iff.mp H; obtain ⟨t489, A50, H⟩ := H; (try dsimp -simprocs only at H); have A5 := am A50; clear A50; obtain rfl := Option.some.inj H
 go_enter Try.func80, Try.ntmps80
 go_wp2_with (first | ((with_reducible refine gate_callee (f := 81) rfl ?_); refine gL (some 10) Try.func81 #[.int .i64 a0, .slice A1 l1.length c1, .int .i64 a2] ?_; (with_reducible refine (spec_peHyper.calls k a0 _ _ l1 a2 t485 t486 _ ?side1 ?side2 A4.out).mono ?_); (case side1 => exact Cz HR1.out); (case side2 => exact HC1.out); rintro e w6 ⟨v487, rfl, ho0, hb⟩; refine ⟨_, rfl, ?_⟩; have n0_ := am (Kd.S_lower ho0 (below_size (Bz HB.out))); have n1_ := Bb HB hb; clear HB; revert n0_ n1_; intro HO488 HB; (try clear hb); (try clear hb2); (try clear hk); (try clear hi); (try clear ho0); obtain ⟨Ao7, co7, eo7⟩ := Kd.S_slice HO488.out; subst eo7) | ((with_reducible refine gate_callee (f := 147) rfl ?_); refine gL (some 11) Try.func147 #[.agg #[.int .i64 t485, .slice Ao7 t486.length co7]] ?_; (with_reducible refine (spec_peCore.calls k t485 _ _ t486 t489 _ ?side1 ?side2 A5.out).mono ?_); (case side1 => exact Cz ((Kd.S_reads' HO488.out).2.2)); (case side2 => exact (Kd.S_reads' HO488.out).2.1); rintro e w8 ⟨v490, rfl, ho0, hb⟩; refine ⟨_, rfl, ?_⟩; have n0_ := am (Kd.S_elder' (by (with_reducible repeat (first | apply Kd.S_alloc | apply Kd.S_drewN | apply Kd.S_drew)); exact HO488.out) (Kd.R_base ho0) hb); have n1_ := Rl ho0 HB; have n2_ := Bb HB hb; clear HO488 HB; revert n0_ n1_ n2_; intro HO488 HO491 HB; (try clear hb); (try clear hb2); (try clear hk); (try clear hi); (try clear ho0); obtain ⟨Ao9, co9, eo9⟩ := Kd.R_slice HO491.out; subst eo9))
 go_ret
 exact ⟨eZ, Bz HB.out⟩

def spec_pfSum.l0 : Nat → List Int → Int → List Int → Int → Int → Option (Int)
 | 0, _, _, _, _, _ => none
 | k + 1, x0, x5, x8, x9, x10 => if x10 < x9 then (if 0 ≤ x10 then (if x10 < (x8.length : Int) then (if 0 ≤ (rd x8 x10) then (if (rd x8 x10) < (x0.length : Int) then (spec_pfSum.l0 k x0 (wrap64 (x5 + (rd x0 (rd x8 x10)))) x8 x9 (wrap64 (x10 + 1))) else (none)) else (none)) else (none)) else (none)) else (some x5)
def spec_pfSum.f (k : Nat) (l0 : List Int) (l1 : List Int) : Option (Int) := spec_pfSum.l0 k l0 0 l1 (l1.length : Int) 0
theorem spec_pfSum.calls (k : Nat) (A0 : Option Addr) (c0 : Nat) (l0 : List Int) (A1 : Option Addr) (c1 : Nat) (l1 : List Int) (r : Int) (w : World) (hr0 : Kd.C (Kd.int .i64) w A0 l0.length l0) (hc0 : l0.length ≤ c0) (hr1 : Kd.C (Kd.int .i64) w A1 l1.length l1) (hc1 : l1.length ≤ c1) (h : spec_pfSum.f k l0 l1 = some r) :
  Calls Try.prog 83 #[.slice A0 l0.length c0, .slice A1 l1.length c1] w fun e w' => e = .returned (.int .i64 r) ∧ Drawn0 w w' := by
 have HR0 := am hr0; have HC0 := am hc0; clear hr0 hc0; have HR1 := am hr1; have HC1 := am hc1; clear hr1 hc1; have H : (spec_pfSum.l0 k l0 0 l1 (l1.length : Int) 0) = some r := h; clear h; have H' := am H; clear H
 go_enter Try.func83, Try.ntmps83
 go_wp2
 go_loopg [5, 10] k (fun kq v5 v10 w' => ∃ (x5_1 : Int) (x10_1 : Int), v5 = .int .i64 x5_1 ∧ v10 = .int .i64 x10_1 ∧ Aside0 (spec_pfSum.l0 kq l0 x5_1 l1 (l1.length : Int) x10_1 = some r) ∧ Aside0 (kq ≤ k) ∧ Drawn0 w w')
 case atStart => exact ⟨(0), (0), wZ, wZ, H', ⟨Nat.le_refl _⟩, by repeat (first | exact Drawn0.refl _ | apply Drawn0.step)⟩
 case round =>
  clear H'
  try clear c1
  try clear p2
  obtain ⟨x5_1, x10_1, rfl, rfl, HA, HK1, ⟨m1, rfl⟩⟩ := hrel; cases gk with
  | zero => exact absurd HA.out (by simp [spec_pfSum.l0])
  | succ k1 =>
   have H := HA.out; clear HA
   simp only [spec_pfSum.l0] at H
   by_cases c3 : x10_1 < (l1.length : Int)
   ·rw [if_pos c3] at H
    have c3b0 : decide (x10_1 < (l1.length : Int)) = true := decide_eq_true c3; clear c3
    by_cases c4 : 0 ≤ x10_1
    ·rw [if_pos c4] at H
     have c4b0 : decide (0 ≤ x10_1) = true := decide_eq_true c4; clear c4
     by_cases c5 : x10_1 < (l1.length : Int)
     ·rw [if_pos c5] at H
      have c5b0 : decide (x10_1 < (l1.length : Int)) = true := decide_eq_true c5; clear c5
      by_cases c6 : 0 ≤ (rd l1 x10_1)
      ·rw [if_pos c6] at H
       have c6b0 : decide (0 ≤ (rd l1 x10_1)) = true := decide_eq_true c6; clear c6
       by_cases c7 : (rd l1 x10_1) < (l0.length : Int)
       ·rw [if_pos c7] at H
        have c7b0 : decide ((rd l1 x10_1) < (l0.length : Int)) = true := decide_eq_true c7; clear c7; have H' := am H; clear H; obtain ⟨ad492, e492, hx492_0⟩ := Kd.at_int HR1.out x10_1 dT dT; cases e492; have p492 := eT (0 ≤ (x10_1 : Int)); have q492 := eT (x10_1 < (l1.length : Int)); obtain ⟨ad493, e493, hx493_0⟩ := Kd.at_int HR0.out (rd l1 x10_1) dT dT; cases e493; have p493 := eT (0 ≤ ((rd l1 x10_1) : Int)); have q493 := eT ((rd l1 x10_1) < (l0.length : Int))
        go_wp2
        go_roundg k1
        case measure => have := HK1.out; omega
        case rel => exact ⟨(wrap64 (x5_1 + (rd l0 (rd l1 x10_1)))), (wrap64 (x10_1 + 1)), wZ, wZ, H', ⟨by have := HK1.out; omega⟩, by repeat (first | exact Drawn0.refl _ | apply Drawn0.step)⟩
       ·rw [if_neg c7] at H
        exact absurd H (by simp)
      ·rw [if_neg c6] at H
       exact absurd H (by simp)
     ·rw [if_neg c5] at H
      exact absurd H (by simp)
    ·rw [if_neg c4] at H
     exact absurd H (by simp)
   ·rw [if_neg c3] at H
    have c3b0 : decide (x10_1 < (l1.length : Int)) = false := decide_eq_false c3; clear c3; obtain rfl := Option.some.inj H
    go_wp2
    go_ret
    exact ⟨by first | rfl | (simp; done) | (simp [*]; done), by repeat (first | exact Drawn0.refl _ | apply Drawn0.step)⟩

mutual
def spec_BuildOrdered.j0 : Nat → Int → List ByteArray → Int → Bool → Option (Int × Int × Int × List Int × Bool)
 | 0, _, _, _, _ => none
 | k + 1, x0, x1, x2, x30 => if x30 = true then (some (0, 0, 0, ([] : List Int), false)) else ((spec_peHyper.f k x0 x1 x2).bind fun bt497 => ((spec_pePeel.f k bt497.1 bt497.2 ([] : List Int) true).bind fun bt502 => (if 0 ≤ (wrap64 (3 * x2)) then (if (wrap64 (3 * x2) : Int).toNat ≤ 35184372088832 then (spec_BuildOrdered.l0 k bt502.1 (wrap64 ((bt502.1.length : Int) - 1)) bt497.1 bt497.2 x0 x2 (x1.length : Int) (List.replicate (wrap64 (3 * x2) : Int).toNat 0)) else (none)) else (none))))
def spec_BuildOrdered.l0 : Nat → List (S118) → Int → Int → List (List Int) → Int → Int → Int → List Int → Option (Int × Int × Int × List Int × Bool)
 | 0, _, _, _, _, _, _, _, _ => none
 | k + 1, x9, x12, x502000, x502001, x512000, x512001, x512002, x512003 => if x12 ≥ 0 then (if 0 ≤ x12 then (if x12 < (x9.length : Int) then (if 0 ≤ ((rd_T118 x9 x12).f0) then (if ((rd_T118 x9 x12).f0) < (x502001.length : Int) then ((spec_pfSum.f k x512003 (rd_L3 x502001 ((rd_T118 x9 x12).f0))).bind fun t515 => (if x512002 = 0 then (none) else (if 0 ≤ ((rd_T118 x9 x12).f1) then (if ((rd_T118 x9 x12).f1) < (x512003.length : Int) then (spec_BuildOrdered.l0 k x9 (wrap64 (x12 - 1)) x502000 x502001 x512000 x512001 x512002 (x512003.set (((rd_T118 x9 x12).f1) : Int).toNat (Int.tmod (wrap64 (((rd_T118 x9 x12).f0) + (wrap64 ((wrap64 (x512002 - 1)) * t515)))) x512002))) else (none)) else (none)))) else (none)) else (none)) else (none)) else (none)) else (some (x512000, x512001, x512002, x512003, true))
end
def spec_BuildOrdered.f (k : Nat) (a0 : Int) (l1 : List ByteArray) (a2 : Int) : Option (Int × Int × Int × List Int × Bool) := (spec_peKeyed.f k a0 l1 a2).bind fun t495 => (if t495 = true then (if (l1.length : Int) = 0 then (spec_BuildOrdered.j0 k a0 l1 a2 true) else ((spec_pePeels.f k a0 l1 a2).bind fun t496 => (spec_BuildOrdered.j0 k a0 l1 a2 (!t496)))) else (spec_BuildOrdered.j0 k a0 l1 a2 true))
def spec_BuildOrdered.T10 : Bool × List (List Nat × List Nat) := (true, [([], []), ([0], [0]), ([], []), ([], []), ([2, 3], [2, 3]), ([4], [4]), ([5], [5]), ([], []), ([], []), ([8], [8]), ([9], [9]), ([], []), ([11], [11]), ([], []), ([13], [13]), ([], []), ([14, 15], [14, 15]), ([16], [16]), ([12, 17], [12, 17]), ([10, 18], [10, 18]), ([7, 19], [7, 19]), ([], []), ([21], [21]), ([20, 22], [20, 22]), ([1, 6, 0, 1, 2, 3, 4, 5, 6, 7, 8, 9, 10, 11, 12, 13, 14, 15, 16, 17, 18, 19, 20, 21, 22, 23], [1, 6]), ([24, 23, 18, 0, 1, 2, 3, 4, 5, 6, 7, 8, 9, 10, 11, 12, 13, 14, 15, 16, 17, 18, 19, 20, 21, 22, 23], [23, 24])])
def spec_BuildOrdered.B10 : List Nat := [0, 1, 0, 0, 12, 28, 60, 0, 0, 256, 768, 0, 2048, 0, 8192, 0, 57344, 122880, 260096, 524032, 1048448, 0, 2097152, 8388480, 16777215, 33554431]
theorem spec_BuildOrdered.tab10 : rtab .any (opsOf Try.f20 10) = spec_BuildOrdered.T10 := by kernel_rfl
theorem spec_BuildOrdered.bits10 : waitsOk spec_BuildOrdered.T10.2 spec_BuildOrdered.B10 = true := by kernel_rfl
theorem spec_BuildOrdered.calls (k : Nat) (a0 : Int) (A1 : Option Addr) (c1 : Nat) (l1 : List ByteArray) (a2 : Int) (r1 : Int) (r2 : Int) (r3 : Int) (r4 : List Int) (r5 : Bool) (w : World) (hr1 : Kd.C Kd.string w A1 l1.length l1) (hc1 : l1.length ≤ c1) (h : spec_BuildOrdered.f k a0 l1 a2 = some (r1, r2, r3, r4, r5)) :
  Calls Try.prog 20 #[.int .i64 a0, .slice A1 l1.length c1, .int .i64 a2] w fun e w' => ∃ v3_ : Value, e = .returned (.tuple #[.agg #[.int .i64 r1, .int .i64 r2, .int .i64 r3, v3_], .bool r5]) ∧ Kd.R (Kd.int .i64) 3 w' w.heap.size (fun _ => True) v3_ r4 ∧ Below w.heap.size w w' := by
 have hu50 := Try.underlying50; have hu33 := Try.underlying33; have HR1 := am hr1; have HC1 := am hc1; clear hr1 hc1; have HB := am (Below.refl w.heap.size w); have H : ((spec_peKeyed.f k a0 l1 a2).bind fun t495 => (if t495 = true then (if (l1.length : Int) = 0 then (spec_BuildOrdered.j0 k a0 l1 a2 true) else ((spec_pePeels.f k a0 l1 a2).bind fun t496 => (spec_BuildOrdered.j0 k a0 l1 a2 (!t496)))) else (spec_BuildOrdered.j0 k a0 l1 a2 true))) = some (r1, r2, r3, r4, r5) := h; clear h; have HC4 := am H; clear H
 go_enter Try.func20, Try.ntmps20
 go_upto_region 1 with (first | ((with_reducible refine gate_dst (N := 6) rfl ?_); (try (refine gate_guard (by rfl) ?_; dsimp only)); refine bE 6 #[.int .i64 0, .int .i64 0, .int .i64 0, .slice none 0 0] 50 ?_; intro gb494 hg w5 hbox hb; have n0_ := Bb HB hb; have n1_ := am (hbox); have n2_ := Gl HB hg; have n3_ := Gl HB hg; clear HB; revert n0_ n1_ n2_ n3_; intro HB BK494 GW494 GE494; clear hb hbox hg))
 (try simp only [aP])
 go_cut [30] (fun v30 wc => ∃ (kq : Nat) (x30_3 : Bool), v30 = .bool x30_3 ∧ Aside0 (spec_BuildOrdered.j0 kq a0 l1 a2 x30_3 = some (r1, r2, r3, r4, r5)) ∧ Aside0 (kq ≤ k) ∧ Aside0 (wc.heap[gb494]? = some (.cells #[.int .i64 0, .int .i64 0, .int .i64 0, (.slice none 0 0)] 50 (0, 0))) ∧ Aside0 (Below w.heap.size w wc))
 case first =>
  have H := HC4.out; clear HC4; replace H := Option.bind_eq_some_iff.mp H; obtain ⟨t495, A60, H⟩ := H; (try dsimp -simprocs only at H); have A6 := am A60; clear A60
  by_cases c7 : t495 = true
  ·subst c7
   rw [if_pos rfl] at H
   by_cases c8 : (l1.length : Int) = 0
   ·rw [if_pos c8] at H
    have c8b0 : ((l1.length : Int) == 0) = true := beq_iff_eq.mpr c8; have c8b1 : ((l1.length : Int) != 0) = false := bne_eq_false_iff_eq.mpr c8; clear c8
    (first | rw [c8b0] | (simp only [i64_w, i32_w]; rw [c8b0]) | skip)
    have H' := am H; clear H
    go_wp2_with (first | ((with_reducible refine gate_callee (f := 79) rfl ?_); refine gL (some 17) Try.func79 #[.int .i64 a0, .slice A1 l1.length c1, .int .i64 a2] ?_; (with_reducible refine (spec_peKeyed.calls k a0 _ _ l1 a2 true _ ?side1 ?side2 A6.out).mono ?_); (case side1 => exact Cz (Kd.C_below HR1.out HB.out)); (case side2 => exact HC1.out); rintro e w' ⟨rfl, ⟨nd, rfl⟩⟩; refine ⟨_, rfl, ?_⟩))
    go_meet
    case rel => exact ⟨_, (true), wZ, H', ⟨by first | omega | exact Nat.le_refl _⟩, ⟨Kz BK494.out⟩, ⟨Bq⟩⟩
   ·rw [if_neg c8] at H
    have c8b0 : ((l1.length : Int) == 0) = false := beq_eq_false_iff_ne.mpr c8; have c8b1 : ((l1.length : Int) != 0) = true := bne_iff_ne.mpr c8
    have c8b2 : ¬ (l1 = []) := fun h_ => c8 (by rw [h_]; rfl)
    (first | rw [c8b0] | (simp only [i64_w, i32_w]; rw [c8b0]) | skip)
    replace H := Option.bind_eq_some_iff.mp H; obtain ⟨t496, A90, H⟩ := H; (try dsimp -simprocs only at H); have A9 := am A90; clear A90; have H' := am H; clear H
    go_wp2_with (first | ((with_reducible refine gate_callee (f := 79) rfl ?_); refine gL (some 17) Try.func79 #[.int .i64 a0, .slice A1 l1.length c1, .int .i64 a2] ?_; (with_reducible refine (spec_peKeyed.calls k a0 _ _ l1 a2 true _ ?side1 ?side2 A6.out).mono ?_); (case side1 => exact Cz (Kd.C_below HR1.out HB.out)); (case side2 => exact HC1.out); rintro e w' ⟨rfl, ⟨nd, rfl⟩⟩; refine ⟨_, rfl, ?_⟩) | (go_at_call 80; (with_reducible refine (spec_pePeels.calls k a0 _ _ l1 a2 t496 _ ?side1 ?side2 A9.out).mono ?_); (case side1 => exact Cz (Kd.C_below HR1.out (Bq))); (case side2 => exact HC1.out); rintro e w10 ⟨rfl, hb⟩; have n0_ := Kb BK494 hb; have n1_ := Bc HB hb; clear BK494 HB; revert n0_ n1_; intro BK494 HB; (try clear hb); (try clear hb2); (try clear hk); (try clear hi)))
    go_meet
    case rel => exact ⟨_, (!t496), wZ, H', ⟨by first | omega | exact Nat.le_refl _⟩, ⟨Kz BK494.out⟩, ⟨Bq⟩⟩
  ·replace c7 := Bool.eq_false_iff.mpr c7
   subst c7
   rw [if_neg (show ¬ (false = true) by decide)] at H; have H' := am H; clear H
   go_wp2_with (first | ((with_reducible refine gate_callee (f := 79) rfl ?_); refine gL (some 17) Try.func79 #[.int .i64 a0, .slice A1 l1.length c1, .int .i64 a2] ?_; (with_reducible refine (spec_peKeyed.calls k a0 _ _ l1 a2 false _ ?side1 ?side2 A6.out).mono ?_); (case side1 => exact Cz (Kd.C_below HR1.out HB.out)); (case side2 => exact HC1.out); rintro e w' ⟨rfl, ⟨nd, rfl⟩⟩; refine ⟨_, rfl, ?_⟩))
   go_meet
   case rel => exact ⟨_, (true), wZ, H', ⟨by first | omega | exact Nat.le_refl _⟩, ⟨Kz BK494.out⟩, ⟨Bq⟩⟩
 case rest =>
  clear HC4
  try clear c1
  try clear c2
  try clear p2
  try clear c7
  try clear c8
  try clear c8b0
  try clear c8b1
  try clear c8b2
  obtain ⟨kq, x30_3, rfl, HA, HJ3, BK494, HB⟩ := hcut; cases kq with
  | zero => exact absurd HA.out (by simp [spec_BuildOrdered.j0])
  | succ kj3 =>
   have H := HA.out; clear HA
   simp only [spec_BuildOrdered.j0] at H
   by_cases c11 : x30_3 = true
   ·subst c11
    rw [if_pos rfl] at H
    simp only [Option.some.injEq, Prod.mk.injEq] at H
    obtain ⟨rfl, rfl, rfl, rfl, rfl⟩ := H; obtain ⟨hcz12_0, hcz12_1, hcz12_2, hcz12_3, hfz12_0, hfz12_1, hfz12_2, hfz12_3⟩ := cf4 (w := wc) BK494
    go_wp2
    refine bodyPost_ret (results_ct rfl _ _ gb494 50 #[.int .i64 0, .int .i64 0, .int .i64 0, .slice none 0 0] (0, 0) _ rfl (by (with_reducible repeat (first | refine blk_drewN ?_ _ | refine blk_drew ?_ | refine blk_alloc ?_ _)); refine blk_put (cs := #[.int .i64 0, .int .i64 0, .int .i64 0, .slice none 0 0]) ?_ 3 _ rfl; (with_reducible repeat (first | refine blk_drewN ?_ _ | refine blk_drew ?_ | refine blk_alloc ?_ _)); refine blk_put (cs := #[.int .i64 0, .int .i64 0, .int .i64 0, .slice none 0 0]) ?_ 2 _ rfl; (with_reducible repeat (first | refine blk_drewN ?_ _ | refine blk_drew ?_ | refine blk_alloc ?_ _)); refine blk_put (cs := #[.int .i64 0, .int .i64 0, .int .i64 0, .slice none 0 0]) ?_ 1 _ rfl; (with_reducible repeat (first | refine blk_drewN ?_ _ | refine blk_drew ?_ | refine blk_alloc ?_ _)); refine blk_put (cs := #[.int .i64 0, .int .i64 0, .int .i64 0, .slice none 0 0]) ?_ 0 _ rfl; exact Kz BK494.out) Try.underlying50 rfl (by kernel_rfl)) rfl ?_; exact ⟨_, eZ, nZ, Bq⟩
   ·replace c11 := Bool.eq_false_iff.mpr c11
    subst c11
    rw [if_neg (show ¬ (false = true) by decide)] at H; replace H := Option.bind_eq_some_iff.mp H; obtain ⟨⟨t497, t498⟩, A130, H⟩ := H; (try dsimp -simprocs only at H); have A13 := am A130; clear A130; replace H := Option.bind_eq_some_iff.mp H; obtain ⟨⟨t502, t505⟩, A140, H⟩ := H; (try dsimp -simprocs only at H); have A14 := am A140; clear A140; obtain ⟨ji15, hji15⟩ : ∃ j_ : Int, (wrap64 (3 * a2)) = j_ := ⟨_, rfl⟩
    replace H : (if 0 ≤ (ji15) then (if (ji15 : Int).toNat ≤ 35184372088832 then (spec_BuildOrdered.l0 kj3 t502 (wrap64 ((t502.length : Int) - 1)) t497 t498 a0 a2 (l1.length : Int) (List.replicate (ji15 : Int).toNat 0)) else (none)) else (none)) = some (r1, r2, r3, r4, r5) := by first | (rw [hji15] at H; exact H) | (simp only [hji15] at H ⊢; exact H)
    (try rw [hji15] at A13)
    (try rw [hji15] at A14)
    have hji15w : (IntKind.i64.wrap (3 * a2)) = ji15 := (i64_w _).trans hji15
    by_cases c16 : 0 ≤ (ji15)
    ·rw [if_pos c16] at H
     have c16b0 := eq_true c16; have c16b1 : decide (0 ≤ (ji15)) = true := decide_eq_true c16; clear c16
     by_cases c17 : (ji15 : Int).toNat ≤ 35184372088832
     ·rw [if_pos c17] at H
      have c17b0 := eq_true c17; have c17b1 : decide ((ji15 : Int).toNat ≤ 35184372088832) = true := decide_eq_true c17; clear c17; obtain ⟨y508, hy508⟩ : ∃ y_ : List Int, y_ = (List.replicate (ji15 : Int).toNat 0) := ⟨_, rfl⟩
      replace H : (spec_BuildOrdered.l0 kj3 t502 (wrap64 ((t502.length : Int) - 1)) t497 t498 a0 a2 (l1.length : Int) y508) = some (r1, r2, r3, r4, r5) := by first | (rw [hy508]; with_reducible exact H) | (have H2_ := (Option.bind_some _ _).symm.trans H; rw [hy508]; with_reducible exact H2_) | (have H2_ := (Option.bind_some _ _).symm.trans H; with_reducible exact H2_) | with_reducible exact H | (rw [hy508]; exact H) | exact H
      have Ny508 := am hy508; clear hy508; have H' := am H; clear H
      go_wp2_with (first | ((with_reducible refine gate_callee (f := 81) rfl ?_); refine gL (some 35) Try.func81 #[.int .i64 a0, .slice A1 l1.length c1, .int .i64 a2] ?_; (with_reducible refine (spec_peHyper.calls kj3 a0 _ _ l1 a2 t497 t498 _ ?side1 ?side2 A13.out).mono ?_); (case side1 => exact Cz (Kd.C_below HR1.out HB.out)); (case side2 => exact HC1.out); rintro e w18 ⟨v499, rfl, ho0, hb⟩; refine ⟨_, rfl, ?_⟩; have n0_ := am (Kd.S_lower ho0 (below_size (w := w) (Bq))); have n1_ := Kb BK494 hb; have n2_ := Bc HB hb; clear BK494 HB; revert n0_ n1_ n2_; intro HO500 BK494 HB; (try clear hb); (try clear hb2); (try clear hk); (try clear hi); (try clear ho0)) | ((with_reducible refine gate_dst (N := 8) rfl ?_); (try (refine gate_guard (by rfl) ?_; dsimp only)); refine bE 8 #[.int .i64 0, .slice none 0 0] 33 ?_; intro gb501 hg w19 hbox hb; have n0_ := am (Kd.S_below (by (with_reducible repeat (first | apply Kd.S_alloc | apply Kd.S_drewN | apply Kd.S_drew)); exact HO500.out) hb); have n1_ := Kb BK494 hb; have n2_ := Bc HB hb; have n3_ := am (hbox); have n4_ := Gm HB hg; have n5_ := Gm HB hg; have n6_ := Nl BK494 hg; have n7_ := Ng BK494 hg; clear HO500 BK494 HB; revert n0_ n1_ n2_ n3_ n4_ n5_ n6_ n7_; intro HO500 BK494 HB BK501 GW501 GE501 NB494_501 NB501_494; clear hb hbox hg; have hnb20 := NB501_494.out; have hnc20 := NB494_501.out; obtain ⟨hcz21_0, hcz21_1, hfz21_0, hfz21_1⟩ := cf2 (w := w19) BK501; obtain ⟨Ao22, co22, eo22⟩ := Kd.S_slice HO500.out; subst eo22) | ((with_reducible refine gate_callee (f := 82) rfl ?_); refine gL (some 38) Try.func82 #[.agg #[.int .i64 t497, .slice Ao22 t498.length co22], .slice none 0 0, .bool true] ?_; (refine (spec_pePeel.calls kj3 t497 _ _ t498 _ _ ([] : List Int) true t502 t505 _ ?side1 ?side2 ?side3 ?side4 A14.out).mono ?_); (case side1 => refine (Kd.S_reads' (e := 24) (base := w.heap.size) (ok := fun k_ => True) (n := t498.length) (c := co22) ?_).2.2; exact (by (with_reducible repeat (first | apply Kd.S_alloc | apply Kd.S_drewN | apply Kd.S_drew)); exact (Kd.S_mono (Kd.S_far (p := ⟨gb501, 1, none⟩) (Kd.S_far (p := ⟨gb501, 0, none⟩) (Kd.S_types HO500.out BK501.out (by decide)) (fun _ hk => hk.2) (.int .i64 t497)) (fun _ hk => hk.2) (.slice Ao22 t498.length co22)) (fun _ h_ => h_.1)))); (case side2 => exact (Kd.S_reads' HO500.out).2.1); (case side3 => exact Kd.C_nil _ _); (case side4 => exact Nat.le_refl _); rintro e w23 ⟨v503, v506, rfl, ho0, ho1, hb⟩; refine ⟨_, rfl, ?_⟩; have n0_ := am (Kd.S_elder' (by (with_reducible repeat (first | apply Kd.S_alloc | apply Kd.S_drewN | apply Kd.S_drew)); exact (Kd.S_mono (Kd.S_far (p := ⟨gb501, 1, none⟩) (Kd.S_far (p := ⟨gb501, 0, none⟩) (Kd.S_types HO500.out BK501.out (by decide)) (fun _ hk => hk.2) (.int .i64 t497)) (fun _ hk => hk.2) (.slice Ao22 t498.length co22)) (fun _ h_ => h_.1))) (Kd.R_base ho1) hb); have n1_ := Rm ho0 HB; have n2_ := Rm ho1 HB; have n3_ := am (blk_below (g := gb494) (o := .cells #[.int .i64 0, .int .i64 0, .int .i64 0, .slice none 0 0] 50 (0, 0)) (by (with_reducible repeat (first | refine blk_drewN ?_ _ | refine blk_drew ?_ | refine blk_alloc ?_ _)); refine blk_far ?_ NB494_501.out _; (with_reducible repeat (first | refine blk_drewN ?_ _ | refine blk_drew ?_ | refine blk_alloc ?_ _)); refine blk_far ?_ NB494_501.out _; exact Kz BK494.out) hb); have n4_ := am (blk_below (g := gb501) (o := .cells #[.int .i64 t497, .slice Ao22 t498.length co22] 33 (0, 0)) (by (with_reducible repeat (first | refine blk_drewN ?_ _ | refine blk_drew ?_ | refine blk_alloc ?_ _)); refine blk_put (cs := #[.int .i64 t497, .slice none 0 0]) ?_ 1 _ rfl; (with_reducible repeat (first | refine blk_drewN ?_ _ | refine blk_drew ?_ | refine blk_alloc ?_ _)); refine blk_put (cs := #[.int .i64 0, .slice none 0 0]) ?_ 0 _ rfl; exact Kz BK501.out) hb); have n5_ := Bc HB hb; clear HO500 BK494 BK501 HB; revert n0_ n1_ n2_ n3_ n4_ n5_; intro HO500 HO504 HO507 BK494 BK501 HB; (try clear hb); (try clear hb2); (try clear hk); (try clear hi); (try clear ho0); (try clear ho1)) | ((with_reducible refine gate_dst (N := 47) rfl ?_); (try (refine gate_guard (by rfl) ?_; dsimp only)); refine Kd.R_make (Kd.int .i64) _ 3 rfl (N := 47) rfl 24 _ _ rfl ji15 rfl rfl Try.underlying24 (.int .i64 0) 8 info3 rfl (by decide) (by omega) 0 (ok := fun _ => True) (okp := fun _ => True) rfl (fun _ hk => hk) trivial (dT) (Nat.le_trans (Nat.mul_le_mul_right _ (dT : ji15.toNat ≤ 35184372088832)) (by omega)) (Below.refl _ _) (Nat.le_refl _) ?_; intro v509 w24 ho25 hb hg_ hnew_; clear hg_ hnew_; (first | rw [← Ny508.out] at ho25 | (simp only [Int.reduceToNat] at ho25; rw [← Ny508.out] at ho25)); have n0_ := am (Kd.S_elder' (by (with_reducible repeat (first | apply Kd.S_alloc | apply Kd.S_drewN | apply Kd.S_drew)); exact HO500.out) (Kd.R_base ho25) hb); have n1_ := Rb HO504 hb; have n2_ := Re HO507 (Kd.R_base ho25) hb; have n3_ := Rm (Kd.R_new' ho25 (Kd.R_lt (Rz HO507.out))) HB; have n4_ := Kb BK494 hb; have n5_ := Kb BK501 hb; have n6_ := Bc HB hb; clear HO500 HO504 HO507 BK494 BK501 HB; revert n0_ n1_ n2_ n3_ n4_ n5_ n6_; intro HO500 HO504 HO507 HO510 BK494 BK501 HB; clear hb ho25; obtain ⟨Ao26, co26, eo26⟩ := Kd.R_slice HO510.out; subst eo26) | ((with_reducible refine gate_dst (N := 11) rfl ?_); (try (refine gate_guard (by rfl) ?_; dsimp only)); refine bE 11 #[.int .i64 0, .int .i64 0, .int .i64 0, .slice none 0 0] 50 ?_; intro gb511 hg w27 hbox hb; have n0_ := am (Kd.S_below (by (with_reducible repeat (first | apply Kd.S_alloc | apply Kd.S_drewN | apply Kd.S_drew)); exact HO500.out) hb); have n1_ := Rb HO504 hb; have n2_ := Rb HO507 hb; have n3_ := Rb HO510 hb; have n4_ := Kb BK494 hb; have n5_ := Kb BK501 hb; have n6_ := Bc HB hb; have n7_ := am (hbox); have n8_ := Gm HB hg; have n9_ := Gm HB hg; have n10_ := Nl BK494 hg; have n11_ := Ng BK494 hg; have n12_ := Nl BK501 hg; have n13_ := Ng BK501 hg; clear HO500 HO504 HO507 HO510 BK494 BK501 HB; revert n0_ n1_ n2_ n3_ n4_ n5_ n6_ n7_ n8_ n9_ n10_ n11_ n12_ n13_; intro HO500 HO504 HO507 HO510 BK494 BK501 HB BK511 GW511 GE511 NB494_511 NB511_494 NB501_511 NB511_501; clear hb hbox hg; have hnb28 := NB511_494.out; have hnc28 := NB494_511.out; have hnb29 := NB511_501.out; have hnc29 := NB501_511.out; obtain ⟨hcz30_0, hcz30_1, hcz30_2, hcz30_3, hfz30_0, hfz30_1, hfz30_2, hfz30_3⟩ := cf4 (w := w27) BK511; obtain ⟨Ao31, co31, eo31⟩ := Kd.R_slice HO504.out; subst eo31))
      (try simp only [aP])
      go_loopg [12] kj3 (fun kq v12 w' => ∃ (x12_2 : Int) (x512003_2 : List Int) (u512003 : Value), v12 = .int .i64 x12_2 ∧ Aside0 (spec_BuildOrdered.l0 kq t502 x12_2 t497 t498 a0 a2 (l1.length : Int) x512003_2 = some (r1, r2, r3, r4, r5)) ∧ Aside0 (kq ≤ kj3) ∧ Aside0 (Kd.R k118 118 w' w.heap.size (fun _ => True) (.slice Ao31 t502.length co31) t502) ∧ Aside0 (Kd.S (Kd.slice 3 (Kd.int .i64)) 24 w' w.heap.size (fun k_ => some k_ ≠ (u512003 : Value).ownBlock) (.slice Ao22 t498.length co22) t498) ∧ Aside0 (Kd.R (Kd.int .i64) 3 w' w.heap.size (fun _ => True) u512003 x512003_2) ∧ Aside0 (w'.heap[gb494]? = some (.cells #[.int .i64 0, .int .i64 0, .int .i64 0, (.slice none 0 0)] 50 (0, 0))) ∧ Aside0 (w'.heap[gb501]? = some (.cells #[.int .i64 t497, (.slice Ao22 t498.length co22)] 33 (0, 0))) ∧ Aside0 (w'.heap[gb511]? = some (.cells #[.int .i64 a0, .int .i64 a2, .int .i64 (l1.length : Int), u512003] 50 (0, 0))) ∧ Aside0 (Below w.heap.size w w'))
      case atStart => exact ⟨(wrap64 ((t502.length : Int) - 1)), (y508), (.slice Ao26 y508.length co26), wZ, H', ⟨Nat.le_refl _⟩, ⟨Rz (Kd.R_mono (Kd.R_far (p := ⟨gb511, 3, none⟩) (Kd.R_far (p := ⟨gb511, 2, none⟩) (Kd.R_far (p := ⟨gb511, 1, none⟩) (Kd.R_far (p := ⟨gb511, 0, none⟩) (Kd.R_types HO504.out BK511.out (by decide)) (fun _ hk => hk.2) (.int .i64 a0)) (fun _ hk => hk.2) (.int .i64 a2)) (fun _ hk => hk.2) (.int .i64 (l1.length : Int))) (fun _ hk => hk.2) (.slice Ao26 y508.length co26)) (fun _ hk => trivial))⟩, ⟨by (with_reducible repeat (first | apply Kd.S_alloc | apply Kd.S_drewN | apply Kd.S_drew)); exact Kd.S_mono (Kd.S_far (p := ⟨gb511, 3, none⟩) (Kd.S_far (p := ⟨gb511, 2, none⟩) (Kd.S_far (p := ⟨gb511, 1, none⟩) (Kd.S_far (p := ⟨gb511, 0, none⟩) (Kd.S_types HO500.out BK511.out (by decide)) (fun _ hk => hk.2) (.int .i64 a0)) (fun _ hk => hk.2) (.int .i64 a2)) (fun _ hk => hk.2) (.int .i64 (l1.length : Int))) (fun _ hk => hk.2) (.slice Ao26 y508.length co26)) (fun _ hk => hk.1.2)⟩, ⟨Rz (Kd.R_mono (Kd.R_far (p := ⟨gb511, 3, none⟩) (Kd.R_far (p := ⟨gb511, 2, none⟩) (Kd.R_far (p := ⟨gb511, 1, none⟩) (Kd.R_far (p := ⟨gb511, 0, none⟩) (Kd.R_types HO510.out BK511.out (by decide)) (fun _ hk => hk.2) (.int .i64 a0)) (fun _ hk => hk.2) (.int .i64 a2)) (fun _ hk => hk.2) (.int .i64 (l1.length : Int))) (fun _ hk => hk.2) (.slice Ao26 y508.length co26)) (fun _ hk => trivial))⟩, ⟨by (with_reducible repeat (first | refine blk_drewN ?_ _ | refine blk_drew ?_ | refine blk_alloc ?_ _)); refine blk_far ?_ NB494_511.out _; (with_reducible repeat (first | refine blk_drewN ?_ _ | refine blk_drew ?_ | refine blk_alloc ?_ _)); refine blk_far ?_ NB494_511.out _; (with_reducible repeat (first | refine blk_drewN ?_ _ | refine blk_drew ?_ | refine blk_alloc ?_ _)); refine blk_far ?_ NB494_511.out _; (with_reducible repeat (first | refine blk_drewN ?_ _ | refine blk_drew ?_ | refine blk_alloc ?_ _)); refine blk_far ?_ NB494_511.out _; (with_reducible repeat (first | refine blk_drewN ?_ _ | refine blk_drew ?_ | refine blk_alloc ?_ _)); exact BK494.out⟩, ⟨by (with_reducible repeat (first | refine blk_drewN ?_ _ | refine blk_drew ?_ | refine blk_alloc ?_ _)); refine blk_far ?_ NB501_511.out _; (with_reducible repeat (first | refine blk_drewN ?_ _ | refine blk_drew ?_ | refine blk_alloc ?_ _)); refine blk_far ?_ NB501_511.out _; (with_reducible repeat (first | refine blk_drewN ?_ _ | refine blk_drew ?_ | refine blk_alloc ?_ _)); refine blk_far ?_ NB501_511.out _; (with_reducible repeat (first | refine blk_drewN ?_ _ | refine blk_drew ?_ | refine blk_alloc ?_ _)); refine blk_far ?_ NB501_511.out _; (with_reducible repeat (first | refine blk_drewN ?_ _ | refine blk_drew ?_ | refine blk_alloc ?_ _)); exact BK501.out⟩, ⟨by (with_reducible repeat (first | refine blk_drewN ?_ _ | refine blk_drew ?_ | refine blk_alloc ?_ _)); refine blk_put (cs := #[.int .i64 a0, .int .i64 a2, .int .i64 (l1.length : Int), .slice none 0 0]) ?_ 3 _ rfl; (with_reducible repeat (first | refine blk_drewN ?_ _ | refine blk_drew ?_ | refine blk_alloc ?_ _)); refine blk_put (cs := #[.int .i64 a0, .int .i64 a2, .int .i64 0, .slice none 0 0]) ?_ 2 _ rfl; (with_reducible repeat (first | refine blk_drewN ?_ _ | refine blk_drew ?_ | refine blk_alloc ?_ _)); refine blk_put (cs := #[.int .i64 a0, .int .i64 0, .int .i64 0, .slice none 0 0]) ?_ 1 _ rfl; (with_reducible repeat (first | refine blk_drewN ?_ _ | refine blk_drew ?_ | refine blk_alloc ?_ _)); refine blk_put (cs := #[.int .i64 0, .int .i64 0, .int .i64 0, .slice none 0 0]) ?_ 0 _ rfl; (with_reducible repeat (first | refine blk_drewN ?_ _ | refine blk_drew ?_ | refine blk_alloc ?_ _)); exact BK511.out⟩, ⟨Bq⟩⟩
      case round =>
       clear H'
       try clear c1
       try clear c2
       try clear p2
       try clear p6
       try clear c7
       try clear c8
       try clear c8b0
       try clear c8b1
       try clear c8b2
       try clear c11
       try clear c16
       try clear c16b0
       try clear c16b1
       try clear c17
       try clear c17b0
       try clear c17b1
       try clear c20
       try clear c28
       try clear c29
       try clear hcz12_0
       try clear hcz12_1
       try clear hcz12_2
       try clear hcz12_3
       try clear hcz21_0
       try clear hcz21_1
       try clear hcz30_0
       try clear hcz30_1
       try clear hcz30_2
       try clear hcz30_3
       try clear hfz12_0
       try clear hfz12_1
       try clear hfz12_2
       try clear hfz12_3
       try clear hfz21_0
       try clear hfz21_1
       try clear hfz30_0
       try clear hfz30_1
       try clear hfz30_2
       try clear hfz30_3
       try clear p2
       obtain ⟨x12_2, x512003_2, u512003, rfl, HA, HK2, HO_9, HO_502001, HO_512003, BK494, BK501, BK511, HB⟩ := hrel; cases gk with
       | zero => exact absurd HA.out (by simp [spec_BuildOrdered.l0])
       | succ k2 =>
        have H := HA.out; clear HA
        simp only [spec_BuildOrdered.l0] at H
        by_cases c32 : x12_2 ≥ 0
        ·rw [if_pos c32] at H
         have c32b0 : decide (0 ≤ x12_2) = true := decide_eq_true c32; clear c32
         by_cases c33 : 0 ≤ x12_2
         ·rw [if_pos c33] at H
          have c33b0 : decide (0 ≤ x12_2) = true := decide_eq_true c33; clear c33
          by_cases c34 : x12_2 < (t502.length : Int)
          ·rw [if_pos c34] at H
           have c34b0 : decide (x12_2 < (t502.length : Int)) = true := decide_eq_true c34; clear c34
           by_cases c35 : 0 ≤ ((rd_T118 t502 x12_2).f0)
           ·rw [if_pos c35] at H
            have c35b0 : decide (0 ≤ ((rd_T118 t502 x12_2).f0)) = true := decide_eq_true c35; clear c35
            by_cases c36 : ((rd_T118 t502 x12_2).f0) < (t498.length : Int)
            ·rw [if_pos c36] at H
             have c36b0 : decide (((rd_T118 t502 x12_2).f0) < (t498.length : Int)) = true := decide_eq_true c36; clear c36; replace H := Option.bind_eq_some_iff.mp H; obtain ⟨t515, A370, H⟩ := H; (try dsimp -simprocs only at H); have A37 := am A370; clear A370
             by_cases c38 : (l1.length : Int) = 0
             ·rw [if_pos c38] at H
              exact absurd H (by simp)
             ·rw [if_neg c38] at H
              have c38b0 : ((l1.length : Int) == 0) = false := beq_eq_false_iff_ne.mpr c38; have c38b1 : ((l1.length : Int) != 0) = true := bne_iff_ne.mpr c38
              have c38b2 : ¬ (l1 = []) := fun h_ => c38 (by rw [h_]; rfl)
              by_cases c39 : 0 ≤ ((rd_T118 t502 x12_2).f1)
              ·rw [if_pos c39] at H
               have c39b0 : decide (0 ≤ ((rd_T118 t502 x12_2).f1)) = true := decide_eq_true c39; clear c39
               by_cases c40 : ((rd_T118 t502 x12_2).f1) < (x512003_2.length : Int)
               ·rw [if_pos c40] at H
                have c40b0 : decide (((rd_T118 t502 x12_2).f1) < (x512003_2.length : Int)) = true := decide_eq_true c40; clear c40; obtain ⟨y516, hy516⟩ : ∃ y_ : List Int, y_ = (x512003_2.set (((rd_T118 t502 x12_2).f1) : Int).toNat (Int.tmod (wrap64 (((rd_T118 t502 x12_2).f0) + (wrap64 ((wrap64 ((l1.length : Int) - 1)) * t515)))) (l1.length : Int))) := ⟨_, rfl⟩
                replace H : (spec_BuildOrdered.l0 k2 t502 (wrap64 (x12_2 - 1)) t497 t498 a0 a2 (l1.length : Int) y516) = some (r1, r2, r3, r4, r5) := by first | (rw [hy516]; with_reducible exact H) | (have H2_ := (Option.bind_some _ _).symm.trans H; rw [hy516]; with_reducible exact H2_) | (have H2_ := (Option.bind_some _ _).symm.trans H; with_reducible exact H2_) | with_reducible exact H | (rw [hy516]; exact H) | exact H
                have Ny516 := am hy516; clear hy516; have H' := am H; clear H; obtain ⟨ad512, e512, hx512_0, hx512_1⟩ := at_T118 (Kd.R_reads' HO_9.out).2.2 x12_2 dT dT; cases e512; have p512 := eT (0 ≤ (x12_2 : Int)); have q512 := eT (x12_2 < (t502.length : Int))
                try go_wp2
                have n0_ := am (Kd.R_drew HO_9.out); have n1_ := am (Kd.S_drew HO_502001.out); have n2_ := am (Kd.R_drew HO_512003.out); have n3_ := am (blk_drew BK494.out); have n4_ := am (blk_drew BK501.out); have n5_ := am (blk_drew BK511.out); have n6_ := am (below_drew1 HB.out); clear HO_9 HO_502001 HO_512003 BK494 BK501 BK511 HB; revert n0_ n1_ n2_ n3_ n4_ n5_ n6_; intro HO_9 HO_502001 HO_512003 BK494 BK501 BK511 HB; have p513 : 0 ≤ (x12_2 : Int) := dT; have q513 : x12_2 < (t502.length : Int) := dT; obtain ⟨ad513, e513, hx513_0, hx513_1⟩ := at_T118 (Kd.R_reads' HO_9.out).2.2 x12_2 p513 q513; obtain rfl : ad512 = ad513 := (by injection e513); replace p513 := eq_true p513; replace q513 := eq_true q513; have p514 : 0 ≤ (((rd_T118 t502 x12_2).f0) : Int) := dT; have q514 : ((rd_T118 t502 x12_2).f0) < (t498.length : Int) := dT; obtain ⟨ad514, A514_0, c514_0, e514, hx514_0, hl514_0, hi514_0⟩ := at_L3 (Kd.S_reads' HO_502001.out).2.2 ((rd_T118 t502 x12_2).f0) p514 q514; cases e514; obtain ⟨ce514, hce514, hMe514, hcc514⟩ := Kd.S_get HO_502001.out [] ((rd_T118 t502 x12_2).f0) p514 (by first | exact q514 | exact dT | (have e_ := (Kd.S_reads' HO_502001.out).1; omega)); obtain ⟨ve514_0, rfl, ge514_0⟩ := hMe514; have hv514_0 := hcc514 0 _ rfl; rw [Nat.add_zero, show ((Kd.slice 3 (Kd.int .i64))).sz = 1 from rfl, Nat.mul_one] at hv514_0; replace hv514_0 := Option.some.inj (hv514_0.symm.trans hx514_0); rw [hv514_0] at ge514_0; have HL514_0 := am (show Kd.R (Kd.int .i64) 3 _ _ _ _ (rd_L3 t498 ((rd_T118 t502 x12_2).f0)) from ge514_0); clear hv514_0 ge514_0; clear hcc514 hce514; have HR514_0 := am hi514_0; have HC514_0 := am hl514_0; clear hi514_0 hl514_0; replace p514 := eq_true p514; replace q514 := eq_true q514; obtain ⟨Ao43, co43, eo43⟩ := Kd.R_slice HO_512003.out
                (first | subst eo43 | (injection eo43 with f1_ f2_ f3_; have f4_ := f1_.symm; have f5_ := f3_.symm; clear f1_ f2_ f3_; subst f4_; subst f5_))
                refine start_ (n := 26) (S := fun w' => w'.cell? ⟨gb511, 0, none⟩ = some (.int .i64 a0) ∧ w'.cell? ⟨gb511, 1, none⟩ = some (.int .i64 a2) ∧ w'.cell? ⟨gb511, 2, none⟩ = some (.int .i64 (l1.length : Int)) ∧ w'.cell? ⟨gb511, 3, none⟩ = some (.slice Ao43 x512003_2.length co43) ∧ w'.cell? ⟨gb501, 0, none⟩ = some (.int .i64 t497) ∧ w'.cell? ⟨gb501, 1, none⟩ = some (.slice (some ad514) t498.length co22) ∧ w'.cell? (ad512.add ((x12_2).toNat * 2)) = some (.int .i64 ((rd_T118 t502 x12_2).f0)) ∧ w'.cell? ⟨(ad512.add ((x12_2).toNat * 2)).block, (ad512.add ((x12_2).toNat * 2)).off + 1, none⟩ = some (.int .i64 ((rd_T118 t502 x12_2).f1)) ∧ w'.cell? (ad514.add (((rd_T118 t502 x12_2).f0)).toNat) = some (.slice A514_0 (rd_L3 t498 ((rd_T118 t502 x12_2).f0)).length c514_0)) (ds := [25]) (bA 26 0) (by kernel_rfl) rfl rfl ⟨cz BK511 0, cz BK511 1, cz BK511 2, cz BK511 3, cz BK501 0, cz BK501 1, hx513_0, hx513_1, hx514_0⟩ (fun hHeld => ?_); refine with_tabW spec_BuildOrdered.tab10 spec_BuildOrdered.bits10 (fun HT_ HW_ => ?_); generalize wr.drew = w42 at HO_9 HO_502001 HO_512003 BK494 BK501 BK511 HB HL514_0 HR514_0 hx513_0 hx513_1 hx514_0 hHeld ⊢; refine pZ 0 (some 61) (bA 26 1) HT_.out ?_; refine pZ 2 (some 63) (bA 26 5) HT_.out ?_; refine pZ 3 (some 64) (bA 26 13) HT_.out ?_; refine pZ 4 (some 65) (bA 26 29) HT_.out ?_; refine pZ 5 (some 66) (bA 26 61) HT_.out ?_; refine pZ 7 (some 68) (bA 26 189) HT_.out ?_; refine pZ 8 (some 69) (bA 26 445) HT_.out ?_; refine pZ 11 (some 72) (bA 26 2493) HT_.out ?_; refine pZ 13 (some 74) (bA 26 10685) HT_.out ?_; refine pZ 15 (some 76) (bA 26 43453) HT_.out ?_; refine pZ 21 (some 82) (bA 26 2140605) HT_.out ?_; refine tZ9 1 (some 62) (bA 26 2140607) HT_.out HW_.out hHeld ?_; refine tZ9 6 (some 67) (bA 26 2140671) HT_.out HW_.out hHeld ?_; refine tZ9 9 (some 70) (bA 26 2141183) HT_.out HW_.out hHeld ?_; refine pZ 10 (some 71) (bA 26 2142207) HT_.out ?_; refine tZ9 12 (some 73) (bA 26 2146303) HT_.out HW_.out hHeld ?_; refine tZ9 14 (some 75) (bA 26 2162687) HT_.out HW_.out hHeld ?_; refine pZ 16 (some 77) (bA 26 2228223) HT_.out ?_; refine tZ9 17 (some 78) (bA 26 2359295) HT_.out HW_.out hHeld ?_; refine tZ9 22 (some 83) (bA 26 6553599) HT_.out HW_.out hHeld ?_; refine oZ 18 (some 79) (bA 26 6815743) HT_.out (fun K hK => ?_); refine gZ Try.func83 #[.slice Ao43 x512003_2.length co43, .slice A514_0 (rd_L3 t498 ((rd_T118 t502 x12_2).f0)).length c514_0] ?_
                with_reducible refine (spec_pfSum.calls k2 _ _ x512003_2 _ _ (rd_L3 t498 ((rd_T118 t502 x12_2).f0)) t515 _ ?side1 ?side2 ?side3 ?side4 A37.out).mono ?_
                (case side1 => exact Cz ((Kd.R_reads' HO_512003.out).2.2))
                (case side2 => exact (Kd.R_reads' HO_512003.out).2.1)
                (case side3 => repeat (first | exact (by repeat (first | (with_reducible exact HR514_0.out) | (with_reducible refine Kd.C_alloc ?_ _) | (with_reducible refine Kd.C_drewN ?_ _) | (with_reducible refine Kd.C_drew ?_) | exact HR514_0.out)) | (with_reducible refine Kd.C_alloc ?_ _) | (with_reducible refine Kd.C_drewN ?_ _) | (with_reducible refine Kd.C_drew ?_)))
                (case side4 => exact HC514_0.out)
                rintro e w' ⟨rfl, ⟨nd, rfl⟩⟩; refine ⟨_, rfl, ?_⟩; have p41 : 0 ≤ (((rd_T118 t502 x12_2).f1) : Int) := dT; have q41 : (((rd_T118 t502 x12_2).f1) : Int) < ((x512003_2.length : Int) : Int) := dT; obtain ⟨go41, co41, eo41, gb41, gl41, cl41, HG41⟩ := Kd.R_form HO_512003.out (by omega)
                (first | cases eo41 | (injection eo41 with ea_ en_ ec_; (first | subst ea_ | (injection ea_ with ea_; subst ea_)); subst ec_; clear en_))
                have GB41 := am gb41; have GG41 := am HG41; clear gb41 gl41 HG41; obtain ⟨hx41_0, hf41_0⟩ := Kd.R_celln 0 HO_512003.out (((rd_T118 t502 x12_2).f1) : Int) p41 q41; replace p41 := eq_true p41; replace q41 := eq_true q41; have HP44 := Kd.R_putn HO_512003.out (((rd_T118 t502 x12_2).f1) : Int) (Int.tmod (wrap64 (((rd_T118 t502 x12_2).f0) + (wrap64 ((wrap64 ((l1.length : Int) - 1)) * t515)))) (l1.length : Int)); rw [← Ny516.out] at HP44; have HQ44 := am HP44; clear HP44; refine hK.out _ _ ⟨cz BK511 0, cz BK511 1, cz BK511 2, cz BK511 3, cz BK501 0, cz BK501 1, hHeld.2.2.2.2.2.2.1, hHeld.2.2.2.2.2.2.2.1, hHeld.2.2.2.2.2.2.2.2⟩ (fun hHeld => ?_); clear hK K; refine norm_ (a' := ?_) ?_ ?_; rotate_left; show Act.put _ (some 79) _ = _; simp only [aP, i64_w, i32_w]; rfl; refine pZ 19 (some 80) (bA 26 7340031) HT_.out ?_; refine pZ 20 (some 81) (bA 26 8388607) HT_.out ?_; refine pZ 23 (some 84) (bA 26 16777215) HT_.out ?_; refine pZ 24 (some 85) (bA 26 33554431) HT_.out ?_; refine lZ 25 none (bA 26 67108863) HT_.out (fun K hK => ?_); refine skip_ (w1 := ?_) (by rfl) rfl ?_ ?_
                rotate_left
                ·go_simp
                 rfl
                refine hK.out _ _ ?_; clear hK K; refine done_ (done_of HT_.out (by kernel_rfl)) ?_
                try go_wp2
                go_roundg k2
                case measure => have := HJ3.out; have := HK2.out; omega
                case rel => exact ⟨(wrap64 (x12_2 - 1)), (y516), (.slice (some ⟨go41, 0, none⟩) x512003_2.length co43), wZ, H', ⟨by have := HJ3.out; have := HK2.out; omega⟩, ⟨Rz (Kd.R_mono (Kd.R_far (p := ⟨go41, (((rd_T118 t502 x12_2).f1) : Int).toNat, none⟩) (Kd.R_types HO_9.out GG41.out (by decide)) (fun _ hk => hk.2) (.int .i64 (Int.tmod (wrap64 (((rd_T118 t502 x12_2).f0) + (wrap64 ((wrap64 ((l1.length : Int) - 1)) * t515)))) (l1.length : Int)))) (fun _ hk => trivial))⟩, ⟨by (with_reducible repeat (first | apply Kd.S_alloc | apply Kd.S_drewN | apply Kd.S_drew)); exact Kd.S_mono (Kd.S_far (p := ⟨go41, (((rd_T118 t502 x12_2).f1) : Int).toNat, none⟩) (Kd.S_mono HO_502001.out (fun k_ hk => (⟨hk, fun e_ => hk (by rw [e_]; rfl)⟩ : _ ∧ k_ ≠ go41))) (fun _ hk => hk.2) (.int .i64 (Int.tmod (wrap64 (((rd_T118 t502 x12_2).f0) + (wrap64 ((wrap64 ((l1.length : Int) - 1)) * t515)))) (l1.length : Int)))) (fun _ hk => hk.1)⟩, ⟨by first | exact HQ44.out | exact Rz HQ44.out⟩, ⟨by (with_reducible repeat (first | refine blk_drewN ?_ _ | refine blk_drew ?_ | refine blk_alloc ?_ _)); refine blk_far ?_ (by have h_ := Kd.R_ne HO_512003.out BK494.out (by decide); intro e_; exact h_ (by rw [e_]; rfl)) _; (with_reducible repeat (first | refine blk_drewN ?_ _ | refine blk_drew ?_ | refine blk_alloc ?_ _)); exact BK494.out⟩, ⟨by (with_reducible repeat (first | refine blk_drewN ?_ _ | refine blk_drew ?_ | refine blk_alloc ?_ _)); refine blk_far ?_ (by have h_ := Kd.R_ne HO_512003.out BK501.out (by decide); intro e_; exact h_ (by rw [e_]; rfl)) _; (with_reducible repeat (first | refine blk_drewN ?_ _ | refine blk_drew ?_ | refine blk_alloc ?_ _)); exact BK501.out⟩, ⟨by (with_reducible repeat (first | refine blk_drewN ?_ _ | refine blk_drew ?_ | refine blk_alloc ?_ _)); refine blk_far ?_ (by have h_ := Kd.R_ne HO_512003.out BK511.out (by decide); intro e_; exact h_ (by rw [e_]; rfl)) _; (with_reducible repeat (first | refine blk_drewN ?_ _ | refine blk_drew ?_ | refine blk_alloc ?_ _)); exact BK511.out⟩, ⟨Bq⟩⟩
               ·rw [if_neg c40] at H
                exact absurd H (by simp)
              ·rw [if_neg c39] at H
               exact absurd H (by simp)
            ·rw [if_neg c36] at H
             exact absurd H (by simp)
           ·rw [if_neg c35] at H
            exact absurd H (by simp)
          ·rw [if_neg c34] at H
           exact absurd H (by simp)
         ·rw [if_neg c33] at H
          exact absurd H (by simp)
        ·rw [if_neg c32] at H
         have c32b0 : decide (0 ≤ x12_2) = false := decide_eq_false c32; clear c32
         simp only [Option.some.injEq, Prod.mk.injEq] at H
         obtain ⟨rfl, rfl, rfl, rfl, rfl⟩ := H; have hnb45 := NB511_494.out; have hnc45 := NB494_511.out; have hnb46 := NB511_501.out; have hnc46 := NB501_511.out; obtain ⟨hcz47_0, hcz47_1, hcz47_2, hcz47_3, hfz47_0, hfz47_1, hfz47_2, hfz47_3⟩ := cf4 (w := wr) BK511; have hnb48 := NB494_501.out; have hnc48 := NB501_494.out; obtain ⟨hcz49_0, hcz49_1, hcz49_2, hcz49_3, hfz49_0, hfz49_1, hfz49_2, hfz49_3⟩ := cf4 (w := wr) BK494; obtain ⟨Ao50, co50, eo50⟩ := Kd.R_slice HO_512003.out; subst eo50
         go_wp2
         refine bodyPost_ret (results_ct rfl _ _ gb494 50 #[.int .i64 a0, .int .i64 a2, .int .i64 (l1.length : Int), .slice Ao50 x512003_2.length co50] (0, 0) _ rfl (by (with_reducible repeat (first | refine blk_drewN ?_ _ | refine blk_drew ?_ | refine blk_alloc ?_ _)); refine blk_put (cs := #[.int .i64 a0, .int .i64 a2, .int .i64 (l1.length : Int), .slice none 0 0]) ?_ 3 _ rfl; (with_reducible repeat (first | refine blk_drewN ?_ _ | refine blk_drew ?_ | refine blk_alloc ?_ _)); refine blk_put (cs := #[.int .i64 a0, .int .i64 a2, .int .i64 0, .slice none 0 0]) ?_ 2 _ rfl; (with_reducible repeat (first | refine blk_drewN ?_ _ | refine blk_drew ?_ | refine blk_alloc ?_ _)); refine blk_put (cs := #[.int .i64 a0, .int .i64 0, .int .i64 0, .slice none 0 0]) ?_ 1 _ rfl; (with_reducible repeat (first | refine blk_drewN ?_ _ | refine blk_drew ?_ | refine blk_alloc ?_ _)); refine blk_put (cs := #[.int .i64 0, .int .i64 0, .int .i64 0, .slice none 0 0]) ?_ 0 _ rfl; exact Kz BK494.out) Try.underlying50 rfl (by kernel_rfl)) rfl ?_; exact ⟨_, by first | rfl | (simp [errW_none, errW_some] <;> rfl) | (simp only [← hji15]; first | rfl | (simp [errW_none, errW_some] <;> rfl)) | (simp [*, errW_none, errW_some] <;> rfl), Rz (Kd.R_mono (Kd.R_far (p := ⟨gb494, 3, none⟩) (Kd.R_far (p := ⟨gb494, 2, none⟩) (Kd.R_far (p := ⟨gb494, 1, none⟩) (Kd.R_far (p := ⟨gb494, 0, none⟩) (Kd.R_types HO_512003.out BK494.out (by decide)) (fun _ hk => hk.2) (.int .i64 a0)) (fun _ hk => hk.2) (.int .i64 a2)) (fun _ hk => hk.2) (.int .i64 (l1.length : Int))) (fun _ hk => hk.2) (.slice Ao50 x512003_2.length co50)) (fun _ hk => trivial)), Bq⟩
     ·rw [if_neg c17] at H
      exact absurd H (by simp)
    ·rw [if_neg c16] at H
     exact absurd H (by simp)

def laws_pSameInts.l0 : Nat → List Int → List Int → Int → Int → Option (Bool)
 | 0, _, _, _, _ => none
 | k + 1, x0, x1, x12, x13 => if x13 < x12 then (if 0 ≤ x13 then (if x13 < (x0.length : Int) then (if x13 < (x1.length : Int) then (if (rd x0 x13) = (rd x1 x13) then (laws_pSameInts.l0 k x0 x1 x12 (wrap64 (x13 + 1))) else (some false)) else (none)) else (none)) else (none)) else (some true)
def laws_pSameInts.f (k : Nat) (l0 : List Int) (l1 : List Int) : Option (Bool) := if (l0.length : Int) = (l1.length : Int) then (laws_pSameInts.l0 k l0 l1 (l0.length : Int) 0) else (some false)
theorem laws_pSameInts.calls (k : Nat) (A0 : Option Addr) (c0 : Nat) (l0 : List Int) (A1 : Option Addr) (c1 : Nat) (l1 : List Int) (r : Bool) (w : World) (hr0 : Kd.C (Kd.int .i64) w A0 l0.length l0) (hc0 : l0.length ≤ c0) (hr1 : Kd.C (Kd.int .i64) w A1 l1.length l1) (hc1 : l1.length ≤ c1) (h : laws_pSameInts.f k l0 l1 = some r) :
  Calls Try.prog 21 #[.slice A0 l0.length c0, .slice A1 l1.length c1] w fun e w' => e = .returned (.bool r) ∧ Drawn0 w w' := by
 have HR0 := am hr0; have HC0 := am hc0; clear hr0 hc0; have HR1 := am hr1; have HC1 := am hc1; clear hr1 hc1; have H : (if (l0.length : Int) = (l1.length : Int) then (laws_pSameInts.l0 k l0 l1 (l0.length : Int) 0) else (some false)) = some r := h; clear h
 by_cases c3 : (l0.length : Int) = (l1.length : Int)
 ·rw [if_pos c3] at H
  have c3b0 : ((l0.length : Int) == (l1.length : Int)) = true := beq_iff_eq.mpr c3; have c3b1 : ((l0.length : Int) != (l1.length : Int)) = false := bne_eq_false_iff_eq.mpr c3
  have c3b2 : (l0.length == l1.length) = true := by first | simpa using c3 | (simp at c3 ⊢; omega)
  clear c3; have H' := am H; clear H
  go_enter Try.func21, Try.ntmps21
  go_wp2
  repeat (go_quiet (fail); try go_wp2)
  go_loopg [13] k (fun kq v13 w' => ∃ (x13_1 : Int), v13 = .int .i64 x13_1 ∧ Aside0 (laws_pSameInts.l0 kq l0 l1 (l0.length : Int) x13_1 = some r) ∧ Aside0 (kq ≤ k) ∧ Drawn0 w w')
  case atStart => exact ⟨(0), wZ, H', ⟨Nat.le_refl _⟩, by repeat (first | exact Drawn0.refl _ | apply Drawn0.step)⟩
  case round =>
   clear H'
   try clear c1
   try clear c2
   try clear p2
   try clear c3
   try clear c3b0
   try clear c3b1
   try clear c3b2
   obtain ⟨x13_1, rfl, HA, HK1, ⟨m1, rfl⟩⟩ := hrel; cases gk with
   | zero => exact absurd HA.out (by simp [laws_pSameInts.l0])
   | succ k1 =>
    have H := HA.out; clear HA
    simp only [laws_pSameInts.l0] at H
    by_cases c4 : x13_1 < (l0.length : Int)
    ·rw [if_pos c4] at H
     have c4b0 : decide (x13_1 < (l0.length : Int)) = true := decide_eq_true c4; clear c4
     by_cases c5 : 0 ≤ x13_1
     ·rw [if_pos c5] at H
      have c5b0 : decide (0 ≤ x13_1) = true := decide_eq_true c5; clear c5
      by_cases c6 : x13_1 < (l0.length : Int)
      ·rw [if_pos c6] at H
       have c6b0 : decide (x13_1 < (l0.length : Int)) = true := decide_eq_true c6; clear c6
       by_cases c7 : x13_1 < (l1.length : Int)
       ·rw [if_pos c7] at H
        have c7b0 : decide (x13_1 < (l1.length : Int)) = true := decide_eq_true c7; clear c7
        by_cases c8 : (rd l0 x13_1) = (rd l1 x13_1)
        ·rw [if_pos c8] at H
         have c8b0 : ((rd l0 x13_1) == (rd l1 x13_1)) = true := beq_iff_eq.mpr c8; have c8b1 : ((rd l0 x13_1) != (rd l1 x13_1)) = false := bne_eq_false_iff_eq.mpr c8; clear c8; have H' := am H; clear H; obtain ⟨ad517, e517, hx517_0⟩ := Kd.at_int HR0.out x13_1 dT dT; cases e517; have p517 := eT (0 ≤ (x13_1 : Int)); have q517 := eT (x13_1 < (l0.length : Int)); obtain ⟨ad518, e518, hx518_0⟩ := Kd.at_int HR1.out x13_1 dT dT; cases e518; have p518 := eT (0 ≤ (x13_1 : Int)); have q518 := eT (x13_1 < (l1.length : Int))
         go_wp2
         repeat (go_quiet (fail); try go_wp2)
         go_roundg k1
         case measure => have := HK1.out; omega
         case rel => exact ⟨(wrap64 (x13_1 + 1)), wZ, H', ⟨by have := HK1.out; omega⟩, by repeat (first | exact Drawn0.refl _ | apply Drawn0.step)⟩
        ·rw [if_neg c8] at H
         have c8b0 : ((rd l0 x13_1) == (rd l1 x13_1)) = false := beq_eq_false_iff_ne.mpr c8; have c8b1 : ((rd l0 x13_1) != (rd l1 x13_1)) = true := bne_iff_ne.mpr c8; obtain rfl := Option.some.inj H; obtain ⟨ad517, e517, hx517_0⟩ := Kd.at_int HR0.out x13_1 dT dT; cases e517; have p517 := eT (0 ≤ (x13_1 : Int)); have q517 := eT (x13_1 < (l0.length : Int)); obtain ⟨ad518, e518, hx518_0⟩ := Kd.at_int HR1.out x13_1 dT dT; cases e518; have p518 := eT (0 ≤ (x13_1 : Int)); have q518 := eT (x13_1 < (l1.length : Int))
         go_wp2
         repeat (go_quiet (fail); try go_wp2)
         go_ret
         exact ⟨by first | rfl | (simp; done) | (simp [*]; done), by repeat (first | exact Drawn0.refl _ | apply Drawn0.step)⟩
       ·rw [if_neg c7] at H
        exact absurd H (by simp)
      ·rw [if_neg c6] at H
       exact absurd H (by simp)
     ·rw [if_neg c5] at H
      exact absurd H (by simp)
    ·rw [if_neg c4] at H
     have c4b0 : decide (x13_1 < (l0.length : Int)) = false := decide_eq_false c4; clear c4; obtain rfl := Option.some.inj H
     go_wp2
     repeat (go_quiet (fail); try go_wp2)
     go_ret
     exact ⟨by first | rfl | (simp; done) | (simp [*]; done), by repeat (first | exact Drawn0.refl _ | apply Drawn0.step)⟩
 ·rw [if_neg c3] at H
  have c3b0 : ((l0.length : Int) == (l1.length : Int)) = false := beq_eq_false_iff_ne.mpr c3; have c3b1 : ((l0.length : Int) != (l1.length : Int)) = true := bne_iff_ne.mpr c3
  have c3b2 : (l0.length == l1.length) = false := by first | simpa using c3 | (simp at c3 ⊢; omega)
  obtain rfl := Option.some.inj H
  go_enter Try.func21, Try.ntmps21
  go_wp2
  repeat (go_quiet (fail); try go_wp2)
  go_ret
  exact ⟨by first | rfl | (simp; done) | (simp [*]; done), by repeat (first | exact Drawn0.refl _ | apply Drawn0.step)⟩

-- BY HAND: function 84 (slices_Repeat_int_int)

def impl_led.f (l0 : List Int) (l1 : List Int) : Option (Int) := if 0 < (l1.length : Int) then (if 0 ≤ (rd l1 0) then (if (rd l1 0) < (l0.length : Int) then (if 1 < (l1.length : Int) then (if 0 ≤ (rd l1 1) then (if (rd l1 1) < (l0.length : Int) then (if 2 < (l1.length : Int) then (if 0 ≤ (rd l1 2) then (if (rd l1 2) < (l0.length : Int) then (some (Int.tmod (wrap64 ((wrap64 ((rd l0 (rd l1 0)) + (rd l0 (rd l1 1)))) + (rd l0 (rd l1 2)))) 3)) else (none)) else (none)) else (none)) else (none)) else (none)) else (none)) else (none)) else (none)) else (none)
theorem impl_led.calls (A0 : Option Addr) (c0 : Nat) (l0 : List Int) (A1 : Option Addr) (c1 : Nat) (l1 : List Int) (r : Int) (w : World) (hr0 : Kd.C (Kd.int .i64) w A0 l0.length l0) (hc0 : l0.length ≤ c0) (hr1 : Kd.C (Kd.int .i64) w A1 l1.length l1) (hc1 : l1.length ≤ c1) (h : impl_led.f l0 l1 = some r) :
  Calls Try.prog 86 #[.slice A0 l0.length c0, .slice A1 l1.length c1] w fun e w' => e = .returned (.int .i64 r) ∧ Drawn0 w w' := by
 have HR0 := am hr0; have HC0 := am hc0; clear hr0 hc0; have HR1 := am hr1; have HC1 := am hc1; clear hr1 hc1; have H : (if 0 < (l1.length : Int) then (if 0 ≤ (rd l1 0) then (if (rd l1 0) < (l0.length : Int) then (if 1 < (l1.length : Int) then (if 0 ≤ (rd l1 1) then (if (rd l1 1) < (l0.length : Int) then (if 2 < (l1.length : Int) then (if 0 ≤ (rd l1 2) then (if (rd l1 2) < (l0.length : Int) then (some (Int.tmod (wrap64 ((wrap64 ((rd l0 (rd l1 0)) + (rd l0 (rd l1 1)))) + (rd l0 (rd l1 2)))) 3)) else (none)) else (none)) else (none)) else (none)) else (none)) else (none)) else (none)) else (none)) else (none)) = some r := h; clear h
 by_cases c3 : 0 < (l1.length : Int)
 ·rw [if_pos c3] at H
  have c3b0 : decide (0 < (l1.length : Int)) = true := decide_eq_true c3; have c3b1 : decide (0 < l1.length) = true := decide_eq_true (by omega); clear c3
  by_cases c4 : 0 ≤ (rd l1 0)
  ·rw [if_pos c4] at H
   have c4b0 : decide (0 ≤ (rd l1 0)) = true := decide_eq_true c4; clear c4
   by_cases c5 : (rd l1 0) < (l0.length : Int)
   ·rw [if_pos c5] at H
    have c5b0 : decide ((rd l1 0) < (l0.length : Int)) = true := decide_eq_true c5; clear c5
    by_cases c6 : 1 < (l1.length : Int)
    ·rw [if_pos c6] at H
     have c6b0 : decide (1 < (l1.length : Int)) = true := decide_eq_true c6; have c6b1 : decide (1 < l1.length) = true := decide_eq_true (by omega); clear c6
     by_cases c7 : 0 ≤ (rd l1 1)
     ·rw [if_pos c7] at H
      have c7b0 : decide (0 ≤ (rd l1 1)) = true := decide_eq_true c7; clear c7
      by_cases c8 : (rd l1 1) < (l0.length : Int)
      ·rw [if_pos c8] at H
       have c8b0 : decide ((rd l1 1) < (l0.length : Int)) = true := decide_eq_true c8; clear c8
       by_cases c9 : 2 < (l1.length : Int)
       ·rw [if_pos c9] at H
        have c9b0 : decide (2 < (l1.length : Int)) = true := decide_eq_true c9; have c9b1 : decide (2 < l1.length) = true := decide_eq_true (by omega); clear c9
        by_cases c10 : 0 ≤ (rd l1 2)
        ·rw [if_pos c10] at H
         have c10b0 : decide (0 ≤ (rd l1 2)) = true := decide_eq_true c10; clear c10
         by_cases c11 : (rd l1 2) < (l0.length : Int)
         ·rw [if_pos c11] at H
          have c11b0 : decide ((rd l1 2) < (l0.length : Int)) = true := decide_eq_true c11; clear c11; obtain rfl := Option.some.inj H; have p521 : 0 ≤ (0 : Int) := (by omega); have q521 : 0 < (l1.length : Int) := dT; obtain ⟨ad521, e521, hx521_0⟩ := Kd.at_int HR1.out 0 p521 q521; cases e521; have qi521 : (0 < l1.length) = True := eq_true (by omega)
          (try rw [show ((0 : Int)).toNat = 0 from rfl] at hx521_0)
          (try rw [Addr.add_zero'] at hx521_0)
          replace p521 := eq_true p521; replace q521 := eq_true q521; obtain ⟨ad522, e522, hx522_0⟩ := Kd.at_int HR0.out (rd l1 0) dT dT; cases e522; have p522 := eT (0 ≤ ((rd l1 0) : Int)); have q522 := eT ((rd l1 0) < (l0.length : Int)); have p523 : 0 ≤ (1 : Int) := (by omega); have q523 : 1 < (l1.length : Int) := dT; obtain ⟨ad523, e523, hx523_0⟩ := Kd.at_int HR1.out 1 p523 q523; obtain rfl : ad521 = ad523 := (by injection e523)
          (try simp only [show (1 : Int).toNat = 1 from rfl, Nat.reduceMul, Nat.reduceEqDiff, Go.Addr.add, ↓reduceIte] at hx523_0)
          have qi523 : (1 < l1.length) = True := eq_true (by omega)
          (try rw [show ((1 : Int)).toNat = 1 from rfl] at hx523_0)
          replace p523 := eq_true p523; replace q523 := eq_true q523; have p524 : 0 ≤ ((rd l1 1) : Int) := dT; have q524 : (rd l1 1) < (l0.length : Int) := dT; obtain ⟨ad524, e524, hx524_0⟩ := Kd.at_int HR0.out (rd l1 1) p524 q524; obtain rfl : ad522 = ad524 := (by injection e524); replace p524 := eq_true p524; replace q524 := eq_true q524; have p525 : 0 ≤ (2 : Int) := (by omega); have q525 : 2 < (l1.length : Int) := dT; obtain ⟨ad525, e525, hx525_0⟩ := Kd.at_int HR1.out 2 p525 q525; obtain rfl : ad521 = ad525 := (by injection e525)
          (try simp only [show (2 : Int).toNat = 2 from rfl, Nat.reduceMul, Nat.reduceEqDiff, Go.Addr.add, ↓reduceIte] at hx525_0)
          have qi525 : (2 < l1.length) = True := eq_true (by omega)
          (try rw [show ((2 : Int)).toNat = 2 from rfl] at hx525_0)
          replace p525 := eq_true p525; replace q525 := eq_true q525; have p526 : 0 ≤ ((rd l1 2) : Int) := dT; have q526 : (rd l1 2) < (l0.length : Int) := dT; obtain ⟨ad526, e526, hx526_0⟩ := Kd.at_int HR0.out (rd l1 2) p526 q526; obtain rfl : ad522 = ad526 := (by injection e526); replace p526 := eq_true p526; replace q526 := eq_true q526
          go_enter Try.func86, Try.ntmps86
          go_wp2
          repeat (go_quiet (fail); try go_wp2)
          go_ret
          exact ⟨by first | rfl | (simp; done) | (simp [*]; done), by repeat (first | exact Drawn0.refl _ | apply Drawn0.step)⟩
         ·rw [if_neg c11] at H
          exact absurd H (by simp)
        ·rw [if_neg c10] at H
         exact absurd H (by simp)
       ·rw [if_neg c9] at H
        exact absurd H (by simp)
      ·rw [if_neg c8] at H
       exact absurd H (by simp)
     ·rw [if_neg c7] at H
      exact absurd H (by simp)
    ·rw [if_neg c6] at H
     exact absurd H (by simp)
   ·rw [if_neg c5] at H
    exact absurd H (by simp)
  ·rw [if_neg c4] at H
   exact absurd H (by simp)
 ·rw [if_neg c3] at H
  exact absurd H (by simp)

end Go.Proofs.Ytmehagedoaopeaa.PO
-- printed by a program of this session (wip/gp) out of the translation; Lean checks it
namespace Go.Proofs.Ytmehagedoaopeaa.PO
open Go.RowKit Go.Proofs.YtmehagedoaopeaaW.PrintWords Go.Proofs.YtmehagedoaopeaaW.PrintLast Go.Proofs.YtmehagedoaopeaaW.PrintMore Go.Proofs.YtmehagedoaopeaaSq
attribute [local go_sem] max2_int min2_int max_two min_two max_three min_three max_four min_four   -- for this text's walks alone
attribute [local go_sem] Go.Proofs.YtmehagedoaopeaaGp.str_geq Go.Proofs.YtmehagedoaopeaaGp.str_gtr Go.Proofs.YtmehagedoaopeaaGp.str_leq
set_option linter.unusedVariables false
set_option linter.unusedSimpArgs false

set_option maxHeartbeats 8000000
set_option maxRecDepth 100000
open Go Go.Shelf Go.Proofs.YtmehagedoaopeaaGp
def impl_BuildPeeled.in3 (e : List Int) (n : Nat) : Bool := decide (2 < e.length) && (decide (0 ≤ rd e 0) && (decide (rd e 0 < (n : Int)) && (decide (0 ≤ rd e 1) && (decide (rd e 1 < (n : Int)) && (decide (0 ≤ rd e 2) && decide (rd e 2 < (n : Int)))))))
theorem impl_BuildPeeled.in3E {e : List Int} {n : Nat} (h : impl_BuildPeeled.in3 e n = true) : 2 < e.length ∧ 0 ≤ rd e 0 ∧ rd e 0 < (n : Int) ∧ 0 ≤ rd e 1 ∧ rd e 1 < (n : Int) ∧ 0 ≤ rd e 2 ∧ rd e 2 < (n : Int) := by
  simp only [impl_BuildPeeled.in3, Bool.and_eq_true, decide_eq_true_eq] at h
  exact ⟨h.1, h.2.1, h.2.2.1, h.2.2.2.1, h.2.2.2.2.1, h.2.2.2.2.2.1, h.2.2.2.2.2.2⟩
def impl_BuildPeeled.ok (E : List (List Int)) (n : Nat) (s : S118) : Bool := decide (0 ≤ s.f1) && (decide (s.f1 < (n : Int)) && (decide (0 ≤ s.f0) && (decide (s.f0 < (E.length : Int)) && (impl_BuildPeeled.in3 (rd_L3 E s.f0) n && decide ((rd_L3 E s.f0).length ≤ 1000)))))
def impl_BuildPeeled.sum (m e : List Int) : Int := Int.tmod (wrap64 ((wrap64 ((rd m (rd e 0)) + (rd m (rd e 1)))) + (rd m (rd e 2)))) 3
def impl_BuildPeeled.idx (p : Int) : List Int → Int → Int
 | [], _ => -1
 | x :: t, i => if p = x then i else impl_BuildPeeled.idx p t (i + 1)
theorem impl_BuildPeeled.idxL (e : List Int) (p : Int) (hl : e.length ≤ 1000) : ∀ (t pre : List Int), e = pre ++ t → slices_Index_int_int.l0 (t.length + 1) e p (e.length : Int) (pre.length : Int) = some (impl_BuildPeeled.idx p t (pre.length : Int)) := by
  intro t
  induction t with
  | nil =>
    intro pre h
    have hn : ¬ ((pre.length : Nat) : Int) < (e.length : Int) := by rw [h]; simp
    simp only [slices_Index_int_int.l0]
    rw [if_neg hn]; rfl
  | cons x t ih =>
    intro pre h
    have hm : ((pre.length : Nat) : Int) < (e.length : Int) := by rw [h]; simp; omega
    have hg : rd e ((pre.length : Nat) : Int) = x := by simp [rd, h]
    have hw : wrap64 (((pre.length : Nat) : Int) + 1) = (((pre ++ [x]).length : Nat) : Int) := by have := hm; simp; unfold wrap64; omega
    have hi := ih (pre ++ [x]) (by rw [h]; simp)
    simp only [slices_Index_int_int.l0, List.length_cons, hg, hw]
    rw [if_pos hm, if_pos (by omega), if_pos hm]
    by_cases c : p = x
    · rw [if_pos c]; simp only [impl_BuildPeeled.idx]; rw [if_pos c]
    · rw [if_neg c]; simp only [impl_BuildPeeled.idx]; rw [if_neg c, show (((pre.length : Nat) : Int) + 1) = (((pre ++ [x]).length : Nat) : Int) by simp]; exact hi
theorem impl_BuildPeeled.idxE (e : List Int) (p : Int) (hl : e.length ≤ 1000) : ∃ k, slices_Index_int_int.f k e p = some (impl_BuildPeeled.idx p e 0) := ⟨e.length + 1, impl_BuildPeeled.idxL e p hl e [] rfl⟩
def impl_BuildPeeled.step (E : List (List Int)) (m : List Int) (s : S118) : List Int := (m.set ((s.f1) : Int).toNat 0).set ((s.f1) : Int).toNat (Int.tmod (wrap64 ((wrap64 (impl_BuildPeeled.idx (s.f1) (rd_L3 E (s.f0)) 0 - impl_BuildPeeled.sum (m.set ((s.f1) : Int).toNat 0) (rd_L3 E (s.f0)))) + 3)) 3)
theorem impl_BuildPeeled.ord {e : List Int} (m : List Int) (h : impl_BuildPeeled.in3 e m.length = true) : impl_led.f m e = some (impl_BuildPeeled.sum m e) := by
  obtain ⟨h2, a0, b0, a1, b1, a2, b2⟩ := impl_BuildPeeled.in3E h
  unfold impl_led.f impl_BuildPeeled.sum
  rw [if_pos (by omega), if_pos a0, if_pos b0, if_pos (by omega), if_pos a1, if_pos b1, if_pos (by omega), if_pos a2, if_pos b2]
theorem impl_BuildPeeled.okE {E : List (List Int)} {n : Nat} {s : S118} (h : impl_BuildPeeled.ok E n s = true) : 0 ≤ s.f1 ∧ s.f1 < (n : Int) ∧ 0 ≤ s.f0 ∧ s.f0 < (E.length : Int) ∧ impl_BuildPeeled.in3 (rd_L3 E s.f0) n = true ∧ (rd_L3 E s.f0).length ≤ 1000 := by
  simp only [impl_BuildPeeled.ok, Bool.and_eq_true, decide_eq_true_eq] at h
  exact ⟨h.1, h.2.1, h.2.2.1, h.2.2.2.1, h.2.2.2.2.1, h.2.2.2.2.2⟩
def impl_BuildPeeled.l0 (xs : List S118) (_ : Int) (_ : Int) (E : List (List Int)) (o0 o1 : Int) (m : List Int) : Option (Int × Int × List Int × Bool) := if (xs.all (impl_BuildPeeled.ok E m.length) = true ∧ 0 < m.length ∧ xs.length ≤ 17592186044416) then (some (o0, o1, xs.foldr (fun s m => impl_BuildPeeled.step E m s) m, true)) else (none)
def impl_BuildPeeled.f (k : Nat) (a0 : Int) (l1 : List ByteArray) (a2 : Int) : Option (Int × Int × List Int × Bool) := (impl_HyperOf.f k a0 l1 a2).bind fun bt528 => (if bt528.2.2 = true then ((impl_Hyper_order.f k bt528.1 bt528.2.1).bind fun bt534 => (if bt534.2 = true then ((slices_Repeat_int_int.f (([3] : List Int)) bt528.1).bind fun t541 => (impl_BuildPeeled.l0 bt534.1 (wrap64 ((bt534.1.length : Int) - 1)) bt528.1 bt528.2.1 a0 a2 t541)) else (some (0, 0, ([] : List Int), false)))) else (some (0, 0, ([] : List Int), false)))
def impl_BuildPeeled.T12 : Bool × List (List Nat × List Nat) := (true, [([], []), ([0], [0]), ([], []), ([2], [2]), ([], []), ([], []), ([5], [5]), ([4, 6], [4, 6]), ([], []), ([8], [8]), ([], []), ([9, 10, 7], [9, 10]), ([7, 11], [7, 11]), ([12], [12]), ([13], [13]), ([1, 3, 0, 1, 2, 3, 4, 5, 6, 7, 8, 9, 10, 11, 12, 13, 14], [1, 3]), ([15, 14, 11, 0, 1, 2, 3, 4, 5, 6, 7, 8, 9, 10, 11, 12, 13, 14], [14, 15])])
def impl_BuildPeeled.B12 : List Nat := [0, 1, 0, 4, 0, 0, 32, 112, 0, 256, 0, 2032, 4080, 8176, 16368, 32767, 65535]
theorem impl_BuildPeeled.tab12 : rtab .any (opsOf Try.f22 12) = impl_BuildPeeled.T12 := by kernel_rfl
theorem impl_BuildPeeled.bits12 : waitsOk impl_BuildPeeled.T12.2 impl_BuildPeeled.B12 = true := by kernel_rfl
theorem impl_BuildPeeled.calls (k : Nat) (a0 : Int) (A1 : Option Addr) (c1 : Nat) (l1 : List ByteArray) (a2 : Int) (r1 : Int) (r2 : Int) (r3 : List Int) (r4 : Bool) (w : World) (hr1 : Kd.C Kd.string w A1 l1.length l1) (hc1 : l1.length ≤ c1) (h : impl_BuildPeeled.f k a0 l1 a2 = some (r1, r2, r3, r4)) :
  Calls Try.prog 22 #[.int .i64 a0, .slice A1 l1.length c1, .int .i64 a2] w fun e w' => ∃ v2_ : Value, e = .returned (.tuple #[.agg #[.int .i64 r1, .int .i64 r2, v2_], .bool r4]) ∧ Kd.R (Kd.int .i64) 3 w' w.heap.size (fun _ => True) v2_ r3 ∧ Below w.heap.size w w' := by
 have hu26 := Try.underlying26; have hu33 := Try.underlying33; have hu118 := Try.underlying118; have HR1 := am hr1; have HC1 := am hc1; clear hr1 hc1; have HB := am (Below.refl w.heap.size w); have H : ((impl_HyperOf.f k a0 l1 a2).bind fun bt528 => (if bt528.2.2 = true then ((impl_Hyper_order.f k bt528.1 bt528.2.1).bind fun bt534 => (if bt534.2 = true then ((slices_Repeat_int_int.f (([3] : List Int)) bt528.1).bind fun t541 => (impl_BuildPeeled.l0 bt534.1 (wrap64 ((bt534.1.length : Int) - 1)) bt528.1 bt528.2.1 a0 a2 t541)) else (some (0, 0, ([] : List Int), false)))) else (some (0, 0, ([] : List Int), false)))) = some (r1, r2, r3, r4) := h; clear h; replace H := Option.bind_eq_some_iff.mp H; obtain ⟨⟨t528, t529, t532⟩, A40, H⟩ := H; (try dsimp -simprocs only at H); have A4 := am A40; clear A40
 by_cases c5 : t532 = true
 ·subst c5
  rw [if_pos rfl] at H; replace H := Option.bind_eq_some_iff.mp H; obtain ⟨⟨t534, t535⟩, A60, H⟩ := H; (try dsimp -simprocs only at H); have A6 := am A60; clear A60
  by_cases c7 : t535 = true
  ·subst c7
   rw [if_pos rfl] at H; obtain ⟨y538, hy538⟩ : ∃ y_ : List Int, y_ = (([3] : List Int)) := ⟨_, rfl⟩
   replace H : ((slices_Repeat_int_int.f y538 t528).bind fun t541 => (impl_BuildPeeled.l0 t534 (wrap64 ((t534.length : Int) - 1)) t528 t529 a0 a2 t541)) = some (r1, r2, r3, r4) := by first | (rw [hy538]; with_reducible exact H) | (have H2_ := (Option.bind_some _ _).symm.trans H; rw [hy538]; with_reducible exact H2_) | (have H2_ := (Option.bind_some _ _).symm.trans H; with_reducible exact H2_) | with_reducible exact H | (rw [hy538]; exact H) | exact H
   have Ny538 := am hy538; clear hy538; replace H := Option.bind_eq_some_iff.mp H; obtain ⟨t541, A80, H⟩ := H; (try dsimp -simprocs only at H); have A8 := am A80; clear A80; have H' := am H; clear H
   let bp_ : Exit → Act → World → Prop := bodyPost Try.prog Try.f22 (fun _ _ => True); refine calls_marks Try.func22 rfl ?_; simp only [Try.ntmps22, List.size_toArray, List.length_cons, List.length_nil, Nat.reduceAdd, Nat.reduceSub, Array.replicate_succ, Array.replicate_zero, List.push_toArray, List.append_toArray, List.nil_append, List.cons_append]
   go_wp2_with (first | ((with_reducible refine gate_dst (N := 6) rfl ?_); refine bE 6 #[.int .i64 0, .int .i64 0, .slice none 0 0] 26 ?_; intro gb527 hg w9 hbox hb; have n0_ := Bb HB hb; have n1_ := am (hbox); have n2_ := Gl HB hg; have n3_ := Gl HB hg; clear HB; revert n0_ n1_ n2_ n3_; intro HB BK527 GW527 GE527; clear hb hbox hg) | ((with_reducible refine gate_callee (f := 13) rfl ?_); refine gL (some 19) Try.func13 #[.int .i64 a0, .slice A1 l1.length c1, .int .i64 a2] ?_; (with_reducible refine (impl_HyperOf.calls k a0 _ _ l1 a2 t528 t529 true _ ?side1 ?side2 A4.out).mono ?_); (case side1 => exact Cz (Kd.C_below HR1.out HB.out)); (case side2 => exact HC1.out); rintro e w10 ⟨v530, rfl, ho0, hb⟩; refine ⟨_, rfl, ?_⟩; have n0_ := am (Kd.S_lower ho0 (below_size (w := w) (Bq))); have n1_ := Kb BK527 hb; have n2_ := Bc HB hb; clear BK527 HB; revert n0_ n1_ n2_; intro HO531 BK527 HB; (try clear hb); (try clear hb2); (try clear hk); (try clear hi); (try clear ho0)) | ((with_reducible refine gate_dst (N := 8) rfl ?_); refine bE 8 #[.int .i64 0, .slice none 0 0] 33 ?_; intro gb533 hg w11 hbox hb; have n0_ := am (Kd.S_below (by (with_reducible repeat (first | apply Kd.S_alloc | apply Kd.S_drewN | apply Kd.S_drew)); exact HO531.out) hb); have n1_ := Kb BK527 hb; have n2_ := Bc HB hb; have n3_ := am (hbox); have n4_ := Gm HB hg; have n5_ := Gm HB hg; have n6_ := Nl BK527 hg; have n7_ := Ng BK527 hg; clear HO531 BK527 HB; revert n0_ n1_ n2_ n3_ n4_ n5_ n6_ n7_; intro HO531 BK527 HB BK533 GW533 GE533 NB527_533 NB533_527; clear hb hbox hg; have hnb12 := NB533_527.out; have hnc12 := NB527_533.out; obtain ⟨hcz13_0, hcz13_1, hfz13_0, hfz13_1⟩ := cf2 (w := w11) BK533; obtain ⟨Ao14, co14, eo14⟩ := Kd.S_slice HO531.out; subst eo14) | ((with_reducible refine gate_callee (f := 76) rfl ?_); refine gL (some 26) Try.func76 #[.pointer (some ⟨gb533, 0, none⟩)] ?_; (with_reducible refine (impl_Hyper_order.calls k gb533 t528 Ao14 co14 t529 t534 true _ ?side1 ?side2 ?side3 A6.out).mono ?_); (case side1 => (with_reducible repeat (first | refine blk_drewN ?_ _ | refine blk_drew ?_ | refine blk_alloc ?_ _)); refine blk_put (cs := #[.int .i64 t528, .slice none 0 0]) ?_ 1 _ rfl; (with_reducible repeat (first | refine blk_drewN ?_ _ | refine blk_drew ?_ | refine blk_alloc ?_ _)); refine blk_put (cs := #[.int .i64 0, .slice none 0 0]) ?_ 0 _ rfl; exact Kz BK533.out); (case side2 => refine (Kd.S_reads' (e := 24) (base := w.heap.size) (ok := fun k_ => True) (n := t529.length) (c := co14) ?_).2.2; exact (by (with_reducible repeat (first | apply Kd.S_alloc | apply Kd.S_drewN | apply Kd.S_drew)); exact (Kd.S_mono (Kd.S_far (p := ⟨gb533, 1, none⟩) (Kd.S_far (p := ⟨gb533, 0, none⟩) (Kd.S_types HO531.out BK533.out (by decide)) (fun _ hk => hk.2) (.int .i64 t528)) (fun _ hk => hk.2) (.slice Ao14 t529.length co14)) (fun _ h_ => h_.1)))); (case side3 => exact (Kd.S_reads' HO531.out).2.1); rintro e w15 ⟨v536, rfl, ho0, hb⟩; refine ⟨_, rfl, ?_⟩; have n0_ := am (Kd.S_below (by (with_reducible repeat (first | apply Kd.S_alloc | apply Kd.S_drewN | apply Kd.S_drew)); exact (Kd.S_mono (Kd.S_far (p := ⟨gb533, 1, none⟩) (Kd.S_far (p := ⟨gb533, 0, none⟩) (Kd.S_types HO531.out BK533.out (by decide)) (fun _ hk => hk.2) (.int .i64 t528)) (fun _ hk => hk.2) (.slice Ao14 t529.length co14)) (fun _ h_ => h_.1))) hb); have n1_ := Rm ho0 HB; have n2_ := am (blk_below (g := gb527) (o := .cells #[.int .i64 0, .int .i64 0, .slice none 0 0] 26 (0, 0)) (by (with_reducible repeat (first | refine blk_drewN ?_ _ | refine blk_drew ?_ | refine blk_alloc ?_ _)); refine blk_far ?_ NB527_533.out _; (with_reducible repeat (first | refine blk_drewN ?_ _ | refine blk_drew ?_ | refine blk_alloc ?_ _)); refine blk_far ?_ NB527_533.out _; exact Kz BK527.out) hb); have n3_ := am (blk_below (g := gb533) (o := .cells #[.int .i64 t528, .slice Ao14 t529.length co14] 33 (0, 0)) (by (with_reducible repeat (first | refine blk_drewN ?_ _ | refine blk_drew ?_ | refine blk_alloc ?_ _)); refine blk_put (cs := #[.int .i64 t528, .slice none 0 0]) ?_ 1 _ rfl; (with_reducible repeat (first | refine blk_drewN ?_ _ | refine blk_drew ?_ | refine blk_alloc ?_ _)); refine blk_put (cs := #[.int .i64 0, .slice none 0 0]) ?_ 0 _ rfl; exact Kz BK533.out) hb); have n4_ := Bc HB hb; clear HO531 BK527 BK533 HB; revert n0_ n1_ n2_ n3_ n4_; intro HO531 HO537 BK527 BK533 HB; (try clear hb); (try clear hb2); (try clear hk); (try clear hi); (try clear ho0)) | ((with_reducible refine gate_dst (N := 34) rfl ?_); refine Kd.R_lit (Kd.int .i64) _ 3 ?hg (N := 34) ?hd (xs := ([3] : List Int)) (inner := [.int .i64 3]) (ok := fun _ => True) (okp := fun _ => True) ?hr ?hp (fun _ hk => hk) trivial (Below.refl _ _) (Nat.le_refl _) (by simp) ?_; (case hd => rfl); (case hg => rfl); (case hr => first | (go_simp; done) | (go_simp; rfl)); (case hp => exact (Reps.one (show Kd.M (Kd.int .i64) _ _ _ 3 [.int .i64 3] from rfl) (Reps.none _ _))); intro v539 w16 ho17 hb hg_ hnew_; clear hg_ hnew_; (first | rw [← Ny538.out] at ho17 | (simp only [Int.reduceToNat] at ho17; rw [← Ny538.out] at ho17)); have n0_ := am (Kd.S_elder' (by (with_reducible repeat (first | apply Kd.S_alloc | apply Kd.S_drewN | apply Kd.S_drew)); exact HO531.out) (Kd.R_base ho17) hb); have n1_ := Rb HO537 hb; have n2_ := Rm ho17 HB; have n3_ := Kb BK527 hb; have n4_ := Kb BK533 hb; have n5_ := Bc HB hb; clear HO531 HO537 BK527 BK533 HB; revert n0_ n1_ n2_ n3_ n4_ n5_; intro HO531 HO537 HO540 BK527 BK533 HB; clear hb ho17; obtain ⟨hcz18_0, hcz18_1, hfz18_0, hfz18_1⟩ := cf2 (w := w16) BK533; obtain ⟨Ao19, co19, eo19⟩ := Kd.R_slice HO540.out; subst eo19) | ((with_reducible refine gate_callee (f := 84) rfl ?_); refine gL (some 37) Try.func84 #[.slice Ao19 y538.length co19, .int .i64 t528] ?_; (with_reducible refine (slices_Repeat_int_int.calls _ _ y538 t528 t541 _ ?side1 ?side2 A8.out).mono ?_); (case side1 => exact Cz ((Kd.R_reads' HO540.out).2.2)); (case side2 => exact (Kd.R_reads' HO540.out).2.1); rintro e w20 ⟨v542, rfl, ho0, hb⟩; refine ⟨_, rfl, ?_⟩; have n0_ := am (Kd.S_elder' (by (with_reducible repeat (first | apply Kd.S_alloc | apply Kd.S_drewN | apply Kd.S_drew)); exact HO531.out) (Kd.R_base ho0) hb); have n1_ := Rb HO537 hb; have n2_ := Re HO540 (Kd.R_base ho0) hb; have n3_ := Rm (Kd.R_new' ho0 (Kd.R_lt (Rz HO540.out))) HB; have n4_ := Kb BK527 hb; have n5_ := Kb BK533 hb; have n6_ := Bc HB hb; clear HO531 HO537 HO540 BK527 BK533 HB; revert n0_ n1_ n2_ n3_ n4_ n5_ n6_; intro HO531 HO537 HO540 HO543 BK527 BK533 HB; (try clear hb); (try clear hb2); (try clear hk); (try clear hi); (try clear ho0); obtain ⟨Ao21, co21, eo21⟩ := Kd.R_slice HO543.out; subst eo21) | ((with_reducible refine gate_dst (N := 11) rfl ?_); refine bE 11 #[.int .i64 0, .int .i64 0, .slice none 0 0] 26 ?_; intro gb544 hg w22 hbox hb; have n0_ := am (Kd.S_below (by (with_reducible repeat (first | apply Kd.S_alloc | apply Kd.S_drewN | apply Kd.S_drew)); exact HO531.out) hb); have n1_ := Rb HO537 hb; have n2_ := Rb HO540 hb; have n3_ := Rb HO543 hb; have n4_ := Kb BK527 hb; have n5_ := Kb BK533 hb; have n6_ := Bc HB hb; have n7_ := am (hbox); have n8_ := Gm HB hg; have n9_ := Gm HB hg; have n10_ := Nl BK527 hg; have n11_ := Ng BK527 hg; have n12_ := Nl BK533 hg; have n13_ := Ng BK533 hg; clear HO531 HO537 HO540 HO543 BK527 BK533 HB; revert n0_ n1_ n2_ n3_ n4_ n5_ n6_ n7_ n8_ n9_ n10_ n11_ n12_ n13_; intro HO531 HO537 HO540 HO543 BK527 BK533 HB BK544 GW544 GE544 NB527_544 NB544_527 NB533_544 NB544_533; clear hb hbox hg; have hnb23 := NB544_527.out; have hnc23 := NB527_544.out; have hnb24 := NB544_533.out; have hnc24 := NB533_544.out; obtain ⟨hcz25_0, hcz25_1, hcz25_2, hfz25_0, hfz25_1, hfz25_2⟩ := cf3 (w := w22) BK544; obtain ⟨Ao26, co26, eo26⟩ := Kd.R_slice HO537.out; subst eo26) | ((with_reducible refine gate_callee (f := 77) rfl ?_); refine gL (some 40) Try.func77 #[.slice Ao26 t534.length co26] ?_; (with_reducible refine (Backward.calls Ao26 t534.length co26 _).mono ?_); rintro e wB ⟨gbB, hgB, rfl, hbox, hb⟩; refine ⟨_, rfl, ?_⟩; have n0_ : Aside0 (Kd.R k118 118 wB w.heap.size (fun _ => True) (.slice Ao26 t534.length co26) t534) := Rbl hb ⟨Rz (Kd.R_mono (Kd.R_far (p := ⟨gb544, 2, none⟩) (Kd.R_far (p := ⟨gb544, 1, none⟩) (Kd.R_far (p := ⟨gb544, 0, none⟩) (Kd.R_types HO537.out BK544.out (by decide)) (fun _ hk => hk.2) (.int .i64 a0)) (fun _ hk => hk.2) (.int .i64 a2)) (fun _ hk => hk.2) (.slice Ao21 t541.length co21)) (fun _ hk => trivial))⟩; have n1_ : Aside0 (Kd.S (Kd.slice 3 (Kd.int .i64)) 24 wB w.heap.size (fun k_ => some k_ ≠ ((.slice Ao21 t541.length co21) : Value).ownBlock) (.slice Ao14 t529.length co14) t529) := Sbl hb ⟨by (with_reducible repeat (first | apply Kd.S_alloc | apply Kd.S_drewN | apply Kd.S_drew)); exact Kd.S_mono (Kd.S_far (p := ⟨gb544, 2, none⟩) (Kd.S_far (p := ⟨gb544, 1, none⟩) (Kd.S_far (p := ⟨gb544, 0, none⟩) (Kd.S_types HO531.out BK544.out (by decide)) (fun _ hk => hk.2) (.int .i64 a0)) (fun _ hk => hk.2) (.int .i64 a2)) (fun _ hk => hk.2) (.slice Ao21 t541.length co21)) (fun _ hk => hk.1.2)⟩; have n2_ : Aside0 (Kd.R (Kd.int .i64) 3 wB w.heap.size (fun _ => True) (.slice Ao21 t541.length co21) t541) := Rbl hb ⟨Rz (Kd.R_mono (Kd.R_far (p := ⟨gb544, 2, none⟩) (Kd.R_far (p := ⟨gb544, 1, none⟩) (Kd.R_far (p := ⟨gb544, 0, none⟩) (Kd.R_types HO543.out BK544.out (by decide)) (fun _ hk => hk.2) (.int .i64 a0)) (fun _ hk => hk.2) (.int .i64 a2)) (fun _ hk => hk.2) (.slice Ao21 t541.length co21)) (fun _ hk => trivial))⟩; have n3_ : Aside0 (wB.heap[gb527]? = some (.cells #[.int .i64 0, .int .i64 0, (.slice none 0 0)] 26 (0, 0))) := Kbl hb ⟨by (with_reducible repeat (first | refine blk_drewN ?_ _ | refine blk_drew ?_ | refine blk_alloc ?_ _)); refine blk_far ?_ NB527_544.out _; (with_reducible repeat (first | refine blk_drewN ?_ _ | refine blk_drew ?_ | refine blk_alloc ?_ _)); refine blk_far ?_ NB527_544.out _; (with_reducible repeat (first | refine blk_drewN ?_ _ | refine blk_drew ?_ | refine blk_alloc ?_ _)); refine blk_far ?_ NB527_544.out _; (with_reducible repeat (first | refine blk_drewN ?_ _ | refine blk_drew ?_ | refine blk_alloc ?_ _)); exact BK527.out⟩; have n4_ : Aside0 (wB.heap[gb533]? = some (.cells #[.int .i64 t528, (.slice Ao14 t529.length co14)] 33 (0, 0))) := Kbl hb ⟨by (with_reducible repeat (first | refine blk_drewN ?_ _ | refine blk_drew ?_ | refine blk_alloc ?_ _)); refine blk_far ?_ NB533_544.out _; (with_reducible repeat (first | refine blk_drewN ?_ _ | refine blk_drew ?_ | refine blk_alloc ?_ _)); refine blk_far ?_ NB533_544.out _; (with_reducible repeat (first | refine blk_drewN ?_ _ | refine blk_drew ?_ | refine blk_alloc ?_ _)); refine blk_far ?_ NB533_544.out _; (with_reducible repeat (first | refine blk_drewN ?_ _ | refine blk_drew ?_ | refine blk_alloc ?_ _)); exact BK533.out⟩; have n5_ : Aside0 (wB.heap[gb544]? = some (.cells #[.int .i64 a0, .int .i64 a2, (.slice Ao21 t541.length co21)] 26 (0, 0))) := Kbl hb ⟨by (with_reducible repeat (first | refine blk_drewN ?_ _ | refine blk_drew ?_ | refine blk_alloc ?_ _)); refine blk_put (cs := #[.int .i64 a0, .int .i64 a2, .slice none 0 0]) ?_ 2 _ rfl; (with_reducible repeat (first | refine blk_drewN ?_ _ | refine blk_drew ?_ | refine blk_alloc ?_ _)); refine blk_put (cs := #[.int .i64 a0, .int .i64 0, .slice none 0 0]) ?_ 1 _ rfl; (with_reducible repeat (first | refine blk_drewN ?_ _ | refine blk_drew ?_ | refine blk_alloc ?_ _)); refine blk_put (cs := #[.int .i64 0, .int .i64 0, .slice none 0 0]) ?_ 0 _ rfl; (with_reducible repeat (first | refine blk_drewN ?_ _ | refine blk_drew ?_ | refine blk_alloc ?_ _)); exact BK544.out⟩; have n6_ : Aside0 (Below w.heap.size w wB) := Bbl hb ⟨Bq⟩; have nb_ := am hbox; clear hbox hb hgB; clear HO531 HO537 HO540 HO543 BK527 BK533 HB BK544; revert n0_ n1_ n2_ n3_ n4_ n5_ n6_ nb_; intro HO_39 HO_534001 HO_545002 BK527 BK533 BK544 HB BKB))
   (try simp only [aP])
   have hq_ := H'.out; unfold impl_BuildPeeled.l0 at hq_; split at hq_
   case isFalse => cases hq_
   case isTrue hc_ =>
    obtain ⟨hall, hpos, hreach⟩ := hc_; have HE_ := Option.some.inj hq_; simp only [Prod.mk.injEq] at HE_; obtain ⟨er0, er1, er2, er3⟩ := HE_; subst er0; subst er1; subst er3; clear hq_
    obtain ⟨go34, co34, eo34, gb34, gl34, cl34, HG34⟩ := Kd.R_form HO_545002.out (by omega); (first | cases eo34 | (injection eo34 with ea_ en_ ec_; (first | subst ea_ | (injection ea_ with ea_; subst ea_)); subst ec_; clear en_))
    have hneB : gbB ≠ go34 := fun e_ => Kd.R_ne HO_545002.out BKB.out (by decide) (by rw [e_]; rfl)
    refine range_back t534 gbB Ao26 co26 go34 co21 w.heap.size t541 rfl (by omega) BKB.out (Kd.R_mono (Kd.R_types HO_39.out HG34 (by decide)) (fun _ hk => hk.2)) gl34 hneB (R_int_ok HO_545002.out) (fun m s => impl_BuildPeeled.step t529 m s) 13 ?assign ?body ?done
    case assign =>
     intro l j s W K hK
     have hQ_ : ¬ LetsOut (Exit.then K (fun _ _ _ => False)) := by rintro ⟨a_, w_, h_⟩; simp [Exit.then] at h_
     refine regionIn (by rfl) hQ_ ?_
     (try simp only [aP])
     go_wp2_with (first | ((with_reducible refine gate_dst (N := 13) rfl ?_); refine bE 13 #[.int .i64 0, .int .i64 0] 118 ?_; intro gb546 hg w_ hbox hb; have BX_ := am hbox; have HG_ := am hg; have HB_ := am hb; clear hbox hg hb; obtain ⟨hc0_, hc1_, hf0_, hf1_⟩ := cf2 (w := w_) BX_))
     obtain ⟨h1_, h2_⟩ := box_two HG_.out HB_.out BX_.out; exact hK gb546 _ HG_.out h1_ h2_
    case body =>
     intro l m j s gb546 W hmem hlen hG hgb hbox hR
     obtain ⟨c1_, c2_, c3_, c4_, c5_, c6_⟩ := impl_BuildPeeled.okE (List.all_eq_true.1 hall s hmem); rw [← hlen] at c2_ c5_
     have hord := impl_BuildPeeled.ord (e := rd_L3 t529 s.f0) (m.set ((s.f1) : Int).toNat 0) (by rw [List.length_set]; exact c5_); obtain ⟨k1, hidx⟩ := impl_BuildPeeled.idxE (rd_L3 t529 s.f0) s.f1 c6_
     obtain ⟨t549, hz_⟩ : ∃ t_ : Int, t_ = impl_BuildPeeled.idx s.f1 (rd_L3 t529 s.f0) 0 := ⟨_, rfl⟩; rw [← hz_] at hidx; have A35 := am hidx; clear hidx
     obtain ⟨y548, hy1_⟩ : ∃ y_ : List Int, y_ = (m.set ((s.f1) : Int).toNat 0) := ⟨_, rfl⟩; rw [← hy1_] at hord; obtain ⟨t550, ht_⟩ : ∃ t_ : Int, t_ = impl_BuildPeeled.sum y548 (rd_L3 t529 s.f0) := ⟨_, rfl⟩; rw [← ht_] at hord; have A36 := am hord; obtain ⟨y551, hy2_⟩ : ∃ y_ : List Int, y_ = (y548.set ((s.f1) : Int).toNat (Int.tmod (wrap64 ((wrap64 (t549 - t550)) + 3)) 3)) := ⟨_, rfl⟩
     have hst_ : impl_BuildPeeled.step t529 m s = y551 := by rw [hy2_, ht_, hz_, hy1_]; rfl
     have hyl_ : y551.length = m.length := by rw [hy2_, hy1_, List.length_set, List.length_set]
     have Ny548 := am hy1_; have Ny551 := am hy2_; clear hy1_ hy2_ ht_ hord hz_
     have c30b0 : decide (0 ≤ (s.f0)) = true := by first | exact decide_eq_true (by omega) | exact beq_eq_false_iff_ne.mpr c6_ | exact bne_iff_ne.mpr c6_ | exact fun h_ => c6_ (by rw [h_]; rfl)
     have c31b0 : decide ((s.f0) < (t529.length : Int)) = true := by first | exact decide_eq_true (by omega) | exact beq_eq_false_iff_ne.mpr c6_ | exact bne_iff_ne.mpr c6_ | exact fun h_ => c6_ (by rw [h_]; rfl)
     have c32b0 : decide (0 ≤ (s.f1)) = true := by first | exact decide_eq_true (by omega) | exact beq_eq_false_iff_ne.mpr c6_ | exact bne_iff_ne.mpr c6_ | exact fun h_ => c6_ (by rw [h_]; rfl)
     have c33b0 : decide ((s.f1) < (m.length : Int)) = true := by first | exact decide_eq_true (by omega) | exact beq_eq_false_iff_ne.mpr c6_ | exact bne_iff_ne.mpr c6_ | exact fun h_ => c6_ (by rw [h_]; rfl)
     have n0_ := am (Kd.R_grown (Kd.R_mono (Kd.R_bound (Kd.R_types HO_39.out HG34 (by decide))) (fun k_ hk => (⟨by have := hk.2.2.1; omega, hk.1.2⟩ : k_ ≠ gb546 ∧ k_ ≠ go34))) hG (fun k_ hk e_ => hk.2 (Option.some.inj e_)))
     have n1_ : Aside0 (Kd.S (Kd.slice 3 (Kd.int .i64)) 24 W w.heap.size (fun k_ => some k_ ≠ (.slice (some ⟨go34, 0, none⟩) m.length co21 : Value).ownBlock) (.slice Ao14 t529.length co14) t529) := ⟨Kd.S_mono (Kd.S_grown HO_534001.out hG (fun k_ hk => by first | exact hk | exact hk.1)) (fun k_ hk => by first | exact hk | exact ⟨hk.1, hk.2⟩)⟩
     have n2_ : Aside0 (Kd.R (Kd.int .i64) 3 W w.heap.size (fun _ => True) (.slice (some ⟨go34, 0, none⟩) m.length co21) m) := ⟨Kd.R_mono hR (fun _ _ => trivial)⟩
     have n3_ : Aside0 (W.heap[gb527]? = some (.cells #[.int .i64 0, .int .i64 0, (.slice none 0 0)] 26 (0, 0))) := ⟨by first | exact blk_grown BK527.out hG (Kd.R_ne HO_545002.out BK527.out (by decide)) | (rw [hlen]; exact blk_grown BK527.out hG (Kd.R_ne HO_545002.out BK527.out (by decide)))⟩
     have n4_ : Aside0 (W.heap[gb533]? = some (.cells #[.int .i64 t528, (.slice Ao14 t529.length co14)] 33 (0, 0))) := ⟨by first | exact blk_grown BK533.out hG (Kd.R_ne HO_545002.out BK533.out (by decide)) | (rw [hlen]; exact blk_grown BK533.out hG (Kd.R_ne HO_545002.out BK533.out (by decide)))⟩
     have n5_ : Aside0 (W.heap[gb544]? = some (.cells #[.int .i64 a0, .int .i64 a2, (.slice (some ⟨go34, 0, none⟩) m.length co21)] 26 (0, 0))) := ⟨by first | exact blk_grown BK544.out hG (Kd.R_ne HO_545002.out BK544.out (by decide)) | (rw [hlen]; exact blk_grown BK544.out hG (Kd.R_ne HO_545002.out BK544.out (by decide)))⟩
     have n6_ : Aside0 (Below w.heap.size w W) := ⟨HB.out.grown hG (below_size (w := w) HB.out) (fun k_ e_ => by cases e_; exact gb34)⟩
     have NB527_546 := am (show gb527 ≠ gb546 by have := blk_lt BK527.out; omega)
     have NB546_527 := am (show gb546 ≠ gb527 by have := blk_lt BK527.out; omega)
     have NB533_546 := am (show gb533 ≠ gb546 by have := blk_lt BK533.out; omega)
     have NB546_533 := am (show gb546 ≠ gb533 by have := blk_lt BK533.out; omega)
     have NB544_546 := am (show gb544 ≠ gb546 by have := blk_lt BK544.out; omega)
     have NB546_544 := am (show gb546 ≠ gb544 by have := blk_lt BK544.out; omega)
     obtain ⟨cl_, HGW_⟩ := Kd.R_typed hR go34 rfl
     have GB34 := am gb34; have GG34 := am HGW_; have nx_ := am hbox; clear hbox HGW_ BKB HO_39 HO_534001 HO_545002 BK527 BK533 BK544 HB; revert n0_ n1_ n2_ n3_ n4_ n5_ n6_ nx_; intro HO_39 HO_534001 HO_545002 BK527 BK533 BK544 HB BK546
     have HLN := am hlen; have HYL := am hyl_; have HST := am hst_; have HALL := am hall; clear hlen hyl_ hst_ hall hG hR c5_
     (try simp only [aP, List.setIfInBounds_toArray, List.set_cons_zero, List.set_cons_succ])
     refine wpIn_block ?_; refine wpIn_seq ?_; refine regionIn (by rfl) (by rintro ⟨a_, w_, h_⟩; simp [Exit.then, Exit.inBlock] at h_) ?_
     have hnb44 := NB533_527.out
     have hnc44 := NB527_533.out
     have hnb45 := NB533_544.out
     have hnc45 := NB544_533.out
     obtain ⟨hcz46_0, hcz46_1, hfz46_0, hfz46_1⟩ := cf2 (w := W) BK533
     obtain ⟨hcz47_0, hcz47_1, hfz47_0, hfz47_1⟩ := cf2 (w := W) BK546
     have p547 : 0 ≤ ((s.f0) : Int) := dT
     have q547 : (s.f0) < (t529.length : Int) := dT
     obtain ⟨ad547, A547_0, c547_0, e547, hx547_0, hl547_0, hi547_0⟩ := at_L3 (Kd.S_reads' HO_534001.out).2.2 (s.f0) p547 q547
     cases e547
     obtain ⟨ce547, hce547, hMe547, hcc547⟩ := Kd.S_get HO_534001.out [] (s.f0) p547 (by first | exact q547 | exact dT | (have e_ := (Kd.S_reads' HO_534001.out).1; omega))
     obtain ⟨ve547_0, rfl, ge547_0⟩ := hMe547
     have hv547_0 := hcc547 0 _ rfl
     rw [Nat.add_zero, show ((Kd.slice 3 (Kd.int .i64))).sz = 1 from rfl, Nat.mul_one] at hv547_0
     replace hv547_0 := Option.some.inj (hv547_0.symm.trans hx547_0)
     rw [hv547_0] at ge547_0
     have HL547_0 := am (show Kd.R (Kd.int .i64) 3 _ _ _ _ (rd_L3 t529 (s.f0)) from ge547_0)
     clear hv547_0 ge547_0
     clear hcc547 hce547
     have HR547_0 := am hi547_0
     have HC547_0 := am hl547_0
     clear hi547_0 hl547_0
     replace p547 := eq_true p547
     replace q547 := eq_true q547
     have hnb48 := NB544_527.out
     have hnc48 := NB527_544.out
     obtain ⟨hcz49_0, hcz49_1, hcz49_2, hfz49_0, hfz49_1, hfz49_2⟩ := cf3 (w := W) BK544
     have p34 : 0 ≤ ((s.f1) : Int) := dT
     have q34 : ((s.f1) : Int) < ((m.length : Int) : Int) := dT
     obtain ⟨hx34_0, hf34_0⟩ := Kd.R_celln 0 HO_545002.out ((s.f1) : Int) p34 q34
     replace p34 := eq_true p34
     replace q34 := eq_true q34
     obtain ⟨hy50_, hz50_⟩ := Kd.R_celln 0 HO_545002.out ((s.f1) : Int) (dT) (dT)
     have HP50 := Kd.R_putg HO_545002.out ((s.f1) : Int) 0
     go_wp2
     refine wpIn_seq ?_; refine regionIn (by rfl) (by rintro ⟨a_, w_, h_⟩; simp [Exit.then, Exit.inBlock] at h_) ?_
     go_wp2_with (first | ((with_reducible refine gate_store (t := 3) (p := 53) rfl ?_); refine store_event (t := 3) (p := 53) (v := ?vo_w51) (w1 := (W.setCell ⟨go34, ((s.f1) : Int).toNat, none⟩ (.int .i64 0))) ?hg ?ho ?hn ?hr ?_; (case ho => rfl); (case hg => rfl); (case hn => rfl); (case hr => first | (go_simp; done) | (go_simp; rfl)); intro w51 hw; have hg : W.grownBy w51 (some go34) := (by rw [hw]; exact HP50.2); have hp_ : Kd.R (Kd.int .i64) 3 w51 w.heap.size (fun _ => True) (.slice (some ⟨go34, 0, none⟩) m.length co21) y548 := (by rw [hw, Ny548.out]; exact HP50.1); clear HP50; have n0_ := am (Kd.R_over' (v := (.slice (some ⟨go34, 0, none⟩) m.length co21)) (Rz HO_39.out) (Kd.R_typed HO_545002.out) (by decide) hg); have n1_ := am (Kd.S_after (v := (.slice (some ⟨go34, 0, none⟩) m.length co21)) (v1 := (.slice (some ⟨go34, 0, none⟩) m.length co21)) (ok := (fun _ => True)) (by (with_reducible repeat (first | apply Kd.S_alloc | apply Kd.S_drewN | apply Kd.S_drew)); exact Kd.S_mono HO_534001.out (fun _ hk => ⟨trivial, hk⟩)) hg (.inl rfl)); have n2_ := am (hp_); have n3_ := am (blk_grown (g := gb527) (o := .cells #[.int .i64 0, .int .i64 0, .slice none 0 0] 26 (0, 0)) (Kz BK527.out) hg (Kd.R_ne HO_545002.out BK527.out (by decide))); have n4_ := am (blk_grown (g := gb533) (o := .cells #[.int .i64 t528, .slice (some ad547) t529.length co14] 33 (0, 0)) (Kz BK533.out) hg (Kd.R_ne HO_545002.out BK533.out (by decide))); have n5_ := am (blk_grown (g := gb544) (o := .cells #[.int .i64 a0, .int .i64 a2, .slice (some ⟨go34, 0, none⟩) m.length co21] 26 (0, 0)) (Kz BK544.out) hg (Kd.R_ne HO_545002.out BK544.out (by decide))); have n6_ := am (blk_grown (g := gb546) (o := .cells #[.int .i64 (s.f0), .int .i64 (s.f1)] 118 (0, 0)) (Kz BK546.out) hg (Kd.R_ne HO_545002.out BK546.out (by decide))); have n7_ := am (Kd.R_after (v := (.slice (some ⟨go34, 0, none⟩) m.length co21)) (v1 := (.slice (some ⟨go34, 0, none⟩) m.length co21)) (ok := (fun k_ => some k_ ≠ (.slice (some ad547) t529.length co14 : Value).ownBlock)) (Rz (Kd.R_mono HL547_0.out (fun _ hk => ⟨hk.2, hk.1⟩))) hg (.inl rfl)); have n8_ := am ((by rw [hw]; exact below_set (HB.out) GB34.out : Below w.heap.size w w51)); clear HO_39 HO_534001 HO_545002 BK527 BK533 BK544 BK546 HL547_0 HB; revert n0_ n1_ n2_ n3_ n4_ n5_ n6_ n7_ n8_; intro HO_39 HO_534001 HO_545002 BK527 BK533 BK544 BK546 HL547_0 HB; have HGW := am hg; clear hg hw hp_))
     have n0_ := am (Kd.R_drew HO_39.out); have n1_ := am (Kd.S_drew HO_534001.out); have n2_ := am (Kd.R_drew HO_545002.out); have n3_ := am (Kd.R_drew HL547_0.out); have n4_ := am (blk_drew BK527.out); have n5_ := am (blk_drew BK533.out); have n6_ := am (blk_drew BK544.out); have n7_ := am (blk_drew BK546.out); have n8_ := am (below_drew1 HB.out); clear HO_39 HO_534001 HO_545002 HL547_0 BK527 BK533 BK544 BK546 HB; revert n0_ n1_ n2_ n3_ n4_ n5_ n6_ n7_ n8_; intro HO_39 HO_534001 HO_545002 HL547_0 BK527 BK533 BK544 BK546 HB; replace HGW := am (grown_drew HGW.out); refine startIn (m := 17) (S := fun w' => w'.cell? ⟨gb544, 0, none⟩ = some (.int .i64 a0) ∧ w'.cell? ⟨gb544, 1, none⟩ = some (.int .i64 a2) ∧ w'.cell? ⟨gb544, 2, none⟩ = some (.slice (some ⟨go34, 0, none⟩) m.length co21) ∧ w'.cell? ⟨gb546, 0, none⟩ = some (.int .i64 (s.f0)) ∧ w'.cell? ⟨gb546, 1, none⟩ = some (.int .i64 (s.f1))) (ds := [16]) (bA 17 0) (by kernel_rfl) rfl rfl ⟨cz BK544 0, cz BK544 1, cz BK544 2, cz BK546 0, cz BK546 1⟩ (by rfl) (by rintro ⟨a_, w_, h_⟩; simp [Exit.then, Exit.inBlock] at h_) (fun hHeld => ?_); refine with_tabW impl_BuildPeeled.tab12 impl_BuildPeeled.bits12 (fun HT_ HW_ => ?_); generalize w51.drew = w52 at HGW HO_39 HO_534001 HO_545002 HL547_0 BK527 BK533 BK544 BK546 HB hHeld ⊢; refine pZ 0 (some 54) (bA 17 1) HT_.out ?_; refine pZ 2 (some 56) (bA 17 5) HT_.out ?_; refine pZ 4 (some 58) (bA 17 21) HT_.out ?_; refine pZ 5 (some 59) (bA 17 53) HT_.out ?_; refine pZ 8 (some 62) (bA 17 309) HT_.out ?_; refine pZ 10 (some 64) (bA 17 1333) HT_.out ?_; refine tZ5 1 (some 55) (bA 17 1335) HT_.out HW_.out hHeld ?_; refine tZ5 3 (some 57) (bA 17 1343) HT_.out HW_.out hHeld ?_; refine tZ5 6 (some 60) (bA 17 1407) HT_.out HW_.out hHeld ?_; refine tZ5 9 (some 63) (bA 17 1919) HT_.out HW_.out hHeld ?_; refine oZ 7 (some 61) (bA 17 2047) HT_.out (fun K hK => ?_); refine gZ Try.func85 #[.slice A547_0 (rd_L3 t529 (s.f0)).length c547_0, .int .i64 (s.f1)] ?_
     with_reducible refine (slices_Index_int_int.calls k1 _ _ (rd_L3 t529 (s.f0)) (s.f1) t549 _ ?side1 ?side2 A35.out).mono ?_
     (case side1 => repeat (first | exact ((Kd.R_reads' (Rz HL547_0.out)).2.2) | (with_reducible refine Kd.C_alloc ?_ _) | (with_reducible refine Kd.C_drewN ?_ _) | (with_reducible refine Kd.C_drew ?_)))
     (case side2 => exact HC547_0.out)
     rintro e w' ⟨rfl, ⟨nd, rfl⟩⟩; refine ⟨_, rfl, ?_⟩; refine hK.out _ _ ⟨cz BK544 0, cz BK544 1, cz BK544 2, cz BK546 0, cz BK546 1⟩ (fun hHeld => ?_); clear hK K; refine norm_ (a' := ?_) ?_ ?_; rotate_left; show Act.put _ (some 61) _ = _; simp only [aP, i64_w, i32_w]; rfl; refine oZ 11 (some 65) (bA 17 4095) HT_.out (fun K hK => ?_); refine goes_ Try.func86 (by kernel_rfl) rfl #[.slice (some ⟨go34, 0, none⟩) y548.length co21, .slice A547_0 (rd_L3 t529 (s.f0)).length c547_0] (by rfl) rfl rfl (by (try simp only [List.map_toArray, List.map_cons, List.map_nil]); first | done | (rw [show y548.length = m.length from (Kd.R_reads' HO_545002.out).1.symm] <;> rfl) | rfl | (simp only [List.length_drop, List.length_take]; rfl)) ?_
     with_reducible refine (impl_led.calls _ _ y548 _ _ (rd_L3 t529 (s.f0)) t550 _ ?side1 ?side2 ?side3 ?side4 A36.out).mono ?_
     (case side1 => exact Cz ((Kd.R_reads' HO_545002.out).2.2))
     (case side2 => rw [show y548.length = m.length from (Kd.R_reads' HO_545002.out).1.symm]; exact (Kd.R_reads' HO_545002.out).2.1)
     (case side3 => repeat (first | exact ((Kd.R_reads' (Rz HL547_0.out)).2.2) | (with_reducible refine Kd.C_alloc ?_ _) | (with_reducible refine Kd.C_drewN ?_ _) | (with_reducible refine Kd.C_drew ?_)))
     (case side4 => exact HC547_0.out)
     rintro e w' ⟨rfl, ⟨nd, rfl⟩⟩; refine ⟨_, rfl, ?_⟩; have p37 : 0 ≤ ((s.f1) : Int) := dT; have q37 : ((s.f1) : Int) < ((m.length : Int) : Int) := dT; obtain ⟨hx37_0, hf37_0⟩ := Kd.R_celln 0 HO_545002.out ((s.f1) : Int) p37 q37; replace p37 := eq_true p37; replace q37 := eq_true q37; have HP53 := Kd.R_putn HO_545002.out ((s.f1) : Int) (Int.tmod (wrap64 ((wrap64 (t549 - t550)) + 3)) 3); rw [← Ny551.out] at HP53; have HQ53 := am HP53; clear HP53; refine hK.out _ _ ⟨cz BK544 0, cz BK544 1, cz BK544 2, cz BK546 0, cz BK546 1⟩ (fun hHeld => ?_); clear hK K; refine norm_ (a' := ?_) ?_ ?_; rotate_left; show Act.put _ (some 65) _ = _; simp only [aP, i64_w, i32_w]; rfl; refine pZ 12 (some 66) (bA 17 8191) HT_.out ?_; refine pZ 13 (some 67) (bA 17 16383) HT_.out ?_; refine pZ 14 (some 68) (bA 17 32767) HT_.out ?_; refine pZ 15 (some 69) (bA 17 65535) HT_.out ?_; refine lZ 16 none (bA 17 131071) HT_.out (fun K hK => ?_); refine skip_ (w1 := ?_) (by rfl) rfl ?_ ?_
     rotate_left
     ·go_simp
      rfl
     refine hK.out _ _ ?_; clear hK K; refine done_ (done_of HT_.out (by kernel_rfl)) ?_
     simp only [Exit.inBlock, Exit.then]
     rw [HST.out]
     refine ⟨by trivial, by repeat (first | exact HGW.out | apply grown_set | apply grown_drewN | apply grown_drew), HYL.out.trans HLN.out, ?_⟩
     refine R_int_ok (ok := fun _ => True) ?_
     first | exact HQ53.out | exact Rz HQ53.out
    case done =>
     intro D m W hD hm hlen hG hR hK
     obtain rfl : r3 = m := (hm.trans er2).symm
     have n2_ : Aside0 (Kd.R (Kd.int .i64) 3 W w.heap.size (fun _ => True) (.slice (some ⟨go34, 0, none⟩) r3.length co21) r3) := ⟨Kd.R_mono hR (fun _ _ => trivial)⟩
     have n3_ : Aside0 (W.heap[gb527]? = some (.cells #[.int .i64 0, .int .i64 0, (.slice none 0 0)] 26 (0, 0))) := ⟨by first | exact blk_grown BK527.out hG (Kd.R_ne HO_545002.out BK527.out (by decide)) | (rw [hlen]; exact blk_grown BK527.out hG (Kd.R_ne HO_545002.out BK527.out (by decide)))⟩
     have n4_ : Aside0 (W.heap[gb533]? = some (.cells #[.int .i64 t528, (.slice Ao14 t529.length co14)] 33 (0, 0))) := ⟨by first | exact blk_grown BK533.out hG (Kd.R_ne HO_545002.out BK533.out (by decide)) | (rw [hlen]; exact blk_grown BK533.out hG (Kd.R_ne HO_545002.out BK533.out (by decide)))⟩
     have n5_ : Aside0 (W.heap[gb544]? = some (.cells #[.int .i64 a0, .int .i64 a2, (.slice (some ⟨go34, 0, none⟩) r3.length co21)] 26 (0, 0))) := ⟨by first | exact blk_grown BK544.out hG (Kd.R_ne HO_545002.out BK544.out (by decide)) | (rw [hlen]; exact blk_grown BK544.out hG (Kd.R_ne HO_545002.out BK544.out (by decide)))⟩
     have n6_ : Aside0 (Below w.heap.size w W) := ⟨HB.out.grown hG (below_size (w := w) HB.out) (fun k_ e_ => by cases e_; exact gb34)⟩
     have hneD : D ≠ gb527 := by have := blk_lt BK527.out; omega
     have hneG : D ≠ go34 := by omega
     have hDb : w.heap.size ≤ D := Nat.le_trans (below_size (w := w) HB.out) hD
     have HLN := am hlen; have HD_ := am hD; have HK_ := am hK; clear hlen hD hK hm hall hG hR BKB HO_39 HO_534001 HO_545002 BK527 BK533 BK544 HB; revert n2_ n3_ n4_ n5_ n6_; intro HO_545002 BK527 BK533 BK544 HB
     have hnb54 := NB544_527.out
     have hnc54 := NB527_544.out
     have hnb55 := NB544_533.out
     have hnc55 := NB533_544.out
     obtain ⟨hcz56_0, hcz56_1, hcz56_2, hfz56_0, hfz56_1, hfz56_2⟩ := cf3 (w := W) BK544
     have hnb57 := NB527_533.out
     have hnc57 := NB533_527.out
     obtain ⟨hcz58_0, hcz58_1, hcz58_2, hfz58_0, hfz58_1, hfz58_2⟩ := cf3 (w := W) BK527
     go_wp2
     refine bodyPostM_mark (D := D) rfl (by repeat (first | exact HK_.out | refine (Below.heap_setCell _ _ _ D hneD).trans ?_)) (results_ct rfl _ _ gb527 26 #[.int .i64 a0, .int .i64 a2, .slice (some ⟨go34, 0, none⟩) r3.length co21] (0, 0) _ rfl ((World.putObj_heap_other hneD.symm).trans (by (with_reducible repeat (first | refine blk_drewN ?_ _ | refine blk_drew ?_ | refine blk_alloc ?_ _)); refine blk_put (cs := #[.int .i64 a0, .int .i64 a2, .slice none 0 0]) ?_ 2 _ rfl; (with_reducible repeat (first | refine blk_drewN ?_ _ | refine blk_drew ?_ | refine blk_alloc ?_ _)); refine blk_put (cs := #[.int .i64 a0, .int .i64 0, .slice none 0 0]) ?_ 1 _ rfl; (with_reducible repeat (first | refine blk_drewN ?_ _ | refine blk_drew ?_ | refine blk_alloc ?_ _)); refine blk_put (cs := #[.int .i64 0, .int .i64 0, .slice none 0 0]) ?_ 0 _ rfl; exact Kz BK527.out)) Try.underlying26 rfl (by kernel_rfl)) ?_; refine ⟨_, eZ, ?_, ?_⟩
     ·refine Kd.R_mono (R_only (w := _) (R_int_ok (ok := fun _ => True) ?_) (grownBy_putObj' _ D _) (fun r_ e_ => by cases e_; exact hneG)) (fun _ _ => trivial)
      exact Rz (Kd.R_mono (Kd.R_far (p := ⟨gb527, 2, none⟩) (Kd.R_far (p := ⟨gb527, 1, none⟩) (Kd.R_far (p := ⟨gb527, 0, none⟩) (Kd.R_types HO_545002.out BK527.out (by decide)) (fun _ hk => hk.2) (.int .i64 a0)) (fun _ hk => hk.2) (.int .i64 a2)) (fun _ hk => hk.2) (.slice (some ⟨go34, 0, none⟩) r3.length co21)) (fun _ hk => trivial))
     ·refine Below.grown (w := _) (?_ : Below w.heap.size w _) (grownBy_putObj' _ D _) ?_ (fun k_ e_ => by cases e_; exact hDb)
      ·exact Bq
      ·exact below_size (w := w) Bq
  ·replace c7 := Bool.eq_false_iff.mpr c7
   subst c7
   rw [if_neg (show ¬ (false = true) by decide)] at H
   simp only [Option.some.injEq, Prod.mk.injEq] at H
   obtain ⟨rfl, rfl, rfl, rfl⟩ := H
   let bp_ : Exit → Act → World → Prop := bodyPost Try.prog Try.f22 (fun _ _ => True); refine calls_marks Try.func22 rfl ?_; simp only [Try.ntmps22, List.size_toArray, List.length_cons, List.length_nil, Nat.reduceAdd, Nat.reduceSub, Array.replicate_succ, Array.replicate_zero, List.push_toArray, List.append_toArray, List.nil_append, List.cons_append]
   go_wp2_with (first | ((with_reducible refine gate_dst (N := 6) rfl ?_); refine bE 6 #[.int .i64 0, .int .i64 0, .slice none 0 0] 26 ?_; intro gb527 hg w60 hbox hb; have n0_ := Bb HB hb; have n1_ := am (hbox); have n2_ := Gl HB hg; have n3_ := Gl HB hg; clear HB; revert n0_ n1_ n2_ n3_; intro HB BK527 GW527 GE527; clear hb hbox hg) | ((with_reducible refine gate_callee (f := 13) rfl ?_); refine gL (some 19) Try.func13 #[.int .i64 a0, .slice A1 l1.length c1, .int .i64 a2] ?_; (with_reducible refine (impl_HyperOf.calls k a0 _ _ l1 a2 t528 t529 true _ ?side1 ?side2 A4.out).mono ?_); (case side1 => exact Cz (Kd.C_below HR1.out HB.out)); (case side2 => exact HC1.out); rintro e w61 ⟨v530, rfl, ho0, hb⟩; refine ⟨_, rfl, ?_⟩; have n0_ := am (Kd.S_lower ho0 (below_size (w := w) (Bq))); have n1_ := Kb BK527 hb; have n2_ := Bc HB hb; clear BK527 HB; revert n0_ n1_ n2_; intro HO531 BK527 HB; (try clear hb); (try clear hb2); (try clear hk); (try clear hi); (try clear ho0)) | ((with_reducible refine gate_dst (N := 8) rfl ?_); refine bE 8 #[.int .i64 0, .slice none 0 0] 33 ?_; intro gb533 hg w62 hbox hb; have n0_ := am (Kd.S_below (by (with_reducible repeat (first | apply Kd.S_alloc | apply Kd.S_drewN | apply Kd.S_drew)); exact HO531.out) hb); have n1_ := Kb BK527 hb; have n2_ := Bc HB hb; have n3_ := am (hbox); have n4_ := Gm HB hg; have n5_ := Gm HB hg; have n6_ := Nl BK527 hg; have n7_ := Ng BK527 hg; clear HO531 BK527 HB; revert n0_ n1_ n2_ n3_ n4_ n5_ n6_ n7_; intro HO531 BK527 HB BK533 GW533 GE533 NB527_533 NB533_527; clear hb hbox hg; have hnb63 := NB533_527.out; have hnc63 := NB527_533.out; obtain ⟨hcz64_0, hcz64_1, hfz64_0, hfz64_1⟩ := cf2 (w := w62) BK533; obtain ⟨Ao65, co65, eo65⟩ := Kd.S_slice HO531.out; subst eo65) | ((with_reducible refine gate_callee (f := 76) rfl ?_); refine gL (some 26) Try.func76 #[.pointer (some ⟨gb533, 0, none⟩)] ?_; (with_reducible refine (impl_Hyper_order.calls k gb533 t528 Ao65 co65 t529 t534 false _ ?side1 ?side2 ?side3 A6.out).mono ?_); (case side1 => (with_reducible repeat (first | refine blk_drewN ?_ _ | refine blk_drew ?_ | refine blk_alloc ?_ _)); refine blk_put (cs := #[.int .i64 t528, .slice none 0 0]) ?_ 1 _ rfl; (with_reducible repeat (first | refine blk_drewN ?_ _ | refine blk_drew ?_ | refine blk_alloc ?_ _)); refine blk_put (cs := #[.int .i64 0, .slice none 0 0]) ?_ 0 _ rfl; exact Kz BK533.out); (case side2 => refine (Kd.S_reads' (e := 24) (base := w.heap.size) (ok := fun k_ => True) (n := t529.length) (c := co65) ?_).2.2; exact (by (with_reducible repeat (first | apply Kd.S_alloc | apply Kd.S_drewN | apply Kd.S_drew)); exact (Kd.S_mono (Kd.S_far (p := ⟨gb533, 1, none⟩) (Kd.S_far (p := ⟨gb533, 0, none⟩) (Kd.S_types HO531.out BK533.out (by decide)) (fun _ hk => hk.2) (.int .i64 t528)) (fun _ hk => hk.2) (.slice Ao65 t529.length co65)) (fun _ h_ => h_.1)))); (case side3 => exact (Kd.S_reads' HO531.out).2.1); rintro e w66 ⟨v536, rfl, ho0, hb⟩; refine ⟨_, rfl, ?_⟩; have n0_ := am (Kd.S_below (by (with_reducible repeat (first | apply Kd.S_alloc | apply Kd.S_drewN | apply Kd.S_drew)); exact (Kd.S_mono (Kd.S_far (p := ⟨gb533, 1, none⟩) (Kd.S_far (p := ⟨gb533, 0, none⟩) (Kd.S_types HO531.out BK533.out (by decide)) (fun _ hk => hk.2) (.int .i64 t528)) (fun _ hk => hk.2) (.slice Ao65 t529.length co65)) (fun _ h_ => h_.1))) hb); have n1_ := Rm ho0 HB; have n2_ := am (blk_below (g := gb527) (o := .cells #[.int .i64 0, .int .i64 0, .slice none 0 0] 26 (0, 0)) (by (with_reducible repeat (first | refine blk_drewN ?_ _ | refine blk_drew ?_ | refine blk_alloc ?_ _)); refine blk_far ?_ NB527_533.out _; (with_reducible repeat (first | refine blk_drewN ?_ _ | refine blk_drew ?_ | refine blk_alloc ?_ _)); refine blk_far ?_ NB527_533.out _; exact Kz BK527.out) hb); have n3_ := am (blk_below (g := gb533) (o := .cells #[.int .i64 t528, .slice Ao65 t529.length co65] 33 (0, 0)) (by (with_reducible repeat (first | refine blk_drewN ?_ _ | refine blk_drew ?_ | refine blk_alloc ?_ _)); refine blk_put (cs := #[.int .i64 t528, .slice none 0 0]) ?_ 1 _ rfl; (with_reducible repeat (first | refine blk_drewN ?_ _ | refine blk_drew ?_ | refine blk_alloc ?_ _)); refine blk_put (cs := #[.int .i64 0, .slice none 0 0]) ?_ 0 _ rfl; exact Kz BK533.out) hb); have n4_ := Bc HB hb; clear HO531 BK527 BK533 HB; revert n0_ n1_ n2_ n3_ n4_; intro HO531 HO537 BK527 BK533 HB; (try clear hb); (try clear hb2); (try clear hk); (try clear hi); (try clear ho0); obtain ⟨hcz67_0, hcz67_1, hcz67_2, hfz67_0, hfz67_1, hfz67_2⟩ := cf3 (w := w66) BK527))
   refine bodyPostM_ret (results_ct rfl _ _ gb527 26 #[.int .i64 0, .int .i64 0, .slice none 0 0] (0, 0) _ rfl (by (with_reducible repeat (first | refine blk_drewN ?_ _ | refine blk_drew ?_ | refine blk_alloc ?_ _)); refine blk_put (cs := #[.int .i64 0, .int .i64 0, .slice none 0 0]) ?_ 2 _ rfl; (with_reducible repeat (first | refine blk_drewN ?_ _ | refine blk_drew ?_ | refine blk_alloc ?_ _)); refine blk_put (cs := #[.int .i64 0, .int .i64 0, .slice none 0 0]) ?_ 1 _ rfl; (with_reducible repeat (first | refine blk_drewN ?_ _ | refine blk_drew ?_ | refine blk_alloc ?_ _)); refine blk_put (cs := #[.int .i64 0, .int .i64 0, .slice none 0 0]) ?_ 0 _ rfl; exact Kz BK527.out) Try.underlying26 rfl (by kernel_rfl)) rfl ?_; exact ⟨_, eZ, nZ, Bq⟩
 ·replace c5 := Bool.eq_false_iff.mpr c5
  subst c5
  rw [if_neg (show ¬ (false = true) by decide)] at H
  simp only [Option.some.injEq, Prod.mk.injEq] at H
  obtain ⟨rfl, rfl, rfl, rfl⟩ := H
  let bp_ : Exit → Act → World → Prop := bodyPost Try.prog Try.f22 (fun _ _ => True); refine calls_marks Try.func22 rfl ?_; simp only [Try.ntmps22, List.size_toArray, List.length_cons, List.length_nil, Nat.reduceAdd, Nat.reduceSub, Array.replicate_succ, Array.replicate_zero, List.push_toArray, List.append_toArray, List.nil_append, List.cons_append]
  go_wp2_with (first | ((with_reducible refine gate_dst (N := 6) rfl ?_); refine bE 6 #[.int .i64 0, .int .i64 0, .slice none 0 0] 26 ?_; intro gb527 hg w68 hbox hb; have n0_ := Bb HB hb; have n1_ := am (hbox); have n2_ := Gl HB hg; have n3_ := Gl HB hg; clear HB; revert n0_ n1_ n2_ n3_; intro HB BK527 GW527 GE527; clear hb hbox hg) | ((with_reducible refine gate_callee (f := 13) rfl ?_); refine gL (some 19) Try.func13 #[.int .i64 a0, .slice A1 l1.length c1, .int .i64 a2] ?_; (with_reducible refine (impl_HyperOf.calls k a0 _ _ l1 a2 t528 t529 false _ ?side1 ?side2 A4.out).mono ?_); (case side1 => exact Cz (Kd.C_below HR1.out HB.out)); (case side2 => exact HC1.out); rintro e w69 ⟨v530, rfl, ho0, hb⟩; refine ⟨_, rfl, ?_⟩; have n0_ := am (Kd.S_lower ho0 (below_size (w := w) (Bq))); have n1_ := Kb BK527 hb; have n2_ := Bc HB hb; clear BK527 HB; revert n0_ n1_ n2_; intro HO531 BK527 HB; (try clear hb); (try clear hb2); (try clear hk); (try clear hi); (try clear ho0)) | ((with_reducible refine gate_dst (N := 8) rfl ?_); refine bE 8 #[.int .i64 0, .slice none 0 0] 33 ?_; intro gb533 hg w70 hbox hb; have n0_ := am (Kd.S_below (by (with_reducible repeat (first | apply Kd.S_alloc | apply Kd.S_drewN | apply Kd.S_drew)); exact HO531.out) hb); have n1_ := Kb BK527 hb; have n2_ := Bc HB hb; have n3_ := am (hbox); have n4_ := Gm HB hg; have n5_ := Gm HB hg; have n6_ := Nl BK527 hg; have n7_ := Ng BK527 hg; clear HO531 BK527 HB; revert n0_ n1_ n2_ n3_ n4_ n5_ n6_ n7_; intro HO531 BK527 HB BK533 GW533 GE533 NB527_533 NB533_527; clear hb hbox hg; have hnb71 := NB533_527.out; have hnc71 := NB527_533.out; obtain ⟨hcz72_0, hcz72_1, hfz72_0, hfz72_1⟩ := cf2 (w := w70) BK533; obtain ⟨Ao73, co73, eo73⟩ := Kd.S_slice HO531.out; subst eo73; obtain ⟨hcz74_0, hcz74_1, hcz74_2, hfz74_0, hfz74_1, hfz74_2⟩ := cf3 (w := w70) BK527))
  refine bodyPostM_ret (results_ct rfl _ _ gb527 26 #[.int .i64 0, .int .i64 0, .slice none 0 0] (0, 0) _ rfl (by (with_reducible repeat (first | refine blk_drewN ?_ _ | refine blk_drew ?_ | refine blk_alloc ?_ _)); refine blk_put (cs := #[.int .i64 0, .int .i64 0, .slice none 0 0]) ?_ 2 _ rfl; (with_reducible repeat (first | refine blk_drewN ?_ _ | refine blk_drew ?_ | refine blk_alloc ?_ _)); refine blk_put (cs := #[.int .i64 0, .int .i64 0, .slice none 0 0]) ?_ 1 _ rfl; (with_reducible repeat (first | refine blk_drewN ?_ _ | refine blk_drew ?_ | refine blk_alloc ?_ _)); refine blk_put (cs := #[.int .i64 0, .int .i64 0, .slice none 0 0]) ?_ 0 _ rfl; (with_reducible repeat (first | refine blk_drewN ?_ _ | refine blk_drew ?_ | refine blk_alloc ?_ _)); refine blk_far ?_ NB527_533.out _; (with_reducible repeat (first | refine blk_drewN ?_ _ | refine blk_drew ?_ | refine blk_alloc ?_ _)); refine blk_far ?_ NB527_533.out _; exact Kz BK527.out) Try.underlying26 rfl (by kernel_rfl)) rfl ?_; exact ⟨_, eZ, nZ, Bq⟩

-- NOT PRINTED: function 168 (slices_IndexFunc_int_int)

-- NOT PRINTED: function 114 (slices_ContainsFunc_int_int)

-- NOT PRINTED: function 153 (impl_IsOrdered_1)
def impl_IsOrdered_1.f (a0 : Int) (a1_0 : Int) (a1_1 : Int) (a1_2 : Int) (l1_3 : List Int) : Option (Bool) := (impl_in.f a0 0 (wrap64 (a1_2 - 1))).bind fun t554 => (some (!t554))
theorem impl_IsOrdered_1.calls (a0 : Int) (g1 : Nat) (a1_0 : Int) (a1_1 : Int) (a1_2 : Int) (A1_3 : Option Addr) (c1_3 : Nat) (l1_3 : List Int) (r : Bool) (w : World) (hb1 : w.heap[g1]? = some (.cells #[.int .i64 a1_0, .int .i64 a1_1, .int .i64 a1_2, .slice A1_3 l1_3.length c1_3] 50 (0, 0))) (hr1_3 : Kd.C (Kd.int .i64) w A1_3 l1_3.length l1_3) (hc1_3 : l1_3.length ≤ c1_3) (h : impl_IsOrdered_1.f a0 a1_0 a1_1 a1_2 l1_3 = some r) :
  Calls Try.prog 153 #[.int .i64 a0, .pointer (some ⟨g1, 0, none⟩)] w fun e w' => e = .returned (.bool r) ∧ Drawn0 w w' := by
 have HR1_3 := am hr1_3; have HC1_3 := am hc1_3; clear hr1_3 hc1_3; have BK1 := am hb1; clear hb1; have H : ((impl_in.f a0 0 (wrap64 (a1_2 - 1))).bind fun t554 => (some (!t554))) = some r := h; clear h; replace H := Option.bind_eq_some_iff.mp H; obtain ⟨t554, A30, H⟩ := H; (try dsimp -simprocs only at H); have A3 := am A30; clear A30; obtain rfl := Option.some.inj H; obtain ⟨hcz4_0, hcz4_1, hcz4_2, hcz4_3, hfz4_0, hfz4_1, hfz4_2, hfz4_3⟩ := cf4 (w := w) BK1
 go_enter Try.func153, Try.ntmps153
 go_wp2_with (first | ((with_reducible refine gate_callee (f := 66) rfl ?_); refine gL (some 8) Try.func66 #[.int .i64 a0, .int .i64 0, .int .i64 (wrap64 (a1_2 - 1))] ?_; (with_reducible refine (impl_in.calls a0 0 (wrap64 (a1_2 - 1)) t554 _ A3.out).mono ?_); rintro e w' ⟨rfl, ⟨nd, rfl⟩⟩; refine ⟨_, rfl, ?_⟩))
 go_ret
 exact ⟨by first | rfl | (simp; done) | (simp [*]; done), by repeat (first | exact Drawn0.refl _ | apply Drawn0.step)⟩

def slices_IndexFunc_int_int_at_impl_IsOrdered_1.l0 : Nat → List Int → Int → Int → Int → Int → Int → List Int → Option (Int)
 | 0, _, _, _, _, _, _, _ => none
 | k + 1, x0, x7, x8, x3000, x3001, x3002, x3003 => if x8 < x7 then (if 0 ≤ x8 then (if x8 < (x0.length : Int) then ((impl_IsOrdered_1.f (rd x0 x8) x3000 x3001 x3002 x3003).bind fun t556 => (if t556 = true then (some x8) else (slices_IndexFunc_int_int_at_impl_IsOrdered_1.l0 k x0 x7 (wrap64 (x8 + 1)) x3000 x3001 x3002 x3003))) else (none)) else (none)) else (some (-1))
def slices_IndexFunc_int_int_at_impl_IsOrdered_1.f (k : Nat) (l0 : List Int)  (a2_0 : Int) (a2_1 : Int) (a2_2 : Int) (l2_3 : List Int) : Option (Int) := slices_IndexFunc_int_int_at_impl_IsOrdered_1.l0 k l0 (l0.length : Int) 0 a2_0 a2_1 a2_2 l2_3
theorem slices_IndexFunc_int_int_at_impl_IsOrdered_1.calls (k : Nat) (A0 : Option Addr) (c0 : Nat) (l0 : List Int)  (g2 : Nat) (a2_0 : Int) (a2_1 : Int) (a2_2 : Int) (A2_3 : Option Addr) (c2_3 : Nat) (l2_3 : List Int) (r : Int) (w : World) (hr0 : Kd.C (Kd.int .i64) w A0 l0.length l0) (hc0 : l0.length ≤ c0) (hb2 : w.heap[g2]? = some (.cells #[.int .i64 a2_0, .int .i64 a2_1, .int .i64 a2_2, .slice A2_3 l2_3.length c2_3] 50 (0, 0))) (hr2_3 : Kd.C (Kd.int .i64) w A2_3 l2_3.length l2_3) (hc2_3 : l2_3.length ≤ c2_3) (h : slices_IndexFunc_int_int_at_impl_IsOrdered_1.f k l0 a2_0 a2_1 a2_2 l2_3 = some r) :
  Calls Try.prog 168 #[.slice A0 l0.length c0, .func (.func 153) #[] #[.pointer (some ⟨g2, 0, none⟩)]] w fun e w' => e = .returned (.int .i64 r) ∧ Drawn0 w w' := by
 have HR0 := am hr0; have HC0 := am hc0; clear hr0 hc0; have HR2_3 := am hr2_3; have HC2_3 := am hc2_3; clear hr2_3 hc2_3; have BK2 := am hb2; clear hb2; have H : (slices_IndexFunc_int_int_at_impl_IsOrdered_1.l0 k l0 (l0.length : Int) 0 a2_0 a2_1 a2_2 l2_3) = some r := h; clear h; have H' := am H; clear H
 go_enter Try.func168, Try.ntmps168
 go_wp2
 go_loopg [8] k (fun kq v8 w' => ∃ (x8_1 : Int), v8 = .int .i64 x8_1 ∧ Aside0 (slices_IndexFunc_int_int_at_impl_IsOrdered_1.l0 kq l0 (l0.length : Int) x8_1 a2_0 a2_1 a2_2 l2_3 = some r) ∧ Aside0 (kq ≤ k) ∧ Aside0 (w'.heap[g2]? = some (.cells #[.int .i64 a2_0, .int .i64 a2_1, .int .i64 a2_2, (.slice A2_3 l2_3.length c2_3)] 50 (0, 0))) ∧ Drawn0 w w')
 case atStart => exact ⟨(0), wZ, H', ⟨Nat.le_refl _⟩, ⟨Kz BK2.out⟩, by repeat (first | exact Drawn0.refl _ | apply Drawn0.step)⟩
 case round =>
  clear H'
  try clear c1
  try clear c2
  try clear p2
  obtain ⟨x8_1, rfl, HA, HK1, BK2, ⟨m1, rfl⟩⟩ := hrel; cases gk with
  | zero => exact absurd HA.out (by simp [slices_IndexFunc_int_int_at_impl_IsOrdered_1.l0])
  | succ k1 =>
   have H := HA.out; clear HA
   simp only [slices_IndexFunc_int_int_at_impl_IsOrdered_1.l0] at H
   by_cases c4 : x8_1 < (l0.length : Int)
   ·rw [if_pos c4] at H
    have c4b0 : decide (x8_1 < (l0.length : Int)) = true := decide_eq_true c4; clear c4
    by_cases c5 : 0 ≤ x8_1
    ·rw [if_pos c5] at H
     have c5b0 : decide (0 ≤ x8_1) = true := decide_eq_true c5; clear c5
     by_cases c6 : x8_1 < (l0.length : Int)
     ·rw [if_pos c6] at H
      have c6b0 : decide (x8_1 < (l0.length : Int)) = true := decide_eq_true c6; clear c6; replace H := Option.bind_eq_some_iff.mp H; obtain ⟨t556, A70, H⟩ := H; (try dsimp -simprocs only at H); have A7 := am A70; clear A70
      by_cases c8 : t556 = true
      ·subst c8
       rw [if_pos rfl] at H; obtain rfl := Option.some.inj H; obtain ⟨ad555, e555, hx555_0⟩ := Kd.at_int HR0.out x8_1 dT dT; cases e555; have p555 := eT (0 ≤ (x8_1 : Int)); have q555 := eT (x8_1 < (l0.length : Int))
       go_wp2_with (first | (go_at_call 153; (with_reducible refine (impl_IsOrdered_1.calls (rd l0 x8_1) g2 a2_0 a2_1 a2_2 A2_3 c2_3 l2_3 true _ ?side1 ?side2 ?side3 A7.out).mono ?_); (case side1 => exact Kz BK2.out); (case side2 => exact Cz HR2_3.out); (case side3 => exact HC2_3.out); rintro e w' ⟨rfl, ⟨nd, rfl⟩⟩))
       go_ret
       exact ⟨by first | rfl | (simp; done) | (simp [*]; done), by repeat (first | exact Drawn0.refl _ | apply Drawn0.step)⟩
      ·replace c8 := Bool.eq_false_iff.mpr c8
       subst c8
       rw [if_neg (show ¬ (false = true) by decide)] at H; have H' := am H; clear H; obtain ⟨ad555, e555, hx555_0⟩ := Kd.at_int HR0.out x8_1 dT dT; cases e555; have p555 := eT (0 ≤ (x8_1 : Int)); have q555 := eT (x8_1 < (l0.length : Int))
       go_wp2_with (first | (go_at_call 153; (with_reducible refine (impl_IsOrdered_1.calls (rd l0 x8_1) g2 a2_0 a2_1 a2_2 A2_3 c2_3 l2_3 false _ ?side1 ?side2 ?side3 A7.out).mono ?_); (case side1 => exact Kz BK2.out); (case side2 => exact Cz HR2_3.out); (case side3 => exact HC2_3.out); rintro e w' ⟨rfl, ⟨nd, rfl⟩⟩))
       go_roundg k1
       case measure => have := HK1.out; omega
       case rel => exact ⟨(wrap64 (x8_1 + 1)), wZ, H', ⟨by have := HK1.out; omega⟩, ⟨Kz BK2.out⟩, by repeat (first | exact Drawn0.refl _ | apply Drawn0.step)⟩
     ·rw [if_neg c6] at H
      exact absurd H (by simp)
    ·rw [if_neg c5] at H
     exact absurd H (by simp)
   ·rw [if_neg c4] at H
    have c4b0 : decide (x8_1 < (l0.length : Int)) = false := decide_eq_false c4; clear c4; obtain rfl := Option.some.inj H
    go_wp2
    go_ret
    exact ⟨by first | rfl | (simp; done) | (simp [*]; done), by repeat (first | exact Drawn0.refl _ | apply Drawn0.step)⟩

def slices_ContainsFunc_int_int_at_impl_IsOrdered_1.f (k : Nat) (l0 : List Int)  (a2_0 : Int) (a2_1 : Int) (a2_2 : Int) (l2_3 : List Int) : Option (Bool) := (slices_IndexFunc_int_int_at_impl_IsOrdered_1.f k l0 a2_0 a2_1 a2_2 l2_3).bind fun t557 => (some (decide (t557 ≥ 0)))
theorem slices_ContainsFunc_int_int_at_impl_IsOrdered_1.calls (k : Nat) (A0 : Option Addr) (c0 : Nat) (l0 : List Int)  (g2 : Nat) (a2_0 : Int) (a2_1 : Int) (a2_2 : Int) (A2_3 : Option Addr) (c2_3 : Nat) (l2_3 : List Int) (r : Bool) (w : World) (hr0 : Kd.C (Kd.int .i64) w A0 l0.length l0) (hc0 : l0.length ≤ c0) (hb2 : w.heap[g2]? = some (.cells #[.int .i64 a2_0, .int .i64 a2_1, .int .i64 a2_2, .slice A2_3 l2_3.length c2_3] 50 (0, 0))) (hr2_3 : Kd.C (Kd.int .i64) w A2_3 l2_3.length l2_3) (hc2_3 : l2_3.length ≤ c2_3) (h : slices_ContainsFunc_int_int_at_impl_IsOrdered_1.f k l0 a2_0 a2_1 a2_2 l2_3 = some r) :
  Calls Try.prog 114 #[.slice A0 l0.length c0, .func (.func 153) #[] #[.pointer (some ⟨g2, 0, none⟩)]] w fun e w' => e = .returned (.bool r) ∧ Drawn0 w w' := by
 have HR0 := am hr0; have HC0 := am hc0; clear hr0 hc0; have HR2_3 := am hr2_3; have HC2_3 := am hc2_3; clear hr2_3 hc2_3; have BK2 := am hb2; clear hb2; have H : ((slices_IndexFunc_int_int_at_impl_IsOrdered_1.f k l0 a2_0 a2_1 a2_2 l2_3).bind fun t557 => (some (decide (t557 ≥ 0)))) = some r := h; clear h; replace H := Option.bind_eq_some_iff.mp H; obtain ⟨t557, A40, H⟩ := H; (try dsimp -simprocs only at H); have A4 := am A40; clear A40; obtain rfl := Option.some.inj H
 go_enter Try.func114, Try.ntmps114
 go_wp2_with (first | ((with_reducible refine gate_callee (f := 168) rfl ?_); refine gL (some 7) Try.func168 #[.slice A0 l0.length c0, .func (.func 153) #[] #[.pointer (some ⟨g2, 0, none⟩)]] ?_; (with_reducible refine (slices_IndexFunc_int_int_at_impl_IsOrdered_1.calls k _ _ l0  g2 a2_0 a2_1 a2_2 A2_3 c2_3 l2_3 t557 _ ?side1 ?side2 ?side3 ?side4 ?side5 A4.out).mono ?_); (case side1 => exact Cz HR0.out); (case side2 => exact HC0.out); (case side3 => exact Kz BK2.out); (case side4 => exact Cz HR2_3.out); (case side5 => exact HC2_3.out); rintro e w' ⟨rfl, ⟨nd, rfl⟩⟩; refine ⟨_, rfl, ?_⟩))
 go_ret
 exact ⟨by first | rfl | (simp; done) | (simp [*]; done), by repeat (first | exact Drawn0.refl _ | apply Drawn0.step)⟩

def impl_IsOrdered.f (k : Nat) (a0_0 : Int) (a0_1 : Int) (a0_2 : Int) (l0_3 : List Int) : Option (Bool) := (slices_ContainsFunc_int_int_at_impl_IsOrdered_1.f k l0_3 a0_0 a0_1 a0_2 l0_3).bind fun t559 => (if t559 = true then (some false) else ((impl_isSeed.f a0_0).bind fun t560 => (if t560 = true then ((impl_segmentOk.f a0_1).bind fun t561 => (if t561 = true then ((impl_in.f a0_2 1 40).bind fun t562 => (if t562 = true then (some ((l0_3.length : Int) == (wrap64 (3 * a0_1)))) else (some false))) else (some false))) else (some false))))
theorem impl_IsOrdered.calls (k : Nat) (a0_0 : Int) (a0_1 : Int) (a0_2 : Int) (A0_3 : Option Addr) (c0_3 : Nat) (l0_3 : List Int) (r : Bool) (w : World) (hr0_3 : Kd.C (Kd.int .i64) w A0_3 l0_3.length l0_3) (hc0_3 : l0_3.length ≤ c0_3) (h : impl_IsOrdered.f k a0_0 a0_1 a0_2 l0_3 = some r) :
  Calls Try.prog 87 #[.agg #[.int .i64 a0_0, .int .i64 a0_1, .int .i64 a0_2, .slice A0_3 l0_3.length c0_3]] w fun e w' => e = .returned (.bool r) ∧ Below w.heap.size w w' := by
 have hu50 := Try.underlying50; have HR0_3 := am hr0_3; have HC0_3 := am hc0_3; clear hr0_3 hc0_3; have HB := am (Below.refl w.heap.size w); have H : ((slices_ContainsFunc_int_int_at_impl_IsOrdered_1.f k l0_3 a0_0 a0_1 a0_2 l0_3).bind fun t559 => (if t559 = true then (some false) else ((impl_isSeed.f a0_0).bind fun t560 => (if t560 = true then ((impl_segmentOk.f a0_1).bind fun t561 => (if t561 = true then ((impl_in.f a0_2 1 40).bind fun t562 => (if t562 = true then (some ((l0_3.length : Int) == (wrap64 (3 * a0_1)))) else (some false))) else (some false))) else (some false))))) = some r := h; clear h; replace H := Option.bind_eq_some_iff.mp H; obtain ⟨t559, A20, H⟩ := H; (try dsimp -simprocs only at H); have A2 := am A20; clear A20
 by_cases c3 : t559 = true
 ·subst c3
  rw [if_pos rfl] at H; obtain rfl := Option.some.inj H
  go_enter Try.func87, Try.ntmps87
  go_wp2_with (first | ((with_reducible refine gate_dst (N := 1) rfl ?_); (try (refine gate_guard (by rfl) ?_; dsimp only)); refine bE 1 #[.int .i64 a0_0, .int .i64 a0_1, .int .i64 a0_2, .slice A0_3 l0_3.length c0_3] 50 ?_; intro gb558 hg w4 hbox hb; have n0_ := Bb HB hb; have n1_ := am (hbox); have n2_ := Gl HB hg; have n3_ := Gl HB hg; clear HB; revert n0_ n1_ n2_ n3_; intro HB BK558 GW558 GE558; clear hb hbox hg; obtain ⟨hcz5_0, hcz5_1, hcz5_2, hcz5_3, hfz5_0, hfz5_1, hfz5_2, hfz5_3⟩ := cf4 (w := w4) BK558) | ((with_reducible refine gate_callee (f := 114) rfl ?_); refine gL (some 7) Try.func114 #[.slice A0_3 l0_3.length c0_3, .func (.func 153) #[] #[.pointer (some ⟨gb558, 0, none⟩)]] ?_; (with_reducible refine (slices_ContainsFunc_int_int_at_impl_IsOrdered_1.calls k _ _ l0_3  gb558 a0_0 a0_1 a0_2 A0_3 c0_3 l0_3 true _ ?side1 ?side2 ?side3 ?side4 ?side5 A2.out).mono ?_); (case side1 => exact Cz (Kd.C_below HR0_3.out HB.out)); (case side2 => exact HC0_3.out); (case side3 => exact Kz BK558.out); (case side4 => exact Cz (Kd.C_below HR0_3.out HB.out)); (case side5 => exact HC0_3.out); rintro e w' ⟨rfl, ⟨nd, rfl⟩⟩; refine ⟨_, rfl, ?_⟩))
  go_ret
  exact ⟨eZ, Bq⟩
 ·replace c3 := Bool.eq_false_iff.mpr c3
  subst c3
  rw [if_neg (show ¬ (false = true) by decide)] at H; replace H := Option.bind_eq_some_iff.mp H; obtain ⟨t560, A60, H⟩ := H; (try dsimp -simprocs only at H); have A6 := am A60; clear A60
  by_cases c7 : t560 = true
  ·subst c7
   rw [if_pos rfl] at H; replace H := Option.bind_eq_some_iff.mp H; obtain ⟨t561, A80, H⟩ := H; (try dsimp -simprocs only at H); have A8 := am A80; clear A80
   by_cases c9 : t561 = true
   ·subst c9
    rw [if_pos rfl] at H; replace H := Option.bind_eq_some_iff.mp H; obtain ⟨t562, A100, H⟩ := H; (try dsimp -simprocs only at H); have A10 := am A100; clear A100
    by_cases c11 : t562 = true
    ·subst c11
     rw [if_pos rfl] at H; obtain rfl := Option.some.inj H
     go_enter Try.func87, Try.ntmps87
     go_wp2_with (first | ((with_reducible refine gate_dst (N := 1) rfl ?_); (try (refine gate_guard (by rfl) ?_; dsimp only)); refine bE 1 #[.int .i64 a0_0, .int .i64 a0_1, .int .i64 a0_2, .slice A0_3 l0_3.length c0_3] 50 ?_; intro gb558 hg w12 hbox hb; have n0_ := Bb HB hb; have n1_ := am (hbox); have n2_ := Gl HB hg; have n3_ := Gl HB hg; clear HB; revert n0_ n1_ n2_ n3_; intro HB BK558 GW558 GE558; clear hb hbox hg; obtain ⟨hcz13_0, hcz13_1, hcz13_2, hcz13_3, hfz13_0, hfz13_1, hfz13_2, hfz13_3⟩ := cf4 (w := w12) BK558) | ((with_reducible refine gate_callee (f := 114) rfl ?_); refine gL (some 7) Try.func114 #[.slice A0_3 l0_3.length c0_3, .func (.func 153) #[] #[.pointer (some ⟨gb558, 0, none⟩)]] ?_; (with_reducible refine (slices_ContainsFunc_int_int_at_impl_IsOrdered_1.calls k _ _ l0_3  gb558 a0_0 a0_1 a0_2 A0_3 c0_3 l0_3 false _ ?side1 ?side2 ?side3 ?side4 ?side5 A2.out).mono ?_); (case side1 => exact Cz (Kd.C_below HR0_3.out HB.out)); (case side2 => exact HC0_3.out); (case side3 => exact Kz BK558.out); (case side4 => exact Cz (Kd.C_below HR0_3.out HB.out)); (case side5 => exact HC0_3.out); rintro e w' ⟨rfl, ⟨nd, rfl⟩⟩; refine ⟨_, rfl, ?_⟩) | (go_at_call 59; (with_reducible refine (impl_isSeed.calls a0_0 true _ A6.out).mono ?_); rintro e w' ⟨rfl, ⟨nd, rfl⟩⟩) | (go_at_call 60; (with_reducible refine (impl_segmentOk.calls a0_1 true _ A8.out).mono ?_); rintro e w' ⟨rfl, ⟨nd, rfl⟩⟩) | (go_at_call 66; (with_reducible refine (impl_in.calls a0_2 1 40 true _ A10.out).mono ?_); rintro e w' ⟨rfl, ⟨nd, rfl⟩⟩))
     go_ret
     exact ⟨eZ, Bq⟩
    ·replace c11 := Bool.eq_false_iff.mpr c11
     subst c11
     rw [if_neg (show ¬ (false = true) by decide)] at H; obtain rfl := Option.some.inj H
     go_enter Try.func87, Try.ntmps87
     go_wp2_with (first | ((with_reducible refine gate_dst (N := 1) rfl ?_); (try (refine gate_guard (by rfl) ?_; dsimp only)); refine bE 1 #[.int .i64 a0_0, .int .i64 a0_1, .int .i64 a0_2, .slice A0_3 l0_3.length c0_3] 50 ?_; intro gb558 hg w14 hbox hb; have n0_ := Bb HB hb; have n1_ := am (hbox); have n2_ := Gl HB hg; have n3_ := Gl HB hg; clear HB; revert n0_ n1_ n2_ n3_; intro HB BK558 GW558 GE558; clear hb hbox hg; obtain ⟨hcz15_0, hcz15_1, hcz15_2, hcz15_3, hfz15_0, hfz15_1, hfz15_2, hfz15_3⟩ := cf4 (w := w14) BK558) | ((with_reducible refine gate_callee (f := 114) rfl ?_); refine gL (some 7) Try.func114 #[.slice A0_3 l0_3.length c0_3, .func (.func 153) #[] #[.pointer (some ⟨gb558, 0, none⟩)]] ?_; (with_reducible refine (slices_ContainsFunc_int_int_at_impl_IsOrdered_1.calls k _ _ l0_3  gb558 a0_0 a0_1 a0_2 A0_3 c0_3 l0_3 false _ ?side1 ?side2 ?side3 ?side4 ?side5 A2.out).mono ?_); (case side1 => exact Cz (Kd.C_below HR0_3.out HB.out)); (case side2 => exact HC0_3.out); (case side3 => exact Kz BK558.out); (case side4 => exact Cz (Kd.C_below HR0_3.out HB.out)); (case side5 => exact HC0_3.out); rintro e w' ⟨rfl, ⟨nd, rfl⟩⟩; refine ⟨_, rfl, ?_⟩) | (go_at_call 59; (with_reducible refine (impl_isSeed.calls a0_0 true _ A6.out).mono ?_); rintro e w' ⟨rfl, ⟨nd, rfl⟩⟩) | (go_at_call 60; (with_reducible refine (impl_segmentOk.calls a0_1 true _ A8.out).mono ?_); rintro e w' ⟨rfl, ⟨nd, rfl⟩⟩) | (go_at_call 66; (with_reducible refine (impl_in.calls a0_2 1 40 false _ A10.out).mono ?_); rintro e w' ⟨rfl, ⟨nd, rfl⟩⟩))
     go_ret
     exact ⟨eZ, Bq⟩
   ·replace c9 := Bool.eq_false_iff.mpr c9
    subst c9
    rw [if_neg (show ¬ (false = true) by decide)] at H; obtain rfl := Option.some.inj H
    go_enter Try.func87, Try.ntmps87
    go_wp2_with (first | ((with_reducible refine gate_dst (N := 1) rfl ?_); (try (refine gate_guard (by rfl) ?_; dsimp only)); refine bE 1 #[.int .i64 a0_0, .int .i64 a0_1, .int .i64 a0_2, .slice A0_3 l0_3.length c0_3] 50 ?_; intro gb558 hg w16 hbox hb; have n0_ := Bb HB hb; have n1_ := am (hbox); have n2_ := Gl HB hg; have n3_ := Gl HB hg; clear HB; revert n0_ n1_ n2_ n3_; intro HB BK558 GW558 GE558; clear hb hbox hg; obtain ⟨hcz17_0, hcz17_1, hcz17_2, hcz17_3, hfz17_0, hfz17_1, hfz17_2, hfz17_3⟩ := cf4 (w := w16) BK558) | ((with_reducible refine gate_callee (f := 114) rfl ?_); refine gL (some 7) Try.func114 #[.slice A0_3 l0_3.length c0_3, .func (.func 153) #[] #[.pointer (some ⟨gb558, 0, none⟩)]] ?_; (with_reducible refine (slices_ContainsFunc_int_int_at_impl_IsOrdered_1.calls k _ _ l0_3  gb558 a0_0 a0_1 a0_2 A0_3 c0_3 l0_3 false _ ?side1 ?side2 ?side3 ?side4 ?side5 A2.out).mono ?_); (case side1 => exact Cz (Kd.C_below HR0_3.out HB.out)); (case side2 => exact HC0_3.out); (case side3 => exact Kz BK558.out); (case side4 => exact Cz (Kd.C_below HR0_3.out HB.out)); (case side5 => exact HC0_3.out); rintro e w' ⟨rfl, ⟨nd, rfl⟩⟩; refine ⟨_, rfl, ?_⟩) | (go_at_call 59; (with_reducible refine (impl_isSeed.calls a0_0 true _ A6.out).mono ?_); rintro e w' ⟨rfl, ⟨nd, rfl⟩⟩) | (go_at_call 60; (with_reducible refine (impl_segmentOk.calls a0_1 false _ A8.out).mono ?_); rintro e w' ⟨rfl, ⟨nd, rfl⟩⟩))
    go_ret
    exact ⟨eZ, Bq⟩
  ·replace c7 := Bool.eq_false_iff.mpr c7
   subst c7
   rw [if_neg (show ¬ (false = true) by decide)] at H; obtain rfl := Option.some.inj H
   go_enter Try.func87, Try.ntmps87
   go_wp2_with (first | ((with_reducible refine gate_dst (N := 1) rfl ?_); (try (refine gate_guard (by rfl) ?_; dsimp only)); refine bE 1 #[.int .i64 a0_0, .int .i64 a0_1, .int .i64 a0_2, .slice A0_3 l0_3.length c0_3] 50 ?_; intro gb558 hg w18 hbox hb; have n0_ := Bb HB hb; have n1_ := am (hbox); have n2_ := Gl HB hg; have n3_ := Gl HB hg; clear HB; revert n0_ n1_ n2_ n3_; intro HB BK558 GW558 GE558; clear hb hbox hg; obtain ⟨hcz19_0, hcz19_1, hcz19_2, hcz19_3, hfz19_0, hfz19_1, hfz19_2, hfz19_3⟩ := cf4 (w := w18) BK558) | ((with_reducible refine gate_callee (f := 114) rfl ?_); refine gL (some 7) Try.func114 #[.slice A0_3 l0_3.length c0_3, .func (.func 153) #[] #[.pointer (some ⟨gb558, 0, none⟩)]] ?_; (with_reducible refine (slices_ContainsFunc_int_int_at_impl_IsOrdered_1.calls k _ _ l0_3  gb558 a0_0 a0_1 a0_2 A0_3 c0_3 l0_3 false _ ?side1 ?side2 ?side3 ?side4 ?side5 A2.out).mono ?_); (case side1 => exact Cz (Kd.C_below HR0_3.out HB.out)); (case side2 => exact HC0_3.out); (case side3 => exact Kz BK558.out); (case side4 => exact Cz (Kd.C_below HR0_3.out HB.out)); (case side5 => exact HC0_3.out); rintro e w' ⟨rfl, ⟨nd, rfl⟩⟩; refine ⟨_, rfl, ?_⟩) | (go_at_call 59; (with_reducible refine (impl_isSeed.calls a0_0 false _ A6.out).mono ?_); rintro e w' ⟨rfl, ⟨nd, rfl⟩⟩))
   go_ret
   exact ⟨eZ, Bq⟩

mutual
def impl_IsOrderedFor.j0 : Nat → List ByteArray → Bool → Int → Int → Int → List Int → Option (Bool × Bool)
 | 0, _, _, _, _, _, _ => none
 | k + 1, x1, x15, x564000, x564001, x564002, x564003 => if x15 = true then (some (false, false)) else (impl_IsOrderedFor.l0 k x1 x1 (x1.length : Int) 0 x564000 x564001 x564002 x564003)
def impl_IsOrderedFor.l0 : Nat → List ByteArray → List ByteArray → Int → Int → Int → Int → Int → List Int → Option (Bool × Bool)
 | 0, _, _, _, _, _, _, _, _ => none
 | k + 1, x1, x16, x17, x18, x564000, x564001, x564002, x564003 => if x18 < x17 then (if 0 ≤ x18 then (if x18 < (x16.length : Int) then ((impl_threePlaces.f k x564000 (rdOf ByteArray.empty x16 x18) x564001).bind fun t567 => ((impl_Ordered_ordinal.f x564000 x564001 x564002 x564003 t567).bind fun t570 => (if t570 = x18 then (impl_IsOrderedFor.l0 k x1 x16 x17 (wrap64 (x18 + 1)) x564000 x564001 x564002 x564003) else (some (false, true))))) else (none)) else (none)) else (some (((x1.length : Int) == x564002), true))
end
def impl_IsOrderedFor.f (k : Nat) (a0_0 : Int) (a0_1 : Int) (a0_2 : Int) (l0_3 : List Int) (l1 : List ByteArray) : Option (Bool × Bool) := (impl_IsOrdered.f k a0_0 a0_1 a0_2 l0_3).bind fun t564 => (if t564 = true then ((impl_AreKeys.f k l1).bind fun t565 => (impl_IsOrderedFor.j0 k l1 (!t565) a0_0 a0_1 a0_2 l0_3)) else (impl_IsOrderedFor.j0 k l1 true a0_0 a0_1 a0_2 l0_3))
theorem impl_IsOrderedFor.calls (k : Nat) (a0_0 : Int) (a0_1 : Int) (a0_2 : Int) (A0_3 : Option Addr) (c0_3 : Nat) (l0_3 : List Int) (A1 : Option Addr) (c1 : Nat) (l1 : List ByteArray) (r1 : Bool) (r2 : Bool) (w : World) (hr0_3 : Kd.C (Kd.int .i64) w A0_3 l0_3.length l0_3) (hc0_3 : l0_3.length ≤ c0_3) (hr1 : Kd.C Kd.string w A1 l1.length l1) (hc1 : l1.length ≤ c1) (h : impl_IsOrderedFor.f k a0_0 a0_1 a0_2 l0_3 l1 = some (r1, r2)) :
  Calls Try.prog 23 #[.agg #[.int .i64 a0_0, .int .i64 a0_1, .int .i64 a0_2, .slice A0_3 l0_3.length c0_3], .slice A1 l1.length c1] w fun e w' => e = .returned (.tuple #[.bool r1, .bool r2]) ∧ Below w.heap.size w w' := by
 have hu50 := Try.underlying50; have HR0_3 := am hr0_3; have HC0_3 := am hc0_3; clear hr0_3 hc0_3; have HR1 := am hr1; have HC1 := am hc1; clear hr1 hc1; have HB := am (Below.refl w.heap.size w); have H : ((impl_IsOrdered.f k a0_0 a0_1 a0_2 l0_3).bind fun t564 => (if t564 = true then ((impl_AreKeys.f k l1).bind fun t565 => (impl_IsOrderedFor.j0 k l1 (!t565) a0_0 a0_1 a0_2 l0_3)) else (impl_IsOrderedFor.j0 k l1 true a0_0 a0_1 a0_2 l0_3))) = some (r1, r2) := h; clear h; have HC3 := am H; clear H
 go_enter Try.func23, Try.ntmps23
 go_upto_region 1 with (first | ((with_reducible refine gate_dst (N := 2) rfl ?_); refine bE 2 #[.int .i64 a0_0, .int .i64 a0_1, .int .i64 a0_2, .slice A0_3 l0_3.length c0_3] 50 ?_; intro gb563 hg w4 hbox hb; have n0_ := Bb HB hb; have n1_ := am (hbox); have n2_ := Gl HB hg; have n3_ := Gl HB hg; clear HB; revert n0_ n1_ n2_ n3_; intro HB BK563 GW563 GE563; clear hb hbox hg))
 (try simp only [aP])
 go_cut [15] (fun v15 wc => ∃ (kq : Nat) (x15_2 : Bool), v15 = .bool x15_2 ∧ Aside0 (impl_IsOrderedFor.j0 kq l1 x15_2 a0_0 a0_1 a0_2 l0_3 = some (r1, r2)) ∧ Aside0 (kq ≤ k) ∧ Aside0 (wc.heap[gb563]? = some (.cells #[.int .i64 a0_0, .int .i64 a0_1, .int .i64 a0_2, (.slice A0_3 l0_3.length c0_3)] 50 (0, 0))) ∧ Aside0 (Below w.heap.size w wc))
 case first =>
  have H := HC3.out; clear HC3; replace H := Option.bind_eq_some_iff.mp H; obtain ⟨t564, A50, H⟩ := H; (try dsimp -simprocs only at H); have A5 := am A50; clear A50
  by_cases c6 : t564 = true
  ·subst c6
   rw [if_pos rfl] at H; replace H := Option.bind_eq_some_iff.mp H; obtain ⟨t565, A70, H⟩ := H; (try dsimp -simprocs only at H); have A7 := am A70; clear A70; have H' := am H; clear H; obtain ⟨hcz8_0, hcz8_1, hcz8_2, hcz8_3, hfz8_0, hfz8_1, hfz8_2, hfz8_3⟩ := cf4 (w := w4) BK563
   go_wp2_with (first | ((with_reducible refine gate_callee (f := 87) rfl ?_); refine gL (some 9) Try.func87 #[.agg #[.int .i64 a0_0, .int .i64 a0_1, .int .i64 a0_2, .slice A0_3 l0_3.length c0_3]] ?_; (with_reducible refine (impl_IsOrdered.calls k a0_0 a0_1 a0_2 _ _ l0_3 true _ ?side1 ?side2 A5.out).mono ?_); (case side1 => exact Cz (Kd.C_below HR0_3.out HB.out)); (case side2 => exact HC0_3.out); rintro e w9 ⟨rfl, hb⟩; refine ⟨_, rfl, ?_⟩; have n0_ := Kb BK563 hb; have n1_ := Bc HB hb; clear BK563 HB; revert n0_ n1_; intro BK563 HB; (try clear hb); (try clear hb2); (try clear hk); (try clear hi)) | (go_at_call 37; (with_reducible refine (impl_AreKeys.calls k _ _ l1 t565 _ ?side1 ?side2 A7.out).mono ?_); (case side1 => exact Cz (Kd.C_below HR1.out HB.out)); (case side2 => exact HC1.out); rintro e w' ⟨rfl, ⟨nd, rfl⟩⟩))
   go_meet
   case rel => exact ⟨_, (!t565), wZ, H', ⟨by first | omega | exact Nat.le_refl _⟩, ⟨Kz BK563.out⟩, ⟨Bq⟩⟩
  ·replace c6 := Bool.eq_false_iff.mpr c6
   subst c6
   rw [if_neg (show ¬ (false = true) by decide)] at H; have H' := am H; clear H; obtain ⟨hcz10_0, hcz10_1, hcz10_2, hcz10_3, hfz10_0, hfz10_1, hfz10_2, hfz10_3⟩ := cf4 (w := w4) BK563
   go_wp2_with (first | ((with_reducible refine gate_callee (f := 87) rfl ?_); refine gL (some 9) Try.func87 #[.agg #[.int .i64 a0_0, .int .i64 a0_1, .int .i64 a0_2, .slice A0_3 l0_3.length c0_3]] ?_; (with_reducible refine (impl_IsOrdered.calls k a0_0 a0_1 a0_2 _ _ l0_3 false _ ?side1 ?side2 A5.out).mono ?_); (case side1 => exact Cz (Kd.C_below HR0_3.out HB.out)); (case side2 => exact HC0_3.out); rintro e w11 ⟨rfl, hb⟩; refine ⟨_, rfl, ?_⟩; have n0_ := Kb BK563 hb; have n1_ := Bc HB hb; clear BK563 HB; revert n0_ n1_; intro BK563 HB; (try clear hb); (try clear hb2); (try clear hk); (try clear hi)))
   go_meet
   case rel => exact ⟨_, (true), wZ, H', ⟨by first | omega | exact Nat.le_refl _⟩, ⟨Kz BK563.out⟩, ⟨Bq⟩⟩
 case rest =>
  clear HC3
  try clear c1
  try clear c2
  try clear p2
  try clear c6
  try clear c8
  try clear hcz10_0
  try clear hcz10_1
  try clear hcz10_2
  try clear hcz10_3
  try clear hcz8_0
  try clear hcz8_1
  try clear hcz8_2
  try clear hcz8_3
  try clear hfz10_0
  try clear hfz10_1
  try clear hfz10_2
  try clear hfz10_3
  try clear hfz8_0
  try clear hfz8_1
  try clear hfz8_2
  try clear hfz8_3
  obtain ⟨kq, x15_2, rfl, HA, HJ2, BK563, HB⟩ := hcut; cases kq with
  | zero => exact absurd HA.out (by simp [impl_IsOrderedFor.j0])
  | succ kj2 =>
   have H := HA.out; clear HA
   simp only [impl_IsOrderedFor.j0] at H
   by_cases c12 : x15_2 = true
   ·subst c12
    rw [if_pos rfl] at H
    simp only [Option.some.injEq, Prod.mk.injEq] at H
    obtain ⟨rfl, rfl⟩ := H
    go_wp2
    go_ret2
    exact ⟨eZ, Bq⟩
   ·replace c12 := Bool.eq_false_iff.mpr c12
    subst c12
    rw [if_neg (show ¬ (false = true) by decide)] at H; have H' := am H; clear H
    go_wp2
    go_loopg [18] kj2 (fun kq v18 w' => ∃ (x18_2 : Int), v18 = .int .i64 x18_2 ∧ Aside0 (impl_IsOrderedFor.l0 kq l1 l1 (l1.length : Int) x18_2 a0_0 a0_1 a0_2 l0_3 = some (r1, r2)) ∧ Aside0 (kq ≤ kj2) ∧ Aside0 (w'.heap[gb563]? = some (.cells #[.int .i64 a0_0, .int .i64 a0_1, .int .i64 a0_2, (.slice A0_3 l0_3.length c0_3)] 50 (0, 0))) ∧ Aside0 (Below w.heap.size w w'))
    case atStart => exact ⟨(0), wZ, H', ⟨Nat.le_refl _⟩, ⟨Kz BK563.out⟩, ⟨Bq⟩⟩
    case round =>
     clear H'
     try clear c1
     try clear c2
     try clear p2
     try clear c6
     try clear c8
     try clear c12
     try clear hcz10_0
     try clear hcz10_1
     try clear hcz10_2
     try clear hcz10_3
     try clear hcz8_0
     try clear hcz8_1
     try clear hcz8_2
     try clear hcz8_3
     try clear hfz10_0
     try clear hfz10_1
     try clear hfz10_2
     try clear hfz10_3
     try clear hfz8_0
     try clear hfz8_1
     try clear hfz8_2
     try clear hfz8_3
     try clear p2
     obtain ⟨x18_2, rfl, HA, HK2, BK563, HB⟩ := hrel; cases gk with
     | zero => exact absurd HA.out (by simp [impl_IsOrderedFor.l0])
     | succ k2 =>
      have H := HA.out; clear HA
      simp only [impl_IsOrderedFor.l0] at H
      by_cases c13 : x18_2 < (l1.length : Int)
      ·rw [if_pos c13] at H
       have c13b0 : decide (x18_2 < (l1.length : Int)) = true := decide_eq_true c13; clear c13
       by_cases c14 : 0 ≤ x18_2
       ·rw [if_pos c14] at H
        have c14b0 : decide (0 ≤ x18_2) = true := decide_eq_true c14; clear c14
        by_cases c15 : x18_2 < (l1.length : Int)
        ·rw [if_pos c15] at H
         have c15b0 : decide (x18_2 < (l1.length : Int)) = true := decide_eq_true c15; clear c15; replace H := Option.bind_eq_some_iff.mp H; obtain ⟨t567, A160, H⟩ := H; (try dsimp -simprocs only at H); have A16 := am A160; clear A160; replace H := Option.bind_eq_some_iff.mp H; obtain ⟨t570, A170, H⟩ := H; (try dsimp -simprocs only at H); have A17 := am A170; clear A170
         by_cases c18 : t570 = x18_2
         ·rw [if_pos c18] at H
          have c18b0 : (t570 == x18_2) = true := beq_iff_eq.mpr c18; have c18b1 : (t570 != x18_2) = false := bne_eq_false_iff_eq.mpr c18; clear c18; have H' := am H; clear H; have p566 : 0 ≤ (x18_2 : Int) := dT; have q566 : x18_2 < (l1.length : Int) := dT; obtain ⟨ad566, e566, hx566_0⟩ := Kd.at_string HR1.out x18_2 p566 q566; cases e566; replace hx566_0 := (HB.out.cell (World.block_lt_of_cell? w _ hx566_0)).trans hx566_0; replace p566 := eq_true p566; replace q566 := eq_true q566; obtain ⟨hcz19_0, hcz19_1, hcz19_2, hcz19_3, hfz19_0, hfz19_1, hfz19_2, hfz19_3⟩ := cf4 (w := wr) BK563
          go_wp2_with (first | ((with_reducible refine gate_callee (f := 88) rfl ?_); refine gL (some 28) Try.func88 #[.int .i64 a0_0, .string (rdOf ByteArray.empty l1 x18_2), .int .i64 a0_1] ?_; (with_reducible refine (impl_threePlaces.calls k2 a0_0 (rdOf ByteArray.empty l1 x18_2) a0_1 t567 _ A16.out).mono ?_); rintro e w20 ⟨v568, rfl, ho0, hb⟩; refine ⟨_, rfl, ?_⟩; have n0_ := Rm ho0 HB; have n1_ := Kb BK563 hb; have n2_ := Bc HB hb; clear BK563 HB; revert n0_ n1_ n2_; intro HO569 BK563 HB; (try clear hb); (try clear hb2); (try clear hk); (try clear hi); (try clear ho0); obtain ⟨Ao21, co21, eo21⟩ := Kd.R_slice HO569.out; subst eo21) | ((with_reducible refine gate_callee (f := 78) rfl ?_); refine gL (some 29) Try.func78 #[.pointer (some ⟨gb563, 0, none⟩), .slice Ao21 t567.length co21] ?_; (with_reducible refine (impl_Ordered_ordinal.calls gb563 a0_0 a0_1 a0_2 A0_3 c0_3 l0_3 _ _ t567 t570 _ ?side1 ?side2 ?side3 ?side4 ?side5 A17.out).mono ?_); (case side1 => exact Kz BK563.out); (case side2 => exact Cz (Kd.C_below HR0_3.out HB.out)); (case side3 => exact HC0_3.out); (case side4 => exact Cz ((Kd.R_reads' HO569.out).2.2)); (case side5 => exact (Kd.R_reads' HO569.out).2.1); rintro e w' ⟨rfl, ⟨nd, rfl⟩⟩; refine ⟨_, rfl, ?_⟩))
          go_roundg k2
          case measure => have := HJ2.out; have := HK2.out; omega
          case rel => exact ⟨(wrap64 (x18_2 + 1)), wZ, H', ⟨by have := HJ2.out; have := HK2.out; omega⟩, ⟨Kz BK563.out⟩, ⟨Bq⟩⟩
         ·rw [if_neg c18] at H
          have c18b0 : (t570 == x18_2) = false := beq_eq_false_iff_ne.mpr c18; have c18b1 : (t570 != x18_2) = true := bne_iff_ne.mpr c18
          simp only [Option.some.injEq, Prod.mk.injEq] at H
          obtain ⟨rfl, rfl⟩ := H; have p566 : 0 ≤ (x18_2 : Int) := dT; have q566 : x18_2 < (l1.length : Int) := dT; obtain ⟨ad566, e566, hx566_0⟩ := Kd.at_string HR1.out x18_2 p566 q566; cases e566; replace hx566_0 := (HB.out.cell (World.block_lt_of_cell? w _ hx566_0)).trans hx566_0; replace p566 := eq_true p566; replace q566 := eq_true q566; obtain ⟨hcz22_0, hcz22_1, hcz22_2, hcz22_3, hfz22_0, hfz22_1, hfz22_2, hfz22_3⟩ := cf4 (w := wr) BK563
          go_wp2_with (first | ((with_reducible refine gate_callee (f := 88) rfl ?_); refine gL (some 28) Try.func88 #[.int .i64 a0_0, .string (rdOf ByteArray.empty l1 x18_2), .int .i64 a0_1] ?_; (with_reducible refine (impl_threePlaces.calls k2 a0_0 (rdOf ByteArray.empty l1 x18_2) a0_1 t567 _ A16.out).mono ?_); rintro e w23 ⟨v568, rfl, ho0, hb⟩; refine ⟨_, rfl, ?_⟩; have n0_ := Rm ho0 HB; have n1_ := Kb BK563 hb; have n2_ := Bc HB hb; clear BK563 HB; revert n0_ n1_ n2_; intro HO569 BK563 HB; (try clear hb); (try clear hb2); (try clear hk); (try clear hi); (try clear ho0); obtain ⟨Ao24, co24, eo24⟩ := Kd.R_slice HO569.out; subst eo24) | ((with_reducible refine gate_callee (f := 78) rfl ?_); refine gL (some 29) Try.func78 #[.pointer (some ⟨gb563, 0, none⟩), .slice Ao24 t567.length co24] ?_; (with_reducible refine (impl_Ordered_ordinal.calls gb563 a0_0 a0_1 a0_2 A0_3 c0_3 l0_3 _ _ t567 t570 _ ?side1 ?side2 ?side3 ?side4 ?side5 A17.out).mono ?_); (case side1 => exact Kz BK563.out); (case side2 => exact Cz (Kd.C_below HR0_3.out HB.out)); (case side3 => exact HC0_3.out); (case side4 => exact Cz ((Kd.R_reads' HO569.out).2.2)); (case side5 => exact (Kd.R_reads' HO569.out).2.1); rintro e w' ⟨rfl, ⟨nd, rfl⟩⟩; refine ⟨_, rfl, ?_⟩))
          go_ret2
          exact ⟨eZ, Bq⟩
        ·rw [if_neg c15] at H
         exact absurd H (by simp)
       ·rw [if_neg c14] at H
        exact absurd H (by simp)
      ·rw [if_neg c13] at H
       have c13b0 : decide (x18_2 < (l1.length : Int)) = false := decide_eq_false c13; clear c13
       simp only [Option.some.injEq, Prod.mk.injEq] at H
       obtain ⟨rfl, rfl⟩ := H; obtain ⟨hcz25_0, hcz25_1, hcz25_2, hcz25_3, hfz25_0, hfz25_1, hfz25_2, hfz25_3⟩ := cf4 (w := wr) BK563
       go_wp2
       go_ret2
       exact ⟨eZ, Bq⟩

def impl_OrdinalOf.j0 : Nat → ByteArray → Bool → Int → Int → Int → List Int → Option (Int × Bool)
 | 0, _, _, _, _, _, _ => none
 | k + 1, x1, x13, x572000, x572001, x572002, x572003 => if x13 = true then (some (0, false)) else ((impl_threePlaces.f k x572000 x1 x572001).bind fun t574 => ((impl_Ordered_ordinal.f x572000 x572001 x572002 x572003 t574).bind fun t577 => (some (t577, true))))
def impl_OrdinalOf.f (k : Nat) (a0_0 : Int) (a0_1 : Int) (a0_2 : Int) (l0_3 : List Int) (a1 : ByteArray) : Option (Int × Bool) := (impl_IsOrdered.f k a0_0 a0_1 a0_2 l0_3).bind fun t572 => (if t572 = true then ((impl_IsKey.f k a1).bind fun t573 => (impl_OrdinalOf.j0 k a1 (!t573) a0_0 a0_1 a0_2 l0_3)) else (impl_OrdinalOf.j0 k a1 true a0_0 a0_1 a0_2 l0_3))
theorem impl_OrdinalOf.calls (k : Nat) (a0_0 : Int) (a0_1 : Int) (a0_2 : Int) (A0_3 : Option Addr) (c0_3 : Nat) (l0_3 : List Int) (a1 : ByteArray) (r1 : Int) (r2 : Bool) (w : World) (hr0_3 : Kd.C (Kd.int .i64) w A0_3 l0_3.length l0_3) (hc0_3 : l0_3.length ≤ c0_3) (h : impl_OrdinalOf.f k a0_0 a0_1 a0_2 l0_3 a1 = some (r1, r2)) :
  Calls Try.prog 24 #[.agg #[.int .i64 a0_0, .int .i64 a0_1, .int .i64 a0_2, .slice A0_3 l0_3.length c0_3], .string a1] w fun e w' => e = .returned (.tuple #[.int .i64 r1, .bool r2]) ∧ Below w.heap.size w w' := by
 have hu50 := Try.underlying50; have HR0_3 := am hr0_3; have HC0_3 := am hc0_3; clear hr0_3 hc0_3; have HB := am (Below.refl w.heap.size w); have H : ((impl_IsOrdered.f k a0_0 a0_1 a0_2 l0_3).bind fun t572 => (if t572 = true then ((impl_IsKey.f k a1).bind fun t573 => (impl_OrdinalOf.j0 k a1 (!t573) a0_0 a0_1 a0_2 l0_3)) else (impl_OrdinalOf.j0 k a1 true a0_0 a0_1 a0_2 l0_3))) = some (r1, r2) := h; clear h; have HC3 := am H; clear H
 go_enter Try.func24, Try.ntmps24
 go_upto_region 1 with (first | ((with_reducible refine gate_dst (N := 2) rfl ?_); refine bE 2 #[.int .i64 a0_0, .int .i64 a0_1, .int .i64 a0_2, .slice A0_3 l0_3.length c0_3] 50 ?_; intro gb571 hg w4 hbox hb; have n0_ := Bb HB hb; have n1_ := am (hbox); have n2_ := Gl HB hg; have n3_ := Gl HB hg; clear HB; revert n0_ n1_ n2_ n3_; intro HB BK571 GW571 GE571; clear hb hbox hg))
 (try simp only [aP])
 go_cut [13] (fun v13 wc => ∃ (kq : Nat) (x13_2 : Bool), v13 = .bool x13_2 ∧ Aside0 (impl_OrdinalOf.j0 kq a1 x13_2 a0_0 a0_1 a0_2 l0_3 = some (r1, r2)) ∧ Aside0 (kq ≤ k) ∧ Aside0 (wc.heap[gb571]? = some (.cells #[.int .i64 a0_0, .int .i64 a0_1, .int .i64 a0_2, (.slice A0_3 l0_3.length c0_3)] 50 (0, 0))) ∧ Aside0 (Below w.heap.size w wc))
 case first =>
  have H := HC3.out; clear HC3; replace H := Option.bind_eq_some_iff.mp H; obtain ⟨t572, A50, H⟩ := H; (try dsimp -simprocs only at H); have A5 := am A50; clear A50
  by_cases c6 : t572 = true
  ·subst c6
   rw [if_pos rfl] at H; replace H := Option.bind_eq_some_iff.mp H; obtain ⟨t573, A70, H⟩ := H; (try dsimp -simprocs only at H); have A7 := am A70; clear A70; have H' := am H; clear H; obtain ⟨hcz8_0, hcz8_1, hcz8_2, hcz8_3, hfz8_0, hfz8_1, hfz8_2, hfz8_3⟩ := cf4 (w := w4) BK571
   go_wp2_with (first | ((with_reducible refine gate_callee (f := 87) rfl ?_); refine gL (some 7) Try.func87 #[.agg #[.int .i64 a0_0, .int .i64 a0_1, .int .i64 a0_2, .slice A0_3 l0_3.length c0_3]] ?_; (with_reducible refine (impl_IsOrdered.calls k a0_0 a0_1 a0_2 _ _ l0_3 true _ ?side1 ?side2 A5.out).mono ?_); (case side1 => exact Cz (Kd.C_below HR0_3.out HB.out)); (case side2 => exact HC0_3.out); rintro e w9 ⟨rfl, hb⟩; refine ⟨_, rfl, ?_⟩; have n0_ := Kb BK571 hb; have n1_ := Bc HB hb; clear BK571 HB; revert n0_ n1_; intro BK571 HB; (try clear hb); (try clear hb2); (try clear hk); (try clear hi)) | (go_at_call 52; (with_reducible refine (impl_IsKey.calls k a1 t573 _ A7.out).mono ?_); rintro e w' ⟨rfl, ⟨nd, rfl⟩⟩))
   go_meet
   case rel => exact ⟨_, (!t573), wZ, H', ⟨by first | omega | exact Nat.le_refl _⟩, ⟨Kz BK571.out⟩, ⟨Bq⟩⟩
  ·replace c6 := Bool.eq_false_iff.mpr c6
   subst c6
   rw [if_neg (show ¬ (false = true) by decide)] at H; have H' := am H; clear H; obtain ⟨hcz10_0, hcz10_1, hcz10_2, hcz10_3, hfz10_0, hfz10_1, hfz10_2, hfz10_3⟩ := cf4 (w := w4) BK571
   go_wp2_with (first | ((with_reducible refine gate_callee (f := 87) rfl ?_); refine gL (some 7) Try.func87 #[.agg #[.int .i64 a0_0, .int .i64 a0_1, .int .i64 a0_2, .slice A0_3 l0_3.length c0_3]] ?_; (with_reducible refine (impl_IsOrdered.calls k a0_0 a0_1 a0_2 _ _ l0_3 false _ ?side1 ?side2 A5.out).mono ?_); (case side1 => exact Cz (Kd.C_below HR0_3.out HB.out)); (case side2 => exact HC0_3.out); rintro e w11 ⟨rfl, hb⟩; refine ⟨_, rfl, ?_⟩; have n0_ := Kb BK571 hb; have n1_ := Bc HB hb; clear BK571 HB; revert n0_ n1_; intro BK571 HB; (try clear hb); (try clear hb2); (try clear hk); (try clear hi)))
   go_meet
   case rel => exact ⟨_, (true), wZ, H', ⟨by first | omega | exact Nat.le_refl _⟩, ⟨Kz BK571.out⟩, ⟨Bq⟩⟩
 case rest =>
  clear HC3
  try clear c2
  try clear p2
  try clear c6
  try clear c8
  try clear hcz10_0
  try clear hcz10_1
  try clear hcz10_2
  try clear hcz10_3
  try clear hcz8_0
  try clear hcz8_1
  try clear hcz8_2
  try clear hcz8_3
  try clear hfz10_0
  try clear hfz10_1
  try clear hfz10_2
  try clear hfz10_3
  try clear hfz8_0
  try clear hfz8_1
  try clear hfz8_2
  try clear hfz8_3
  obtain ⟨kq, x13_2, rfl, HA, HJ2, BK571, HB⟩ := hcut; cases kq with
  | zero => exact absurd HA.out (by simp [impl_OrdinalOf.j0])
  | succ kj2 =>
   have H := HA.out; clear HA
   simp only [impl_OrdinalOf.j0] at H
   by_cases c12 : x13_2 = true
   ·subst c12
    rw [if_pos rfl] at H
    simp only [Option.some.injEq, Prod.mk.injEq] at H
    obtain ⟨rfl, rfl⟩ := H
    go_wp2
    go_ret2
    exact ⟨eZ, Bq⟩
   ·replace c12 := Bool.eq_false_iff.mpr c12
    subst c12
    rw [if_neg (show ¬ (false = true) by decide)] at H; replace H := Option.bind_eq_some_iff.mp H; obtain ⟨t574, A130, H⟩ := H; (try dsimp -simprocs only at H); have A13 := am A130; clear A130; replace H := Option.bind_eq_some_iff.mp H; obtain ⟨t577, A140, H⟩ := H; (try dsimp -simprocs only at H); have A14 := am A140; clear A140
    simp only [Option.some.injEq, Prod.mk.injEq] at H
    obtain ⟨rfl, rfl⟩ := H; obtain ⟨hcz15_0, hcz15_1, hcz15_2, hcz15_3, hfz15_0, hfz15_1, hfz15_2, hfz15_3⟩ := cf4 (w := wc) BK571
    go_wp2_with (first | ((with_reducible refine gate_callee (f := 88) rfl ?_); refine gL (some 19) Try.func88 #[.int .i64 a0_0, .string a1, .int .i64 a0_1] ?_; (with_reducible refine (impl_threePlaces.calls kj2 a0_0 a1 a0_1 t574 _ A13.out).mono ?_); rintro e w16 ⟨v575, rfl, ho0, hb⟩; refine ⟨_, rfl, ?_⟩; have n0_ := Rm ho0 HB; have n1_ := Kb BK571 hb; have n2_ := Bc HB hb; clear BK571 HB; revert n0_ n1_ n2_; intro HO576 BK571 HB; (try clear hb); (try clear hb2); (try clear hk); (try clear hi); (try clear ho0); obtain ⟨Ao17, co17, eo17⟩ := Kd.R_slice HO576.out; subst eo17) | ((with_reducible refine gate_callee (f := 78) rfl ?_); refine gL (some 20) Try.func78 #[.pointer (some ⟨gb571, 0, none⟩), .slice Ao17 t574.length co17] ?_; (with_reducible refine (impl_Ordered_ordinal.calls gb571 a0_0 a0_1 a0_2 A0_3 c0_3 l0_3 _ _ t574 t577 _ ?side1 ?side2 ?side3 ?side4 ?side5 A14.out).mono ?_); (case side1 => exact Kz BK571.out); (case side2 => exact Cz (Kd.C_below HR0_3.out HB.out)); (case side3 => exact HC0_3.out); (case side4 => exact Cz ((Kd.R_reads' HO576.out).2.2)); (case side5 => exact (Kd.R_reads' HO576.out).2.1); rintro e w' ⟨rfl, ⟨nd, rfl⟩⟩; refine ⟨_, rfl, ?_⟩))
    go_ret2
    exact ⟨eZ, Bq⟩

mutual
def laws_FnOrderedKeepsOrder.j0 : Nat → Int → List ByteArray → Int → Bool → Bool → Int → Int → Int → List Int → Option (Bool)
 | 0, _, _, _, _, _, _, _, _, _ => none
 | k + 1, x5, x6, x7, x9, x74, x592000, x592001, x592002, x592003 => if x74 = true then (some false) else ((impl_BuildPeeled.f k x5 x6 x7).bind fun bt601 => (if bt601.2.2.2 = true then (laws_FnOrderedKeepsOrder.j1 k x6 x9 (x9 != (decide ((x6.length : Int) > 0))) x592000 x592001 x592002 x592003) else (laws_FnOrderedKeepsOrder.j1 k x6 x9 (x9 != false) x592000 x592001 x592002 x592003)))
def laws_FnOrderedKeepsOrder.j1 : Nat → List ByteArray → Bool → Bool → Int → Int → Int → List Int → Option (Bool)
 | 0, _, _, _, _, _, _, _ => none
 | k + 1, x6, x9, x89, x592000, x592001, x592002, x592003 => if x89 = true then (some false) else (if x9 = true then ((impl_IsOrderedFor.f k x592000 x592001 x592002 x592003 x6).bind fun bt608 => (if bt608.2 = true then (laws_FnOrderedKeepsOrder.j2 k x6 (!bt608.1) x592000 x592001 x592002 x592003) else (laws_FnOrderedKeepsOrder.j2 k x6 true x592000 x592001 x592002 x592003))) else (some true))
def laws_FnOrderedKeepsOrder.j2 : Nat → List ByteArray → Bool → Int → Int → Int → List Int → Option (Bool)
 | 0, _, _, _, _, _, _ => none
 | k + 1, x6, x103, x592000, x592001, x592002, x592003 => if x103 = true then (some false) else (laws_FnOrderedKeepsOrder.l0 k x6 (x6.length : Int) 0 x592000 x592001 x592002 x592003)
def laws_FnOrderedKeepsOrder.l0 : Nat → List ByteArray → Int → Int → Int → Int → Int → List Int → Option (Bool)
 | 0, _, _, _, _, _, _, _ => none
 | k + 1, x104, x105, x106, x592000, x592001, x592002, x592003 => if x106 < x105 then (if 0 ≤ x106 then (if x106 < (x104.length : Int) then ((impl_OrdinalOf.f k x592000 x592001 x592002 x592003 (rdOf ByteArray.empty x104 x106)).bind fun bt611 => (if bt611.2 = true then (if bt611.1 = x106 then (laws_FnOrderedKeepsOrder.l0 k x104 x105 (wrap64 (x106 + 1)) x592000 x592001 x592002 x592003) else (some false)) else (some false))) else (none)) else (none)) else (some true)
end
def laws_FnOrderedKeepsOrder.f (k : Nat) (l0 : List Int) (l1 : List Int) : Option (Bool) := (laws_big.f l0 l1).bind fun t578 => (if t578 = true then (some true) else ((spec_DrawBuildOrdered.f k l0).bind fun bt579 => ((impl_BuildOrdered.f k bt579.1 bt579.2.1 bt579.2.2).bind fun bt584 => ((spec_BuildOrdered.f k bt579.1 bt579.2.1 bt579.2.2).bind fun bt592 => (if (bt584.2.2.2.2 != bt592.2.2.2.2) = true then (laws_FnOrderedKeepsOrder.j0 k bt579.1 bt579.2.1 bt579.2.2 bt584.2.2.2.2 true bt584.1 bt584.2.1 bt584.2.2.1 bt584.2.2.2.1) else (if bt584.1 = bt592.1 then (if bt584.2.1 = bt592.2.1 then (if bt584.2.2.1 = bt592.2.2.1 then ((laws_pSameInts.f k bt584.2.2.2.1 bt592.2.2.2.1).bind fun t600 => (laws_FnOrderedKeepsOrder.j0 k bt579.1 bt579.2.1 bt579.2.2 bt584.2.2.2.2 (!t600) bt584.1 bt584.2.1 bt584.2.2.1 bt584.2.2.2.1)) else (laws_FnOrderedKeepsOrder.j0 k bt579.1 bt579.2.1 bt579.2.2 bt584.2.2.2.2 true bt584.1 bt584.2.1 bt584.2.2.1 bt584.2.2.2.1)) else (laws_FnOrderedKeepsOrder.j0 k bt579.1 bt579.2.1 bt579.2.2 bt584.2.2.2.2 true bt584.1 bt584.2.1 bt584.2.2.1 bt584.2.2.2.1)) else (laws_FnOrderedKeepsOrder.j0 k bt579.1 bt579.2.1 bt579.2.2 bt584.2.2.2.2 true bt584.1 bt584.2.1 bt584.2.2.1 bt584.2.2.2.1)))))))
theorem laws_FnOrderedKeepsOrder.j0.dead (k : Nat) (y0 : Int) (y1 : List ByteArray) (y2 : Int) (y3 : Bool) (y5 : Int) (y6 : Int) (y7 : Int) (y8 : List Int) : laws_FnOrderedKeepsOrder.j0 k y0 y1 y2 y3 true y5 y6 y7 y8 ≠ some true := by cases k <;> simp [laws_FnOrderedKeepsOrder.j0]
theorem laws_FnOrderedKeepsOrder.j2.dead (k : Nat) (y0 : List ByteArray) (y2 : Int) (y3 : Int) (y4 : Int) (y5 : List Int) : laws_FnOrderedKeepsOrder.j2 k y0 true y2 y3 y4 y5 ≠ some true := by cases k <;> simp [laws_FnOrderedKeepsOrder.j2]
theorem laws_FnOrderedKeepsOrder.calls (k : Nat) (A0 : Option Addr) (c0 : Nat) (l0 : List Int) (A1 : Option Addr) (c1 : Nat) (l1 : List Int) (r : Bool) (w : World) (hr0 : Kd.C (Kd.int .u8) w A0 l0.length l0) (hc0 : l0.length ≤ c0) (hr1 : Kd.C (Kd.int .u8) w A1 l1.length l1) (hc1 : l1.length ≤ c1) (h : laws_FnOrderedKeepsOrder.f k l0 l1 = some r) (hT_ : r = true) :
  Calls Try.prog 4 #[.slice A0 l0.length c0, .slice A1 l1.length c1] w fun e w' => e = .returned (.bool r) ∧ Below w.heap.size w w' := by
 have hu50 := Try.underlying50; have hu26 := Try.underlying26; have HR0 := am hr0; have HC0 := am hc0; clear hr0 hc0; have HR1 := am hr1; have HC1 := am hc1; clear hr1 hc1; have HB := am (Below.refl w.heap.size w); have H : ((laws_big.f l0 l1).bind fun t578 => (if t578 = true then (some true) else ((spec_DrawBuildOrdered.f k l0).bind fun bt579 => ((impl_BuildOrdered.f k bt579.1 bt579.2.1 bt579.2.2).bind fun bt584 => ((spec_BuildOrdered.f k bt579.1 bt579.2.1 bt579.2.2).bind fun bt592 => (if (bt584.2.2.2.2 != bt592.2.2.2.2) = true then (laws_FnOrderedKeepsOrder.j0 k bt579.1 bt579.2.1 bt579.2.2 bt584.2.2.2.2 true bt584.1 bt584.2.1 bt584.2.2.1 bt584.2.2.2.1) else (if bt584.1 = bt592.1 then (if bt584.2.1 = bt592.2.1 then (if bt584.2.2.1 = bt592.2.2.1 then ((laws_pSameInts.f k bt584.2.2.2.1 bt592.2.2.2.1).bind fun t600 => (laws_FnOrderedKeepsOrder.j0 k bt579.1 bt579.2.1 bt579.2.2 bt584.2.2.2.2 (!t600) bt584.1 bt584.2.1 bt584.2.2.1 bt584.2.2.2.1)) else (laws_FnOrderedKeepsOrder.j0 k bt579.1 bt579.2.1 bt579.2.2 bt584.2.2.2.2 true bt584.1 bt584.2.1 bt584.2.2.1 bt584.2.2.2.1)) else (laws_FnOrderedKeepsOrder.j0 k bt579.1 bt579.2.1 bt579.2.2 bt584.2.2.2.2 true bt584.1 bt584.2.1 bt584.2.2.1 bt584.2.2.2.1)) else (laws_FnOrderedKeepsOrder.j0 k bt579.1 bt579.2.1 bt579.2.2 bt584.2.2.2.2 true bt584.1 bt584.2.1 bt584.2.2.1 bt584.2.2.2.1)))))))) = some r := h; clear h; have HQT_ := am hT_; clear hT_; replace H := Option.bind_eq_some_iff.mp H; obtain ⟨t578, A30, H⟩ := H; (try dsimp -simprocs only at H); have A3 := am A30; clear A30
 by_cases c4 : t578 = true
 ·subst c4
  rw [if_pos rfl] at H; obtain rfl := Option.some.inj H
  go_enter Try.func4, Try.ntmps4
  go_wp2_with (first | ((with_reducible refine gate_callee (f := 8) rfl ?_); refine gL (some 22) Try.func8 #[.slice A0 l0.length c0, .slice A1 l1.length c1] ?_; (with_reducible refine (laws_big.calls _ _ l0 _ _ l1 true _ ?side1 ?side2 ?side3 ?side4 A3.out).mono ?_); (case side1 => exact Cz HR0.out); (case side2 => exact HC0.out); (case side3 => exact Cz HR1.out); (case side4 => exact HC1.out); rintro e w' ⟨rfl, ⟨nd, rfl⟩⟩; refine ⟨_, rfl, ?_⟩))
  go_ret
  exact ⟨eZ, Bz HB.out⟩
 ·replace c4 := Bool.eq_false_iff.mpr c4
  subst c4
  rw [if_neg (show ¬ (false = true) by decide)] at H; replace H := Option.bind_eq_some_iff.mp H; obtain ⟨⟨t579, t580, t581⟩, A50, H⟩ := H; (try dsimp -simprocs only at H); have A5 := am A50; clear A50; replace H := Option.bind_eq_some_iff.mp H; obtain ⟨⟨t584, t585, t586, t587, t590⟩, A60, H⟩ := H; (try dsimp -simprocs only at H); have A6 := am A60; clear A60; replace H := Option.bind_eq_some_iff.mp H; obtain ⟨⟨t592, t593, t594, t595, t598⟩, A70, H⟩ := H; (try dsimp -simprocs only at H); have A7 := am A70; clear A70; have HC8 := am H; clear H
  go_enter Try.func4, Try.ntmps4
  go_upto_region 6 with (first | ((with_reducible refine gate_callee (f := 8) rfl ?_); refine gL (some 22) Try.func8 #[.slice A0 l0.length c0, .slice A1 l1.length c1] ?_; (with_reducible refine (laws_big.calls _ _ l0 _ _ l1 false _ ?side1 ?side2 ?side3 ?side4 A3.out).mono ?_); (case side1 => exact Cz HR0.out); (case side2 => exact HC0.out); (case side3 => exact Cz HR1.out); (case side4 => exact HC1.out); rintro e w' ⟨rfl, ⟨nd, rfl⟩⟩; refine ⟨_, rfl, ?_⟩) | ((with_reducible refine gate_callee (f := 18) rfl ?_); refine gL (some 25) Try.func18 #[.slice A0 l0.length c0] ?_; (with_reducible refine (spec_DrawBuildOrdered.calls k _ _ l0 t579 t580 t581 _ ?side1 ?side2 A5.out).mono ?_); (case side1 => exact Cz HR0.out); (case side2 => exact HC0.out); rintro e w9 ⟨v582, rfl, ho0, hb⟩; refine ⟨_, rfl, ?_⟩; have n0_ := Rl ho0 HB; have n1_ := Bb HB hb; clear HB; revert n0_ n1_; intro HO583 HB; (try clear hb); (try clear hb2); (try clear hk); (try clear hi); (try clear ho0); obtain ⟨Ao10, co10, eo10⟩ := Kd.R_slice HO583.out; subst eo10) | ((with_reducible refine gate_callee (f := 19) rfl ?_); refine gL (some 33) Try.func19 #[.int .i64 t579, .slice Ao10 t580.length co10, .int .i64 t581] ?_; (with_reducible refine (impl_BuildOrdered.calls k t579 _ _ t580 t581 t584 t585 t586 t587 t590 _ ?side1 ?side2 A6.out).mono ?_); (case side1 => exact Cz ((Kd.R_reads' HO583.out).2.2)); (case side2 => exact (Kd.R_reads' HO583.out).2.1); rintro e w11 ⟨v588, rfl, ho0, hb⟩; refine ⟨_, rfl, ?_⟩; have n0_ := Rb HO583 hb; have n1_ := Rl ho0 HB; have n2_ := Bb HB hb; clear HO583 HB; revert n0_ n1_ n2_; intro HO583 HO589 HB; (try clear hb); (try clear hb2); (try clear hk); (try clear hi); (try clear ho0)) | ((with_reducible refine gate_dst (N := 8) rfl ?_); (try (refine gate_guard (by rfl) ?_; dsimp only)); refine bE 8 #[.int .i64 0, .int .i64 0, .int .i64 0, .slice none 0 0] 50 ?_; intro gb591 hg w12 hbox hb; have n0_ := Rb HO583 hb; have n1_ := Rb HO589 hb; have n2_ := Bb HB hb; have n3_ := am (hbox); have n4_ := Gl HB hg; have n5_ := Gl HB hg; clear HO583 HO589 HB; revert n0_ n1_ n2_ n3_ n4_ n5_; intro HO583 HO589 HB BK591 GW591 GE591; clear hb hbox hg; obtain ⟨hcz13_0, hcz13_1, hcz13_2, hcz13_3, hfz13_0, hfz13_1, hfz13_2, hfz13_3⟩ := cf4 (w := w12) BK591; obtain ⟨Ao14, co14, eo14⟩ := Kd.R_slice HO589.out; subst eo14) | ((with_reducible refine gate_callee (f := 20) rfl ?_); refine gL (some 40) Try.func20 #[.int .i64 t579, .slice Ao10 t580.length co10, .int .i64 t581] ?_; (with_reducible refine (spec_BuildOrdered.calls k t579 _ _ t580 t581 t592 t593 t594 t595 t598 _ ?side1 ?side2 A7.out).mono ?_); (case side1 => refine (Kd.R_reads' (e := 9) (base := w.heap.size) (ok := fun k_ => True) (n := t580.length) (c := co10) ?_).2.2; exact (Rz (Kd.R_mono (Kd.R_far (p := ⟨gb591, 3, none⟩) (Kd.R_far (p := ⟨gb591, 2, none⟩) (Kd.R_far (p := ⟨gb591, 1, none⟩) (Kd.R_far (p := ⟨gb591, 0, none⟩) (Kd.R_types HO583.out BK591.out (by decide)) (fun _ hk => hk.2) (.int .i64 t584)) (fun _ hk => hk.2) (.int .i64 t585)) (fun _ hk => hk.2) (.int .i64 t586)) (fun _ hk => hk.2) (.slice Ao14 t587.length co14)) (fun _ h_ => h_.1)))); (case side2 => exact (Kd.R_reads' HO583.out).2.1); rintro e w15 ⟨v596, rfl, ho0, hb⟩; refine ⟨_, rfl, ?_⟩; have n0_ := am (Kd.R_below (Rz (Kd.R_mono (Kd.R_far (p := ⟨gb591, 3, none⟩) (Kd.R_far (p := ⟨gb591, 2, none⟩) (Kd.R_far (p := ⟨gb591, 1, none⟩) (Kd.R_far (p := ⟨gb591, 0, none⟩) (Kd.R_types HO583.out BK591.out (by decide)) (fun _ hk => hk.2) (.int .i64 t584)) (fun _ hk => hk.2) (.int .i64 t585)) (fun _ hk => hk.2) (.int .i64 t586)) (fun _ hk => hk.2) (.slice Ao14 t587.length co14)) (fun _ h_ => h_.1))) hb); have n1_ := am (Kd.R_elder' (Rz (Kd.R_mono (Kd.R_far (p := ⟨gb591, 3, none⟩) (Kd.R_far (p := ⟨gb591, 2, none⟩) (Kd.R_far (p := ⟨gb591, 1, none⟩) (Kd.R_far (p := ⟨gb591, 0, none⟩) (Kd.R_types HO589.out BK591.out (by decide)) (fun _ hk => hk.2) (.int .i64 t584)) (fun _ hk => hk.2) (.int .i64 t585)) (fun _ hk => hk.2) (.int .i64 t586)) (fun _ hk => hk.2) (.slice Ao14 t587.length co14)) (fun _ h_ => h_.1))) (Kd.R_base ho0) hb); have n2_ := am (Kd.R_lower (Kd.R_new' ho0 (Kd.R_lt (Rz (Kd.R_mono (Kd.R_far (p := ⟨gb591, 3, none⟩) (Kd.R_far (p := ⟨gb591, 2, none⟩) (Kd.R_far (p := ⟨gb591, 1, none⟩) (Kd.R_far (p := ⟨gb591, 0, none⟩) (Kd.R_types HO589.out BK591.out (by decide)) (fun _ hk => hk.2) (.int .i64 t584)) (fun _ hk => hk.2) (.int .i64 t585)) (fun _ hk => hk.2) (.int .i64 t586)) (fun _ hk => hk.2) (.slice Ao14 t587.length co14)) (fun _ h_ => h_.1))))) (below_size (w := w) (Bq))); have n3_ := am (blk_below (g := gb591) (o := .cells #[.int .i64 t584, .int .i64 t585, .int .i64 t586, .slice Ao14 t587.length co14] 50 (0, 0)) (by (with_reducible repeat (first | refine blk_drewN ?_ _ | refine blk_drew ?_ | refine blk_alloc ?_ _)); refine blk_put (cs := #[.int .i64 t584, .int .i64 t585, .int .i64 t586, .slice none 0 0]) ?_ 3 _ rfl; (with_reducible repeat (first | refine blk_drewN ?_ _ | refine blk_drew ?_ | refine blk_alloc ?_ _)); refine blk_put (cs := #[.int .i64 t584, .int .i64 t585, .int .i64 0, .slice none 0 0]) ?_ 2 _ rfl; (with_reducible repeat (first | refine blk_drewN ?_ _ | refine blk_drew ?_ | refine blk_alloc ?_ _)); refine blk_put (cs := #[.int .i64 t584, .int .i64 0, .int .i64 0, .slice none 0 0]) ?_ 1 _ rfl; (with_reducible repeat (first | refine blk_drewN ?_ _ | refine blk_drew ?_ | refine blk_alloc ?_ _)); refine blk_put (cs := #[.int .i64 0, .int .i64 0, .int .i64 0, .slice none 0 0]) ?_ 0 _ rfl; exact Kz BK591.out) hb); have n4_ := Bc HB hb; clear HO583 HO589 BK591 HB; revert n0_ n1_ n2_ n3_ n4_; intro HO583 HO589 HO597 BK591 HB; (try clear hb); (try clear hb2); (try clear hk); (try clear hi); (try clear ho0)) | ((with_reducible refine gate_dst (N := 10) rfl ?_); (try (refine gate_guard (by rfl) ?_; dsimp only)); refine bE 10 #[.int .i64 0, .int .i64 0, .int .i64 0, .slice none 0 0] 50 ?_; intro gb599 hg w16 hbox hb; have n0_ := Rb HO583 hb; have n1_ := Rb HO589 hb; have n2_ := Rb HO597 hb; have n3_ := Kb BK591 hb; have n4_ := Bc HB hb; have n5_ := am (hbox); have n6_ := Gm HB hg; have n7_ := Gm HB hg; have n8_ := Nl BK591 hg; have n9_ := Ng BK591 hg; clear HO583 HO589 HO597 BK591 HB; revert n0_ n1_ n2_ n3_ n4_ n5_ n6_ n7_ n8_ n9_; intro HO583 HO589 HO597 BK591 HB BK599 GW599 GE599 NB591_599 NB599_591; clear hb hbox hg; have hnb17 := NB599_591.out; have hnc17 := NB591_599.out; obtain ⟨hcz18_0, hcz18_1, hcz18_2, hcz18_3, hfz18_0, hfz18_1, hfz18_2, hfz18_3⟩ := cf4 (w := w16) BK599; obtain ⟨Ao19, co19, eo19⟩ := Kd.R_slice HO597.out; subst eo19))
  (try simp only [aP])
  go_cut [74] (fun v74 wc => ∃ (kq : Nat) (x74_7 : Bool), v74 = .bool x74_7 ∧ Aside0 (laws_FnOrderedKeepsOrder.j0 kq t579 t580 t581 t590 x74_7 t584 t585 t586 t587 = some r) ∧ Aside0 (kq ≤ k) ∧ Aside0 (Kd.R Kd.string 9 wc w.heap.size (fun _ => True) (.slice Ao10 t580.length co10) t580) ∧ Aside0 (Kd.R (Kd.int .i64) 3 wc w.heap.size (fun k_ => some k_ ≠ ((.slice Ao19 t595.length co19) : Value).ownBlock) (.slice Ao14 t587.length co14) t587) ∧ Aside0 (Kd.R (Kd.int .i64) 3 wc w.heap.size (fun k_ => some k_ ≠ ((.slice Ao14 t587.length co14) : Value).ownBlock) (.slice Ao19 t595.length co19) t595) ∧ Aside0 (wc.heap[gb591]? = some (.cells #[.int .i64 t584, .int .i64 t585, .int .i64 t586, (.slice Ao14 t587.length co14)] 50 (0, 0))) ∧ Aside0 (wc.heap[gb599]? = some (.cells #[.int .i64 t592, .int .i64 t593, .int .i64 t594, (.slice Ao19 t595.length co19)] 50 (0, 0))) ∧ Aside0 (Below w.heap.size w wc))
  case first =>
   have H := HC8.out; clear HC8
   by_cases c20 : (t590 != t598) = true
   ·rw [if_pos c20] at H
    have c20b0 : (t590 != t598) = true := c20
    (try (have c20b1 : decide (t590 = t598) = false := by simpa using c20))
    (try (have c20b2 : (t590 == t598) = false := by simpa using c20))
    (try (have c20b3 : ¬ (t590 = t598) := by simpa using c20))
    (try (have c20b4 : (!(t590 == t598)) = true := c20b0))
    clear c20
    (first | rw [c20b0] | (simp only [i64_w, i32_w]; rw [c20b0]) | skip)
    exact absurd (H.trans (congrArg some HQT_.out)) (laws_FnOrderedKeepsOrder.j0.dead _ _ _ _ _ _ _ _ _)
   ·rw [if_neg c20] at H
    have c20b0 : (t590 != t598) = false := by simpa using c20
    (try (have c20b1 : decide (t590 = t598) = true := by simpa using c20))
    (try (have c20b2 : (t590 == t598) = true := by simpa using c20))
    (try (have c20b3 : (!(t590 == t598)) = false := c20b0))
    clear c20
    (first | rw [c20b0] | (simp only [i64_w, i32_w]; rw [c20b0]) | skip)
    by_cases c21 : t584 = t592
    ·rw [if_pos c21] at H
     have c21b0 : (t584 == t592) = true := beq_iff_eq.mpr c21; have c21b1 : (t584 != t592) = false := bne_eq_false_iff_eq.mpr c21; clear c21
     by_cases c22 : t585 = t593
     ·rw [if_pos c22] at H
      have c22b0 : (t585 == t593) = true := beq_iff_eq.mpr c22; have c22b1 : (t585 != t593) = false := bne_eq_false_iff_eq.mpr c22; clear c22
      by_cases c23 : t586 = t594
      ·rw [if_pos c23] at H
       have c23b0 : (t586 == t594) = true := beq_iff_eq.mpr c23; have c23b1 : (t586 != t594) = false := bne_eq_false_iff_eq.mpr c23; clear c23; replace H := Option.bind_eq_some_iff.mp H; obtain ⟨t600, A240, H⟩ := H; (try dsimp -simprocs only at H); have A24 := am A240; clear A240; have H' := am H; clear H; have hnb25 := NB591_599.out; have hnc25 := NB599_591.out; obtain ⟨hcz26_0, hcz26_1, hcz26_2, hcz26_3, hfz26_0, hfz26_1, hfz26_2, hfz26_3⟩ := cf4 (w := w16) BK591; obtain ⟨hcz27_0, hcz27_1, hcz27_2, hcz27_3, hfz27_0, hfz27_1, hfz27_2, hfz27_3⟩ := cf4 (w := w16) BK599
       go_wp2_with (first | (go_at_call 21; (with_reducible refine (laws_pSameInts.calls k _ _ t587 _ _ t595 t600 _ ?side1 ?side2 ?side3 ?side4 A24.out).mono ?_); (case side1 => refine (Kd.R_reads' (e := 3) (base := w.heap.size) (ok := fun k_ => (True ∧ some k_ ≠ (.slice Ao19 t595.length co19 : Value).ownBlock)) (n := t587.length) (c := co14) ?_).2.2; exact (Rz (Kd.R_mono (Kd.R_far (p := ⟨gb599, 3, none⟩) (Kd.R_far (p := ⟨gb599, 2, none⟩) (Kd.R_far (p := ⟨gb599, 1, none⟩) (Kd.R_far (p := ⟨gb599, 0, none⟩) (Kd.R_types HO589.out BK599.out (by decide)) (fun _ hk => hk.2) (.int .i64 t592)) (fun _ hk => hk.2) (.int .i64 t593)) (fun _ hk => hk.2) (.int .i64 t594)) (fun _ hk => hk.2) (.slice Ao19 t595.length co19)) (fun _ h_ => h_.1)))); (case side2 => exact (Kd.R_reads' HO589.out).2.1); (case side3 => refine (Kd.R_reads' (e := 3) (base := w.heap.size) (ok := fun k_ => (True ∧ some k_ ≠ (.slice Ao14 t587.length co14 : Value).ownBlock)) (n := t595.length) (c := co19) ?_).2.2; exact (Rz (Kd.R_mono (Kd.R_far (p := ⟨gb599, 3, none⟩) (Kd.R_far (p := ⟨gb599, 2, none⟩) (Kd.R_far (p := ⟨gb599, 1, none⟩) (Kd.R_far (p := ⟨gb599, 0, none⟩) (Kd.R_types HO597.out BK599.out (by decide)) (fun _ hk => hk.2) (.int .i64 t592)) (fun _ hk => hk.2) (.int .i64 t593)) (fun _ hk => hk.2) (.int .i64 t594)) (fun _ hk => hk.2) (.slice Ao19 t595.length co19)) (fun _ h_ => h_.1)))); (case side4 => exact (Kd.R_reads' HO597.out).2.1); rintro e w' ⟨rfl, ⟨nd, rfl⟩⟩))
       go_meet
       case rel => exact ⟨_, (!t600), wZ, H', ⟨by first | omega | exact Nat.le_refl _⟩, ⟨Rz (Kd.R_mono (Kd.R_far (p := ⟨gb599, 3, none⟩) (Kd.R_far (p := ⟨gb599, 2, none⟩) (Kd.R_far (p := ⟨gb599, 1, none⟩) (Kd.R_far (p := ⟨gb599, 0, none⟩) (Kd.R_types HO583.out BK599.out (by decide)) (fun _ hk => hk.2) (.int .i64 t592)) (fun _ hk => hk.2) (.int .i64 t593)) (fun _ hk => hk.2) (.int .i64 t594)) (fun _ hk => hk.2) (.slice Ao19 t595.length co19)) (fun _ hk => trivial))⟩, ⟨Rz (Kd.R_mono (Kd.R_far (p := ⟨gb599, 3, none⟩) (Kd.R_far (p := ⟨gb599, 2, none⟩) (Kd.R_far (p := ⟨gb599, 1, none⟩) (Kd.R_far (p := ⟨gb599, 0, none⟩) (Kd.R_types HO589.out BK599.out (by decide)) (fun _ hk => hk.2) (.int .i64 t592)) (fun _ hk => hk.2) (.int .i64 t593)) (fun _ hk => hk.2) (.int .i64 t594)) (fun _ hk => hk.2) (.slice Ao19 t595.length co19)) (fun _ hk => hk.1.2))⟩, ⟨Rz (Kd.R_mono (Kd.R_far (p := ⟨gb599, 3, none⟩) (Kd.R_far (p := ⟨gb599, 2, none⟩) (Kd.R_far (p := ⟨gb599, 1, none⟩) (Kd.R_far (p := ⟨gb599, 0, none⟩) (Kd.R_types HO597.out BK599.out (by decide)) (fun _ hk => hk.2) (.int .i64 t592)) (fun _ hk => hk.2) (.int .i64 t593)) (fun _ hk => hk.2) (.int .i64 t594)) (fun _ hk => hk.2) (.slice Ao19 t595.length co19)) (fun _ hk => hk.1.2))⟩, ⟨by (with_reducible repeat (first | refine blk_drewN ?_ _ | refine blk_drew ?_ | refine blk_alloc ?_ _)); refine blk_far ?_ NB591_599.out _; (with_reducible repeat (first | refine blk_drewN ?_ _ | refine blk_drew ?_ | refine blk_alloc ?_ _)); refine blk_far ?_ NB591_599.out _; (with_reducible repeat (first | refine blk_drewN ?_ _ | refine blk_drew ?_ | refine blk_alloc ?_ _)); refine blk_far ?_ NB591_599.out _; (with_reducible repeat (first | refine blk_drewN ?_ _ | refine blk_drew ?_ | refine blk_alloc ?_ _)); refine blk_far ?_ NB591_599.out _; (with_reducible repeat (first | refine blk_drewN ?_ _ | refine blk_drew ?_ | refine blk_alloc ?_ _)); exact BK591.out⟩, ⟨by (with_reducible repeat (first | refine blk_drewN ?_ _ | refine blk_drew ?_ | refine blk_alloc ?_ _)); refine blk_put (cs := #[.int .i64 t592, .int .i64 t593, .int .i64 t594, .slice none 0 0]) ?_ 3 _ rfl; (with_reducible repeat (first | refine blk_drewN ?_ _ | refine blk_drew ?_ | refine blk_alloc ?_ _)); refine blk_put (cs := #[.int .i64 t592, .int .i64 t593, .int .i64 0, .slice none 0 0]) ?_ 2 _ rfl; (with_reducible repeat (first | refine blk_drewN ?_ _ | refine blk_drew ?_ | refine blk_alloc ?_ _)); refine blk_put (cs := #[.int .i64 t592, .int .i64 0, .int .i64 0, .slice none 0 0]) ?_ 1 _ rfl; (with_reducible repeat (first | refine blk_drewN ?_ _ | refine blk_drew ?_ | refine blk_alloc ?_ _)); refine blk_put (cs := #[.int .i64 0, .int .i64 0, .int .i64 0, .slice none 0 0]) ?_ 0 _ rfl; (with_reducible repeat (first | refine blk_drewN ?_ _ | refine blk_drew ?_ | refine blk_alloc ?_ _)); exact BK599.out⟩, ⟨Bq⟩⟩
      ·rw [if_neg c23] at H
       have c23b0 : (t586 == t594) = false := beq_eq_false_iff_ne.mpr c23; have c23b1 : (t586 != t594) = true := bne_iff_ne.mpr c23; exact absurd (H.trans (congrArg some HQT_.out)) (laws_FnOrderedKeepsOrder.j0.dead _ _ _ _ _ _ _ _ _)
     ·rw [if_neg c22] at H
      have c22b0 : (t585 == t593) = false := beq_eq_false_iff_ne.mpr c22; have c22b1 : (t585 != t593) = true := bne_iff_ne.mpr c22; exact absurd (H.trans (congrArg some HQT_.out)) (laws_FnOrderedKeepsOrder.j0.dead _ _ _ _ _ _ _ _ _)
    ·rw [if_neg c21] at H
     have c21b0 : (t584 == t592) = false := beq_eq_false_iff_ne.mpr c21; have c21b1 : (t584 != t592) = true := bne_iff_ne.mpr c21; exact absurd (H.trans (congrArg some HQT_.out)) (laws_FnOrderedKeepsOrder.j0.dead _ _ _ _ _ _ _ _ _)
  case rest =>
   clear HC8
   try clear c1
   try clear c2
   try clear p2
   try clear c4
   try clear c8
   try clear c17
   try clear c18
   try clear c19
   try clear c20
   try clear c20b0
   try clear c20b1
   try clear c20b2
   try clear c21
   try clear c21b0
   try clear c21b1
   try clear c22
   try clear c22b0
   try clear c22b1
   try clear c23
   try clear c23b0
   try clear c23b1
   try clear c25
   try clear hcz13_0
   try clear hcz13_1
   try clear hcz13_2
   try clear hcz13_3
   try clear hcz18_0
   try clear hcz18_1
   try clear hcz18_2
   try clear hcz18_3
   try clear hcz26_0
   try clear hcz26_1
   try clear hcz26_2
   try clear hcz26_3
   try clear hcz27_0
   try clear hcz27_1
   try clear hcz27_2
   try clear hcz27_3
   try clear hfz13_0
   try clear hfz13_1
   try clear hfz13_2
   try clear hfz13_3
   try clear hfz18_0
   try clear hfz18_1
   try clear hfz18_2
   try clear hfz18_3
   try clear hfz26_0
   try clear hfz26_1
   try clear hfz26_2
   try clear hfz26_3
   try clear hfz27_0
   try clear hfz27_1
   try clear hfz27_2
   try clear hfz27_3
   obtain ⟨kq, x74_7, rfl, HA, HJ7, HO_6, HO_592003, HO_600003, BK591, BK599, HB⟩ := hcut; cases kq with
   | zero => exact absurd HA.out (by simp [laws_FnOrderedKeepsOrder.j0])
   | succ kj7 =>
    have H := HA.out; clear HA
    simp only [laws_FnOrderedKeepsOrder.j0] at H
    by_cases c28 : x74_7 = true
    ·subst c28
     rw [if_pos rfl] at H; exact absurd (Option.some.inj H) (by rw [HQT_.out]; decide)
    ·replace c28 := Bool.eq_false_iff.mpr c28
     subst c28
     rw [if_neg (show ¬ (false = true) by decide)] at H; replace H := Option.bind_eq_some_iff.mp H; obtain ⟨⟨t601, t602, t603, t606⟩, A290, H⟩ := H; (try dsimp -simprocs only at H); have A29 := am A290; clear A290; have HC30 := am H; clear H
     go_upto_region 9 with (first | ((with_reducible refine gate_callee (f := 22) rfl ?_); refine gL (some 79) Try.func22 #[.int .i64 t579, .slice Ao10 t580.length co10, .int .i64 t581] ?_; (with_reducible refine (impl_BuildPeeled.calls kj7 t579 _ _ t580 t581 t601 t602 t603 t606 _ ?side1 ?side2 A29.out).mono ?_); (case side1 => exact Cz ((Kd.R_reads' HO_6.out).2.2)); (case side2 => exact (Kd.R_reads' HO_6.out).2.1); rintro e w31 ⟨v604, rfl, ho0, hb⟩; refine ⟨_, rfl, ?_⟩; have n0_ := Rb HO_6 hb; have n1_ := Re HO_592003 (Kd.R_base ho0) hb; have n2_ := Re HO_600003 (Kd.R_base ho0) hb; have n3_ := Rm (Kd.R_new' (Kd.R_new' ho0 (Kd.R_lt (Rz HO_592003.out))) (Kd.R_lt (Rz HO_600003.out))) HB; have n4_ := Kb BK591 hb; have n5_ := Kb BK599 hb; have n6_ := Bc HB hb; clear HO_6 HO_592003 HO_600003 BK591 BK599 HB; revert n0_ n1_ n2_ n3_ n4_ n5_ n6_; intro HO_6 HO_592003 HO_600003 HO605 BK591 BK599 HB; (try clear hb); (try clear hb2); (try clear hk); (try clear hi); (try clear ho0)) | ((with_reducible refine gate_dst (N := 12) rfl ?_); (try (refine gate_guard (by rfl) ?_; dsimp only)); refine bE 12 #[.int .i64 0, .int .i64 0, .slice none 0 0] 26 ?_; intro gb607 hg w32 hbox hb; have n0_ := Rb HO_6 hb; have n1_ := Rb HO_592003 hb; have n2_ := Rb HO_600003 hb; have n3_ := Rb HO605 hb; have n4_ := Kb BK591 hb; have n5_ := Kb BK599 hb; have n6_ := Bc HB hb; have n7_ := am (hbox); have n8_ := Gm HB hg; have n9_ := Gm HB hg; have n10_ := Nl BK591 hg; have n11_ := Ng BK591 hg; have n12_ := Nl BK599 hg; have n13_ := Ng BK599 hg; clear HO_6 HO_592003 HO_600003 HO605 BK591 BK599 HB; revert n0_ n1_ n2_ n3_ n4_ n5_ n6_ n7_ n8_ n9_ n10_ n11_ n12_ n13_; intro HO_6 HO_592003 HO_600003 HO605 BK591 BK599 HB BK607 GW607 GE607 NB591_607 NB607_591 NB599_607 NB607_599; clear hb hbox hg; have hnb33 := NB607_591.out; have hnc33 := NB591_607.out; have hnb34 := NB607_599.out; have hnc34 := NB599_607.out; obtain ⟨hcz35_0, hcz35_1, hcz35_2, hfz35_0, hfz35_1, hfz35_2⟩ := cf3 (w := w32) BK607; obtain ⟨Ao36, co36, eo36⟩ := Kd.R_slice HO605.out; subst eo36))
     (try simp only [aP])
     go_cut [89] (fun v89 wc => ∃ (kq : Nat) (x89_29 : Bool), v89 = .bool x89_29 ∧ Aside0 (laws_FnOrderedKeepsOrder.j1 kq t580 t590 x89_29 t584 t585 t586 t587 = some r) ∧ Aside0 (kq ≤ kj7) ∧ Aside0 (Kd.R Kd.string 9 wc w.heap.size (fun _ => True) (.slice Ao10 t580.length co10) t580) ∧ Aside0 (Kd.R (Kd.int .i64) 3 wc w.heap.size (fun k_ => some k_ ≠ ((.slice Ao19 t595.length co19) : Value).ownBlock ∧ some k_ ≠ ((.slice Ao36 t603.length co36) : Value).ownBlock) (.slice Ao14 t587.length co14) t587) ∧ Aside0 (Kd.R (Kd.int .i64) 3 wc w.heap.size (fun k_ => some k_ ≠ ((.slice Ao14 t587.length co14) : Value).ownBlock ∧ some k_ ≠ ((.slice Ao36 t603.length co36) : Value).ownBlock) (.slice Ao19 t595.length co19) t595) ∧ Aside0 (Kd.R (Kd.int .i64) 3 wc w.heap.size (fun k_ => some k_ ≠ ((.slice Ao14 t587.length co14) : Value).ownBlock ∧ some k_ ≠ ((.slice Ao19 t595.length co19) : Value).ownBlock) (.slice Ao36 t603.length co36) t603) ∧ Aside0 (wc.heap[gb591]? = some (.cells #[.int .i64 t584, .int .i64 t585, .int .i64 t586, (.slice Ao14 t587.length co14)] 50 (0, 0))) ∧ Aside0 (wc.heap[gb599]? = some (.cells #[.int .i64 t592, .int .i64 t593, .int .i64 t594, (.slice Ao19 t595.length co19)] 50 (0, 0))) ∧ Aside0 (wc.heap[gb607]? = some (.cells #[.int .i64 t601, .int .i64 t602, (.slice Ao36 t603.length co36)] 26 (0, 0))) ∧ Aside0 (Below w.heap.size w wc))
     case first =>
      have H := HC30.out; clear HC30
      by_cases c37 : t606 = true
      ·subst c37
       rw [if_pos rfl] at H; have H' := am H; clear H
       go_wp2
       go_meet
       case rel => exact ⟨_, ((t590 != (decide ((t580.length : Int) > 0)))), (by simp; first | done | exact (by decide : ∀ a b : Bool, (a == b) = (!(a != b))) _ _), H', ⟨by have := HJ7.out; first | omega | exact Nat.le_refl _⟩, ⟨Rz (Kd.R_mono (Kd.R_far (p := ⟨gb607, 2, none⟩) (Kd.R_far (p := ⟨gb607, 1, none⟩) (Kd.R_far (p := ⟨gb607, 0, none⟩) (Kd.R_types HO_6.out BK607.out (by decide)) (fun _ hk => hk.2) (.int .i64 t601)) (fun _ hk => hk.2) (.int .i64 t602)) (fun _ hk => hk.2) (.slice Ao36 t603.length co36)) (fun _ hk => trivial))⟩, ⟨Rz (Kd.R_mono (Kd.R_far (p := ⟨gb607, 2, none⟩) (Kd.R_far (p := ⟨gb607, 1, none⟩) (Kd.R_far (p := ⟨gb607, 0, none⟩) (Kd.R_types HO_592003.out BK607.out (by decide)) (fun _ hk => hk.2) (.int .i64 t601)) (fun _ hk => hk.2) (.int .i64 t602)) (fun _ hk => hk.2) (.slice Ao36 t603.length co36)) (fun _ hk => ⟨hk.1.1, hk.1.2⟩))⟩, ⟨Rz (Kd.R_mono (Kd.R_far (p := ⟨gb607, 2, none⟩) (Kd.R_far (p := ⟨gb607, 1, none⟩) (Kd.R_far (p := ⟨gb607, 0, none⟩) (Kd.R_types HO_600003.out BK607.out (by decide)) (fun _ hk => hk.2) (.int .i64 t601)) (fun _ hk => hk.2) (.int .i64 t602)) (fun _ hk => hk.2) (.slice Ao36 t603.length co36)) (fun _ hk => ⟨hk.1.1, hk.1.2⟩))⟩, ⟨Rz (Kd.R_mono (Kd.R_far (p := ⟨gb607, 2, none⟩) (Kd.R_far (p := ⟨gb607, 1, none⟩) (Kd.R_far (p := ⟨gb607, 0, none⟩) (Kd.R_types HO605.out BK607.out (by decide)) (fun _ hk => hk.2) (.int .i64 t601)) (fun _ hk => hk.2) (.int .i64 t602)) (fun _ hk => hk.2) (.slice Ao36 t603.length co36)) (fun _ hk => ⟨hk.1.1.2, hk.1.2⟩))⟩, ⟨by (with_reducible repeat (first | refine blk_drewN ?_ _ | refine blk_drew ?_ | refine blk_alloc ?_ _)); refine blk_far ?_ NB591_607.out _; (with_reducible repeat (first | refine blk_drewN ?_ _ | refine blk_drew ?_ | refine blk_alloc ?_ _)); refine blk_far ?_ NB591_607.out _; (with_reducible repeat (first | refine blk_drewN ?_ _ | refine blk_drew ?_ | refine blk_alloc ?_ _)); refine blk_far ?_ NB591_607.out _; (with_reducible repeat (first | refine blk_drewN ?_ _ | refine blk_drew ?_ | refine blk_alloc ?_ _)); exact BK591.out⟩, ⟨by (with_reducible repeat (first | refine blk_drewN ?_ _ | refine blk_drew ?_ | refine blk_alloc ?_ _)); refine blk_far ?_ NB599_607.out _; (with_reducible repeat (first | refine blk_drewN ?_ _ | refine blk_drew ?_ | refine blk_alloc ?_ _)); refine blk_far ?_ NB599_607.out _; (with_reducible repeat (first | refine blk_drewN ?_ _ | refine blk_drew ?_ | refine blk_alloc ?_ _)); refine blk_far ?_ NB599_607.out _; (with_reducible repeat (first | refine blk_drewN ?_ _ | refine blk_drew ?_ | refine blk_alloc ?_ _)); exact BK599.out⟩, ⟨by (with_reducible repeat (first | refine blk_drewN ?_ _ | refine blk_drew ?_ | refine blk_alloc ?_ _)); refine blk_put (cs := #[.int .i64 t601, .int .i64 t602, .slice none 0 0]) ?_ 2 _ rfl; (with_reducible repeat (first | refine blk_drewN ?_ _ | refine blk_drew ?_ | refine blk_alloc ?_ _)); refine blk_put (cs := #[.int .i64 t601, .int .i64 0, .slice none 0 0]) ?_ 1 _ rfl; (with_reducible repeat (first | refine blk_drewN ?_ _ | refine blk_drew ?_ | refine blk_alloc ?_ _)); refine blk_put (cs := #[.int .i64 0, .int .i64 0, .slice none 0 0]) ?_ 0 _ rfl; (with_reducible repeat (first | refine blk_drewN ?_ _ | refine blk_drew ?_ | refine blk_alloc ?_ _)); exact BK607.out⟩, ⟨Bq⟩⟩
      ·replace c37 := Bool.eq_false_iff.mpr c37
       subst c37
       rw [if_neg (show ¬ (false = true) by decide)] at H; have H' := am H; clear H
       go_wp2
       go_meet
       case rel => exact ⟨_, ((t590 != false)), wZ, H', ⟨by have := HJ7.out; first | omega | exact Nat.le_refl _⟩, ⟨Rz (Kd.R_mono (Kd.R_far (p := ⟨gb607, 2, none⟩) (Kd.R_far (p := ⟨gb607, 1, none⟩) (Kd.R_far (p := ⟨gb607, 0, none⟩) (Kd.R_types HO_6.out BK607.out (by decide)) (fun _ hk => hk.2) (.int .i64 t601)) (fun _ hk => hk.2) (.int .i64 t602)) (fun _ hk => hk.2) (.slice Ao36 t603.length co36)) (fun _ hk => trivial))⟩, ⟨Rz (Kd.R_mono (Kd.R_far (p := ⟨gb607, 2, none⟩) (Kd.R_far (p := ⟨gb607, 1, none⟩) (Kd.R_far (p := ⟨gb607, 0, none⟩) (Kd.R_types HO_592003.out BK607.out (by decide)) (fun _ hk => hk.2) (.int .i64 t601)) (fun _ hk => hk.2) (.int .i64 t602)) (fun _ hk => hk.2) (.slice Ao36 t603.length co36)) (fun _ hk => ⟨hk.1.1, hk.1.2⟩))⟩, ⟨Rz (Kd.R_mono (Kd.R_far (p := ⟨gb607, 2, none⟩) (Kd.R_far (p := ⟨gb607, 1, none⟩) (Kd.R_far (p := ⟨gb607, 0, none⟩) (Kd.R_types HO_600003.out BK607.out (by decide)) (fun _ hk => hk.2) (.int .i64 t601)) (fun _ hk => hk.2) (.int .i64 t602)) (fun _ hk => hk.2) (.slice Ao36 t603.length co36)) (fun _ hk => ⟨hk.1.1, hk.1.2⟩))⟩, ⟨Rz (Kd.R_mono (Kd.R_far (p := ⟨gb607, 2, none⟩) (Kd.R_far (p := ⟨gb607, 1, none⟩) (Kd.R_far (p := ⟨gb607, 0, none⟩) (Kd.R_types HO605.out BK607.out (by decide)) (fun _ hk => hk.2) (.int .i64 t601)) (fun _ hk => hk.2) (.int .i64 t602)) (fun _ hk => hk.2) (.slice Ao36 t603.length co36)) (fun _ hk => ⟨hk.1.1.2, hk.1.2⟩))⟩, ⟨by (with_reducible repeat (first | refine blk_drewN ?_ _ | refine blk_drew ?_ | refine blk_alloc ?_ _)); refine blk_far ?_ NB591_607.out _; (with_reducible repeat (first | refine blk_drewN ?_ _ | refine blk_drew ?_ | refine blk_alloc ?_ _)); refine blk_far ?_ NB591_607.out _; (with_reducible repeat (first | refine blk_drewN ?_ _ | refine blk_drew ?_ | refine blk_alloc ?_ _)); refine blk_far ?_ NB591_607.out _; (with_reducible repeat (first | refine blk_drewN ?_ _ | refine blk_drew ?_ | refine blk_alloc ?_ _)); exact BK591.out⟩, ⟨by (with_reducible repeat (first | refine blk_drewN ?_ _ | refine blk_drew ?_ | refine blk_alloc ?_ _)); refine blk_far ?_ NB599_607.out _; (with_reducible repeat (first | refine blk_drewN ?_ _ | refine blk_drew ?_ | refine blk_alloc ?_ _)); refine blk_far ?_ NB599_607.out _; (with_reducible repeat (first | refine blk_drewN ?_ _ | refine blk_drew ?_ | refine blk_alloc ?_ _)); refine blk_far ?_ NB599_607.out _; (with_reducible repeat (first | refine blk_drewN ?_ _ | refine blk_drew ?_ | refine blk_alloc ?_ _)); exact BK599.out⟩, ⟨by (with_reducible repeat (first | refine blk_drewN ?_ _ | refine blk_drew ?_ | refine blk_alloc ?_ _)); refine blk_put (cs := #[.int .i64 t601, .int .i64 t602, .slice none 0 0]) ?_ 2 _ rfl; (with_reducible repeat (first | refine blk_drewN ?_ _ | refine blk_drew ?_ | refine blk_alloc ?_ _)); refine blk_put (cs := #[.int .i64 t601, .int .i64 0, .slice none 0 0]) ?_ 1 _ rfl; (with_reducible repeat (first | refine blk_drewN ?_ _ | refine blk_drew ?_ | refine blk_alloc ?_ _)); refine blk_put (cs := #[.int .i64 0, .int .i64 0, .slice none 0 0]) ?_ 0 _ rfl; (with_reducible repeat (first | refine blk_drewN ?_ _ | refine blk_drew ?_ | refine blk_alloc ?_ _)); exact BK607.out⟩, ⟨Bq⟩⟩
     case rest =>
      clear HC30
      try clear c1
      try clear c2
      try clear p2
      try clear c3
      try clear c4
      try clear c8
      try clear c17
      try clear c18
      try clear c19
      try clear c20
      try clear c20b0
      try clear c20b1
      try clear c20b2
      try clear c21
      try clear c21b0
      try clear c21b1
      try clear c22
      try clear c22b0
      try clear c22b1
      try clear c23
      try clear c23b0
      try clear c23b1
      try clear c25
      try clear c28
      try clear c33
      try clear c34
      try clear c37
      try clear hcz13_0
      try clear hcz13_1
      try clear hcz13_2
      try clear hcz13_3
      try clear hcz18_0
      try clear hcz18_1
      try clear hcz18_2
      try clear hcz18_3
      try clear hcz26_0
      try clear hcz26_1
      try clear hcz26_2
      try clear hcz26_3
      try clear hcz27_0
      try clear hcz27_1
      try clear hcz27_2
      try clear hcz27_3
      try clear hcz35_0
      try clear hcz35_1
      try clear hcz35_2
      try clear hfz13_0
      try clear hfz13_1
      try clear hfz13_2
      try clear hfz13_3
      try clear hfz18_0
      try clear hfz18_1
      try clear hfz18_2
      try clear hfz18_3
      try clear hfz26_0
      try clear hfz26_1
      try clear hfz26_2
      try clear hfz26_3
      try clear hfz27_0
      try clear hfz27_1
      try clear hfz27_2
      try clear hfz27_3
      try clear hfz35_0
      try clear hfz35_1
      try clear hfz35_2
      try clear p2
      obtain ⟨kq, x89_29, rfl, HA, HJ29, HO_6, HO_592003, HO_600003, HO_608002, BK591, BK599, BK607, HB⟩ := hcut; cases kq with
      | zero => exact absurd HA.out (by simp [laws_FnOrderedKeepsOrder.j1])
      | succ kj29 =>
       have H := HA.out; clear HA
       simp only [laws_FnOrderedKeepsOrder.j1] at H
       by_cases c38 : x89_29 = true
       ·subst c38
        rw [if_pos rfl] at H; exact absurd (Option.some.inj H) (by rw [HQT_.out]; decide)
       ·replace c38 := Bool.eq_false_iff.mpr c38
        subst c38
        rw [if_neg (show ¬ (false = true) by decide)] at H
        by_cases c39 : t590 = true
        ·subst c39
         rw [if_pos rfl] at H; replace H := Option.bind_eq_some_iff.mp H; obtain ⟨⟨t608, t609⟩, A400, H⟩ := H; (try dsimp -simprocs only at H); have A40 := am A400; clear A400; have HC41 := am H; clear H; have hnb42 := NB591_599.out; have hnc42 := NB599_591.out; have hnb43 := NB591_607.out; have hnc43 := NB607_591.out; obtain ⟨hcz44_0, hcz44_1, hcz44_2, hcz44_3, hfz44_0, hfz44_1, hfz44_2, hfz44_3⟩ := cf4 (w := wc) BK591
         go_upto_region 14 with (first | ((with_reducible refine gate_callee (f := 23) rfl ?_); refine gL (some 95) Try.func23 #[.agg #[.int .i64 t584, .int .i64 t585, .int .i64 t586, .slice Ao14 t587.length co14], .slice Ao10 t580.length co10] ?_; (with_reducible refine (impl_IsOrderedFor.calls kj29 t584 t585 t586 _ _ t587 _ _ t580 t608 t609 _ ?side1 ?side2 ?side3 ?side4 A40.out).mono ?_); (case side1 => exact Cz ((Kd.R_reads' HO_592003.out).2.2)); (case side2 => exact (Kd.R_reads' HO_592003.out).2.1); (case side3 => exact Cz ((Kd.R_reads' HO_6.out).2.2)); (case side4 => exact (Kd.R_reads' HO_6.out).2.1); rintro e w45 ⟨rfl, hb⟩; refine ⟨_, rfl, ?_⟩; have n0_ := Rb HO_6 hb; have n1_ := Rb HO_592003 hb; have n2_ := Rb HO_600003 hb; have n3_ := Rb HO_608002 hb; have n4_ := Kb BK591 hb; have n5_ := Kb BK599 hb; have n6_ := Kb BK607 hb; have n7_ := Bc HB hb; clear HO_6 HO_592003 HO_600003 HO_608002 BK591 BK599 BK607 HB; revert n0_ n1_ n2_ n3_ n4_ n5_ n6_ n7_; intro HO_6 HO_592003 HO_600003 HO_608002 BK591 BK599 BK607 HB; (try clear hb); (try clear hb2); (try clear hk); (try clear hi)))
         (try simp only [aP])
         go_cut [103] (fun v103 wc => ∃ (kq : Nat) (x103_40 : Bool), v103 = .bool x103_40 ∧ Aside0 (laws_FnOrderedKeepsOrder.j2 kq t580 x103_40 t584 t585 t586 t587 = some r) ∧ Aside0 (kq ≤ kj29) ∧ Aside0 (Kd.R Kd.string 9 wc w.heap.size (fun _ => True) (.slice Ao10 t580.length co10) t580) ∧ Aside0 (Kd.R (Kd.int .i64) 3 wc w.heap.size (fun k_ => some k_ ≠ ((.slice Ao19 t595.length co19) : Value).ownBlock ∧ some k_ ≠ ((.slice Ao36 t603.length co36) : Value).ownBlock) (.slice Ao14 t587.length co14) t587) ∧ Aside0 (Kd.R (Kd.int .i64) 3 wc w.heap.size (fun k_ => some k_ ≠ ((.slice Ao14 t587.length co14) : Value).ownBlock ∧ some k_ ≠ ((.slice Ao36 t603.length co36) : Value).ownBlock) (.slice Ao19 t595.length co19) t595) ∧ Aside0 (Kd.R (Kd.int .i64) 3 wc w.heap.size (fun k_ => some k_ ≠ ((.slice Ao14 t587.length co14) : Value).ownBlock ∧ some k_ ≠ ((.slice Ao19 t595.length co19) : Value).ownBlock) (.slice Ao36 t603.length co36) t603) ∧ Aside0 (wc.heap[gb591]? = some (.cells #[.int .i64 t584, .int .i64 t585, .int .i64 t586, (.slice Ao14 t587.length co14)] 50 (0, 0))) ∧ Aside0 (wc.heap[gb599]? = some (.cells #[.int .i64 t592, .int .i64 t593, .int .i64 t594, (.slice Ao19 t595.length co19)] 50 (0, 0))) ∧ Aside0 (wc.heap[gb607]? = some (.cells #[.int .i64 t601, .int .i64 t602, (.slice Ao36 t603.length co36)] 26 (0, 0))) ∧ Aside0 (Below w.heap.size w wc))
         case first =>
          have H := HC41.out; clear HC41
          by_cases c46 : t609 = true
          ·subst c46
           rw [if_pos rfl] at H; have H' := am H; clear H
           go_wp2
           go_meet
           case rel => exact ⟨_, (!t608), wZ, H', ⟨by have := HJ7.out; have := HJ29.out; first | omega | exact Nat.le_refl _⟩, ⟨Rz HO_6.out⟩, ⟨Rz HO_592003.out⟩, ⟨Rz HO_600003.out⟩, ⟨Rz HO_608002.out⟩, ⟨Kz BK591.out⟩, ⟨Kz BK599.out⟩, ⟨Kz BK607.out⟩, ⟨Bq⟩⟩
          ·replace c46 := Bool.eq_false_iff.mpr c46
           subst c46
           rw [if_neg (show ¬ (false = true) by decide)] at H; exact absurd (H.trans (congrArg some HQT_.out)) (laws_FnOrderedKeepsOrder.j2.dead _ _ _ _ _ _)
         case rest =>
          clear HC41
          try clear c1
          try clear c2
          try clear p2
          try clear c3
          try clear c4
          try clear c8
          try clear c17
          try clear c18
          try clear c19
          try clear c20
          try clear c20b0
          try clear c20b1
          try clear c20b2
          try clear c21
          try clear c21b0
          try clear c21b1
          try clear c22
          try clear c22b0
          try clear c22b1
          try clear c23
          try clear c23b0
          try clear c23b1
          try clear c25
          try clear c28
          try clear c33
          try clear c34
          try clear c37
          try clear c38
          try clear c39
          try clear c42
          try clear c43
          try clear c46
          try clear hcz13_0
          try clear hcz13_1
          try clear hcz13_2
          try clear hcz13_3
          try clear hcz18_0
          try clear hcz18_1
          try clear hcz18_2
          try clear hcz18_3
          try clear hcz26_0
          try clear hcz26_1
          try clear hcz26_2
          try clear hcz26_3
          try clear hcz27_0
          try clear hcz27_1
          try clear hcz27_2
          try clear hcz27_3
          try clear hcz35_0
          try clear hcz35_1
          try clear hcz35_2
          try clear hcz44_0
          try clear hcz44_1
          try clear hcz44_2
          try clear hcz44_3
          try clear hfz13_0
          try clear hfz13_1
          try clear hfz13_2
          try clear hfz13_3
          try clear hfz18_0
          try clear hfz18_1
          try clear hfz18_2
          try clear hfz18_3
          try clear hfz26_0
          try clear hfz26_1
          try clear hfz26_2
          try clear hfz26_3
          try clear hfz27_0
          try clear hfz27_1
          try clear hfz27_2
          try clear hfz27_3
          try clear hfz35_0
          try clear hfz35_1
          try clear hfz35_2
          try clear hfz44_0
          try clear hfz44_1
          try clear hfz44_2
          try clear hfz44_3
          try clear p2
          obtain ⟨kq, x103_40, rfl, HA, HJ40, HO_6, HO_592003, HO_600003, HO_608002, BK591, BK599, BK607, HB⟩ := hcut; cases kq with
          | zero => exact absurd HA.out (by simp [laws_FnOrderedKeepsOrder.j2])
          | succ kj40 =>
           have H := HA.out; clear HA
           simp only [laws_FnOrderedKeepsOrder.j2] at H
           by_cases c47 : x103_40 = true
           ·subst c47
            rw [if_pos rfl] at H; exact absurd (Option.some.inj H) (by rw [HQT_.out]; decide)
           ·replace c47 := Bool.eq_false_iff.mpr c47
            subst c47
            rw [if_neg (show ¬ (false = true) by decide)] at H; have H' := am H; clear H
            go_wp2
            go_loopg [106] kj40 (fun kq v106 w' => ∃ (x106_4 : Int), v106 = .int .i64 x106_4 ∧ Aside0 (laws_FnOrderedKeepsOrder.l0 kq t580 (t580.length : Int) x106_4 t584 t585 t586 t587 = some r) ∧ Aside0 (kq ≤ kj40) ∧ Aside0 (Kd.R Kd.string 9 w' w.heap.size (fun _ => True) (.slice Ao10 t580.length co10) t580) ∧ Aside0 (Kd.R (Kd.int .i64) 3 w' w.heap.size (fun k_ => some k_ ≠ ((.slice Ao19 t595.length co19) : Value).ownBlock ∧ some k_ ≠ ((.slice Ao36 t603.length co36) : Value).ownBlock) (.slice Ao14 t587.length co14) t587) ∧ Aside0 (Kd.R (Kd.int .i64) 3 w' w.heap.size (fun k_ => some k_ ≠ ((.slice Ao14 t587.length co14) : Value).ownBlock ∧ some k_ ≠ ((.slice Ao36 t603.length co36) : Value).ownBlock) (.slice Ao19 t595.length co19) t595) ∧ Aside0 (Kd.R (Kd.int .i64) 3 w' w.heap.size (fun k_ => some k_ ≠ ((.slice Ao14 t587.length co14) : Value).ownBlock ∧ some k_ ≠ ((.slice Ao19 t595.length co19) : Value).ownBlock) (.slice Ao36 t603.length co36) t603) ∧ Aside0 (w'.heap[gb591]? = some (.cells #[.int .i64 t584, .int .i64 t585, .int .i64 t586, (.slice Ao14 t587.length co14)] 50 (0, 0))) ∧ Aside0 (w'.heap[gb599]? = some (.cells #[.int .i64 t592, .int .i64 t593, .int .i64 t594, (.slice Ao19 t595.length co19)] 50 (0, 0))) ∧ Aside0 (w'.heap[gb607]? = some (.cells #[.int .i64 t601, .int .i64 t602, (.slice Ao36 t603.length co36)] 26 (0, 0))) ∧ Aside0 (Below w.heap.size w w'))
            case atStart => exact ⟨(0), wZ, H', ⟨Nat.le_refl _⟩, ⟨Rz HO_6.out⟩, ⟨Rz HO_592003.out⟩, ⟨Rz HO_600003.out⟩, ⟨Rz HO_608002.out⟩, ⟨Kz BK591.out⟩, ⟨Kz BK599.out⟩, ⟨Kz BK607.out⟩, ⟨Bq⟩⟩
            case round =>
             clear H'
             try clear c1
             try clear c2
             try clear p2
             try clear c3
             try clear c4
             try clear c8
             try clear c17
             try clear c18
             try clear c19
             try clear c20
             try clear c20b0
             try clear c20b1
             try clear c20b2
             try clear c21
             try clear c21b0
             try clear c21b1
             try clear c22
             try clear c22b0
             try clear c22b1
             try clear c23
             try clear c23b0
             try clear c23b1
             try clear c25
             try clear c28
             try clear c33
             try clear c34
             try clear c37
             try clear c38
             try clear c39
             try clear c42
             try clear c43
             try clear c46
             try clear c47
             try clear hcz13_0
             try clear hcz13_1
             try clear hcz13_2
             try clear hcz13_3
             try clear hcz18_0
             try clear hcz18_1
             try clear hcz18_2
             try clear hcz18_3
             try clear hcz26_0
             try clear hcz26_1
             try clear hcz26_2
             try clear hcz26_3
             try clear hcz27_0
             try clear hcz27_1
             try clear hcz27_2
             try clear hcz27_3
             try clear hcz35_0
             try clear hcz35_1
             try clear hcz35_2
             try clear hcz44_0
             try clear hcz44_1
             try clear hcz44_2
             try clear hcz44_3
             try clear hfz13_0
             try clear hfz13_1
             try clear hfz13_2
             try clear hfz13_3
             try clear hfz18_0
             try clear hfz18_1
             try clear hfz18_2
             try clear hfz18_3
             try clear hfz26_0
             try clear hfz26_1
             try clear hfz26_2
             try clear hfz26_3
             try clear hfz27_0
             try clear hfz27_1
             try clear hfz27_2
             try clear hfz27_3
             try clear hfz35_0
             try clear hfz35_1
             try clear hfz35_2
             try clear hfz44_0
             try clear hfz44_1
             try clear hfz44_2
             try clear hfz44_3
             try clear p2
             obtain ⟨x106_4, rfl, HA, HK4, HO_104, HO_592003, HO_600003, HO_608002, BK591, BK599, BK607, HB⟩ := hrel; cases gk with
             | zero => exact absurd HA.out (by simp [laws_FnOrderedKeepsOrder.l0])
             | succ k4 =>
              have H := HA.out; clear HA
              simp only [laws_FnOrderedKeepsOrder.l0] at H
              by_cases c48 : x106_4 < (t580.length : Int)
              ·rw [if_pos c48] at H
               have c48b0 : decide (x106_4 < (t580.length : Int)) = true := decide_eq_true c48; clear c48
               by_cases c49 : 0 ≤ x106_4
               ·rw [if_pos c49] at H
                have c49b0 : decide (0 ≤ x106_4) = true := decide_eq_true c49; clear c49
                by_cases c50 : x106_4 < (t580.length : Int)
                ·rw [if_pos c50] at H
                 have c50b0 : decide (x106_4 < (t580.length : Int)) = true := decide_eq_true c50; clear c50; replace H := Option.bind_eq_some_iff.mp H; obtain ⟨⟨t611, t612⟩, A510, H⟩ := H; (try dsimp -simprocs only at H); have A51 := am A510; clear A510
                 by_cases c52 : t612 = true
                 ·subst c52
                  rw [if_pos rfl] at H
                  by_cases c53 : t611 = x106_4
                  ·rw [if_pos c53] at H
                   have c53b0 : (t611 == x106_4) = true := beq_iff_eq.mpr c53; have c53b1 : (t611 != x106_4) = false := bne_eq_false_iff_eq.mpr c53; clear c53; have H' := am H; clear H; obtain ⟨ad610, e610, hx610_0⟩ := Kd.at_string (Kd.R_reads' HO_104.out).2.2 x106_4 dT dT; cases e610; have p610 := eT (0 ≤ (x106_4 : Int)); have q610 := eT (x106_4 < (t580.length : Int)); have hnb54 := NB591_599.out; have hnc54 := NB599_591.out; have hnb55 := NB591_607.out; have hnc55 := NB607_591.out; obtain ⟨hcz56_0, hcz56_1, hcz56_2, hcz56_3, hfz56_0, hfz56_1, hfz56_2, hfz56_3⟩ := cf4 (w := wr) BK591
                   go_wp2_with (first | ((with_reducible refine gate_callee (f := 24) rfl ?_); refine gL (some 114) Try.func24 #[.agg #[.int .i64 t584, .int .i64 t585, .int .i64 t586, .slice Ao14 t587.length co14], .string (rdOf ByteArray.empty t580 x106_4)] ?_; (with_reducible refine (impl_OrdinalOf.calls k4 t584 t585 t586 _ _ t587 (rdOf ByteArray.empty t580 x106_4) t611 true _ ?side1 ?side2 A51.out).mono ?_); (case side1 => exact Cz ((Kd.R_reads' HO_592003.out).2.2)); (case side2 => exact (Kd.R_reads' HO_592003.out).2.1); rintro e w57 ⟨rfl, hb⟩; refine ⟨_, rfl, ?_⟩; have n0_ := Rb HO_104 hb; have n1_ := Rb HO_592003 hb; have n2_ := Rb HO_600003 hb; have n3_ := Rb HO_608002 hb; have n4_ := Kb BK591 hb; have n5_ := Kb BK599 hb; have n6_ := Kb BK607 hb; have n7_ := Bc HB hb; clear HO_104 HO_592003 HO_600003 HO_608002 BK591 BK599 BK607 HB; revert n0_ n1_ n2_ n3_ n4_ n5_ n6_ n7_; intro HO_104 HO_592003 HO_600003 HO_608002 BK591 BK599 BK607 HB; (try clear hb); (try clear hb2); (try clear hk); (try clear hi)))
                   go_roundg k4
                   case measure => have := HJ7.out; have := HJ29.out; have := HJ40.out; have := HK4.out; omega
                   case rel => exact ⟨(wrap64 (x106_4 + 1)), wZ, H', ⟨by have := HJ7.out; have := HJ29.out; have := HJ40.out; have := HK4.out; omega⟩, ⟨Rz HO_104.out⟩, ⟨Rz HO_592003.out⟩, ⟨Rz HO_600003.out⟩, ⟨Rz HO_608002.out⟩, ⟨Kz BK591.out⟩, ⟨Kz BK599.out⟩, ⟨Kz BK607.out⟩, ⟨Bq⟩⟩
                  ·rw [if_neg c53] at H
                   have c53b0 : (t611 == x106_4) = false := beq_eq_false_iff_ne.mpr c53; have c53b1 : (t611 != x106_4) = true := bne_iff_ne.mpr c53; exact absurd (Option.some.inj H) (by rw [HQT_.out]; decide)
                 ·replace c52 := Bool.eq_false_iff.mpr c52
                  subst c52
                  rw [if_neg (show ¬ (false = true) by decide)] at H; exact absurd (Option.some.inj H) (by rw [HQT_.out]; decide)
                ·rw [if_neg c50] at H
                 exact absurd H (by simp)
               ·rw [if_neg c49] at H
                exact absurd H (by simp)
              ·rw [if_neg c48] at H
               have c48b0 : decide (x106_4 < (t580.length : Int)) = false := decide_eq_false c48; clear c48; obtain rfl := Option.some.inj H
               go_wp2
               go_ret
               exact ⟨eZ, Bq⟩
        ·replace c39 := Bool.eq_false_iff.mpr c39
         subst c39
         rw [if_neg (show ¬ (false = true) by decide)] at H; obtain rfl := Option.some.inj H
         go_wp2
         go_ret
         exact ⟨eZ, Bq⟩

def laws_FnOrderedKeepsOrder.Pure : Prop := ∀ (l0 : List Int) (l1 : List Int), l0.length ≤ maxLen → l0.length * 1 ≤ 140737488351232 → (∀ x ∈ l0, (Lit.int .u8 x).wf = true) → l1.length ≤ maxLen → l1.length * 1 ≤ 140737488351232 → (∀ x ∈ l1, (Lit.int .u8 x).wf = true) → ∃ k, laws_FnOrderedKeepsOrder.f k l0 l1 = some true
theorem laws_FnOrderedKeepsOrder.walk (P : laws_FnOrderedKeepsOrder.Pure) (a0 : Option Addr) (len0 cap0 : Nat) (z0 : List Int) (a1 : Option Addr) (len1 cap1 : Nat) (z1 : List Int) (w : World) (w0 : (a0 = none ∧ len0 = 0 ∧ cap0 = 0 ∧ z0 = []) ∨ ∃ x, a0 = some x ∧ len0 ≤ cap0 ∧ cap0 ≤ maxLen ∧ z0.length = cap0 ∧ (∀ i, i < z0.length → w.cell? (x.add i) = some (.int .u8 (z0.getD i 0))) ∧ ∀ n ∈ z0, (Lit.int .u8 n).wf = true) (y0 : len0 * 1 ≤ 140737488351232) (w1 : (a1 = none ∧ len1 = 0 ∧ cap1 = 0 ∧ z1 = []) ∨ ∃ x, a1 = some x ∧ len1 ≤ cap1 ∧ cap1 ≤ maxLen ∧ z1.length = cap1 ∧ (∀ i, i < z1.length → w.cell? (x.add i) = some (.int .u8 (z1.getD i 0))) ∧ ∀ n ∈ z1, (Lit.int .u8 n).wf = true) (y1 : len1 * 1 ≤ 140737488351232) :
  Calls Try.prog 4 #[.slice a0 len0 cap0, .slice a1 len1 cap1] w fun e w' => e = .returned (.bool true) ∧ Below w.heap.size w w' := by
 obtain ⟨l0, rfl, hr0, hm0, hw0, hc0⟩ := ReadsInt.ofRowC w0; obtain ⟨l1, rfl, hr1, hm1, hw1, hc1⟩ := ReadsInt.ofRowC w1; obtain ⟨k, h⟩ := P l0 l1 hm0 y0 hw0 hm1 y1 hw1; refine (laws_FnOrderedKeepsOrder.calls k _ _ l0 _ _ l1 true w (Kd.C_of_reads (d := (0 : Int)) (h1 := fun _ => rfl) hr0) hc0 (Kd.C_of_reads (d := (0 : Int)) (h1 := fun _ => rfl) hr1) hc1 h rfl).mono ?_; rintro e w' ⟨rfl, hd⟩; exact ⟨rfl, hd⟩

end Go.Proofs.Ytmehagedoaopeaa.PO
namespace Go.Proofs.YtmehagedoaopeaaQ
open Go Go.RowKit Go.Proofs.YtmehagedoaopeaaW.PrintWords Go.Proofs.YtmehagedoaopeaaGp

theorem ev_succ {α : Type} {g : Nat → Option α} {r : α} (h : Ev (fun k => g (k + 1)) r) : Ev g r := Ev.step (f := fun k => g (k + 1)) (fun _ => rfl) h
theorem ev_some' {α : Type} {o : Option α} {r : α} (h : o = some r) : Ev (fun _ => o) r := h ▸ Ev.now r
theorem ev_some {α : Type} {a r : α} (h : a = r) : Ev (fun _ => some a) r := h ▸ Ev.now a
theorem ev_pos {α : Type} {c : Prop} [Decidable c] {f g : Nat → Option α} {r : α} (h : c) (k : Ev f r) : Ev (fun n => if c then f n else g n) r := by simpa only [if_pos h] using k
theorem ev_neg {α : Type} {c : Prop} [Decidable c] {f g : Nat → Option α} {r : α} (h : ¬ c) (k : Ev g r) : Ev (fun n => if c then f n else g n) r := by simpa only [if_neg h] using k
theorem ev_bind {α β : Type} {g : Nat → Option α} {f : Nat → α → Option β} {r : β} (a : α) (h : Ev g a) (k : Ev (fun n => f n a) r) : Ev (fun n => (g n).bind (f n)) r := Ev.bind h k
theorem w64 {x : Int} (h0 : -9223372036854775808 ≤ x) (h1 : x ≤ 9223372036854775807) : wrap64 x = x := by unfold wrap64; omega
theorem winc {i : Nat} (h : (i : Int) < 9223372036854775807) : wrap64 ((i : Int) + 1) = ((i + 1 : Nat) : Int) := by unfold wrap64; omega
theorem wdec {i : Nat} (h : (i : Int) < 9223372036854775807) : wrap64 (((i + 1 : Nat) : Int) - 1) = (i : Int) := by unfold wrap64; omega
theorem maxLen_eq : maxLen = 9223372036854775807 := by unfold maxLen; rfl
section
variable {α : Type} {d : α} {pre t : List α} {s : α}
theorem rdOf_mid : rdOf d (pre ++ s :: t) ((pre.length : Nat) : Int) = s := by simp [rdOf]
theorem rdOf_last {p : α} : rdOf d ((pre ++ [p]) ++ s :: t) ((pre.length : Nat) : Int) = p := by simp [rdOf]
theorem rdOf_get {xs : List α} {i : Nat} (h : i < xs.length) : rdOf d xs (i : Int) = xs[i] := by simp [rdOf, h]
theorem lt_mid : ((pre.length : Nat) : Int) < ((pre ++ s :: t).length : Int) := by simp; omega
theorem not_lt_end : ¬ ((pre.length : Nat) : Int) < ((pre ++ ([] : List α)).length : Int) := by simp
theorem len_one : ((pre ++ [s]).length : Int) = ((pre.length + 1 : Nat) : Int) := by simp
end
theorem rd_mid {pre t : List Int} {s : Int} : rd (pre ++ s :: t) ((pre.length : Nat) : Int) = s := by simp [rd]
theorem rd_get {xs : List Int} {i : Nat} (h : i < xs.length) : rd xs (i : Int) = xs[i] := by simp [rd, h]

theorem tl (s : ByteArray) : s.toList = s.data.toList := Lib.toList_data s
theorem tl_inj {x y : ByteArray} : x.toList = y.toList ↔ x = y := by
  rw [tl, tl]
  exact ⟨fun h => ByteArray.ext (Array.toList_inj.1 h), fun h => h ▸ rfl⟩
theorem size_len (s : ByteArray) : s.size = s.data.toList.length := (data_length s).symm
theorem bt_mid {s : ByteArray} {pre t : List UInt8} {c : UInt8} (h : s.data.toList = pre ++ c :: t) : bt s ((pre.length : Nat) : Int) = (c.toNat : Int) := by
  have hs : pre.length < s.size := by rw [size_len, h]; simp
  have hg : s[pre.length]'hs = c := by
    have : s.data.toList[pre.length]'(by rw [h]; simp) = c := by simp [h]
    rw [← this]; rfl
  unfold bt
  rw [dif_pos (by simpa using hs)]
  simp only [Int.toNat_natCast, hg]
theorem lt_size {s : ByteArray} {pre t : List UInt8} {c : UInt8} (h : s.data.toList = pre ++ c :: t) : ((pre.length : Nat) : Int) < (s.size : Int) := by rw [size_len, h]; simp; omega
theorem not_lt_size {s : ByteArray} {pre : List UInt8} (h : s.data.toList = pre ++ []) : ¬ ((pre.length : Nat) : Int) < (s.size : Int) := by rw [size_len, h]; simp
def lessS (a b : ByteArray) : Bool := Op.bytesLess a.toList b.toList
end Go.Proofs.YtmehagedoaopeaaQ
