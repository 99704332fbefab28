import Derived.Test.YthkcgimnagpmaaaCP1
-- printed by a program of this session (wip/gp) out of the translation; Lean checks it
namespace Go.Proofs.Ythkcgimnagpmaaa.PP
open Go.RowKit Go.Proofs.YthkcgimnagpmaaaW.PrintWords Go.Proofs.YthkcgimnagpmaaaW.PrintLast Go.Proofs.YthkcgimnagpmaaaW.PrintMore Go.Proofs.YthkcgimnagpmaaaSq
attribute [local go_sem] max2_int min2_int max_two min_two max_three min_three max_four min_four   -- for this text's walks alone
attribute [local go_sem] Go.Proofs.YthkcgimnagpmaaaGp.str_geq Go.Proofs.YthkcgimnagpmaaaGp.str_gtr Go.Proofs.YthkcgimnagpmaaaGp.str_leq
set_option linter.unusedVariables false
set_option linter.unusedSimpArgs false

set_option maxHeartbeats 8000000
set_option maxRecDepth 100000
mutual
def spec_pePeel.l0 : Nat → List Int → Bool → List (S51) → List Int → Int → Int → List (List Int) → Option ((List (S51)) × List Int)
 | 0, _, _, _, _, _, _, _ => none
 | k + 1, x1, x2, x8, x9, x10, x144000, x144001 => if x2 = true then (spec_pePeel.j1 k x1 x2 x8 x9 x10 true x144000 x144001) else (spec_pePeel.j1 k x1 x2 x8 x9 x10 (decide (x10 < (x1.length : Int))) x144000 x144001)
def spec_pePeel.j1 : Nat → List Int → Bool → List (S51) → List Int → Int → Bool → Int → List (List Int) → Option ((List (S51)) × List Int)
 | 0, _, _, _, _, _, _, _, _ => none
 | k + 1, x1, x2, x8, x9, x10, x22, x144000, x144001 => if x22 = true then ((spec_peFree.f k x144000 x144001 x9).bind fun t147 => (if (t147.length : Int) = 0 then (some (x8, x9)) else (if x10 < (x1.length : Int) then (if 0 ≤ x10 then (if 0 ≤ (Int.tmod (rd x1 x10) (t147.length : Int)) then (if (Int.tmod (rd x1 x10) (t147.length : Int)) < (t147.length : Int) then ((spec_peWith.f k x144000 x144001 x9 (rd t147 (Int.tmod (rd x1 x10) (t147.length : Int)))).bind fun t152 => (if x8.length < 8796093022208 then ((spec_l1Drop.f k x9 t152).bind fun t158 => (spec_pePeel.l0 k x1 x2 (x8 ++ [(⟨t152, rd t147 (Int.tmod (rd x1 x10) (t147.length : Int))⟩ : S51)]) t158 (wrap64 (x10 + 1)) x144000 x144001)) else (none))) else (none)) else (none)) else (none)) else (if 0 < (t147.length : Int) then ((spec_peWith.f k x144000 x144001 x9 (rd t147 0)).bind fun t162 => (if x8.length < 8796093022208 then ((spec_l1Drop.f k x9 t162).bind fun t168 => (spec_pePeel.l0 k x1 x2 (x8 ++ [(⟨t162, rd t147 0⟩ : S51)]) t168 (wrap64 (x10 + 1)) x144000 x144001)) else (none))) else (none))))) else (some (x8, x9))
end
def spec_pePeel.f (k : Nat) (a0_0 : Int) (l0_1 : List (List Int)) (l1 : List Int) (a2 : Bool) : Option ((List (S51)) × List Int) := (spec_peAll.f k a0_0 l0_1).bind fun t144 => (spec_pePeel.l0 k l1 a2 ([] : List (S51)) t144 0 a0_0 l0_1)
def spec_pePeel.T11 : Bool × List (List Nat × List Nat) := (true, [([], []), ([], []), ([], []), ([], []), ([2, 3], [2, 3]), ([4], [4]), ([0, 1, 5], [0, 1, 5]), ([], []), ([], []), ([7, 8], [7, 8]), ([9], [9]), ([6, 10], [6, 10]), ([], []), ([12, 11, 6, 0, 1, 2, 3, 4, 5, 6, 7, 8, 9, 10, 11, 12], [11, 12])])
def spec_pePeel.B11 : List Nat := [0, 0, 0, 0, 12, 28, 63, 0, 0, 384, 896, 2047, 0, 8191]
theorem spec_pePeel.tab11 : rtab .any (opsOf Try.f98 11) = spec_pePeel.T11 := by kernel_rfl
theorem spec_pePeel.bits11 : waitsOk spec_pePeel.T11.2 spec_pePeel.B11 = true := by kernel_rfl
theorem spec_pePeel.calls (k : Nat) (a0_0 : Int) (A0_1 : Option Addr) (c0_1 : Nat) (l0_1 : List (List Int)) (A1 : Option Addr) (c1 : Nat) (l1 : List Int) (a2 : Bool) (r1 : List (S51)) (r2 : List Int) (w : World) (hr0_1 : Kd.C (Kd.slice 3 (Kd.int .i64)) w A0_1 l0_1.length l0_1) (hc0_1 : l0_1.length ≤ c0_1) (hr1 : Kd.C (Kd.int .i64) w A1 l1.length l1) (hc1 : l1.length ≤ c1) (h : spec_pePeel.f k a0_0 l0_1 l1 a2 = some (r1, r2)) :
  Calls Try.prog 98 #[.agg #[.int .i64 a0_0, .slice A0_1 l0_1.length c0_1], .slice A1 l1.length c1, .bool a2] w fun e w' => ∃ v0_ v1_ : Value, e = .returned (.tuple #[v0_, v1_]) ∧ Kd.R k51 51 w' w.heap.size (fun _ => True) v0_ r1 ∧ Kd.R (Kd.int .i64) 3 w' w.heap.size (fun _ => True) v1_ r2 ∧ Below w.heap.size w w' := by
 have hu37 := Try.underlying37; have hu51 := Try.underlying51; have HR0_1 := am hr0_1; have HC0_1 := am hc0_1; clear hr0_1 hc0_1; have HR1 := am hr1; have HC1 := am hc1; clear hr1 hc1; have HB := am (Below.refl w.heap.size w); have H : ((spec_peAll.f k a0_0 l0_1).bind fun t144 => (spec_pePeel.l0 k l1 a2 ([] : List (S51)) t144 0 a0_0 l0_1)) = some (r1, r2) := h; clear h; replace H := Option.bind_eq_some_iff.mp H; obtain ⟨t144, A40, H⟩ := H; (try dsimp -simprocs only at H); have A4 := am A40; clear A40; have H' := am H; clear H
 go_enter Try.func98, Try.ntmps98
 go_wp2_with (first | ((with_reducible refine gate_dst (N := 3) rfl ?_); (try (refine gate_guard (by rfl) ?_; dsimp only)); refine bE 3 #[.int .i64 a0_0, .slice A0_1 l0_1.length c0_1] 37 ?_; intro gb143 hg w5 hbox hb; have n0_ := Bb HB hb; have n1_ := am (hbox); have n2_ := Gl HB hg; have n3_ := Gl HB hg; clear HB; revert n0_ n1_ n2_ n3_; intro HB BK143 GW143 GE143; clear hb hbox hg; obtain ⟨hcz6_0, hcz6_1, hfz6_0, hfz6_1⟩ := cf2 (w := w5) BK143) | ((with_reducible refine gate_callee (f := 88) rfl ?_); refine gL (some 15) Try.func88 #[.agg #[.int .i64 a0_0, .slice A0_1 l0_1.length c0_1]] ?_; (with_reducible refine (spec_peAll.calls k a0_0 _ _ l0_1 t144 _ ?side1 ?side2 A4.out).mono ?_); (case side1 => exact Cz (Kd.C_below HR0_1.out HB.out)); (case side2 => exact HC0_1.out); rintro e w7 ⟨v145, rfl, ho0, hb⟩; refine ⟨_, rfl, ?_⟩; have n0_ := Rm ho0 HB; have n1_ := Kb BK143 hb; have n2_ := Bc HB hb; clear BK143 HB; revert n0_ n1_ n2_; intro HO146 BK143 HB; (try clear hb); (try clear hb2); (try clear hk); (try clear hi); (try clear ho0)))
 (try simp only [aP])
 go_loopg [8, 9, 10] k (fun kq v8 v9 v10 w' => ∃ (x8_1 : List (S51)) (x9_1 : List Int) (x10_1 : Int), v10 = .int .i64 x10_1 ∧ Aside0 (spec_pePeel.l0 kq l1 a2 x8_1 x9_1 x10_1 a0_0 l0_1 = some (r1, r2)) ∧ Aside0 (kq ≤ k) ∧ Aside0 (Kd.R k51 51 w' w.heap.size (fun _ => True) v8 x8_1) ∧ Aside0 (Kd.R (Kd.int .i64) 3 w' w.heap.size (fun _ => True) v9 x9_1) ∧ Aside0 (w'.heap[gb143]? = some (.cells #[.int .i64 a0_0, (.slice A0_1 l0_1.length c0_1)] 37 (0, 0))) ∧ Aside0 (Below w.heap.size w w'))
 case atStart => exact ⟨(([] : List (S51))), (t144), (0), wZ, H', ⟨Nat.le_refl _⟩, ⟨nZ⟩, ⟨Rz HO146.out⟩, ⟨Kz BK143.out⟩, ⟨Bq⟩⟩
 case round =>
  clear H'
  try clear c1
  try clear p2
  try clear hcz6_0
  try clear hcz6_1
  try clear hfz6_0
  try clear hfz6_1
  obtain ⟨x8_1, x9_1, x10_1, rfl, HA, HK1, HO_8, HO_9, BK143, HB⟩ := hrel; cases gk with
  | zero => exact absurd HA.out (by simp [spec_pePeel.l0])
  | succ k1 =>
   have H := HA.out; clear HA
   simp only [spec_pePeel.l0] at H
   have HC8 := am H; clear H
   go_upto_region 4 with (fail)
   go_cut [22] (fun v22 wc => ∃ (kq : Nat) (x22_7 : Bool), v22 = .bool x22_7 ∧ Aside0 (spec_pePeel.j1 kq l1 a2 x8_1 x9_1 x10_1 x22_7 a0_0 l0_1 = some (r1, r2)) ∧ Aside0 (kq ≤ k1) ∧ Aside0 (Kd.R k51 51 wc w.heap.size (fun _ => True) u8 x8_1) ∧ Aside0 (Kd.R (Kd.int .i64) 3 wc w.heap.size (fun _ => True) u9 x9_1) ∧ Aside0 (wc.heap[gb143]? = some (.cells #[.int .i64 a0_0, (.slice A0_1 l0_1.length c0_1)] 37 (0, 0))) ∧ Aside0 (Below w.heap.size w wc))
   case first =>
    have H := HC8.out; clear HC8
    by_cases c9 : a2 = true
    ·subst c9
     rw [if_pos rfl] at H; have H' := am H; clear H
     go_wp2
     go_meet
     case rel => exact ⟨_, (true), wZ, H', ⟨by have := HK1.out; first | omega | exact Nat.le_refl _⟩, ⟨Rz HO_8.out⟩, ⟨Rz HO_9.out⟩, ⟨Kz BK143.out⟩, ⟨Bq⟩⟩
    ·replace c9 := Bool.eq_false_iff.mpr c9
     subst c9
     rw [if_neg (show ¬ (false = true) by decide)] at H; have H' := am H; clear H
     go_wp2
     go_meet
     case rel => exact ⟨_, (decide (x10_1 < (l1.length : Int))), wZ, H', ⟨by have := HK1.out; first | omega | exact Nat.le_refl _⟩, ⟨Rz HO_8.out⟩, ⟨Rz HO_9.out⟩, ⟨Kz BK143.out⟩, ⟨Bq⟩⟩
   case rest =>
    clear HC8
    try clear c1
    try clear p2
    try clear c8
    try clear c9
    try clear hcz6_0
    try clear hcz6_1
    try clear hfz6_0
    try clear hfz6_1
    try clear p2
    obtain ⟨kq, x22_7, rfl, HA, HJ7, HO_8, HO_9, BK143, HB⟩ := hcut; cases kq with
    | zero => exact absurd HA.out (by simp [spec_pePeel.j1])
    | succ kj7 =>
     have H := HA.out; clear HA
     simp only [spec_pePeel.j1] at H
     by_cases c10 : x22_7 = true
     ·subst c10
      rw [if_pos rfl] at H; replace H := Option.bind_eq_some_iff.mp H; obtain ⟨t147, A110, H⟩ := H; (try dsimp -simprocs only at H); have A11 := am A110; clear A110
      by_cases c12 : (t147.length : Int) = 0
      ·rw [if_pos c12] at H
       have c12b0 : ((t147.length : Int) == 0) = true := beq_iff_eq.mpr c12; have c12b1 : ((t147.length : Int) != 0) = false := bne_eq_false_iff_eq.mpr c12; clear c12
       simp only [Option.some.injEq, Prod.mk.injEq] at H
       obtain ⟨rfl, rfl⟩ := H; obtain ⟨hcz13_0, hcz13_1, hfz13_0, hfz13_1⟩ := cf2 (w := wc) BK143; obtain ⟨Ao14, co14, eo14⟩ := Kd.R_slice HO_9.out; subst eo14
       go_wp2_with (first | ((with_reducible refine gate_callee (f := 89) rfl ?_); refine gL (some 27) Try.func89 #[.agg #[.int .i64 a0_0, .slice A0_1 l0_1.length c0_1], .slice Ao14 x9_1.length co14] ?_; (with_reducible refine (spec_peFree.calls kj7 a0_0 _ _ l0_1 _ _ x9_1 t147 _ ?side1 ?side2 ?side3 ?side4 A11.out).mono ?_); (case side1 => exact Cz (Kd.C_below HR0_1.out HB.out)); (case side2 => exact HC0_1.out); (case side3 => exact Cz ((Kd.R_reads' HO_9.out).2.2)); (case side4 => exact (Kd.R_reads' HO_9.out).2.1); rintro e w15 ⟨v148, rfl, ho0, hb⟩; refine ⟨_, rfl, ?_⟩; have n0_ := Rb HO_8 hb; have n1_ := Re HO_9 (Kd.R_base ho0) hb; have n2_ := Rm (Kd.R_new' ho0 (Kd.R_lt (Rz HO_9.out))) HB; have n3_ := Kb BK143 hb; have n4_ := Bc HB hb; clear HO_8 HO_9 BK143 HB; revert n0_ n1_ n2_ n3_ n4_; intro HO_8 HO_9 HO149 BK143 HB; (try clear hb); (try clear hb2); (try clear hk); (try clear hi); (try clear ho0); obtain ⟨Ao16, co16, eo16⟩ := Kd.R_slice HO149.out; subst eo16))
       go_ret2
       exact ⟨_, _, eZ, Rz HO_8.out, Rz (Kd.R_mono HO_9.out (fun _ hk => trivial)), Bq⟩
      ·rw [if_neg c12] at H
       have c12b0 : ((t147.length : Int) == 0) = false := beq_eq_false_iff_ne.mpr c12; have c12b1 : ((t147.length : Int) != 0) = true := bne_iff_ne.mpr c12
       have c12b2 : ¬ (t147 = []) := fun h_ => c12 (by rw [h_]; rfl)
       by_cases c17 : x10_1 < (l1.length : Int)
       ·rw [if_pos c17] at H
        have c17b0 : decide (x10_1 < (l1.length : Int)) = true := decide_eq_true c17; clear c17
        by_cases c18 : 0 ≤ x10_1
        ·rw [if_pos c18] at H
         have c18b0 : decide (0 ≤ x10_1) = true := decide_eq_true c18; clear c18; obtain ⟨ji19, hji19⟩ : ∃ j_ : Int, (Int.tmod (rd l1 x10_1) (t147.length : Int)) = j_ := ⟨_, rfl⟩
         replace H : (if 0 ≤ (ji19) then (if (ji19) < (t147.length : Int) then ((spec_peWith.f kj7 a0_0 l0_1 x9_1 (rd t147 (ji19))).bind fun t152 => (if x8_1.length < 8796093022208 then ((spec_l1Drop.f kj7 x9_1 t152).bind fun t158 => (spec_pePeel.l0 kj7 l1 a2 (x8_1 ++ [(⟨t152, rd t147 (ji19)⟩ : S51)]) t158 (wrap64 (x10_1 + 1)) a0_0 l0_1)) else (none))) else (none)) else (none)) = some (r1, r2) := by first | (rw [hji19] at H; exact H) | (simp only [hji19] at H ⊢; exact H)
         (try rw [hji19] at A11)
         by_cases c20 : 0 ≤ (ji19)
         ·rw [if_pos c20] at H
          have c20b0 : decide (0 ≤ (ji19)) = true := decide_eq_true c20; clear c20
          by_cases c21 : (ji19) < (t147.length : Int)
          ·rw [if_pos c21] at H
           have c21b0 : decide ((ji19) < (t147.length : Int)) = true := decide_eq_true c21; clear c21; replace H := Option.bind_eq_some_iff.mp H; obtain ⟨t152, A220, H⟩ := H; (try dsimp -simprocs only at H); have A22 := am A220; clear A220
           by_cases c23 : x8_1.length < 8796093022208
           ·rw [if_pos c23] at H
            have LMc23 := am c23; clear c23; obtain ⟨y155, hy155⟩ : ∃ y_ : List (S51), y_ = (x8_1 ++ [(⟨t152, rd t147 (ji19)⟩ : S51)]) := ⟨_, rfl⟩
            replace H : ((spec_l1Drop.f kj7 x9_1 t152).bind fun t158 => (spec_pePeel.l0 kj7 l1 a2 y155 t158 (wrap64 (x10_1 + 1)) a0_0 l0_1)) = some (r1, r2) := by first | (rw [hy155]; with_reducible exact H) | (have H2_ := (Option.bind_some _ _).symm.trans H; rw [hy155]; with_reducible exact H2_) | (have H2_ := (Option.bind_some _ _).symm.trans H; with_reducible exact H2_) | with_reducible exact H | (rw [hy155]; exact H) | exact H
            have Ny155 := am hy155; clear hy155; replace H := Option.bind_eq_some_iff.mp H; obtain ⟨t158, A240, H⟩ := H; (try dsimp -simprocs only at H); have A24 := am A240; clear A240; have H' := am H; clear H; obtain ⟨hcz25_0, hcz25_1, hfz25_0, hfz25_1⟩ := cf2 (w := wc) BK143; obtain ⟨Ao26, co26, eo26⟩ := Kd.R_slice HO_9.out; subst eo26
            try go_wp2_with (first | ((with_reducible refine gate_callee (f := 89) rfl ?_); refine gL (some 27) Try.func89 #[.agg #[.int .i64 a0_0, .slice A0_1 l0_1.length c0_1], .slice Ao26 x9_1.length co26] ?_; (with_reducible refine (spec_peFree.calls kj7 a0_0 _ _ l0_1 _ _ x9_1 t147 _ ?side1 ?side2 ?side3 ?side4 A11.out).mono ?_); (case side1 => exact Cz (Kd.C_below HR0_1.out HB.out)); (case side2 => exact HC0_1.out); (case side3 => exact Cz ((Kd.R_reads' HO_9.out).2.2)); (case side4 => exact (Kd.R_reads' HO_9.out).2.1); rintro e w27 ⟨v148, rfl, ho0, hb⟩; refine ⟨_, rfl, ?_⟩; have n0_ := Rb HO_8 hb; have n1_ := Re HO_9 (Kd.R_base ho0) hb; have n2_ := Rm (Kd.R_new' ho0 (Kd.R_lt (Rz HO_9.out))) HB; have n3_ := Kb BK143 hb; have n4_ := Bc HB hb; clear HO_8 HO_9 BK143 HB; revert n0_ n1_ n2_ n3_ n4_; intro HO_8 HO_9 HO149 BK143 HB; (try clear hb); (try clear hb2); (try clear hk); (try clear hi); (try clear ho0); obtain ⟨Ao28, co28, eo28⟩ := Kd.R_slice HO149.out; subst eo28; have p150 : 0 ≤ (x10_1 : Int) := dT; have q150 : x10_1 < (l1.length : Int) := dT; obtain ⟨ad150, e150, hx150_0⟩ := Kd.at_int HR1.out x10_1 p150 q150; cases e150; replace hx150_0 := (HB.out.cell (World.block_lt_of_cell? w _ hx150_0)).trans hx150_0; replace p150 := eq_true p150; replace q150 := eq_true q150))
            have n0_ := am (Kd.R_drew HO_8.out); have n1_ := am (Kd.R_drew HO_9.out); have n2_ := am (Kd.R_drew HO149.out); have n3_ := am (blk_drew BK143.out); have n4_ := am (below_drew1 HB.out); clear HO_8 HO_9 HO149 BK143 HB; revert n0_ n1_ n2_ n3_ n4_; intro HO_8 HO_9 HO149 BK143 HB; obtain ⟨ad151, e151, hx151_0⟩ := Kd.at_int (Kd.R_reads' HO149.out).2.2 (ji19) dT dT; cases e151; have p151 := eT (0 ≤ ((ji19) : Int)); have q151 := eT ((ji19) < (t147.length : Int)); have p153 : 0 ≤ ((ji19) : Int) := dT; have q153 : (ji19) < (t147.length : Int) := dT; obtain ⟨ad153, e153, hx153_0⟩ := Kd.at_int (Kd.R_reads' HO149.out).2.2 (ji19) p153 q153; obtain rfl : ad151 = ad153 := (by injection e153); replace p153 := eq_true p153; replace q153 := eq_true q153; refine start_ (n := 14) (S := fun w' => w'.cell? ⟨gb143, 0, none⟩ = some (.int .i64 a0_0) ∧ w'.cell? ⟨gb143, 1, none⟩ = some (.slice A0_1 l0_1.length c0_1) ∧ w'.cell? (ad151.add ((ji19)).toNat) = some (.int .i64 (rd t147 (ji19))) ∧ w'.cell? (ad151.add ((ji19)).toNat) = some (.int .i64 (rd t147 (ji19)))) (ds := []) (bA 14 0) (by kernel_rfl) rfl rfl ⟨cz BK143 0, cz BK143 1, hx151_0, hx153_0⟩ (fun hHeld => ?_); refine with_tabW spec_pePeel.tab11 spec_pePeel.bits11 (fun HT_ HW_ => ?_); generalize w27.drew = w29 at HO_8 HO_9 HO149 BK143 HB hx151_0 hx153_0 hHeld ⊢; refine pZ 1 (some 43) (bA 14 2) HT_.out ?_; refine pZ 2 (some 44) (bA 14 6) HT_.out ?_; refine pZ 3 (some 45) (bA 14 14) HT_.out ?_; refine pZ 4 (some 46) (bA 14 30) HT_.out ?_; refine pZ 7 (some 49) (bA 14 158) HT_.out ?_; refine pZ 8 (some 50) (bA 14 414) HT_.out ?_; refine pZ 9 (some 51) (bA 14 926) HT_.out ?_; refine tZ4 0 (some 42) (bA 14 927) HT_.out HW_.out hHeld ?_; refine tZ4 5 (some 47) (bA 14 959) HT_.out HW_.out hHeld ?_; refine tZ4 10 (some 52) (bA 14 1983) HT_.out HW_.out hHeld ?_; refine join_ (σ := Nat) 1 (bA 14 8191) (fun s_ => [(48, .int .i64 t152), (13, .pointer (some ⟨s_, 0, none⟩)), (53, .agg #[.int .i64 t152, .int .i64 (rd t147 (ji19))])]) (fun s_ w' => (w'.cell? ⟨gb143, 0, none⟩ = some (.int .i64 a0_0) ∧ w'.cell? ⟨gb143, 1, none⟩ = some (.slice A0_1 l0_1.length c0_1) ∧ w'.cell? (ad151.add ((ji19)).toNat) = some (.int .i64 (rd t147 (ji19))) ∧ w'.cell? (ad151.add ((ji19)).toNat) = some (.int .i64 (rd t147 (ji19)))) ∧ (Kd.R (Kd.int .i64) 3 w' w.heap.size (fun k_ => some k_ ≠ (.slice Ao26 x9_1.length co26 : Value).ownBlock) (.slice (some ad151) t147.length co28) t147) ∧ (Kd.R k51 51 w' w.heap.size (fun k_ => k_ ≠ s_) u8 x8_1) ∧ (Kd.R (Kd.int .i64) 3 w' w.heap.size (fun k_ => some k_ ≠ (.slice (some ad151) t147.length co28 : Value).ownBlock) (.slice Ao26 x9_1.length co26) x9_1) ∧ (w'.heap[gb143]? = some (.cells #[.int .i64 a0_0, .slice A0_1 l0_1.length c0_1] 37 (0, 0))) ∧ (w'.heap[s_]? = some (.cells #[.int .i64 0, .int .i64 0] 51 (0, 0))) ∧ (w.heap.size ≤ s_) ∧ (w.heap.size ≤ s_) ∧ (gb143 ≠ s_) ∧ (s_ ≠ gb143) ∧ (Below w.heap.size w w')) ?_ ?_
            rotate_left
            ·intro hCont
             refine two_ (i := 6) (j := 12) (Ni := some 48) (Nj := some 13) (bA 14 2047) (bA 14 6079) rfl rfl rfl rfl (two_of HT_.out (by kernel_rfl)) (by decide) (by decide) (fun K hK => ?_) (fun K hK => ?_)
             ·skip
              refine goes_ Try.func147 (by kernel_rfl) rfl #[.agg #[.int .i64 a0_0, .slice A0_1 l0_1.length c0_1], .slice Ao26 x9_1.length co26, .int .i64 (rd t147 (ji19))] (by rfl) rfl rfl (by (try simp only [List.map_toArray, List.map_cons, List.map_nil]); first | done | (simp only [hji19]; rfl) | rfl | (simp only [List.length_drop, List.length_take]; rfl)) ?_
              with_reducible refine (spec_peWith.calls kj7 a0_0 _ _ l0_1 _ _ x9_1 (rd t147 (ji19)) t152 _ ?side1 ?side2 ?side3 ?side4 A22.out).mono ?_
              (case side1 => exact Cz (Kd.C_below HR0_1.out HB.out))
              (case side2 => exact HC0_1.out)
              (case side3 => exact Cz ((Kd.R_reads' HO_9.out).2.2))
              (case side4 => exact (Kd.R_reads' HO_9.out).2.1)
              rintro e w30 ⟨rfl, hb⟩; have HS2_ := (hb.cell (World.block_lt_of_cell? _ _ (hHeld.2.2.1))).trans (hHeld.2.2.1); have HS3_ := (hb.cell (World.block_lt_of_cell? _ _ (hHeld.2.2.2))).trans (hHeld.2.2.2); refine ⟨_, rfl, ?_⟩; have n0_ := Rb HO_8 hb; have n1_ := Rb HO_9 hb; have n2_ := Rb HO149 hb; have n3_ := Kb BK143 hb; have n4_ := Bc HB hb; clear HO_8 HO_9 HO149 BK143 HB; revert n0_ n1_ n2_ n3_ n4_; intro HO_8 HO_9 HO149 BK143 HB
              (try clear hb)
              (try clear hb2)
              (try clear hk)
              (try clear hi)
              refine hK.out _ _ ⟨cz BK143 0, cz BK143 1, HS2_, HS3_⟩ (fun hHeld => ?_); clear hK K; refine norm_ (a' := ?_) ?_ ?_; rotate_left; show Act.put _ (some 48) _ = _; simp only [aP, i64_w, i32_w]; rfl; refine pZ 11 (some 53) (bA 14 4095) HT_.out ?_; refine oZ 12 (some 13) (bA 14 8191) HT_.out (fun K hK => ?_); refine box_step ?hg (N := 13) ?hd (cs := #[.int .i64 0, .int .i64 0]) (t := 51) ?hr ?_; (case hd => rfl); (case hg => rfl); (case hr => first | (go_simp; done) | (go_simp; rfl)); intro gb154 hg w31 hbox hb; have HS2_ := (hb.cell (World.block_lt_of_cell? _ _ (hHeld.2.2.1))).trans (hHeld.2.2.1); have HS3_ := (hb.cell (World.block_lt_of_cell? _ _ (hHeld.2.2.2))).trans (hHeld.2.2.2); have n0_ := am (Kd.R_below (Kd.R_elderB (Rz HO_8.out) gb154 (Nat.le_of_eq hg.symm)) hb); have n1_ := Rb HO_9 hb; have n2_ := Rb HO149 hb; have n3_ := Kb BK143 hb; have n4_ := Bc HB hb; have n5_ := am (hbox); have n6_ := Gm HB hg; have n7_ := Gm HB hg; have n8_ := Nl BK143 hg; have n9_ := Ng BK143 hg; clear HO_8 HO_9 HO149 BK143 HB; revert n0_ n1_ n2_ n3_ n4_ n5_ n6_ n7_ n8_ n9_; intro HO_8 HO_9 HO149 BK143 HB BK154 GW154 GE154 NB143_154 NB154_143; clear hb hbox hg; refine hK.out _ _ ⟨cz BK143 0, cz BK143 1, HS2_, HS3_⟩ (fun hHeld => ?_); clear hK K; refine norm_ (a' := ?_) ?_ ?_; rotate_left; show Act.put _ (some 13) _ = _; simp only [aP, i64_w, i32_w]; rfl; exact norm_ (by simp only [putAll, aP]) (hCont (gb154) _ ⟨hHeld, (Rz (Kd.R_mono HO149.out (fun _ hk => hk.2))), (Rz (Kd.R_mono HO_8.out (fun _ hk => hk.2))), (Rz (Kd.R_mono HO_9.out (fun _ hk => hk.2))), (Kz BK143.out), (Kz BK154.out), GW154.out, GE154.out, NB143_154.out, NB154_143.out, (Bq)⟩)
             ·skip
              refine box_step ?hg (N := 13) ?hd (cs := #[.int .i64 0, .int .i64 0]) (t := 51) ?hr ?_; (case hd => rfl); (case hg => rfl); (case hr => first | (go_simp; done) | (go_simp; rfl)); intro gb154 hg w30 hbox hb; have HS2_ := (hb.cell (World.block_lt_of_cell? _ _ (hHeld.2.2.1))).trans (hHeld.2.2.1); have HS3_ := (hb.cell (World.block_lt_of_cell? _ _ (hHeld.2.2.2))).trans (hHeld.2.2.2); have n0_ := am (Kd.R_below (Kd.R_elderB (Rz HO_8.out) gb154 (Nat.le_of_eq hg.symm)) hb); have n1_ := Rb HO_9 hb; have n2_ := Rb HO149 hb; have n3_ := Kb BK143 hb; have n4_ := Bc HB hb; have n5_ := am (hbox); have n6_ := Gm HB hg; have n7_ := Gm HB hg; have n8_ := Nl BK143 hg; have n9_ := Ng BK143 hg; clear HO_8 HO_9 HO149 BK143 HB; revert n0_ n1_ n2_ n3_ n4_ n5_ n6_ n7_ n8_ n9_; intro HO_8 HO_9 HO149 BK143 HB BK154 GW154 GE154 NB143_154 NB154_143; clear hb hbox hg; refine hK.out _ _ ⟨cz BK143 0, cz BK143 1, HS2_, HS3_⟩ (fun hHeld => ?_); clear hK K; refine norm_ (a' := ?_) ?_ ?_; rotate_left; show Act.put _ (some 13) _ = _; simp only [aP, i64_w, i32_w]; rfl; refine oZ 6 (some 48) (bA 14 6143) HT_.out (fun K hK => ?_); refine goes_ Try.func147 (by kernel_rfl) rfl #[.agg #[.int .i64 a0_0, .slice A0_1 l0_1.length c0_1], .slice Ao26 x9_1.length co26, .int .i64 (rd t147 (ji19))] (by rfl) rfl rfl (by (try simp only [List.map_toArray, List.map_cons, List.map_nil]); first | done | (simp only [hji19]; rfl) | rfl | (simp only [List.length_drop, List.length_take]; rfl)) ?_
              with_reducible refine (spec_peWith.calls kj7 a0_0 _ _ l0_1 _ _ x9_1 (rd t147 (ji19)) t152 _ ?side1 ?side2 ?side3 ?side4 A22.out).mono ?_
              (case side1 => exact Cz (Kd.C_below HR0_1.out HB.out))
              (case side2 => exact HC0_1.out)
              (case side3 => exact Cz ((Kd.R_reads' HO_9.out).2.2))
              (case side4 => exact (Kd.R_reads' HO_9.out).2.1)
              rintro e w31 ⟨rfl, hb⟩; have HS2_ := (hb.cell (World.block_lt_of_cell? _ _ (hHeld.2.2.1))).trans (hHeld.2.2.1); have HS3_ := (hb.cell (World.block_lt_of_cell? _ _ (hHeld.2.2.2))).trans (hHeld.2.2.2); refine ⟨_, rfl, ?_⟩; have n0_ := Rb HO_8 hb; have n1_ := Rb HO_9 hb; have n2_ := Rb HO149 hb; have n3_ := Kb BK143 hb; have n4_ := Kb BK154 hb; have n5_ := Bc HB hb; clear HO_8 HO_9 HO149 BK143 BK154 HB; revert n0_ n1_ n2_ n3_ n4_ n5_; intro HO_8 HO_9 HO149 BK143 BK154 HB
              (try clear hb)
              (try clear hb2)
              (try clear hk)
              (try clear hi)
              refine hK.out _ _ ⟨cz BK143 0, cz BK143 1, HS2_, HS3_⟩ (fun hHeld => ?_); clear hK K; refine norm_ (a' := ?_) ?_ ?_; rotate_left; show Act.put _ (some 48) _ = _; simp only [aP, i64_w, i32_w]; rfl; refine pZ 11 (some 53) (bA 14 8191) HT_.out ?_; exact norm_ (by simp only [putAll, aP]) (hCont (gb154) _ ⟨hHeld, (Rz (Kd.R_mono HO149.out (fun _ hk => hk.2))), (Rz (Kd.R_mono HO_8.out (fun _ hk => hk.2))), (Rz (Kd.R_mono HO_9.out (fun _ hk => hk.2))), (Kz BK143.out), (Kz BK154.out), GW154.out, GE154.out, NB143_154.out, NB154_143.out, (Bq)⟩)
            rintro gb154 w32 ⟨hS_, h0_, h1_, h2_, h3_, h4_, h5_, h6_, h7_, h8_, h9_⟩; have n0_ : Aside0 (Kd.R (Kd.int .i64) 3 w32 w.heap.size (fun k_ => some k_ ≠ (.slice Ao26 x9_1.length co26 : Value).ownBlock) (.slice (some ad151) t147.length co28) t147) := ⟨h0_⟩; have n1_ : Aside0 (Kd.R k51 51 w32 w.heap.size (fun k_ => k_ ≠ gb154) u8 x8_1) := ⟨h1_⟩; have n2_ : Aside0 (Kd.R (Kd.int .i64) 3 w32 w.heap.size (fun k_ => some k_ ≠ (.slice (some ad151) t147.length co28 : Value).ownBlock) (.slice Ao26 x9_1.length co26) x9_1) := ⟨h2_⟩; have n3_ : Aside0 (w32.heap[gb143]? = some (.cells #[.int .i64 a0_0, .slice A0_1 l0_1.length c0_1] 37 (0, 0))) := ⟨h3_⟩; have n4_ : Aside0 (w32.heap[gb154]? = some (.cells #[.int .i64 0, .int .i64 0] 51 (0, 0))) := ⟨h4_⟩; have n5_ : Aside0 (w.heap.size ≤ gb154) := ⟨h5_⟩; have n6_ : Aside0 (w.heap.size ≤ gb154) := ⟨h6_⟩; have n7_ : Aside0 (gb143 ≠ gb154) := ⟨h7_⟩; have n8_ : Aside0 (gb154 ≠ gb143) := ⟨h8_⟩; have n9_ : Aside0 (Below w.heap.size w w32) := ⟨h9_⟩; clear HO_8 HO_9 HO149 BK143 HB; clear h0_ h1_ h2_ h3_ h4_ h5_ h6_ h7_ h8_ h9_; revert n0_ n1_ n2_ n3_ n4_ n5_ n6_ n7_ n8_ n9_; intro HO149 HO_8 HO_9 BK143 BK154 GW154 GE154 NB143_154 NB154_143 HB; have hHeld : w32.cell? ⟨gb143, 0, none⟩ = some (.int .i64 a0_0) ∧ w32.cell? ⟨gb143, 1, none⟩ = some (.slice A0_1 l0_1.length c0_1) ∧ w32.cell? (ad151.add ((ji19)).toNat) = some (.int .i64 (rd t147 (ji19))) ∧ w32.cell? (ad151.add ((ji19)).toNat) = some (.int .i64 (rd t147 (ji19))) := hS_; refine norm_ (a' := ?_) ?_ ?_
            rotate_left
            ·simp only [putAll, aP]
             rfl
            refine oZ 13 none (bA 14 16383) HT_.out (fun K hK => ?_); have hs33 : w32.cell? ⟨gb154, 0, none⟩ = some (.int .i64 0) := cz BK154 0; have hfs33 := blk_frozen BK154.out 0; have hns33_0 := NB143_154.out; have hms33_0 := NB154_143.out; have hs34 : w32.cell? ⟨gb154, 1, none⟩ = some (.int .i64 0) := cz BK154 1; have hfs34 := blk_frozen BK154.out 1; have hns34_0 := NB143_154.out; have hms34_0 := NB154_143.out; refine skip_ (w1 := ?_) (by rfl) rfl ?_ ?_
            rotate_left
            ·go_simp
             rfl
            refine hK.out _ _ ⟨((cell_far (p := ⟨gb154, _, none⟩) NB143_154.out _).trans (((cell_far (p := ⟨gb154, _, none⟩) NB143_154.out _).trans (hHeld.1)))), ((cell_far (p := ⟨gb154, _, none⟩) NB143_154.out _).trans (((cell_far (p := ⟨gb154, _, none⟩) NB143_154.out _).trans (hHeld.2.1)))), ((cell_far (p := ⟨gb154, _, none⟩) (by first | exact Kd.own_blk (Kd.R_ne HO149.out BK154.out (by decide)) | (rw [add_block]; exact Kd.own_blk (Kd.R_ne HO149.out BK154.out (by decide))) | (show (Addr.add _ _).block ≠ _; rw [add_block]; exact Kd.own_blk (Kd.R_ne HO149.out BK154.out (by decide))) | (dsimp only; exact Kd.own_blk (Kd.R_ne HO149.out BK154.out (by decide)))) _).trans (((cell_far (p := ⟨gb154, _, none⟩) (by first | exact Kd.own_blk (Kd.R_ne HO149.out BK154.out (by decide)) | (rw [add_block]; exact Kd.own_blk (Kd.R_ne HO149.out BK154.out (by decide))) | (show (Addr.add _ _).block ≠ _; rw [add_block]; exact Kd.own_blk (Kd.R_ne HO149.out BK154.out (by decide))) | (dsimp only; exact Kd.own_blk (Kd.R_ne HO149.out BK154.out (by decide)))) _).trans (hHeld.2.2.1)))), ((cell_far (p := ⟨gb154, _, none⟩) (by first | exact Kd.own_blk (Kd.R_ne HO149.out BK154.out (by decide)) | (rw [add_block]; exact Kd.own_blk (Kd.R_ne HO149.out BK154.out (by decide))) | (show (Addr.add _ _).block ≠ _; rw [add_block]; exact Kd.own_blk (Kd.R_ne HO149.out BK154.out (by decide))) | (dsimp only; exact Kd.own_blk (Kd.R_ne HO149.out BK154.out (by decide)))) _).trans (((cell_far (p := ⟨gb154, _, none⟩) (by first | exact Kd.own_blk (Kd.R_ne HO149.out BK154.out (by decide)) | (rw [add_block]; exact Kd.own_blk (Kd.R_ne HO149.out BK154.out (by decide))) | (show (Addr.add _ _).block ≠ _; rw [add_block]; exact Kd.own_blk (Kd.R_ne HO149.out BK154.out (by decide))) | (dsimp only; exact Kd.own_blk (Kd.R_ne HO149.out BK154.out (by decide)))) _).trans (hHeld.2.2.2))))⟩ (fun hHeld => ?_); clear hK K; refine done_ (done_of HT_.out (by kernel_rfl)) ?_; have hnb35 := NB154_143.out; have hnc35 := NB143_154.out; obtain ⟨hcz36_0, hcz36_1, hfz36_0, hfz36_1⟩ := cf2 (w := w32) BK154
            try go_wp2_with (first | ((with_reducible refine gate_builtin (b := .append) (xs := #[.tmp 54, .tmp 56]) rfl ?_); (try (refine gate_guard (by rfl) ?_; dsimp only)); at_builtin; refine Kd.R_append k51 (w0 := w) w.heap.size rfl (.tmp 54) (.tmp 56) 46 51 (.agg #[(.int .i64 0), (.int .i64 0)]) 16 rfl Try.underlying46 info51 rfl (by decide) (by omega) u8 x8_1 (⟨t152, rd t147 (ji19)⟩ : S51) [.int .i64 t152, .int .i64 (rd t147 (ji19))] (fun k_ => k_ ≠ gb154) (fun _ => False) rfl (by first | (go_simp; done) | (go_simp; rfl)) ?aP (fun _ hk => hk.elim) ?aF ?aO ?aB ?aS ?aL ?_; (case aP => exact k51_mkM _ _ _ (⟨t152, rd t147 (ji19)⟩ : S51)); (case aB => exact (Bq)); (case aF => exact (fun k_ hk => Kd.freshB (g := gb154) (o := .cells #[.int .i64 t152, .int .i64 (rd t147 (ji19))] 51 (0, 0)) (by (with_reducible repeat (first | refine blk_drewN ?_ _ | refine blk_drew ?_ | refine blk_alloc ?_ _)); refine blk_put (cs := #[.int .i64 t152, .int .i64 0]) ?_ 1 _ rfl; (with_reducible repeat (first | refine blk_drewN ?_ _ | refine blk_drew ?_ | refine blk_alloc ?_ _)); refine blk_put (cs := #[.int .i64 0, .int .i64 0]) ?_ 0 _ rfl; exact Kz BK154.out) k_ hk)); (case aO => exact (Rz (Kd.R_mono (Kd.R_far (p := ⟨gb154, 1, none⟩) (Kd.R_far (p := ⟨gb154, 0, none⟩) (Kd.R_mono HO_8.out (fun k_ hk => (⟨hk, hk⟩ : _ ∧ k_ ≠ gb154))) (fun _ hk => hk.2) (.int .i64 t152)) (fun _ hk => hk.2) (.int .i64 (rd t147 (ji19)))) (fun _ hk => hk.1)))); (case aS => exact (below_size (w := w) (Bq))); (case aL => have := LMc23.out; omega); intro v156 w37 ho hb hg hat; rw [← Ny155.out] at ho; have n0_ := am (Kd.R_over' (Rz (Kd.R_mono (Kd.R_far (p := ⟨gb154, 1, none⟩) (Kd.R_far (p := ⟨gb154, 0, none⟩) (Kd.R_types HO_9.out BK154.out (by decide)) (fun _ hk => hk.2) (.int .i64 t152)) (fun _ hk => hk.2) (.int .i64 (rd t147 (ji19)))) (fun _ h_ => h_.1))) (Kd.R_typed (Rz (Kd.R_mono (Kd.R_far (p := ⟨gb154, 1, none⟩) (Kd.R_far (p := ⟨gb154, 0, none⟩) (Kd.R_mono HO_8.out (fun k_ hk => (⟨hk, hk⟩ : _ ∧ k_ ≠ gb154))) (fun _ hk => hk.2) (.int .i64 t152)) (fun _ hk => hk.2) (.int .i64 (rd t147 (ji19)))) (fun _ h_ => h_.1)))) (by decide) hg); have n1_ := am (blk_grown (g := gb143) (o := .cells #[.int .i64 a0_0, .slice A0_1 l0_1.length c0_1] 37 (0, 0)) (by (with_reducible repeat (first | refine blk_drewN ?_ _ | refine blk_drew ?_ | refine blk_alloc ?_ _)); refine blk_far ?_ NB143_154.out _; (with_reducible repeat (first | refine blk_drewN ?_ _ | refine blk_drew ?_ | refine blk_alloc ?_ _)); refine blk_far ?_ NB143_154.out _; exact Kz BK143.out) hg (Kd.R_ne HO_8.out BK143.out (by decide))); have n2_ := am (Kd.R_over' (Rz (Kd.R_mono (Kd.R_far (p := ⟨gb154, 1, none⟩) (Kd.R_far (p := ⟨gb154, 0, none⟩) (Kd.R_types HO149.out BK154.out (by decide)) (fun _ hk => hk.2) (.int .i64 t152)) (fun _ hk => hk.2) (.int .i64 (rd t147 (ji19)))) (fun _ h_ => h_.1))) (Kd.R_typed (Rz (Kd.R_mono (Kd.R_far (p := ⟨gb154, 1, none⟩) (Kd.R_far (p := ⟨gb154, 0, none⟩) (Kd.R_mono HO_8.out (fun k_ hk => (⟨hk, hk⟩ : _ ∧ k_ ≠ gb154))) (fun _ hk => hk.2) (.int .i64 t152)) (fun _ hk => hk.2) (.int .i64 (rd t147 (ji19)))) (fun _ h_ => h_.1)))) (by decide) hg); have n3_ := am (blk_grown (g := gb154) (o := .cells #[.int .i64 t152, .int .i64 (rd t147 (ji19))] 51 (0, 0)) (by (with_reducible repeat (first | refine blk_drewN ?_ _ | refine blk_drew ?_ | refine blk_alloc ?_ _)); refine blk_put (cs := #[.int .i64 t152, .int .i64 0]) ?_ 1 _ rfl; (with_reducible repeat (first | refine blk_drewN ?_ _ | refine blk_drew ?_ | refine blk_alloc ?_ _)); refine blk_put (cs := #[.int .i64 0, .int .i64 0]) ?_ 0 _ rfl; exact Kz BK154.out) hg (Kd.R_away HO_8.out (fun _ hk => hk))); have n4_ := am (hb); have n5_ := am (ho); clear HO_9 BK143 HO149 BK154 HB HO_8; revert n0_ n1_ n2_ n3_ n4_ n5_; intro HO_9 BK143 HO149 BK154 HB HO157; clear ho hb hg hat; obtain ⟨hcz38_0, hcz38_1, hfz38_0, hfz38_1⟩ := cf2 (w := w37) BK154) | ((with_reducible refine gate_callee (f := 124) rfl ?_); refine gL (some 61) Try.func124 #[.slice Ao26 x9_1.length co26, .int .i64 t152] ?_; (with_reducible refine (spec_l1Drop.calls kj7 _ _ x9_1 t152 t158 _ ?side1 ?side2 A24.out).mono ?_); (case side1 => exact Cz ((Kd.R_reads' HO_9.out).2.2)); (case side2 => exact (Kd.R_reads' HO_9.out).2.1); rintro e w39 ⟨v159, rfl, ho0, hb⟩; refine ⟨_, rfl, ?_⟩; have n0_ := Re HO_9 (Kd.R_base ho0) hb; have n1_ := Re HO149 (Kd.R_base ho0) hb; have n2_ := Rb HO157 hb; have n3_ := Rm (Kd.R_new' (Kd.R_new' ho0 (Kd.R_lt (Rz HO_9.out))) (Kd.R_lt (Rz HO149.out))) HB; have n4_ := Kb BK143 hb; have n5_ := Kb BK154 hb; have n6_ := Bc HB hb; clear HO_9 HO149 HO157 BK143 BK154 HB; revert n0_ n1_ n2_ n3_ n4_ n5_ n6_; intro HO_9 HO149 HO157 HO160 BK143 BK154 HB; (try clear hb); (try clear hb2); (try clear hk); (try clear hi); (try clear ho0)))
            go_roundg kj7
            case measure => have := HK1.out; have := HJ7.out; omega
            case rel => exact ⟨(y155), (t158), (wrap64 (x10_1 + 1)), wZ, H', ⟨by have := HK1.out; have := HJ7.out; omega⟩, ⟨Rz (Kd.R_mono HO157.out (fun _ hk => trivial))⟩, ⟨Rz (Kd.R_mono HO160.out (fun _ hk => trivial))⟩, ⟨Kz BK143.out⟩, ⟨Bq⟩⟩
           ·rw [if_neg c23] at H
            exact absurd H (by simp)
          ·rw [if_neg c21] at H
           exact absurd H (by simp)
         ·rw [if_neg c20] at H
          exact absurd H (by simp)
        ·rw [if_neg c18] at H
         exact absurd H (by simp)
       ·rw [if_neg c17] at H
        have c17b0 : decide (x10_1 < (l1.length : Int)) = false := decide_eq_false c17; clear c17
        by_cases c40 : 0 < (t147.length : Int)
        ·rw [if_pos c40] at H
         have c40b0 : decide (0 < (t147.length : Int)) = true := decide_eq_true c40; have c40b1 : decide (0 < t147.length) = true := decide_eq_true (by omega); clear c40; replace H := Option.bind_eq_some_iff.mp H; obtain ⟨t162, A410, H⟩ := H; (try dsimp -simprocs only at H); have A41 := am A410; clear A410
         by_cases c42 : x8_1.length < 8796093022208
         ·rw [if_pos c42] at H
          have LMc42 := am c42; clear c42; obtain ⟨y165, hy165⟩ : ∃ y_ : List (S51), y_ = (x8_1 ++ [(⟨t162, rd t147 0⟩ : S51)]) := ⟨_, rfl⟩
          replace H : ((spec_l1Drop.f kj7 x9_1 t162).bind fun t168 => (spec_pePeel.l0 kj7 l1 a2 y165 t168 (wrap64 (x10_1 + 1)) a0_0 l0_1)) = some (r1, r2) := by first | (rw [hy165]; with_reducible exact H) | (have H2_ := (Option.bind_some _ _).symm.trans H; rw [hy165]; with_reducible exact H2_) | (have H2_ := (Option.bind_some _ _).symm.trans H; with_reducible exact H2_) | with_reducible exact H | (rw [hy165]; exact H) | exact H
          have Ny165 := am hy165; clear hy165; replace H := Option.bind_eq_some_iff.mp H; obtain ⟨t168, A430, H⟩ := H; (try dsimp -simprocs only at H); have A43 := am A430; clear A430; have H' := am H; clear H; obtain ⟨hcz44_0, hcz44_1, hfz44_0, hfz44_1⟩ := cf2 (w := wc) BK143; obtain ⟨Ao45, co45, eo45⟩ := Kd.R_slice HO_9.out; subst eo45
          try go_wp2_with (first | ((with_reducible refine gate_callee (f := 89) rfl ?_); refine gL (some 27) Try.func89 #[.agg #[.int .i64 a0_0, .slice A0_1 l0_1.length c0_1], .slice Ao45 x9_1.length co45] ?_; (with_reducible refine (spec_peFree.calls kj7 a0_0 _ _ l0_1 _ _ x9_1 t147 _ ?side1 ?side2 ?side3 ?side4 A11.out).mono ?_); (case side1 => exact Cz (Kd.C_below HR0_1.out HB.out)); (case side2 => exact HC0_1.out); (case side3 => exact Cz ((Kd.R_reads' HO_9.out).2.2)); (case side4 => exact (Kd.R_reads' HO_9.out).2.1); rintro e w46 ⟨v148, rfl, ho0, hb⟩; refine ⟨_, rfl, ?_⟩; have n0_ := Rb HO_8 hb; have n1_ := Re HO_9 (Kd.R_base ho0) hb; have n2_ := Rm (Kd.R_new' ho0 (Kd.R_lt (Rz HO_9.out))) HB; have n3_ := Kb BK143 hb; have n4_ := Bc HB hb; clear HO_8 HO_9 BK143 HB; revert n0_ n1_ n2_ n3_ n4_; intro HO_8 HO_9 HO149 BK143 HB; (try clear hb); (try clear hb2); (try clear hk); (try clear hi); (try clear ho0); obtain ⟨Ao47, co47, eo47⟩ := Kd.R_slice HO149.out; subst eo47))
          have n0_ := am (Kd.R_drew HO_8.out); have n1_ := am (Kd.R_drew HO_9.out); have n2_ := am (Kd.R_drew HO149.out); have n3_ := am (blk_drew BK143.out); have n4_ := am (below_drew1 HB.out); clear HO_8 HO_9 HO149 BK143 HB; revert n0_ n1_ n2_ n3_ n4_; intro HO_8 HO_9 HO149 BK143 HB; have p161 : 0 ≤ (0 : Int) := (by omega); have q161 : 0 < (t147.length : Int) := dT; obtain ⟨ad161, e161, hx161_0⟩ := Kd.at_int (Kd.R_reads' HO149.out).2.2 0 p161 q161; cases e161; have qi161 : (0 < t147.length) = True := eq_true (by omega)
          (try rw [show ((0 : Int)).toNat = 0 from rfl] at hx161_0)
          (try rw [Addr.add_zero'] at hx161_0)
          replace p161 := eq_true p161; replace q161 := eq_true q161; have p163 : 0 ≤ (0 : Int) := (by omega); have q163 : 0 < (t147.length : Int) := dT; obtain ⟨ad163, e163, hx163_0⟩ := Kd.at_int (Kd.R_reads' HO149.out).2.2 0 p163 q163; obtain rfl : ad161 = ad163 := (by injection e163); have qi163 : (0 < t147.length) = True := eq_true (by omega)
          (try rw [show ((0 : Int)).toNat = 0 from rfl] at hx163_0)
          (try rw [Addr.add_zero'] at hx163_0)
          replace p163 := eq_true p163; replace q163 := eq_true q163; refine start_ (n := 14) (S := fun w' => w'.cell? ⟨gb143, 0, none⟩ = some (.int .i64 a0_0) ∧ w'.cell? ⟨gb143, 1, none⟩ = some (.slice A0_1 l0_1.length c0_1) ∧ w'.cell? ad161 = some (.int .i64 (rd t147 0)) ∧ w'.cell? ad161 = some (.int .i64 (rd t147 0))) (ds := []) (bA 14 0) (by kernel_rfl) rfl rfl ⟨cz BK143 0, cz BK143 1, hx161_0, hx163_0⟩ (fun hHeld => ?_); refine with_tabW spec_pePeel.tab11 spec_pePeel.bits11 (fun HT_ HW_ => ?_); generalize w46.drew = w48 at HO_8 HO_9 HO149 BK143 HB hx161_0 hx163_0 hHeld ⊢; refine pZ 1 (some 43) (bA 14 2) HT_.out ?_; refine pZ 2 (some 44) (bA 14 6) HT_.out ?_; refine pZ 3 (some 45) (bA 14 14) HT_.out ?_; refine pZ 4 (some 46) (bA 14 30) HT_.out ?_; refine pZ 7 (some 49) (bA 14 158) HT_.out ?_; refine pZ 8 (some 50) (bA 14 414) HT_.out ?_; refine pZ 9 (some 51) (bA 14 926) HT_.out ?_; refine tZ4 0 (some 42) (bA 14 927) HT_.out HW_.out hHeld ?_; refine tZ4 5 (some 47) (bA 14 959) HT_.out HW_.out hHeld ?_; refine tZ4 10 (some 52) (bA 14 1983) HT_.out HW_.out hHeld ?_; refine join_ (σ := Nat) 1 (bA 14 8191) (fun s_ => [(48, .int .i64 t162), (13, .pointer (some ⟨s_, 0, none⟩)), (53, .agg #[.int .i64 t162, .int .i64 (rd t147 0)])]) (fun s_ w' => (w'.cell? ⟨gb143, 0, none⟩ = some (.int .i64 a0_0) ∧ w'.cell? ⟨gb143, 1, none⟩ = some (.slice A0_1 l0_1.length c0_1) ∧ w'.cell? ad161 = some (.int .i64 (rd t147 0)) ∧ w'.cell? ad161 = some (.int .i64 (rd t147 0))) ∧ (Kd.R (Kd.int .i64) 3 w' w.heap.size (fun k_ => some k_ ≠ (.slice Ao45 x9_1.length co45 : Value).ownBlock) (.slice (some ad161) t147.length co47) t147) ∧ (Kd.R k51 51 w' w.heap.size (fun k_ => k_ ≠ s_) u8 x8_1) ∧ (Kd.R (Kd.int .i64) 3 w' w.heap.size (fun k_ => some k_ ≠ (.slice (some ad161) t147.length co47 : Value).ownBlock) (.slice Ao45 x9_1.length co45) x9_1) ∧ (w'.heap[gb143]? = some (.cells #[.int .i64 a0_0, .slice A0_1 l0_1.length c0_1] 37 (0, 0))) ∧ (w'.heap[s_]? = some (.cells #[.int .i64 0, .int .i64 0] 51 (0, 0))) ∧ (w.heap.size ≤ s_) ∧ (w.heap.size ≤ s_) ∧ (gb143 ≠ s_) ∧ (s_ ≠ gb143) ∧ (Below w.heap.size w w')) ?_ ?_
          rotate_left
          ·intro hCont
           refine two_ (i := 6) (j := 12) (Ni := some 48) (Nj := some 13) (bA 14 2047) (bA 14 6079) rfl rfl rfl rfl (two_of HT_.out (by kernel_rfl)) (by decide) (by decide) (fun K hK => ?_) (fun K hK => ?_)
           ·skip
            refine gZ Try.func147 #[.agg #[.int .i64 a0_0, .slice A0_1 l0_1.length c0_1], .slice Ao45 x9_1.length co45, .int .i64 (rd t147 0)] ?_
            with_reducible refine (spec_peWith.calls kj7 a0_0 _ _ l0_1 _ _ x9_1 (rd t147 0) t162 _ ?side1 ?side2 ?side3 ?side4 A41.out).mono ?_
            (case side1 => exact Cz (Kd.C_below HR0_1.out HB.out))
            (case side2 => exact HC0_1.out)
            (case side3 => exact Cz ((Kd.R_reads' HO_9.out).2.2))
            (case side4 => exact (Kd.R_reads' HO_9.out).2.1)
            rintro e w49 ⟨rfl, hb⟩; have HS2_ := (hb.cell (World.block_lt_of_cell? _ _ (hHeld.2.2.1))).trans (hHeld.2.2.1); have HS3_ := (hb.cell (World.block_lt_of_cell? _ _ (hHeld.2.2.2))).trans (hHeld.2.2.2); refine ⟨_, rfl, ?_⟩; have n0_ := Rb HO_8 hb; have n1_ := Rb HO_9 hb; have n2_ := Rb HO149 hb; have n3_ := Kb BK143 hb; have n4_ := Bc HB hb; clear HO_8 HO_9 HO149 BK143 HB; revert n0_ n1_ n2_ n3_ n4_; intro HO_8 HO_9 HO149 BK143 HB
            (try clear hb)
            (try clear hb2)
            (try clear hk)
            (try clear hi)
            refine hK.out _ _ ⟨cz BK143 0, cz BK143 1, HS2_, HS3_⟩ (fun hHeld => ?_); clear hK K; refine norm_ (a' := ?_) ?_ ?_; rotate_left; show Act.put _ (some 48) _ = _; simp only [aP, i64_w, i32_w]; rfl; refine pZ 11 (some 53) (bA 14 4095) HT_.out ?_; refine oZ 12 (some 13) (bA 14 8191) HT_.out (fun K hK => ?_); refine box_step ?hg (N := 13) ?hd (cs := #[.int .i64 0, .int .i64 0]) (t := 51) ?hr ?_; (case hd => rfl); (case hg => rfl); (case hr => first | (go_simp; done) | (go_simp; rfl)); intro gb164 hg w50 hbox hb; have HS2_ := (hb.cell (World.block_lt_of_cell? _ _ (hHeld.2.2.1))).trans (hHeld.2.2.1); have HS3_ := (hb.cell (World.block_lt_of_cell? _ _ (hHeld.2.2.2))).trans (hHeld.2.2.2); have n0_ := am (Kd.R_below (Kd.R_elderB (Rz HO_8.out) gb164 (Nat.le_of_eq hg.symm)) hb); have n1_ := Rb HO_9 hb; have n2_ := Rb HO149 hb; have n3_ := Kb BK143 hb; have n4_ := Bc HB hb; have n5_ := am (hbox); have n6_ := Gm HB hg; have n7_ := Gm HB hg; have n8_ := Nl BK143 hg; have n9_ := Ng BK143 hg; clear HO_8 HO_9 HO149 BK143 HB; revert n0_ n1_ n2_ n3_ n4_ n5_ n6_ n7_ n8_ n9_; intro HO_8 HO_9 HO149 BK143 HB BK164 GW164 GE164 NB143_164 NB164_143; clear hb hbox hg; refine hK.out _ _ ⟨cz BK143 0, cz BK143 1, HS2_, HS3_⟩ (fun hHeld => ?_); clear hK K; refine norm_ (a' := ?_) ?_ ?_; rotate_left; show Act.put _ (some 13) _ = _; simp only [aP, i64_w, i32_w]; rfl; exact norm_ (by simp only [putAll, aP]) (hCont (gb164) _ ⟨hHeld, (Rz (Kd.R_mono HO149.out (fun _ hk => hk.2))), (Rz (Kd.R_mono HO_8.out (fun _ hk => hk.2))), (Rz (Kd.R_mono HO_9.out (fun _ hk => hk.2))), (Kz BK143.out), (Kz BK164.out), GW164.out, GE164.out, NB143_164.out, NB164_143.out, (Bq)⟩)
           ·skip
            refine box_step ?hg (N := 13) ?hd (cs := #[.int .i64 0, .int .i64 0]) (t := 51) ?hr ?_; (case hd => rfl); (case hg => rfl); (case hr => first | (go_simp; done) | (go_simp; rfl)); intro gb164 hg w49 hbox hb; have HS2_ := (hb.cell (World.block_lt_of_cell? _ _ (hHeld.2.2.1))).trans (hHeld.2.2.1); have HS3_ := (hb.cell (World.block_lt_of_cell? _ _ (hHeld.2.2.2))).trans (hHeld.2.2.2); have n0_ := am (Kd.R_below (Kd.R_elderB (Rz HO_8.out) gb164 (Nat.le_of_eq hg.symm)) hb); have n1_ := Rb HO_9 hb; have n2_ := Rb HO149 hb; have n3_ := Kb BK143 hb; have n4_ := Bc HB hb; have n5_ := am (hbox); have n6_ := Gm HB hg; have n7_ := Gm HB hg; have n8_ := Nl BK143 hg; have n9_ := Ng BK143 hg; clear HO_8 HO_9 HO149 BK143 HB; revert n0_ n1_ n2_ n3_ n4_ n5_ n6_ n7_ n8_ n9_; intro HO_8 HO_9 HO149 BK143 HB BK164 GW164 GE164 NB143_164 NB164_143; clear hb hbox hg; refine hK.out _ _ ⟨cz BK143 0, cz BK143 1, HS2_, HS3_⟩ (fun hHeld => ?_); clear hK K; refine norm_ (a' := ?_) ?_ ?_; rotate_left; show Act.put _ (some 13) _ = _; simp only [aP, i64_w, i32_w]; rfl; refine oZ 6 (some 48) (bA 14 6143) HT_.out (fun K hK => ?_); refine gZ Try.func147 #[.agg #[.int .i64 a0_0, .slice A0_1 l0_1.length c0_1], .slice Ao45 x9_1.length co45, .int .i64 (rd t147 0)] ?_
            with_reducible refine (spec_peWith.calls kj7 a0_0 _ _ l0_1 _ _ x9_1 (rd t147 0) t162 _ ?side1 ?side2 ?side3 ?side4 A41.out).mono ?_
            (case side1 => exact Cz (Kd.C_below HR0_1.out HB.out))
            (case side2 => exact HC0_1.out)
            (case side3 => exact Cz ((Kd.R_reads' HO_9.out).2.2))
            (case side4 => exact (Kd.R_reads' HO_9.out).2.1)
            rintro e w50 ⟨rfl, hb⟩; have HS2_ := (hb.cell (World.block_lt_of_cell? _ _ (hHeld.2.2.1))).trans (hHeld.2.2.1); have HS3_ := (hb.cell (World.block_lt_of_cell? _ _ (hHeld.2.2.2))).trans (hHeld.2.2.2); refine ⟨_, rfl, ?_⟩; have n0_ := Rb HO_8 hb; have n1_ := Rb HO_9 hb; have n2_ := Rb HO149 hb; have n3_ := Kb BK143 hb; have n4_ := Kb BK164 hb; have n5_ := Bc HB hb; clear HO_8 HO_9 HO149 BK143 BK164 HB; revert n0_ n1_ n2_ n3_ n4_ n5_; intro HO_8 HO_9 HO149 BK143 BK164 HB
            (try clear hb)
            (try clear hb2)
            (try clear hk)
            (try clear hi)
            refine hK.out _ _ ⟨cz BK143 0, cz BK143 1, HS2_, HS3_⟩ (fun hHeld => ?_); clear hK K; refine norm_ (a' := ?_) ?_ ?_; rotate_left; show Act.put _ (some 48) _ = _; simp only [aP, i64_w, i32_w]; rfl; refine pZ 11 (some 53) (bA 14 8191) HT_.out ?_; exact norm_ (by simp only [putAll, aP]) (hCont (gb164) _ ⟨hHeld, (Rz (Kd.R_mono HO149.out (fun _ hk => hk.2))), (Rz (Kd.R_mono HO_8.out (fun _ hk => hk.2))), (Rz (Kd.R_mono HO_9.out (fun _ hk => hk.2))), (Kz BK143.out), (Kz BK164.out), GW164.out, GE164.out, NB143_164.out, NB164_143.out, (Bq)⟩)
          rintro gb164 w51 ⟨hS_, h0_, h1_, h2_, h3_, h4_, h5_, h6_, h7_, h8_, h9_⟩; have n0_ : Aside0 (Kd.R (Kd.int .i64) 3 w51 w.heap.size (fun k_ => some k_ ≠ (.slice Ao45 x9_1.length co45 : Value).ownBlock) (.slice (some ad161) t147.length co47) t147) := ⟨h0_⟩; have n1_ : Aside0 (Kd.R k51 51 w51 w.heap.size (fun k_ => k_ ≠ gb164) u8 x8_1) := ⟨h1_⟩; have n2_ : Aside0 (Kd.R (Kd.int .i64) 3 w51 w.heap.size (fun k_ => some k_ ≠ (.slice (some ad161) t147.length co47 : Value).ownBlock) (.slice Ao45 x9_1.length co45) x9_1) := ⟨h2_⟩; have n3_ : Aside0 (w51.heap[gb143]? = some (.cells #[.int .i64 a0_0, .slice A0_1 l0_1.length c0_1] 37 (0, 0))) := ⟨h3_⟩; have n4_ : Aside0 (w51.heap[gb164]? = some (.cells #[.int .i64 0, .int .i64 0] 51 (0, 0))) := ⟨h4_⟩; have n5_ : Aside0 (w.heap.size ≤ gb164) := ⟨h5_⟩; have n6_ : Aside0 (w.heap.size ≤ gb164) := ⟨h6_⟩; have n7_ : Aside0 (gb143 ≠ gb164) := ⟨h7_⟩; have n8_ : Aside0 (gb164 ≠ gb143) := ⟨h8_⟩; have n9_ : Aside0 (Below w.heap.size w w51) := ⟨h9_⟩; clear HO_8 HO_9 HO149 BK143 HB; clear h0_ h1_ h2_ h3_ h4_ h5_ h6_ h7_ h8_ h9_; revert n0_ n1_ n2_ n3_ n4_ n5_ n6_ n7_ n8_ n9_; intro HO149 HO_8 HO_9 BK143 BK164 GW164 GE164 NB143_164 NB164_143 HB; have hHeld : w51.cell? ⟨gb143, 0, none⟩ = some (.int .i64 a0_0) ∧ w51.cell? ⟨gb143, 1, none⟩ = some (.slice A0_1 l0_1.length c0_1) ∧ w51.cell? ad161 = some (.int .i64 (rd t147 0)) ∧ w51.cell? ad161 = some (.int .i64 (rd t147 0)) := hS_; refine norm_ (a' := ?_) ?_ ?_
          rotate_left
          ·simp only [putAll, aP]
           rfl
          refine oZ 13 none (bA 14 16383) HT_.out (fun K hK => ?_); have hs52 : w51.cell? ⟨gb164, 0, none⟩ = some (.int .i64 0) := cz BK164 0; have hfs52 := blk_frozen BK164.out 0; have hns52_0 := NB143_164.out; have hms52_0 := NB164_143.out; have hs53 : w51.cell? ⟨gb164, 1, none⟩ = some (.int .i64 0) := cz BK164 1; have hfs53 := blk_frozen BK164.out 1; have hns53_0 := NB143_164.out; have hms53_0 := NB164_143.out; refine skip_ (w1 := ?_) (by rfl) rfl ?_ ?_
          rotate_left
          ·go_simp
           rfl
          refine hK.out _ _ ⟨((cell_far (p := ⟨gb164, _, none⟩) NB143_164.out _).trans (((cell_far (p := ⟨gb164, _, none⟩) NB143_164.out _).trans (hHeld.1)))), ((cell_far (p := ⟨gb164, _, none⟩) NB143_164.out _).trans (((cell_far (p := ⟨gb164, _, none⟩) NB143_164.out _).trans (hHeld.2.1)))), ((cell_far (p := ⟨gb164, _, none⟩) (by first | exact Kd.own_blk (Kd.R_ne HO149.out BK164.out (by decide)) | (rw [add_block]; exact Kd.own_blk (Kd.R_ne HO149.out BK164.out (by decide))) | (show (Addr.add _ _).block ≠ _; rw [add_block]; exact Kd.own_blk (Kd.R_ne HO149.out BK164.out (by decide))) | (dsimp only; exact Kd.own_blk (Kd.R_ne HO149.out BK164.out (by decide)))) _).trans (((cell_far (p := ⟨gb164, _, none⟩) (by first | exact Kd.own_blk (Kd.R_ne HO149.out BK164.out (by decide)) | (rw [add_block]; exact Kd.own_blk (Kd.R_ne HO149.out BK164.out (by decide))) | (show (Addr.add _ _).block ≠ _; rw [add_block]; exact Kd.own_blk (Kd.R_ne HO149.out BK164.out (by decide))) | (dsimp only; exact Kd.own_blk (Kd.R_ne HO149.out BK164.out (by decide)))) _).trans (hHeld.2.2.1)))), ((cell_far (p := ⟨gb164, _, none⟩) (by first | exact Kd.own_blk (Kd.R_ne HO149.out BK164.out (by decide)) | (rw [add_block]; exact Kd.own_blk (Kd.R_ne HO149.out BK164.out (by decide))) | (show (Addr.add _ _).block ≠ _; rw [add_block]; exact Kd.own_blk (Kd.R_ne HO149.out BK164.out (by decide))) | (dsimp only; exact Kd.own_blk (Kd.R_ne HO149.out BK164.out (by decide)))) _).trans (((cell_far (p := ⟨gb164, _, none⟩) (by first | exact Kd.own_blk (Kd.R_ne HO149.out BK164.out (by decide)) | (rw [add_block]; exact Kd.own_blk (Kd.R_ne HO149.out BK164.out (by decide))) | (show (Addr.add _ _).block ≠ _; rw [add_block]; exact Kd.own_blk (Kd.R_ne HO149.out BK164.out (by decide))) | (dsimp only; exact Kd.own_blk (Kd.R_ne HO149.out BK164.out (by decide)))) _).trans (hHeld.2.2.2))))⟩ (fun hHeld => ?_); clear hK K; refine done_ (done_of HT_.out (by kernel_rfl)) ?_; have hnb54 := NB164_143.out; have hnc54 := NB143_164.out; obtain ⟨hcz55_0, hcz55_1, hfz55_0, hfz55_1⟩ := cf2 (w := w51) BK164
          try go_wp2_with (first | ((with_reducible refine gate_builtin (b := .append) (xs := #[.tmp 54, .tmp 56]) rfl ?_); (try (refine gate_guard (by rfl) ?_; dsimp only)); at_builtin; refine Kd.R_append k51 (w0 := w) w.heap.size rfl (.tmp 54) (.tmp 56) 46 51 (.agg #[(.int .i64 0), (.int .i64 0)]) 16 rfl Try.underlying46 info51 rfl (by decide) (by omega) u8 x8_1 (⟨t162, rd t147 0⟩ : S51) [.int .i64 t162, .int .i64 (rd t147 0)] (fun k_ => k_ ≠ gb164) (fun _ => False) rfl (by first | (go_simp; done) | (go_simp; rfl)) ?aP (fun _ hk => hk.elim) ?aF ?aO ?aB ?aS ?aL ?_; (case aP => exact k51_mkM _ _ _ (⟨t162, rd t147 0⟩ : S51)); (case aB => exact (Bq)); (case aF => exact (fun k_ hk => Kd.freshB (g := gb164) (o := .cells #[.int .i64 t162, .int .i64 (rd t147 0)] 51 (0, 0)) (by (with_reducible repeat (first | refine blk_drewN ?_ _ | refine blk_drew ?_ | refine blk_alloc ?_ _)); refine blk_put (cs := #[.int .i64 t162, .int .i64 0]) ?_ 1 _ rfl; (with_reducible repeat (first | refine blk_drewN ?_ _ | refine blk_drew ?_ | refine blk_alloc ?_ _)); refine blk_put (cs := #[.int .i64 0, .int .i64 0]) ?_ 0 _ rfl; exact Kz BK164.out) k_ hk)); (case aO => exact (Rz (Kd.R_mono (Kd.R_far (p := ⟨gb164, 1, none⟩) (Kd.R_far (p := ⟨gb164, 0, none⟩) (Kd.R_mono HO_8.out (fun k_ hk => (⟨hk, hk⟩ : _ ∧ k_ ≠ gb164))) (fun _ hk => hk.2) (.int .i64 t162)) (fun _ hk => hk.2) (.int .i64 (rd t147 0))) (fun _ hk => hk.1)))); (case aS => exact (below_size (w := w) (Bq))); (case aL => have := LMc42.out; omega); intro v166 w56 ho hb hg hat; rw [← Ny165.out] at ho; have n0_ := am (Kd.R_over' (Rz (Kd.R_mono (Kd.R_far (p := ⟨gb164, 1, none⟩) (Kd.R_far (p := ⟨gb164, 0, none⟩) (Kd.R_types HO_9.out BK164.out (by decide)) (fun _ hk => hk.2) (.int .i64 t162)) (fun _ hk => hk.2) (.int .i64 (rd t147 0))) (fun _ h_ => h_.1))) (Kd.R_typed (Rz (Kd.R_mono (Kd.R_far (p := ⟨gb164, 1, none⟩) (Kd.R_far (p := ⟨gb164, 0, none⟩) (Kd.R_mono HO_8.out (fun k_ hk => (⟨hk, hk⟩ : _ ∧ k_ ≠ gb164))) (fun _ hk => hk.2) (.int .i64 t162)) (fun _ hk => hk.2) (.int .i64 (rd t147 0))) (fun _ h_ => h_.1)))) (by decide) hg); have n1_ := am (blk_grown (g := gb143) (o := .cells #[.int .i64 a0_0, .slice A0_1 l0_1.length c0_1] 37 (0, 0)) (by (with_reducible repeat (first | refine blk_drewN ?_ _ | refine blk_drew ?_ | refine blk_alloc ?_ _)); refine blk_far ?_ NB143_164.out _; (with_reducible repeat (first | refine blk_drewN ?_ _ | refine blk_drew ?_ | refine blk_alloc ?_ _)); refine blk_far ?_ NB143_164.out _; exact Kz BK143.out) hg (Kd.R_ne HO_8.out BK143.out (by decide))); have n2_ := am (Kd.R_over' (Rz (Kd.R_mono (Kd.R_far (p := ⟨gb164, 1, none⟩) (Kd.R_far (p := ⟨gb164, 0, none⟩) (Kd.R_types HO149.out BK164.out (by decide)) (fun _ hk => hk.2) (.int .i64 t162)) (fun _ hk => hk.2) (.int .i64 (rd t147 0))) (fun _ h_ => h_.1))) (Kd.R_typed (Rz (Kd.R_mono (Kd.R_far (p := ⟨gb164, 1, none⟩) (Kd.R_far (p := ⟨gb164, 0, none⟩) (Kd.R_mono HO_8.out (fun k_ hk => (⟨hk, hk⟩ : _ ∧ k_ ≠ gb164))) (fun _ hk => hk.2) (.int .i64 t162)) (fun _ hk => hk.2) (.int .i64 (rd t147 0))) (fun _ h_ => h_.1)))) (by decide) hg); have n3_ := am (blk_grown (g := gb164) (o := .cells #[.int .i64 t162, .int .i64 (rd t147 0)] 51 (0, 0)) (by (with_reducible repeat (first | refine blk_drewN ?_ _ | refine blk_drew ?_ | refine blk_alloc ?_ _)); refine blk_put (cs := #[.int .i64 t162, .int .i64 0]) ?_ 1 _ rfl; (with_reducible repeat (first | refine blk_drewN ?_ _ | refine blk_drew ?_ | refine blk_alloc ?_ _)); refine blk_put (cs := #[.int .i64 0, .int .i64 0]) ?_ 0 _ rfl; exact Kz BK164.out) hg (Kd.R_away HO_8.out (fun _ hk => hk))); have n4_ := am (hb); have n5_ := am (ho); clear HO_9 BK143 HO149 BK164 HB HO_8; revert n0_ n1_ n2_ n3_ n4_ n5_; intro HO_9 BK143 HO149 BK164 HB HO167; clear ho hb hg hat; obtain ⟨hcz57_0, hcz57_1, hfz57_0, hfz57_1⟩ := cf2 (w := w56) BK164) | ((with_reducible refine gate_callee (f := 124) rfl ?_); refine gL (some 61) Try.func124 #[.slice Ao45 x9_1.length co45, .int .i64 t162] ?_; (with_reducible refine (spec_l1Drop.calls kj7 _ _ x9_1 t162 t168 _ ?side1 ?side2 A43.out).mono ?_); (case side1 => exact Cz ((Kd.R_reads' HO_9.out).2.2)); (case side2 => exact (Kd.R_reads' HO_9.out).2.1); rintro e w58 ⟨v169, rfl, ho0, hb⟩; refine ⟨_, rfl, ?_⟩; have n0_ := Re HO_9 (Kd.R_base ho0) hb; have n1_ := Re HO149 (Kd.R_base ho0) hb; have n2_ := Rb HO167 hb; have n3_ := Rm (Kd.R_new' (Kd.R_new' ho0 (Kd.R_lt (Rz HO_9.out))) (Kd.R_lt (Rz HO149.out))) HB; have n4_ := Kb BK143 hb; have n5_ := Kb BK164 hb; have n6_ := Bc HB hb; clear HO_9 HO149 HO167 BK143 BK164 HB; revert n0_ n1_ n2_ n3_ n4_ n5_ n6_; intro HO_9 HO149 HO167 HO170 BK143 BK164 HB; (try clear hb); (try clear hb2); (try clear hk); (try clear hi); (try clear ho0)))
          go_roundg kj7
          case measure => have := HK1.out; have := HJ7.out; omega
          case rel => exact ⟨(y165), (t168), (wrap64 (x10_1 + 1)), wZ, H', ⟨by have := HK1.out; have := HJ7.out; omega⟩, ⟨Rz (Kd.R_mono HO167.out (fun _ hk => trivial))⟩, ⟨Rz (Kd.R_mono HO170.out (fun _ hk => trivial))⟩, ⟨Kz BK143.out⟩, ⟨Bq⟩⟩
         ·rw [if_neg c42] at H
          exact absurd H (by simp)
        ·rw [if_neg c40] at H
         exact absurd H (by simp)
     ·replace c10 := Bool.eq_false_iff.mpr c10
      subst c10
      rw [if_neg (show ¬ (false = true) by decide)] at H
      simp only [Option.some.injEq, Prod.mk.injEq] at H
      obtain ⟨rfl, rfl⟩ := H
      go_wp2
      go_ret2
      exact ⟨_, _, eZ, Rz HO_8.out, Rz HO_9.out, Bq⟩

def spec_peTriple.l0 : Nat → Int → ByteArray → Int → List Int → Int → Option (List Int)
 | 0, _, _, _, _, _ => none
 | k + 1, x0, x1, x2, x7, x8 => if x8 < 3 then ((spec_biPlace.f k x0 x8 x1 x2).bind fun t171 => (if x7.length < 17592186044416 then (spec_peTriple.l0 k x0 x1 x2 (x7 ++ [wrap64 (t171 + (wrap64 (x8 * x2)))]) (wrap64 (x8 + 1))) else (none))) else (some x7)
def spec_peTriple.f (k : Nat) (a0 : Int) (a1 : ByteArray) (a2 : Int) : Option (List Int) := spec_peTriple.l0 k a0 a1 a2 ([] : List Int) 0
theorem spec_peTriple.calls (k : Nat) (a0 : Int) (a1 : ByteArray) (a2 : Int) (r : List Int) (w : World) (h : spec_peTriple.f k a0 a1 a2 = some r) :
  Calls Try.prog 163 #[.int .i64 a0, .string a1, .int .i64 a2] w fun e w' => ∃ v0_ : Value, e = .returned (v0_) ∧ Kd.R (Kd.int .i64) 3 w' w.heap.size (fun _ => True) v0_ r ∧ Below w.heap.size w w' := by
 have HB := am (Below.refl w.heap.size w); have H : (spec_peTriple.l0 k a0 a1 a2 ([] : List Int) 0) = some r := h; clear h; have H' := am H; clear H
 go_enter Try.func163, Try.ntmps163
 go_wp2
 go_loopg [7, 8] k (fun kq v7 v8 w' => ∃ (x7_1 : List Int) (x8_1 : Int), v8 = .int .i64 x8_1 ∧ Aside0 (spec_peTriple.l0 kq a0 a1 a2 x7_1 x8_1 = some r) ∧ Aside0 (kq ≤ k) ∧ Aside0 (Kd.R (Kd.int .i64) 3 w' w.heap.size (fun _ => True) v7 x7_1) ∧ Aside0 (Below w.heap.size w w'))
 case atStart => exact ⟨(([] : List Int)), (0), wZ, H', ⟨Nat.le_refl _⟩, ⟨nZ⟩, ⟨Bz HB.out⟩⟩
 case round =>
  clear H'
  try clear c1
  try clear p2
  obtain ⟨x7_1, x8_1, rfl, HA, HK1, HO_7, HB⟩ := hrel; cases gk with
  | zero => exact absurd HA.out (by simp [spec_peTriple.l0])
  | succ k1 =>
   have H := HA.out; clear HA
   simp only [spec_peTriple.l0] at H
   by_cases c4 : x8_1 < 3
   ·rw [if_pos c4] at H
    have c4b0 : decide (x8_1 < 3) = true := decide_eq_true c4; clear c4; replace H := Option.bind_eq_some_iff.mp H; obtain ⟨t171, A50, H⟩ := H; (try dsimp -simprocs only at H); have A5 := am A50; clear A50
    by_cases c6 : x7_1.length < 17592186044416
    ·rw [if_pos c6] at H
     have LMc6 := am c6; clear c6; obtain ⟨y172, hy172⟩ : ∃ y_ : List Int, y_ = (x7_1 ++ [wrap64 (t171 + (wrap64 (x8_1 * a2)))]) := ⟨_, rfl⟩
     replace H : (spec_peTriple.l0 k1 a0 a1 a2 y172 (wrap64 (x8_1 + 1))) = some r := by first | (rw [hy172]; with_reducible exact H) | (have H2_ := (Option.bind_some _ _).symm.trans H; rw [hy172]; with_reducible exact H2_) | (have H2_ := (Option.bind_some _ _).symm.trans H; with_reducible exact H2_) | with_reducible exact H | (rw [hy172]; exact H) | exact H
     have Ny172 := am hy172; clear hy172; have H' := am H; clear H
     go_wp2_with (first | ((with_reducible refine gate_callee (f := 154) rfl ?_); refine gL (some 18) Try.func154 #[.int .i64 a0, .int .i64 x8_1, .string a1, .int .i64 a2] ?_; (with_reducible refine (spec_biPlace.calls k1 a0 x8_1 a1 a2 t171 _ A5.out).mono ?_); rintro e w' ⟨rfl, ⟨nd, rfl⟩⟩; refine ⟨_, rfl, ?_⟩) | ((with_reducible refine gate_builtin (b := .append) (xs := #[.tmp 13, .tmp 23]) rfl ?_); at_builtin; refine Kd.R_append (Kd.int .i64) (w0 := w) w.heap.size rfl (.tmp 13) (.tmp 23) 32 3 (.int .i64 0) 8 rfl Try.underlying32 info3 rfl (by decide) (by omega) u7 x7_1 (wrap64 (t171 + (wrap64 (x8_1 * a2)))) [.int .i64 (wrap64 (t171 + (wrap64 (x8_1 * a2))))] (fun _ => True) (fun _ => False) rfl rfl ?aP (fun _ hk => hk.elim) ?aF ?aO ?aB ?aS ?aL ?_; (case aP => exact rfl); (case aB => exact (Bz HB.out)); (case aF => exact (fun _ _ => trivial)); (case aO => exact (Rz HO_7.out)); (case aS => exact (below_size (Bz HB.out))); (case aL => have := LMc6.out; omega); intro v173 w7 ho hb hg hat; rw [← Ny172.out] at ho; have n0_ := am (hb); have n1_ := am (ho); clear HB HO_7; revert n0_ n1_; intro HB HO174; clear ho hb hg hat))
     go_roundg k1
     case measure => have := HK1.out; omega
     case rel => exact ⟨(y172), (wrap64 (x8_1 + 1)), wZ, H', ⟨by have := HK1.out; omega⟩, ⟨Rz HO174.out⟩, ⟨Bz HB.out⟩⟩
    ·rw [if_neg c6] at H
     exact absurd H (by simp)
   ·rw [if_neg c4] at H
    have c4b0 : decide (x8_1 < 3) = false := decide_eq_false c4; clear c4; obtain rfl := Option.some.inj H
    go_wp2
    go_ret
    exact ⟨_, eZ, Rz HO_7.out, Bz HB.out⟩

def spec_peHyper.l0 : Nat → Int → Int → List ByteArray → Int → Int → Int → List (List Int) → Option (Int × (List (List Int)))
 | 0, _, _, _, _, _, _, _ => none
 | k + 1, x0, x2, x13, x14, x15, x177000, x177001 => if x15 < x14 then (if 0 ≤ x15 then (if x15 < (x13.length : Int) then ((spec_peTriple.f k x0 (rdOf ByteArray.empty x13 x15) x2).bind fun t178 => (if x177001.length < 5864062014805 then (spec_peHyper.l0 k x0 x2 x13 x14 (wrap64 (x15 + 1)) x177000 (x177001 ++ [t178])) else (none))) else (none)) else (none)) else (some (x177000, x177001))
def spec_peHyper.f (k : Nat) (a0 : Int) (l1 : List ByteArray) (a2 : Int) : Option (Int × (List (List Int))) := spec_peHyper.l0 k a0 a2 l1 (l1.length : Int) 0 (wrap64 (3 * a2)) ([] : List (List Int))
def spec_peHyper.T5 : Bool × List (List Nat × List Nat) := (true, [([], []), ([0], [0]), ([], []), ([], []), ([], []), ([2, 3, 4], [2, 3, 4]), ([5], [5]), ([1, 6, 5], [1, 6]), ([0, 1, 2, 3, 4, 5, 6, 7], []), ([8, 7, 7, 0, 1, 2, 3, 4, 5, 6, 7], [7, 8])])
def spec_peHyper.B5 : List Nat := [0, 1, 0, 0, 0, 28, 60, 127, 255, 511]
theorem spec_peHyper.tab5 : rtab .any (opsOf Try.f144 5) = spec_peHyper.T5 := by kernel_rfl
theorem spec_peHyper.bits5 : waitsOk spec_peHyper.T5.2 spec_peHyper.B5 = true := by kernel_rfl
theorem spec_peHyper.calls (k : Nat) (a0 : Int) (A1 : Option Addr) (c1 : Nat) (l1 : List ByteArray) (a2 : Int) (r1 : Int) (r2 : List (List Int)) (w : World) (hr1 : Kd.C Kd.string w A1 l1.length l1) (hc1 : l1.length ≤ c1) (h : spec_peHyper.f k a0 l1 a2 = some (r1, r2)) :
  Calls Try.prog 144 #[.int .i64 a0, .slice A1 l1.length c1, .int .i64 a2] w fun e w' => ∃ v1_ : Value, e = .returned (.agg #[.int .i64 r1, v1_]) ∧ Kd.S (Kd.slice 3 (Kd.int .i64)) 32 w' w.heap.size (fun _ => True) v1_ r2 ∧ Below w.heap.size w w' := by
 have hu37 := Try.underlying37; have HR1 := am hr1; have HC1 := am hc1; clear hr1 hc1; have HB := am (Below.refl w.heap.size w); have H : (spec_peHyper.l0 k a0 a2 l1 (l1.length : Int) 0 (wrap64 (3 * a2)) ([] : List (List Int))) = some (r1, r2) := h; clear h; have H' := am H; clear H
 go_enter Try.func144, Try.ntmps144
 go_wp2_with (first | ((with_reducible refine gate_dst (N := 6) rfl ?_); refine bE 6 #[.int .i64 0, .slice none 0 0] 37 ?_; intro gb175 hg w4 hbox hb; have n0_ := Bb HB hb; have n1_ := am (hbox); have n2_ := Gl HB hg; have n3_ := Gl HB hg; clear HB; revert n0_ n1_ n2_ n3_; intro HB BK175 GW175 GE175; clear hb hbox hg) | ((with_reducible refine gate_dst (N := 7) rfl ?_); refine bE 7 #[.int .i64 0, .slice none 0 0] 37 ?_; intro gb176 hg w5 hbox hb; have n0_ := Kb BK175 hb; have n1_ := Bc HB hb; have n2_ := am (hbox); have n3_ := Gm HB hg; have n4_ := Gm HB hg; have n5_ := Nl BK175 hg; have n6_ := Ng BK175 hg; clear BK175 HB; revert n0_ n1_ n2_ n3_ n4_ n5_ n6_; intro BK175 HB BK176 GW176 GE176 NB175_176 NB176_175; clear hb hbox hg; have hnb6 := NB176_175.out; have hnc6 := NB175_176.out; obtain ⟨hcz7_0, hcz7_1, hfz7_0, hfz7_1⟩ := cf2 (w := w5) BK176))
 (try simp only [aP])
 go_loopg [15] k (fun kq v15 w' => ∃ (x15_1 : Int) (x177001_1 : List (List Int)) (u177001 : Value), v15 = .int .i64 x15_1 ∧ Aside0 (spec_peHyper.l0 kq a0 a2 l1 (l1.length : Int) x15_1 (wrap64 (3 * a2)) x177001_1 = some (r1, r2)) ∧ Aside0 (kq ≤ k) ∧ Aside0 (Kd.S (Kd.slice 3 (Kd.int .i64)) 32 w' w.heap.size (fun _ => True) u177001 x177001_1) ∧ Aside0 (w'.heap[gb175]? = some (.cells #[.int .i64 0, (.slice none 0 0)] 37 (0, 0))) ∧ Aside0 (w'.heap[gb176]? = some (.cells #[.int .i64 (wrap64 (3 * a2)), u177001] 37 (0, 0))) ∧ Aside0 (Below w.heap.size w w'))
 case atStart => exact ⟨(0), (([] : List (List Int))), (.slice none 0 0), wZ, H', ⟨Nat.le_refl _⟩, ⟨by first | exact Kd.S_nil _ _ _ _ _ | exact Kd.N_nil _ _ _ _ _ | exact Kd.V_nil _ _ _ _ _ | exact Kd.Q_nil _ _ _ _ _ | exact Kd.R_nil _ _ _ _ _⟩, ⟨by (with_reducible repeat (first | refine blk_drewN ?_ _ | refine blk_drew ?_ | refine blk_alloc ?_ _)); refine blk_far ?_ NB175_176.out _; (with_reducible repeat (first | refine blk_drewN ?_ _ | refine blk_drew ?_ | refine blk_alloc ?_ _)); refine blk_far ?_ NB175_176.out _; (with_reducible repeat (first | refine blk_drewN ?_ _ | refine blk_drew ?_ | refine blk_alloc ?_ _)); exact BK175.out⟩, ⟨by (with_reducible repeat (first | refine blk_drewN ?_ _ | refine blk_drew ?_ | refine blk_alloc ?_ _)); refine blk_put (cs := #[.int .i64 (wrap64 (3 * a2)), .slice none 0 0]) ?_ 1 _ rfl; (with_reducible repeat (first | refine blk_drewN ?_ _ | refine blk_drew ?_ | refine blk_alloc ?_ _)); refine blk_put (cs := #[.int .i64 0, .slice none 0 0]) ?_ 0 _ rfl; (with_reducible repeat (first | refine blk_drewN ?_ _ | refine blk_drew ?_ | refine blk_alloc ?_ _)); exact BK176.out⟩, ⟨Bq⟩⟩
 case round =>
  clear H'
  try clear c1
  try clear p2
  try clear c6
  try clear p6
  try clear hcz7_0
  try clear hcz7_1
  try clear hfz7_0
  try clear hfz7_1
  obtain ⟨x15_1, x177001_1, u177001, rfl, HA, HK1, HO_177001, BK175, BK176, HB⟩ := hrel; cases gk with
  | zero => exact absurd HA.out (by simp [spec_peHyper.l0])
  | succ k1 =>
   have H := HA.out; clear HA
   simp only [spec_peHyper.l0] at H
   by_cases c8 : x15_1 < (l1.length : Int)
   ·rw [if_pos c8] at H
    have c8b0 : decide (x15_1 < (l1.length : Int)) = true := decide_eq_true c8; clear c8
    by_cases c9 : 0 ≤ x15_1
    ·rw [if_pos c9] at H
     have c9b0 : decide (0 ≤ x15_1) = true := decide_eq_true c9; clear c9
     by_cases c10 : x15_1 < (l1.length : Int)
     ·rw [if_pos c10] at H
      have c10b0 : decide (x15_1 < (l1.length : Int)) = true := decide_eq_true c10; clear c10; replace H := Option.bind_eq_some_iff.mp H; obtain ⟨t178, A110, H⟩ := H; (try dsimp -simprocs only at H); have A11 := am A110; clear A110
      by_cases c12 : x177001_1.length < 5864062014805
      ·rw [if_pos c12] at H
       have LMc12 := am c12; clear c12; obtain ⟨y181, hy181⟩ : ∃ y_ : List (List Int), y_ = (x177001_1 ++ [t178]) := ⟨_, rfl⟩
       replace H : (spec_peHyper.l0 k1 a0 a2 l1 (l1.length : Int) (wrap64 (x15_1 + 1)) (wrap64 (3 * a2)) y181) = some (r1, r2) := by first | (rw [hy181]; with_reducible exact H) | (have H2_ := (Option.bind_some _ _).symm.trans H; rw [hy181]; with_reducible exact H2_) | (have H2_ := (Option.bind_some _ _).symm.trans H; with_reducible exact H2_) | with_reducible exact H | (rw [hy181]; exact H) | exact H
       have Ny181 := am hy181; clear hy181; have H' := am H; clear H; have p177 : 0 ≤ (x15_1 : Int) := dT; have q177 : x15_1 < (l1.length : Int) := dT; obtain ⟨ad177, e177, hx177_0⟩ := Kd.at_string HR1.out x15_1 p177 q177; cases e177; replace hx177_0 := (HB.out.cell (World.block_lt_of_cell? w _ hx177_0)).trans hx177_0; replace p177 := eq_true p177; replace q177 := eq_true q177
       try go_wp2
       have n0_ := am (Kd.S_drew HO_177001.out); have n1_ := am (blk_drew BK175.out); have n2_ := am (blk_drew BK176.out); have n3_ := am (below_drew1 HB.out); clear HO_177001 BK175 BK176 HB; revert n0_ n1_ n2_ n3_; intro HO_177001 BK175 BK176 HB; refine start_ (n := 10) (S := fun w' => w'.cell? ⟨gb176, 0, none⟩ = some (.int .i64 (wrap64 (3 * a2))) ∧ w'.cell? ⟨gb176, 1, none⟩ = some (u177001)) (ds := [9]) (bA 10 0) (by kernel_rfl) rfl rfl ⟨cz BK176 0, cz BK176 1⟩ (fun hHeld => ?_); refine with_tabW spec_peHyper.tab5 spec_peHyper.bits5 (fun HT_ HW_ => ?_); generalize wr.drew = w13 at HO_177001 BK175 BK176 HB hHeld ⊢; refine pZ 0 (some 19) (bA 10 1) HT_.out ?_; refine pZ 2 (some 21) (bA 10 5) HT_.out ?_; refine pZ 3 (some 22) (bA 10 13) HT_.out ?_; refine pZ 4 (some 23) (bA 10 29) HT_.out ?_; refine tZ2 1 (some 20) (bA 10 31) HT_.out HW_.out hHeld ?_; refine oZ 5 (some 24) (bA 10 63) HT_.out (fun K hK => ?_); refine gZ Try.func163 #[.int .i64 a0, .string (rdOf ByteArray.empty l1 x15_1), .int .i64 a2] ?_
       with_reducible refine (spec_peTriple.calls k1 a0 (rdOf ByteArray.empty l1 x15_1) a2 t178 _ A11.out).mono ?_
       rintro e w14 ⟨v179, rfl, ho0, hb⟩; refine ⟨_, rfl, ?_⟩; have n0_ := am (Kd.S_elder' (by (with_reducible repeat (first | apply Kd.S_alloc | apply Kd.S_drewN | apply Kd.S_drew)); exact HO_177001.out) (Kd.R_base ho0) hb); have n1_ := Rm ho0 HB; have n2_ := Kb BK175 hb; have n3_ := Kb BK176 hb; have n4_ := Bc HB hb; clear HO_177001 BK175 BK176 HB; revert n0_ n1_ n2_ n3_ n4_; intro HO_177001 HO180 BK175 BK176 HB
       (try clear hb)
       (try clear hb2)
       (try clear hk)
       (try clear hi)
       (try clear ho0)
       obtain ⟨Ao16, co16, eo16⟩ := Kd.R_slice HO180.out
       (first | subst eo16 | (injection eo16 with f1_ f2_ f3_; have f4_ := f1_.symm; have f5_ := f3_.symm; clear f1_ f2_ f3_; subst f4_; subst f5_))
       refine hK.out _ _ ⟨cz BK176 0, cz BK176 1⟩ (fun hHeld => ?_); clear hK K; refine norm_ (a' := ?_) ?_ ?_; rotate_left; show Act.put _ (some 24) _ = _; simp only [aP, i64_w, i32_w]; rfl; refine oZ 6 (some 25) (bA 10 127) HT_.out (fun K hK => ?_); refine value_ (w1 := ?_) (v := ?_) (by rfl) rfl ?_ ?_
       rotate_left 2
       ·go_simp
        constructor
        ·rfl
        ·rfl
       refine hK.out _ _ ⟨(blk_cell (blk_alloc BK176.out _) 0).trans rfl, (blk_cell (blk_alloc BK176.out _) 1).trans rfl⟩ (fun hHeld => ?_); clear hK K; refine norm_ (a' := ?_) ?_ ?_; rotate_left; show Act.put _ (some 25) _ = _; simp only [aP, i64_w, i32_w]; rfl; refine oZ 7 (some 26) (bA 10 255) HT_.out (fun K hK => ?_); refine Kd.S_append_step (Kd.slice 3 (Kd.int .i64)) (w0 := w) w.heap.size (by rfl) (.tmp 20) (.tmp 25) 35 32 (.slice none 0 0) 24 rfl Try.underlying35 info32 rfl (by decide) (by omega) u177001 x177001_1 t178 [.slice Ao16 t178.length co16] (fun _ => True) (fun k_ => some k_ = (.slice Ao16 t178.length co16 : Value).ownBlock) rfl rfl ?aP (fun k_ hk_ => ((Kd.R_mono (ok' := fun k_ => ((fun _ => True)) k_ ∧ some k_ ≠ (u177001 : Value).ownBlock) (Kd.R_apart' (HO180.out) (Kd.S_typed HO_177001.out) (by decide)) (fun k_ hk => ⟨trivial, hk.2⟩))).1 k_ hk_.symm) ?aF ?aO ?aB ?aS ?aL ?_
       (case aP => exact Kd.M_row (Kd.R_mono (Kd.R_tight rfl (Kd.R_mono (ok' := fun k_ => ((fun _ => True)) k_ ∧ some k_ ≠ (u177001 : Value).ownBlock) (Kd.R_apart' (HO180.out) (Kd.S_typed HO_177001.out) (by decide)) (fun k_ hk => ⟨trivial, hk.2⟩))) (fun _ h_ => h_)))
       (case aB => exact (Bq))
       (case aF => exact (fun _ _ => trivial))
       (case aO => exact (by (with_reducible repeat (first | apply Kd.S_alloc | apply Kd.S_drewN | apply Kd.S_drew)); exact Kd.S_mono HO_177001.out (fun k_ hk => ⟨trivial, fun e_ => hk.2 e_⟩)))
       (case aS => exact (below_size (w := w) (Bq)))
       (case aL => have := LMc12.out; omega)
       intro v182 w15 ho hb hg hat; rw [← Ny181.out] at ho; have n0_ := am (blk_grown (g := gb175) (o := .cells #[.int .i64 0, .slice none 0 0] 37 (0, 0)) (Kz BK175.out) hg (Kd.S_ne HO_177001.out BK175.out (by decide))); have n1_ := am (blk_grown (g := gb176) (o := .cells #[.int .i64 (wrap64 (3 * a2)), u177001] 37 (0, 0)) (Kz BK176.out) hg (Kd.S_ne HO_177001.out BK176.out (by decide))); have n2_ := am (hb); have n3_ := am (ho); clear BK175 BK176 HB HO_177001 HO180; revert n0_ n1_ n2_ n3_; intro BK175 BK176 HB HO183; clear ho hb hg hat; obtain ⟨Ao17, co17, eo17⟩ := Kd.S_slice HO183.out
       (first | subst eo17 | (injection eo17 with f1_ f2_ f3_; have f4_ := f1_.symm; have f5_ := f3_.symm; clear f1_ f2_ f3_; subst f4_; subst f5_))
       refine hK.out _ _ ⟨cz BK176 0, cz BK176 1⟩ (fun hHeld => ?_); clear hK K; refine norm_ (a' := ?_) ?_ ?_; rotate_left; show Act.put _ (some 26) _ = _; simp only [aP, i64_w, i32_w]; rfl; refine pZ 8 (some 27) (bA 10 511) HT_.out ?_; refine lZ 9 none (bA 10 1023) HT_.out (fun K hK => ?_); have hs18 : w15.cell? ⟨gb176, 1, none⟩ = some (u177001) := cz BK176 1; have hfs18 := blk_frozen BK176.out 1; have hns18_0 := NB175_176.out; have hms18_0 := NB176_175.out; refine skip_ (w1 := ?_) (by rfl) rfl ?_ ?_
       rotate_left
       ·go_simp
        rfl
       refine hK.out _ _ ?_; clear hK K; refine done_ (done_of HT_.out (by kernel_rfl)) ?_
       try go_wp2
       go_roundg k1
       case measure => have := HK1.out; omega
       case rel => exact ⟨(wrap64 (x15_1 + 1)), (y181), (.slice Ao17 y181.length co17), wZ, H', ⟨by have := HK1.out; omega⟩, ⟨by (with_reducible repeat (first | apply Kd.S_alloc | apply Kd.S_drewN | apply Kd.S_drew)); exact Kd.S_mono (Kd.S_far (p := ⟨gb176, 1, none⟩) (Kd.S_types HO183.out BK176.out (by decide)) (fun _ hk => hk.2) (.slice Ao17 y181.length co17)) (fun _ hk => trivial)⟩, ⟨by (with_reducible repeat (first | refine blk_drewN ?_ _ | refine blk_drew ?_ | refine blk_alloc ?_ _)); refine blk_far ?_ NB175_176.out _; (with_reducible repeat (first | refine blk_drewN ?_ _ | refine blk_drew ?_ | refine blk_alloc ?_ _)); exact BK175.out⟩, ⟨by (with_reducible repeat (first | refine blk_drewN ?_ _ | refine blk_drew ?_ | refine blk_alloc ?_ _)); refine blk_put (cs := #[.int .i64 (wrap64 (3 * a2)), u177001]) ?_ 1 _ rfl; (with_reducible repeat (first | refine blk_drewN ?_ _ | refine blk_drew ?_ | refine blk_alloc ?_ _)); exact BK176.out⟩, ⟨Bq⟩⟩
      ·rw [if_neg c12] at H
       exact absurd H (by simp)
     ·rw [if_neg c10] at H
      exact absurd H (by simp)
    ·rw [if_neg c9] at H
     exact absurd H (by simp)
   ·rw [if_neg c8] at H
    have c8b0 : decide (x15_1 < (l1.length : Int)) = false := decide_eq_false c8; clear c8
    simp only [Option.some.injEq, Prod.mk.injEq] at H
    obtain ⟨rfl, rfl⟩ := H; have hnb19 := NB176_175.out; have hnc19 := NB175_176.out; obtain ⟨hcz20_0, hcz20_1, hfz20_0, hfz20_1⟩ := cf2 (w := wr) BK176; obtain ⟨hcz21_0, hcz21_1, hfz21_0, hfz21_1⟩ := cf2 (w := wr) BK175; obtain ⟨Ao22, co22, eo22⟩ := Kd.S_slice HO_177001.out; subst eo22
    go_wp2
    refine bodyPost_ret (results_cell_row rfl _ _ gb175 37 #[.int .i64 (wrap64 (3 * a2)), .slice Ao22 x177001_1.length co22] (0, 0) _ rfl (by (with_reducible repeat (first | refine blk_drewN ?_ _ | refine blk_drew ?_ | refine blk_alloc ?_ _)); refine blk_put (cs := #[.int .i64 (wrap64 (3 * a2)), .slice none 0 0]) ?_ 1 _ rfl; (with_reducible repeat (first | refine blk_drewN ?_ _ | refine blk_drew ?_ | refine blk_alloc ?_ _)); refine blk_put (cs := #[.int .i64 0, .slice none 0 0]) ?_ 0 _ rfl; exact Kz BK175.out) Try.underlying37 rfl (by kernel_rfl)) rfl ?_; exact ⟨_, eZ, by (with_reducible repeat (first | apply Kd.S_alloc | apply Kd.S_drewN | apply Kd.S_drew)); exact Kd.S_mono (Kd.S_far (p := ⟨gb175, 1, none⟩) (Kd.S_far (p := ⟨gb175, 0, none⟩) (Kd.S_types HO_177001.out BK175.out (by decide)) (fun _ hk => hk.2) (.int .i64 (wrap64 (3 * a2)))) (fun _ hk => hk.2) (.slice Ao22 x177001_1.length co22)) (fun _ hk => trivial), Bq⟩

def spec_reValue.l0 : Nat → Int → List Int → Int → Int → Int → Int → Int → List Int → Option (Int)
 | 0, _, _, _, _, _, _, _, _ => none
 | k + 1, x5, x13, x14, x15, x185000, x185001, x185002, x185003 => if x15 < x14 then (if 0 ≤ x15 then (if x15 < (x13.length : Int) then (if 0 ≤ (rd x13 x15) then (if (rd x13 x15) < (x185003.length : Int) then (spec_reValue.l0 k (Go.bits .xor .i64 x5 (rd x185003 (rd x13 x15))) x13 x14 (wrap64 (x15 + 1)) x185000 x185001 x185002 x185003) else (none)) else (none)) else (none)) else (none)) else (some x5)
def spec_reValue.f (k : Nat) (a0_0 : Int) (a0_1 : Int) (a0_2 : Int) (l0_3 : List Int) (a1 : ByteArray) : Option (Int) := (spec_peTriple.f k a0_0 a1 a0_1).bind fun t185 => (spec_reValue.l0 k 0 t185 (t185.length : Int) 0 a0_0 a0_1 a0_2 l0_3)
theorem spec_reValue.calls (k : Nat) (a0_0 : Int) (a0_1 : Int) (a0_2 : Int) (A0_3 : Option Addr) (c0_3 : Nat) (l0_3 : List Int) (a1 : ByteArray) (r : Int) (w : World) (hr0_3 : Kd.C (Kd.int .i64) w A0_3 l0_3.length l0_3) (hc0_3 : l0_3.length ≤ c0_3) (h : spec_reValue.f k a0_0 a0_1 a0_2 l0_3 a1 = some r) :
  Calls Try.prog 156 #[.agg #[.int .i64 a0_0, .int .i64 a0_1, .int .i64 a0_2, .slice A0_3 l0_3.length c0_3], .string a1] w fun e w' => e = .returned (.int .i64 r) ∧ Below w.heap.size w w' := by
 have hu70 := Try.underlying70; have HR0_3 := am hr0_3; have HC0_3 := am hc0_3; clear hr0_3 hc0_3; have HB := am (Below.refl w.heap.size w); have H : ((spec_peTriple.f k a0_0 a1 a0_1).bind fun t185 => (spec_reValue.l0 k 0 t185 (t185.length : Int) 0 a0_0 a0_1 a0_2 l0_3)) = some r := h; clear h; replace H := Option.bind_eq_some_iff.mp H; obtain ⟨t185, A30, H⟩ := H; (try dsimp -simprocs only at H); have A3 := am A30; clear A30; have H' := am H; clear H
 go_enter Try.func156, Try.ntmps156
 go_wp2_with (first | ((with_reducible refine gate_dst (N := 2) rfl ?_); refine bE 2 #[.int .i64 a0_0, .int .i64 a0_1, .int .i64 a0_2, .slice A0_3 l0_3.length c0_3] 70 ?_; intro gb184 hg w4 hbox hb; have n0_ := Bb HB hb; have n1_ := am (hbox); have n2_ := Gl HB hg; have n3_ := Gl HB hg; clear HB; revert n0_ n1_ n2_ n3_; intro HB BK184 GW184 GE184; clear hb hbox hg; obtain ⟨hcz5_0, hcz5_1, hcz5_2, hcz5_3, hfz5_0, hfz5_1, hfz5_2, hfz5_3⟩ := cf4 (w := w4) BK184) | ((with_reducible refine gate_callee (f := 163) rfl ?_); refine gL (some 13) Try.func163 #[.int .i64 a0_0, .string a1, .int .i64 a0_1] ?_; (with_reducible refine (spec_peTriple.calls k a0_0 a1 a0_1 t185 _ A3.out).mono ?_); rintro e w6 ⟨v186, rfl, ho0, hb⟩; refine ⟨_, rfl, ?_⟩; have n0_ := Rm ho0 HB; have n1_ := Kb BK184 hb; have n2_ := Bc HB hb; clear BK184 HB; revert n0_ n1_ n2_; intro HO187 BK184 HB; (try clear hb); (try clear hb2); (try clear hk); (try clear hi); (try clear ho0); obtain ⟨Ao7, co7, eo7⟩ := Kd.R_slice HO187.out; subst eo7))
 (try simp only [aP])
 go_loopg [5, 15] k (fun kq v5 v15 w' => ∃ (x5_1 : Int) (x15_1 : Int), v5 = .int .i64 x5_1 ∧ v15 = .int .i64 x15_1 ∧ Aside0 (spec_reValue.l0 kq x5_1 t185 (t185.length : Int) x15_1 a0_0 a0_1 a0_2 l0_3 = some r) ∧ Aside0 (kq ≤ k) ∧ Aside0 (Kd.R (Kd.int .i64) 3 w' w.heap.size (fun _ => True) (.slice Ao7 t185.length co7) t185) ∧ Aside0 (w'.heap[gb184]? = some (.cells #[.int .i64 a0_0, .int .i64 a0_1, .int .i64 a0_2, (.slice A0_3 l0_3.length c0_3)] 70 (0, 0))) ∧ Aside0 (Below w.heap.size w w'))
 case atStart => exact ⟨(0), (0), wZ, wZ, H', ⟨Nat.le_refl _⟩, ⟨Rz HO187.out⟩, ⟨Kz BK184.out⟩, ⟨Bq⟩⟩
 case round =>
  clear H'
  try clear c1
  try clear p2
  try clear hcz5_0
  try clear hcz5_1
  try clear hcz5_2
  try clear hcz5_3
  try clear hfz5_0
  try clear hfz5_1
  try clear hfz5_2
  try clear hfz5_3
  obtain ⟨x5_1, x15_1, rfl, rfl, HA, HK1, HO_13, BK184, HB⟩ := hrel; cases gk with
  | zero => exact absurd HA.out (by simp [spec_reValue.l0])
  | succ k1 =>
   have H := HA.out; clear HA
   simp only [spec_reValue.l0] at H
   by_cases c8 : x15_1 < (t185.length : Int)
   ·rw [if_pos c8] at H
    have c8b0 : decide (x15_1 < (t185.length : Int)) = true := decide_eq_true c8; clear c8
    by_cases c9 : 0 ≤ x15_1
    ·rw [if_pos c9] at H
     have c9b0 : decide (0 ≤ x15_1) = true := decide_eq_true c9; clear c9
     by_cases c10 : x15_1 < (t185.length : Int)
     ·rw [if_pos c10] at H
      have c10b0 : decide (x15_1 < (t185.length : Int)) = true := decide_eq_true c10; clear c10
      by_cases c11 : 0 ≤ (rd t185 x15_1)
      ·rw [if_pos c11] at H
       have c11b0 : decide (0 ≤ (rd t185 x15_1)) = true := decide_eq_true c11; clear c11
       by_cases c12 : (rd t185 x15_1) < (l0_3.length : Int)
       ·rw [if_pos c12] at H
        have c12b0 : decide ((rd t185 x15_1) < (l0_3.length : Int)) = true := decide_eq_true c12; clear c12; have H' := am H; clear H; obtain ⟨ad188, e188, hx188_0⟩ := Kd.at_int (Kd.R_reads' HO_13.out).2.2 x15_1 dT dT; cases e188; have p188 := eT (0 ≤ (x15_1 : Int)); have q188 := eT (x15_1 < (t185.length : Int)); obtain ⟨hcz13_0, hcz13_1, hcz13_2, hcz13_3, hfz13_0, hfz13_1, hfz13_2, hfz13_3⟩ := cf4 (w := wr) BK184; have p189 : 0 ≤ ((rd t185 x15_1) : Int) := dT; have q189 : (rd t185 x15_1) < (l0_3.length : Int) := dT; obtain ⟨ad189, e189, hx189_0⟩ := Kd.at_int HR0_3.out (rd t185 x15_1) p189 q189; cases e189; replace hx189_0 := (HB.out.cell (World.block_lt_of_cell? w _ hx189_0)).trans hx189_0; replace p189 := eq_true p189; replace q189 := eq_true q189
        go_wp2
        go_roundg k1
        case measure => have := HK1.out; omega
        case rel => exact ⟨(Go.bits .xor .i64 x5_1 (rd l0_3 (rd t185 x15_1))), (wrap64 (x15_1 + 1)), wZ, wZ, H', ⟨by have := HK1.out; omega⟩, ⟨Rz HO_13.out⟩, ⟨Kz BK184.out⟩, ⟨Bq⟩⟩
       ·rw [if_neg c12] at H
        exact absurd H (by simp)
      ·rw [if_neg c11] at H
       exact absurd H (by simp)
     ·rw [if_neg c10] at H
      exact absurd H (by simp)
    ·rw [if_neg c9] at H
     exact absurd H (by simp)
   ·rw [if_neg c8] at H
    have c8b0 : decide (x15_1 < (t185.length : Int)) = false := decide_eq_false c8; clear c8; obtain rfl := Option.some.inj H
    go_wp2
    go_ret
    exact ⟨eZ, Bq⟩

def spec_rePeeled.l0 : Nat → List ByteArray → List Int → List (S51) → Int → Int → Int → Int → List Int → Option (Int × Int × Int × List Int × Bool)
 | 0, _, _, _, _, _, _, _, _ => none
 | k + 1, x1, x2, x13, x16, x206000, x206001, x206002, x206003 => if x16 ≥ 0 then (if 0 ≤ x16 then (if x16 < (x13.length : Int) then (if 0 ≤ ((rd_T51 x13 x16).f0) then (if ((rd_T51 x13 x16).f0) < (x2.length : Int) then (if ((rd_T51 x13 x16).f0) < (x1.length : Int) then ((spec_reValue.f k x206000 x206001 x206002 x206003 (rdOf ByteArray.empty x1 ((rd_T51 x13 x16).f0))).bind fun t210 => (if 0 ≤ ((rd_T51 x13 x16).f1) then (if ((rd_T51 x13 x16).f1) < (x206003.length : Int) then (spec_rePeeled.l0 k x1 x2 x13 (wrap64 (x16 - 1)) x206000 x206001 x206002 (x206003.set (((rd_T51 x13 x16).f1) : Int).toNat (Go.bits .xor .i64 (rd x2 ((rd_T51 x13 x16).f0)) t210))) else (none)) else (none))) else (none)) else (none)) else (none)) else (none)) else (none)) else (some (x206000, x206001, x206002, x206003, true))
def spec_rePeeled.f (k : Nat) (a0 : Int) (l1 : List ByteArray) (l2 : List Int) (a3 : Int) (a4 : Int) : Option (Int × Int × Int × List Int × Bool) := (spec_peHyper.f k a0 l1 a3).bind fun bt191 => ((spec_pePeel.f k bt191.1 bt191.2 ([] : List Int) true).bind fun bt196 => (if (bt196.2.length : Int) > 0 then (some (0, 0, 0, ([] : List Int), false)) else (if 0 ≤ (wrap64 (3 * a3)) then (if (wrap64 (3 * a3) : Int).toNat ≤ 35184372088832 then (spec_rePeeled.l0 k l1 l2 bt196.1 (wrap64 ((bt196.1.length : Int) - 1)) a0 a3 a4 (List.replicate (wrap64 (3 * a3) : Int).toNat 0)) else (none)) else (none))))
def spec_rePeeled.T10 : Bool × List (List Nat × List Nat) := (true, [([], []), ([0], [0]), ([], []), ([2], [2]), ([], []), ([], []), ([5], [5]), ([4, 6], [4, 6]), ([7], [7]), ([], []), ([], []), ([], []), ([11], [11]), ([10, 12], [10, 12]), ([13], [13]), ([9, 14], [9, 14]), ([8, 15], [8, 15]), ([1, 3, 0, 1, 2, 3, 4, 5, 6, 7, 8, 9, 10, 11, 12, 13, 14, 15, 16], [1, 3]), ([17, 16, 15, 0, 1, 2, 3, 4, 5, 6, 7, 8, 9, 10, 11, 12, 13, 14, 15, 16], [16, 17])])
def spec_rePeeled.B10 : List Nat := [0, 1, 0, 4, 0, 0, 32, 112, 240, 0, 0, 0, 2048, 7168, 15360, 32256, 65520, 131071, 262143]
theorem spec_rePeeled.tab10 : rtab .any (opsOf Try.f130 10) = spec_rePeeled.T10 := by kernel_rfl
theorem spec_rePeeled.bits10 : waitsOk spec_rePeeled.T10.2 spec_rePeeled.B10 = true := by kernel_rfl
theorem spec_rePeeled.calls (k : Nat) (a0 : Int) (A1 : Option Addr) (c1 : Nat) (l1 : List ByteArray) (A2 : Option Addr) (c2 : Nat) (l2 : List Int) (a3 : Int) (a4 : Int) (r1 : Int) (r2 : Int) (r3 : Int) (r4 : List Int) (r5 : Bool) (w : World) (hr1 : Kd.C Kd.string w A1 l1.length l1) (hc1 : l1.length ≤ c1) (hr2 : Kd.C (Kd.int .i64) w A2 l2.length l2) (hc2 : l2.length ≤ c2) (h : spec_rePeeled.f k a0 l1 l2 a3 a4 = some (r1, r2, r3, r4, r5)) :
  Calls Try.prog 130 #[.int .i64 a0, .slice A1 l1.length c1, .slice A2 l2.length c2, .int .i64 a3, .int .i64 a4] w fun e w' => ∃ v3_ : Value, e = .returned (.tuple #[.agg #[.int .i64 r1, .int .i64 r2, .int .i64 r3, v3_], .bool r5]) ∧ Kd.R (Kd.int .i64) 3 w' w.heap.size (fun _ => True) v3_ r4 ∧ Below w.heap.size w w' := by
 have hu70 := Try.underlying70; have hu37 := Try.underlying37; have hu51 := Try.underlying51; have HR1 := am hr1; have HC1 := am hc1; clear hr1 hc1; have HR2 := am hr2; have HC2 := am hc2; clear hr2 hc2; have HB := am (Below.refl w.heap.size w); have H : ((spec_peHyper.f k a0 l1 a3).bind fun bt191 => ((spec_pePeel.f k bt191.1 bt191.2 ([] : List Int) true).bind fun bt196 => (if (bt196.2.length : Int) > 0 then (some (0, 0, 0, ([] : List Int), false)) else (if 0 ≤ (wrap64 (3 * a3)) then (if (wrap64 (3 * a3) : Int).toNat ≤ 35184372088832 then (spec_rePeeled.l0 k l1 l2 bt196.1 (wrap64 ((bt196.1.length : Int) - 1)) a0 a3 a4 (List.replicate (wrap64 (3 * a3) : Int).toNat 0)) else (none)) else (none))))) = some (r1, r2, r3, r4, r5) := h; clear h; replace H := Option.bind_eq_some_iff.mp H; obtain ⟨⟨t191, t192⟩, A60, H⟩ := H; (try dsimp -simprocs only at H); have A6 := am A60; clear A60; replace H := Option.bind_eq_some_iff.mp H; obtain ⟨⟨t196, t199⟩, A70, H⟩ := H; (try dsimp -simprocs only at H); have A7 := am A70; clear A70
 by_cases c8 : (t199.length : Int) > 0
 ·rw [if_pos c8] at H
  have c8b0 : decide (0 < (t199.length : Int)) = true := decide_eq_true c8; have c8b1 : decide (0 < t199.length) = true := decide_eq_true (by omega); clear c8
  simp only [Option.some.injEq, Prod.mk.injEq] at H
  obtain ⟨rfl, rfl, rfl, rfl, rfl⟩ := H
  go_enter Try.func130, Try.ntmps130
  go_wp2_with (first | ((with_reducible refine gate_dst (N := 10) rfl ?_); refine bE 10 #[.int .i64 0, .int .i64 0, .int .i64 0, .slice none 0 0] 70 ?_; intro gb190 hg w9 hbox hb; have n0_ := Bb HB hb; have n1_ := am (hbox); have n2_ := Gl HB hg; have n3_ := Gl HB hg; clear HB; revert n0_ n1_ n2_ n3_; intro HB BK190 GW190 GE190; clear hb hbox hg) | ((with_reducible refine gate_callee (f := 144) rfl ?_); refine gL (some 21) Try.func144 #[.int .i64 a0, .slice A1 l1.length c1, .int .i64 a3] ?_; (with_reducible refine (spec_peHyper.calls k a0 _ _ l1 a3 t191 t192 _ ?side1 ?side2 A6.out).mono ?_); (case side1 => exact Cz (Kd.C_below HR1.out HB.out)); (case side2 => exact HC1.out); rintro e w10 ⟨v193, rfl, ho0, hb⟩; refine ⟨_, rfl, ?_⟩; have n0_ := am (Kd.S_lower ho0 (below_size (w := w) (Bq))); have n1_ := Kb BK190 hb; have n2_ := Bc HB hb; clear BK190 HB; revert n0_ n1_ n2_; intro HO194 BK190 HB; (try clear hb); (try clear hb2); (try clear hk); (try clear hi); (try clear ho0)) | ((with_reducible refine gate_dst (N := 12) rfl ?_); refine bE 12 #[.int .i64 0, .slice none 0 0] 37 ?_; intro gb195 hg w11 hbox hb; have n0_ := am (Kd.S_below (by (with_reducible repeat (first | apply Kd.S_alloc | apply Kd.S_drewN | apply Kd.S_drew)); exact HO194.out) hb); have n1_ := Kb BK190 hb; have n2_ := Bc HB hb; have n3_ := am (hbox); have n4_ := Gm HB hg; have n5_ := Gm HB hg; have n6_ := Nl BK190 hg; have n7_ := Ng BK190 hg; clear HO194 BK190 HB; revert n0_ n1_ n2_ n3_ n4_ n5_ n6_ n7_; intro HO194 BK190 HB BK195 GW195 GE195 NB190_195 NB195_190; clear hb hbox hg; have hnb12 := NB195_190.out; have hnc12 := NB190_195.out; obtain ⟨hcz13_0, hcz13_1, hfz13_0, hfz13_1⟩ := cf2 (w := w11) BK195; obtain ⟨Ao14, co14, eo14⟩ := Kd.S_slice HO194.out; subst eo14) | ((with_reducible refine gate_callee (f := 98) rfl ?_); refine gL (some 24) Try.func98 #[.agg #[.int .i64 t191, .slice Ao14 t192.length co14], .slice none 0 0, .bool true] ?_; (refine (spec_pePeel.calls k t191 _ _ t192 _ _ ([] : List Int) true t196 t199 _ ?side1 ?side2 ?side3 ?side4 A7.out).mono ?_); (case side1 => refine (Kd.S_reads' (e := 32) (base := w.heap.size) (ok := fun k_ => True) (n := t192.length) (c := co14) ?_).2.2; exact (by (with_reducible repeat (first | apply Kd.S_alloc | apply Kd.S_drewN | apply Kd.S_drew)); exact (Kd.S_mono (Kd.S_far (p := ⟨gb195, 1, none⟩) (Kd.S_far (p := ⟨gb195, 0, none⟩) (Kd.S_types HO194.out BK195.out (by decide)) (fun _ hk => hk.2) (.int .i64 t191)) (fun _ hk => hk.2) (.slice Ao14 t192.length co14)) (fun _ h_ => h_.1)))); (case side2 => exact (Kd.S_reads' HO194.out).2.1); (case side3 => exact Kd.C_nil _ _); (case side4 => exact Nat.le_refl _); rintro e w15 ⟨v197, v200, rfl, ho0, ho1, hb⟩; refine ⟨_, rfl, ?_⟩; have n0_ := am (Kd.S_elder' (by (with_reducible repeat (first | apply Kd.S_alloc | apply Kd.S_drewN | apply Kd.S_drew)); exact (Kd.S_mono (Kd.S_far (p := ⟨gb195, 1, none⟩) (Kd.S_far (p := ⟨gb195, 0, none⟩) (Kd.S_types HO194.out BK195.out (by decide)) (fun _ hk => hk.2) (.int .i64 t191)) (fun _ hk => hk.2) (.slice Ao14 t192.length co14)) (fun _ h_ => h_.1))) (Kd.R_base ho1) hb); have n1_ := Rm ho0 HB; have n2_ := Rm ho1 HB; have n3_ := am (blk_below (g := gb190) (o := .cells #[.int .i64 0, .int .i64 0, .int .i64 0, .slice none 0 0] 70 (0, 0)) (by (with_reducible repeat (first | refine blk_drewN ?_ _ | refine blk_drew ?_ | refine blk_alloc ?_ _)); refine blk_far ?_ NB190_195.out _; (with_reducible repeat (first | refine blk_drewN ?_ _ | refine blk_drew ?_ | refine blk_alloc ?_ _)); refine blk_far ?_ NB190_195.out _; exact Kz BK190.out) hb); have n4_ := am (blk_below (g := gb195) (o := .cells #[.int .i64 t191, .slice Ao14 t192.length co14] 37 (0, 0)) (by (with_reducible repeat (first | refine blk_drewN ?_ _ | refine blk_drew ?_ | refine blk_alloc ?_ _)); refine blk_put (cs := #[.int .i64 t191, .slice none 0 0]) ?_ 1 _ rfl; (with_reducible repeat (first | refine blk_drewN ?_ _ | refine blk_drew ?_ | refine blk_alloc ?_ _)); refine blk_put (cs := #[.int .i64 0, .slice none 0 0]) ?_ 0 _ rfl; exact Kz BK195.out) hb); have n5_ := Bc HB hb; clear HO194 BK190 BK195 HB; revert n0_ n1_ n2_ n3_ n4_ n5_; intro HO194 HO198 HO201 BK190 BK195 HB; (try clear hb); (try clear hb2); (try clear hk); (try clear hi); (try clear ho0); (try clear ho1); obtain ⟨Ao16, co16, eo16⟩ := Kd.R_slice HO201.out; subst eo16; obtain ⟨hcz17_0, hcz17_1, hcz17_2, hcz17_3, hfz17_0, hfz17_1, hfz17_2, hfz17_3⟩ := cf4 (w := w15) BK190))
  refine bodyPost_ret (results_ct rfl _ _ gb190 70 #[.int .i64 0, .int .i64 0, .int .i64 0, .slice none 0 0] (0, 0) _ rfl (by (with_reducible repeat (first | refine blk_drewN ?_ _ | refine blk_drew ?_ | refine blk_alloc ?_ _)); refine blk_put (cs := #[.int .i64 0, .int .i64 0, .int .i64 0, .slice none 0 0]) ?_ 3 _ rfl; (with_reducible repeat (first | refine blk_drewN ?_ _ | refine blk_drew ?_ | refine blk_alloc ?_ _)); refine blk_put (cs := #[.int .i64 0, .int .i64 0, .int .i64 0, .slice none 0 0]) ?_ 2 _ rfl; (with_reducible repeat (first | refine blk_drewN ?_ _ | refine blk_drew ?_ | refine blk_alloc ?_ _)); refine blk_put (cs := #[.int .i64 0, .int .i64 0, .int .i64 0, .slice none 0 0]) ?_ 1 _ rfl; (with_reducible repeat (first | refine blk_drewN ?_ _ | refine blk_drew ?_ | refine blk_alloc ?_ _)); refine blk_put (cs := #[.int .i64 0, .int .i64 0, .int .i64 0, .slice none 0 0]) ?_ 0 _ rfl; exact Kz BK190.out) Try.underlying70 rfl (by kernel_rfl)) rfl ?_; exact ⟨_, eZ, nZ, Bq⟩
 ·rw [if_neg c8] at H
  have c8b0 : decide (0 < (t199.length : Int)) = false := decide_eq_false c8; have c8b1 : decide (0 < t199.length) = false := decide_eq_false (by omega); clear c8; obtain ⟨ji18, hji18⟩ : ∃ j_ : Int, (wrap64 (3 * a3)) = j_ := ⟨_, rfl⟩
  replace H : (if 0 ≤ (ji18) then (if (ji18 : Int).toNat ≤ 35184372088832 then (spec_rePeeled.l0 k l1 l2 t196 (wrap64 ((t196.length : Int) - 1)) a0 a3 a4 (List.replicate (ji18 : Int).toNat 0)) else (none)) else (none)) = some (r1, r2, r3, r4, r5) := by first | (rw [hji18] at H; exact H) | (simp only [hji18] at H ⊢; exact H)
  (try rw [hji18] at A6)
  (try rw [hji18] at A7)
  have hji18w : (IntKind.i64.wrap (3 * a3)) = ji18 := (i64_w _).trans hji18
  by_cases c19 : 0 ≤ (ji18)
  ·rw [if_pos c19] at H
   have c19b0 := eq_true c19; have c19b1 : decide (0 ≤ (ji18)) = true := decide_eq_true c19; clear c19
   by_cases c20 : (ji18 : Int).toNat ≤ 35184372088832
   ·rw [if_pos c20] at H
    have c20b0 := eq_true c20; have c20b1 : decide ((ji18 : Int).toNat ≤ 35184372088832) = true := decide_eq_true c20; clear c20; obtain ⟨y202, hy202⟩ : ∃ y_ : List Int, y_ = (List.replicate (ji18 : Int).toNat 0) := ⟨_, rfl⟩
    replace H : (spec_rePeeled.l0 k l1 l2 t196 (wrap64 ((t196.length : Int) - 1)) a0 a3 a4 y202) = some (r1, r2, r3, r4, r5) := by first | (rw [hy202]; with_reducible exact H) | (have H2_ := (Option.bind_some _ _).symm.trans H; rw [hy202]; with_reducible exact H2_) | (have H2_ := (Option.bind_some _ _).symm.trans H; with_reducible exact H2_) | with_reducible exact H | (rw [hy202]; exact H) | exact H
    have Ny202 := am hy202; clear hy202; have H' := am H; clear H
    go_enter Try.func130, Try.ntmps130
    go_wp2_with (first | ((with_reducible refine gate_dst (N := 10) rfl ?_); refine bE 10 #[.int .i64 0, .int .i64 0, .int .i64 0, .slice none 0 0] 70 ?_; intro gb190 hg w21 hbox hb; have n0_ := Bb HB hb; have n1_ := am (hbox); have n2_ := Gl HB hg; have n3_ := Gl HB hg; clear HB; revert n0_ n1_ n2_ n3_; intro HB BK190 GW190 GE190; clear hb hbox hg) | ((with_reducible refine gate_callee (f := 144) rfl ?_); refine gL (some 21) Try.func144 #[.int .i64 a0, .slice A1 l1.length c1, .int .i64 a3] ?_; (with_reducible refine (spec_peHyper.calls k a0 _ _ l1 a3 t191 t192 _ ?side1 ?side2 A6.out).mono ?_); (case side1 => exact Cz (Kd.C_below HR1.out HB.out)); (case side2 => exact HC1.out); rintro e w22 ⟨v193, rfl, ho0, hb⟩; refine ⟨_, rfl, ?_⟩; have n0_ := am (Kd.S_lower ho0 (below_size (w := w) (Bq))); have n1_ := Kb BK190 hb; have n2_ := Bc HB hb; clear BK190 HB; revert n0_ n1_ n2_; intro HO194 BK190 HB; (try clear hb); (try clear hb2); (try clear hk); (try clear hi); (try clear ho0)) | ((with_reducible refine gate_dst (N := 12) rfl ?_); refine bE 12 #[.int .i64 0, .slice none 0 0] 37 ?_; intro gb195 hg w23 hbox hb; have n0_ := am (Kd.S_below (by (with_reducible repeat (first | apply Kd.S_alloc | apply Kd.S_drewN | apply Kd.S_drew)); exact HO194.out) hb); have n1_ := Kb BK190 hb; have n2_ := Bc HB hb; have n3_ := am (hbox); have n4_ := Gm HB hg; have n5_ := Gm HB hg; have n6_ := Nl BK190 hg; have n7_ := Ng BK190 hg; clear HO194 BK190 HB; revert n0_ n1_ n2_ n3_ n4_ n5_ n6_ n7_; intro HO194 BK190 HB BK195 GW195 GE195 NB190_195 NB195_190; clear hb hbox hg; have hnb24 := NB195_190.out; have hnc24 := NB190_195.out; obtain ⟨hcz25_0, hcz25_1, hfz25_0, hfz25_1⟩ := cf2 (w := w23) BK195; obtain ⟨Ao26, co26, eo26⟩ := Kd.S_slice HO194.out; subst eo26) | ((with_reducible refine gate_callee (f := 98) rfl ?_); refine gL (some 24) Try.func98 #[.agg #[.int .i64 t191, .slice Ao26 t192.length co26], .slice none 0 0, .bool true] ?_; (refine (spec_pePeel.calls k t191 _ _ t192 _ _ ([] : List Int) true t196 t199 _ ?side1 ?side2 ?side3 ?side4 A7.out).mono ?_); (case side1 => refine (Kd.S_reads' (e := 32) (base := w.heap.size) (ok := fun k_ => True) (n := t192.length) (c := co26) ?_).2.2; exact (by (with_reducible repeat (first | apply Kd.S_alloc | apply Kd.S_drewN | apply Kd.S_drew)); exact (Kd.S_mono (Kd.S_far (p := ⟨gb195, 1, none⟩) (Kd.S_far (p := ⟨gb195, 0, none⟩) (Kd.S_types HO194.out BK195.out (by decide)) (fun _ hk => hk.2) (.int .i64 t191)) (fun _ hk => hk.2) (.slice Ao26 t192.length co26)) (fun _ h_ => h_.1)))); (case side2 => exact (Kd.S_reads' HO194.out).2.1); (case side3 => exact Kd.C_nil _ _); (case side4 => exact Nat.le_refl _); rintro e w27 ⟨v197, v200, rfl, ho0, ho1, hb⟩; refine ⟨_, rfl, ?_⟩; have n0_ := am (Kd.S_elder' (by (with_reducible repeat (first | apply Kd.S_alloc | apply Kd.S_drewN | apply Kd.S_drew)); exact (Kd.S_mono (Kd.S_far (p := ⟨gb195, 1, none⟩) (Kd.S_far (p := ⟨gb195, 0, none⟩) (Kd.S_types HO194.out BK195.out (by decide)) (fun _ hk => hk.2) (.int .i64 t191)) (fun _ hk => hk.2) (.slice Ao26 t192.length co26)) (fun _ h_ => h_.1))) (Kd.R_base ho1) hb); have n1_ := Rm ho0 HB; have n2_ := Rm ho1 HB; have n3_ := am (blk_below (g := gb190) (o := .cells #[.int .i64 0, .int .i64 0, .int .i64 0, .slice none 0 0] 70 (0, 0)) (by (with_reducible repeat (first | refine blk_drewN ?_ _ | refine blk_drew ?_ | refine blk_alloc ?_ _)); refine blk_far ?_ NB190_195.out _; (with_reducible repeat (first | refine blk_drewN ?_ _ | refine blk_drew ?_ | refine blk_alloc ?_ _)); refine blk_far ?_ NB190_195.out _; exact Kz BK190.out) hb); have n4_ := am (blk_below (g := gb195) (o := .cells #[.int .i64 t191, .slice Ao26 t192.length co26] 37 (0, 0)) (by (with_reducible repeat (first | refine blk_drewN ?_ _ | refine blk_drew ?_ | refine blk_alloc ?_ _)); refine blk_put (cs := #[.int .i64 t191, .slice none 0 0]) ?_ 1 _ rfl; (with_reducible repeat (first | refine blk_drewN ?_ _ | refine blk_drew ?_ | refine blk_alloc ?_ _)); refine blk_put (cs := #[.int .i64 0, .slice none 0 0]) ?_ 0 _ rfl; exact Kz BK195.out) hb); have n5_ := Bc HB hb; clear HO194 BK190 BK195 HB; revert n0_ n1_ n2_ n3_ n4_ n5_; intro HO194 HO198 HO201 BK190 BK195 HB; (try clear hb); (try clear hb2); (try clear hk); (try clear hi); (try clear ho0); (try clear ho1); obtain ⟨Ao28, co28, eo28⟩ := Kd.R_slice HO201.out; subst eo28) | ((with_reducible refine gate_dst (N := 36) rfl ?_); refine Kd.R_make (Kd.int .i64) _ 3 rfl (N := 36) rfl 32 _ _ rfl ji18 rfl rfl Try.underlying32 (.int .i64 0) 8 info3 rfl (by decide) (by omega) 0 (ok := fun _ => True) (okp := fun _ => True) rfl (fun _ hk => hk) trivial (dT) (Nat.le_trans (Nat.mul_le_mul_right _ (dT : ji18.toNat ≤ 35184372088832)) (by omega)) (Below.refl _ _) (Nat.le_refl _) ?_; intro v203 w29 ho30 hb hg_ hnew_; clear hg_ hnew_; (first | rw [← Ny202.out] at ho30 | (simp only [Int.reduceToNat] at ho30; rw [← Ny202.out] at ho30)); have n0_ := am (Kd.S_elder' (by (with_reducible repeat (first | apply Kd.S_alloc | apply Kd.S_drewN | apply Kd.S_drew)); exact HO194.out) (Kd.R_base ho30) hb); have n1_ := Rb HO198 hb; have n2_ := Re HO201 (Kd.R_base ho30) hb; have n3_ := Rm (Kd.R_new' ho30 (Kd.R_lt (Rz HO201.out))) HB; have n4_ := Kb BK190 hb; have n5_ := Kb BK195 hb; have n6_ := Bc HB hb; clear HO194 HO198 HO201 BK190 BK195 HB; revert n0_ n1_ n2_ n3_ n4_ n5_ n6_; intro HO194 HO198 HO201 HO204 BK190 BK195 HB; clear hb ho30; obtain ⟨Ao31, co31, eo31⟩ := Kd.R_slice HO204.out; subst eo31) | ((with_reducible refine gate_dst (N := 15) rfl ?_); refine bE 15 #[.int .i64 0, .int .i64 0, .int .i64 0, .slice none 0 0] 70 ?_; intro gb205 hg w32 hbox hb; have n0_ := am (Kd.S_below (by (with_reducible repeat (first | apply Kd.S_alloc | apply Kd.S_drewN | apply Kd.S_drew)); exact HO194.out) hb); have n1_ := Rb HO198 hb; have n2_ := Rb HO201 hb; have n3_ := Rb HO204 hb; have n4_ := Kb BK190 hb; have n5_ := Kb BK195 hb; have n6_ := Bc HB hb; have n7_ := am (hbox); have n8_ := Gm HB hg; have n9_ := Gm HB hg; have n10_ := Nl BK190 hg; have n11_ := Ng BK190 hg; have n12_ := Nl BK195 hg; have n13_ := Ng BK195 hg; clear HO194 HO198 HO201 HO204 BK190 BK195 HB; revert n0_ n1_ n2_ n3_ n4_ n5_ n6_ n7_ n8_ n9_ n10_ n11_ n12_ n13_; intro HO194 HO198 HO201 HO204 BK190 BK195 HB BK205 GW205 GE205 NB190_205 NB205_190 NB195_205 NB205_195; clear hb hbox hg; have hnb33 := NB205_190.out; have hnc33 := NB190_205.out; have hnb34 := NB205_195.out; have hnc34 := NB195_205.out; obtain ⟨hcz35_0, hcz35_1, hcz35_2, hcz35_3, hfz35_0, hfz35_1, hfz35_2, hfz35_3⟩ := cf4 (w := w32) BK205; obtain ⟨Ao36, co36, eo36⟩ := Kd.R_slice HO198.out; subst eo36))
    (try simp only [aP])
    go_loopg [16] k (fun kq v16 w' => ∃ (x16_1 : Int) (x206003_1 : List Int) (u206003 : Value), v16 = .int .i64 x16_1 ∧ Aside0 (spec_rePeeled.l0 kq l1 l2 t196 x16_1 a0 a3 a4 x206003_1 = some (r1, r2, r3, r4, r5)) ∧ Aside0 (kq ≤ k) ∧ Aside0 (Kd.R k51 51 w' w.heap.size (fun _ => True) (.slice Ao36 t196.length co36) t196) ∧ Aside0 (Kd.S (Kd.slice 3 (Kd.int .i64)) 32 w' w.heap.size (fun k_ => some k_ ≠ (u206003 : Value).ownBlock) (.slice Ao26 t192.length co26) t192) ∧ Aside0 (Kd.R (Kd.int .i64) 3 w' w.heap.size (fun _ => True) u206003 x206003_1) ∧ Aside0 (w'.heap[gb190]? = some (.cells #[.int .i64 0, .int .i64 0, .int .i64 0, (.slice none 0 0)] 70 (0, 0))) ∧ Aside0 (w'.heap[gb195]? = some (.cells #[.int .i64 t191, (.slice Ao26 t192.length co26)] 37 (0, 0))) ∧ Aside0 (w'.heap[gb205]? = some (.cells #[.int .i64 a0, .int .i64 a3, .int .i64 a4, u206003] 70 (0, 0))) ∧ Aside0 (Below w.heap.size w w'))
    case atStart => exact ⟨(wrap64 ((t196.length : Int) - 1)), (y202), (.slice Ao31 y202.length co31), wZ, H', ⟨Nat.le_refl _⟩, ⟨Rz (Kd.R_mono (Kd.R_far (p := ⟨gb205, 3, none⟩) (Kd.R_far (p := ⟨gb205, 2, none⟩) (Kd.R_far (p := ⟨gb205, 1, none⟩) (Kd.R_far (p := ⟨gb205, 0, none⟩) (Kd.R_types HO198.out BK205.out (by decide)) (fun _ hk => hk.2) (.int .i64 a0)) (fun _ hk => hk.2) (.int .i64 a3)) (fun _ hk => hk.2) (.int .i64 a4)) (fun _ hk => hk.2) (.slice Ao31 y202.length co31)) (fun _ hk => trivial))⟩, ⟨by (with_reducible repeat (first | apply Kd.S_alloc | apply Kd.S_drewN | apply Kd.S_drew)); exact Kd.S_mono (Kd.S_far (p := ⟨gb205, 3, none⟩) (Kd.S_far (p := ⟨gb205, 2, none⟩) (Kd.S_far (p := ⟨gb205, 1, none⟩) (Kd.S_far (p := ⟨gb205, 0, none⟩) (Kd.S_types HO194.out BK205.out (by decide)) (fun _ hk => hk.2) (.int .i64 a0)) (fun _ hk => hk.2) (.int .i64 a3)) (fun _ hk => hk.2) (.int .i64 a4)) (fun _ hk => hk.2) (.slice Ao31 y202.length co31)) (fun _ hk => hk.1.2)⟩, ⟨Rz (Kd.R_mono (Kd.R_far (p := ⟨gb205, 3, none⟩) (Kd.R_far (p := ⟨gb205, 2, none⟩) (Kd.R_far (p := ⟨gb205, 1, none⟩) (Kd.R_far (p := ⟨gb205, 0, none⟩) (Kd.R_types HO204.out BK205.out (by decide)) (fun _ hk => hk.2) (.int .i64 a0)) (fun _ hk => hk.2) (.int .i64 a3)) (fun _ hk => hk.2) (.int .i64 a4)) (fun _ hk => hk.2) (.slice Ao31 y202.length co31)) (fun _ hk => trivial))⟩, ⟨by (with_reducible repeat (first | refine blk_drewN ?_ _ | refine blk_drew ?_ | refine blk_alloc ?_ _)); refine blk_far ?_ NB190_205.out _; (with_reducible repeat (first | refine blk_drewN ?_ _ | refine blk_drew ?_ | refine blk_alloc ?_ _)); refine blk_far ?_ NB190_205.out _; (with_reducible repeat (first | refine blk_drewN ?_ _ | refine blk_drew ?_ | refine blk_alloc ?_ _)); refine blk_far ?_ NB190_205.out _; (with_reducible repeat (first | refine blk_drewN ?_ _ | refine blk_drew ?_ | refine blk_alloc ?_ _)); refine blk_far ?_ NB190_205.out _; (with_reducible repeat (first | refine blk_drewN ?_ _ | refine blk_drew ?_ | refine blk_alloc ?_ _)); exact BK190.out⟩, ⟨by (with_reducible repeat (first | refine blk_drewN ?_ _ | refine blk_drew ?_ | refine blk_alloc ?_ _)); refine blk_far ?_ NB195_205.out _; (with_reducible repeat (first | refine blk_drewN ?_ _ | refine blk_drew ?_ | refine blk_alloc ?_ _)); refine blk_far ?_ NB195_205.out _; (with_reducible repeat (first | refine blk_drewN ?_ _ | refine blk_drew ?_ | refine blk_alloc ?_ _)); refine blk_far ?_ NB195_205.out _; (with_reducible repeat (first | refine blk_drewN ?_ _ | refine blk_drew ?_ | refine blk_alloc ?_ _)); refine blk_far ?_ NB195_205.out _; (with_reducible repeat (first | refine blk_drewN ?_ _ | refine blk_drew ?_ | refine blk_alloc ?_ _)); exact BK195.out⟩, ⟨by (with_reducible repeat (first | refine blk_drewN ?_ _ | refine blk_drew ?_ | refine blk_alloc ?_ _)); refine blk_put (cs := #[.int .i64 a0, .int .i64 a3, .int .i64 a4, .slice none 0 0]) ?_ 3 _ rfl; (with_reducible repeat (first | refine blk_drewN ?_ _ | refine blk_drew ?_ | refine blk_alloc ?_ _)); refine blk_put (cs := #[.int .i64 a0, .int .i64 a3, .int .i64 0, .slice none 0 0]) ?_ 2 _ rfl; (with_reducible repeat (first | refine blk_drewN ?_ _ | refine blk_drew ?_ | refine blk_alloc ?_ _)); refine blk_put (cs := #[.int .i64 a0, .int .i64 0, .int .i64 0, .slice none 0 0]) ?_ 1 _ rfl; (with_reducible repeat (first | refine blk_drewN ?_ _ | refine blk_drew ?_ | refine blk_alloc ?_ _)); refine blk_put (cs := #[.int .i64 0, .int .i64 0, .int .i64 0, .slice none 0 0]) ?_ 0 _ rfl; (with_reducible repeat (first | refine blk_drewN ?_ _ | refine blk_drew ?_ | refine blk_alloc ?_ _)); exact BK205.out⟩, ⟨Bq⟩⟩
    case round =>
     clear H'
     try clear c1
     try clear c2
     try clear p2
     try clear c3
     try clear p6
     try clear c8
     try clear c8b0
     try clear c8b1
     try clear c9
     try clear c12
     try clear c13
     try clear c14
     try clear c19
     try clear c19b0
     try clear c19b1
     try clear c20
     try clear c20b0
     try clear c20b1
     try clear c24
     try clear c33
     try clear c34
     try clear hcz13_0
     try clear hcz13_1
     try clear hcz17_0
     try clear hcz17_1
     try clear hcz17_2
     try clear hcz17_3
     try clear hcz25_0
     try clear hcz25_1
     try clear hcz35_0
     try clear hcz35_1
     try clear hcz35_2
     try clear hcz35_3
     try clear hfz13_0
     try clear hfz13_1
     try clear hfz17_0
     try clear hfz17_1
     try clear hfz17_2
     try clear hfz17_3
     try clear hfz25_0
     try clear hfz25_1
     try clear hfz35_0
     try clear hfz35_1
     try clear hfz35_2
     try clear hfz35_3
     obtain ⟨x16_1, x206003_1, u206003, rfl, HA, HK1, HO_13, HO_196001, HO_206003, BK190, BK195, BK205, HB⟩ := hrel; cases gk with
     | zero => exact absurd HA.out (by simp [spec_rePeeled.l0])
     | succ k1 =>
      have H := HA.out; clear HA
      simp only [spec_rePeeled.l0] at H
      by_cases c37 : x16_1 ≥ 0
      ·rw [if_pos c37] at H
       have c37b0 : decide (0 ≤ x16_1) = true := decide_eq_true c37; clear c37
       by_cases c38 : 0 ≤ x16_1
       ·rw [if_pos c38] at H
        have c38b0 : decide (0 ≤ x16_1) = true := decide_eq_true c38; clear c38
        by_cases c39 : x16_1 < (t196.length : Int)
        ·rw [if_pos c39] at H
         have c39b0 : decide (x16_1 < (t196.length : Int)) = true := decide_eq_true c39; clear c39
         by_cases c40 : 0 ≤ ((rd_T51 t196 x16_1).f0)
         ·rw [if_pos c40] at H
          have c40b0 : decide (0 ≤ ((rd_T51 t196 x16_1).f0)) = true := decide_eq_true c40; clear c40
          by_cases c41 : ((rd_T51 t196 x16_1).f0) < (l2.length : Int)
          ·rw [if_pos c41] at H
           have c41b0 : decide (((rd_T51 t196 x16_1).f0) < (l2.length : Int)) = true := decide_eq_true c41; clear c41
           by_cases c42 : ((rd_T51 t196 x16_1).f0) < (l1.length : Int)
           ·rw [if_pos c42] at H
            have c42b0 : decide (((rd_T51 t196 x16_1).f0) < (l1.length : Int)) = true := decide_eq_true c42; clear c42; replace H := Option.bind_eq_some_iff.mp H; obtain ⟨t210, A430, H⟩ := H; (try dsimp -simprocs only at H); have A43 := am A430; clear A430
            by_cases c44 : 0 ≤ ((rd_T51 t196 x16_1).f1)
            ·rw [if_pos c44] at H
             have c44b0 : decide (0 ≤ ((rd_T51 t196 x16_1).f1)) = true := decide_eq_true c44; clear c44
             by_cases c45 : ((rd_T51 t196 x16_1).f1) < (x206003_1.length : Int)
             ·rw [if_pos c45] at H
              have c45b0 : decide (((rd_T51 t196 x16_1).f1) < (x206003_1.length : Int)) = true := decide_eq_true c45; clear c45; obtain ⟨y211, hy211⟩ : ∃ y_ : List Int, y_ = (x206003_1.set (((rd_T51 t196 x16_1).f1) : Int).toNat (Go.bits .xor .i64 (rd l2 ((rd_T51 t196 x16_1).f0)) t210)) := ⟨_, rfl⟩
              replace H : (spec_rePeeled.l0 k1 l1 l2 t196 (wrap64 (x16_1 - 1)) a0 a3 a4 y211) = some (r1, r2, r3, r4, r5) := by first | (rw [hy211]; with_reducible exact H) | (have H2_ := (Option.bind_some _ _).symm.trans H; rw [hy211]; with_reducible exact H2_) | (have H2_ := (Option.bind_some _ _).symm.trans H; with_reducible exact H2_) | with_reducible exact H | (rw [hy211]; exact H) | exact H
              have Ny211 := am hy211; clear hy211; have H' := am H; clear H; obtain ⟨ad206, e206, hx206_0, hx206_1⟩ := at_T51 (Kd.R_reads' HO_13.out).2.2 x16_1 dT dT; cases e206; have p206 := eT (0 ≤ (x16_1 : Int)); have q206 := eT (x16_1 < (t196.length : Int))
              try go_wp2_with (first | ((with_reducible refine gate_dst (N := 17) rfl ?_); refine bE 17 #[.int .i64 0, .int .i64 0] 51 ?_; intro gb207 hg w47 hbox hb; have n0_ := am (Kd.R_below (Kd.R_elderB (Rz HO_13.out) gb207 (Nat.le_of_eq hg.symm)) hb); have n1_ := am (Kd.S_below (by (with_reducible repeat (first | apply Kd.S_alloc | apply Kd.S_drewN | apply Kd.S_drew)); exact HO_196001.out) hb); have n2_ := Rb HO_206003 hb; have n3_ := Kb BK190 hb; have n4_ := Kb BK195 hb; have n5_ := Kb BK205 hb; have n6_ := Bc HB hb; have n7_ := am (hbox); have n8_ := Gm HB hg; have n9_ := Gm HB hg; have n10_ := Nl BK190 hg; have n11_ := Ng BK190 hg; have n12_ := Nl BK195 hg; have n13_ := Ng BK195 hg; have n14_ := Nl BK205 hg; have n15_ := Ng BK205 hg; clear HO_13 HO_196001 HO_206003 BK190 BK195 BK205 HB; revert n0_ n1_ n2_ n3_ n4_ n5_ n6_ n7_ n8_ n9_ n10_ n11_ n12_ n13_ n14_ n15_; intro HO_13 HO_196001 HO_206003 BK190 BK195 BK205 HB BK207 GW207 GE207 NB190_207 NB207_190 NB195_207 NB207_195 NB205_207 NB207_205; clear hb hbox hg; have hnb48 := NB207_190.out; have hnc48 := NB190_207.out; have hnb49 := NB207_195.out; have hnc49 := NB195_207.out; have hnb50 := NB207_205.out; have hnc50 := NB205_207.out; obtain ⟨hcz51_0, hcz51_1, hfz51_0, hfz51_1⟩ := cf2 (w := w47) BK207))
              have n0_ : Aside0 (Kd.R k51 51 ((w47.setCell ⟨gb207, 0, none⟩ (.int .i64 ((rd_T51 t196 x16_1).f0))).setCell ⟨gb207, 1, none⟩ (.int .i64 ((rd_T51 t196 x16_1).f1))) w.heap.size (fun k_ => k_ ≠ gb207) (.slice (some ad206) t196.length co36) t196) := ⟨Rz (Kd.R_mono (Kd.R_far (p := ⟨gb207, 1, none⟩) (Kd.R_far (p := ⟨gb207, 0, none⟩) (Kd.R_mono HO_13.out (fun k_ hk => (⟨hk, hk.2⟩ : _ ∧ k_ ≠ gb207))) (fun _ hk => hk.2) (.int .i64 ((rd_T51 t196 x16_1).f0))) (fun _ hk => hk.2) (.int .i64 ((rd_T51 t196 x16_1).f1))) (fun _ hk => hk.1.2))⟩; have n1_ : Aside0 (Kd.S (Kd.slice 3 (Kd.int .i64)) 32 ((w47.setCell ⟨gb207, 0, none⟩ (.int .i64 ((rd_T51 t196 x16_1).f0))).setCell ⟨gb207, 1, none⟩ (.int .i64 ((rd_T51 t196 x16_1).f1))) w.heap.size (fun k_ => some k_ ≠ (u206003 : Value).ownBlock) (.slice Ao26 t192.length co26) t192) := ⟨by (with_reducible repeat (first | apply Kd.S_alloc | apply Kd.S_drewN | apply Kd.S_drew)); exact Kd.S_mono (Kd.S_far (p := ⟨gb207, 1, none⟩) (Kd.S_far (p := ⟨gb207, 0, none⟩) (Kd.S_types HO_196001.out BK207.out (by decide)) (fun _ hk => hk.2) (.int .i64 ((rd_T51 t196 x16_1).f0))) (fun _ hk => hk.2) (.int .i64 ((rd_T51 t196 x16_1).f1))) (fun _ hk => hk.1)⟩; have n2_ : Aside0 (Kd.R (Kd.int .i64) 3 ((w47.setCell ⟨gb207, 0, none⟩ (.int .i64 ((rd_T51 t196 x16_1).f0))).setCell ⟨gb207, 1, none⟩ (.int .i64 ((rd_T51 t196 x16_1).f1))) w.heap.size (fun _ => True) u206003 x206003_1) := ⟨Rz (Kd.R_mono (Kd.R_far (p := ⟨gb207, 1, none⟩) (Kd.R_far (p := ⟨gb207, 0, none⟩) (Kd.R_types HO_206003.out BK207.out (by decide)) (fun _ hk => hk.2) (.int .i64 ((rd_T51 t196 x16_1).f0))) (fun _ hk => hk.2) (.int .i64 ((rd_T51 t196 x16_1).f1))) (fun _ hk => trivial))⟩; have n3_ : Aside0 (((w47.setCell ⟨gb207, 0, none⟩ (.int .i64 ((rd_T51 t196 x16_1).f0))).setCell ⟨gb207, 1, none⟩ (.int .i64 ((rd_T51 t196 x16_1).f1))).heap[gb190]? = some (.cells #[.int .i64 0, .int .i64 0, .int .i64 0, .slice none 0 0] 70 (0, 0))) := ⟨by (with_reducible repeat (first | refine blk_drewN ?_ _ | refine blk_drew ?_ | refine blk_alloc ?_ _)); refine blk_far ?_ NB190_207.out _; (with_reducible repeat (first | refine blk_drewN ?_ _ | refine blk_drew ?_ | refine blk_alloc ?_ _)); refine blk_far ?_ NB190_207.out _; (with_reducible repeat (first | refine blk_drewN ?_ _ | refine blk_drew ?_ | refine blk_alloc ?_ _)); exact BK190.out⟩; have n4_ : Aside0 (((w47.setCell ⟨gb207, 0, none⟩ (.int .i64 ((rd_T51 t196 x16_1).f0))).setCell ⟨gb207, 1, none⟩ (.int .i64 ((rd_T51 t196 x16_1).f1))).heap[gb195]? = some (.cells #[.int .i64 t191, .slice Ao26 t192.length co26] 37 (0, 0))) := ⟨by (with_reducible repeat (first | refine blk_drewN ?_ _ | refine blk_drew ?_ | refine blk_alloc ?_ _)); refine blk_far ?_ NB195_207.out _; (with_reducible repeat (first | refine blk_drewN ?_ _ | refine blk_drew ?_ | refine blk_alloc ?_ _)); refine blk_far ?_ NB195_207.out _; (with_reducible repeat (first | refine blk_drewN ?_ _ | refine blk_drew ?_ | refine blk_alloc ?_ _)); exact BK195.out⟩; have n5_ : Aside0 (((w47.setCell ⟨gb207, 0, none⟩ (.int .i64 ((rd_T51 t196 x16_1).f0))).setCell ⟨gb207, 1, none⟩ (.int .i64 ((rd_T51 t196 x16_1).f1))).heap[gb205]? = some (.cells #[.int .i64 a0, .int .i64 a3, .int .i64 a4, u206003] 70 (0, 0))) := ⟨by (with_reducible repeat (first | refine blk_drewN ?_ _ | refine blk_drew ?_ | refine blk_alloc ?_ _)); refine blk_far ?_ NB205_207.out _; (with_reducible repeat (first | refine blk_drewN ?_ _ | refine blk_drew ?_ | refine blk_alloc ?_ _)); refine blk_far ?_ NB205_207.out _; (with_reducible repeat (first | refine blk_drewN ?_ _ | refine blk_drew ?_ | refine blk_alloc ?_ _)); exact BK205.out⟩
              have n6_ : Aside0 (((w47.setCell ⟨gb207, 0, none⟩ (.int .i64 ((rd_T51 t196 x16_1).f0))).setCell ⟨gb207, 1, none⟩ (.int .i64 ((rd_T51 t196 x16_1).f1))).heap[gb207]? = some (.cells #[.int .i64 ((rd_T51 t196 x16_1).f0), .int .i64 ((rd_T51 t196 x16_1).f1)] 51 (0, 0))) := ⟨by (with_reducible repeat (first | refine blk_drewN ?_ _ | refine blk_drew ?_ | refine blk_alloc ?_ _)); refine blk_put (cs := #[.int .i64 ((rd_T51 t196 x16_1).f0), .int .i64 0]) ?_ 1 _ rfl; (with_reducible repeat (first | refine blk_drewN ?_ _ | refine blk_drew ?_ | refine blk_alloc ?_ _)); refine blk_put (cs := #[.int .i64 0, .int .i64 0]) ?_ 0 _ rfl; (with_reducible repeat (first | refine blk_drewN ?_ _ | refine blk_drew ?_ | refine blk_alloc ?_ _)); exact BK207.out⟩; have n7_ : Aside0 (Below w.heap.size w ((w47.setCell ⟨gb207, 0, none⟩ (.int .i64 ((rd_T51 t196 x16_1).f0))).setCell ⟨gb207, 1, none⟩ (.int .i64 ((rd_T51 t196 x16_1).f1)))) := ⟨Bq⟩
              (try clear HO_13)
              (try clear HO_196001)
              (try clear HO_206003)
              (try clear BK190)
              (try clear BK195)
              (try clear BK205)
              (try clear BK207)
              (try clear HB)
              generalize ((w47.setCell ⟨gb207, 0, none⟩ (.int .i64 ((rd_T51 t196 x16_1).f0))).setCell ⟨gb207, 1, none⟩ (.int .i64 ((rd_T51 t196 x16_1).f1))) = w52 at n0_ n1_ n2_ n3_ n4_ n5_ n6_ n7_ ⊢; revert n0_ n1_ n2_ n3_ n4_ n5_ n6_ n7_; intro HO_13 HO_196001 HO_206003 BK190 BK195 BK205 BK207 HB; have n0_ := am (Kd.R_drew HO_13.out); have n1_ := am (Kd.S_drew HO_196001.out); have n2_ := am (Kd.R_drew HO_206003.out); have n3_ := am (blk_drew BK190.out); have n4_ := am (blk_drew BK195.out); have n5_ := am (blk_drew BK205.out); have n6_ := am (blk_drew BK207.out); have n7_ := am (below_drew1 HB.out); clear HO_13 HO_196001 HO_206003 BK190 BK195 BK205 BK207 HB; revert n0_ n1_ n2_ n3_ n4_ n5_ n6_ n7_; intro HO_13 HO_196001 HO_206003 BK190 BK195 BK205 BK207 HB; have p208 : 0 ≤ (((rd_T51 t196 x16_1).f0) : Int) := dT; have q208 : ((rd_T51 t196 x16_1).f0) < (l2.length : Int) := dT; obtain ⟨ad208, e208, hx208_0⟩ := Kd.at_int HR2.out ((rd_T51 t196 x16_1).f0) p208 q208; have hw208_0 := hx208_0; cases e208; replace hx208_0 := (HB.out.cell (World.block_lt_of_cell? w _ hx208_0)).trans hx208_0; replace p208 := eq_true p208; replace q208 := eq_true q208; have p209 : 0 ≤ (((rd_T51 t196 x16_1).f0) : Int) := dT; have q209 : ((rd_T51 t196 x16_1).f0) < (l1.length : Int) := dT; obtain ⟨ad209, e209, hx209_0⟩ := Kd.at_string HR1.out ((rd_T51 t196 x16_1).f0) p209 q209; have hw209_0 := hx209_0; cases e209; replace hx209_0 := (HB.out.cell (World.block_lt_of_cell? w _ hx209_0)).trans hx209_0; replace p209 := eq_true p209; replace q209 := eq_true q209; obtain ⟨Ao54, co54, eo54⟩ := Kd.R_slice HO_206003.out
              (first | subst eo54 | (injection eo54 with f1_ f2_ f3_; have f4_ := f1_.symm; have f5_ := f3_.symm; clear f1_ f2_ f3_; subst f4_; subst f5_))
              refine start_ (n := 19) (S := fun w' => w'.cell? ⟨gb205, 0, none⟩ = some (.int .i64 a0) ∧ w'.cell? ⟨gb205, 1, none⟩ = some (.int .i64 a3) ∧ w'.cell? ⟨gb205, 2, none⟩ = some (.int .i64 a4) ∧ w'.cell? ⟨gb205, 3, none⟩ = some (.slice Ao54 x206003_1.length co54) ∧ w'.cell? ⟨gb207, 0, none⟩ = some (.int .i64 ((rd_T51 t196 x16_1).f0)) ∧ w'.cell? ⟨gb207, 1, none⟩ = some (.int .i64 ((rd_T51 t196 x16_1).f1)) ∧ w'.cell? (ad208.add (((rd_T51 t196 x16_1).f0)).toNat) = some (.int .i64 (rd l2 ((rd_T51 t196 x16_1).f0))) ∧ w'.cell? (ad209.add (((rd_T51 t196 x16_1).f0)).toNat) = some (.string (rdOf ByteArray.empty l1 ((rd_T51 t196 x16_1).f0)))) (ds := [18]) (bA 19 0) (by kernel_rfl) rfl rfl ⟨cz BK205 0, cz BK205 1, cz BK205 2, cz BK205 3, cz BK207 0, cz BK207 1, ((HB.out.cell (World.block_lt_of_cell? w _ hw208_0)).trans hw208_0), ((HB.out.cell (World.block_lt_of_cell? w _ hw209_0)).trans hw209_0)⟩ (fun hHeld => ?_); refine with_tabW spec_rePeeled.tab10 spec_rePeeled.bits10 (fun HT_ HW_ => ?_); generalize w52.drew = w53 at HO_13 HO_196001 HO_206003 BK190 BK195 BK205 BK207 HB hx208_0 hx209_0 hHeld ⊢; refine pZ 0 (some 49) (bA 19 1) HT_.out ?_; refine pZ 2 (some 51) (bA 19 5) HT_.out ?_; refine pZ 4 (some 53) (bA 19 21) HT_.out ?_; refine pZ 5 (some 54) (bA 19 53) HT_.out ?_; refine pZ 10 (some 59) (bA 19 1077) HT_.out ?_; refine pZ 11 (some 60) (bA 19 3125) HT_.out ?_; refine tZ8 1 (some 50) (bA 19 3127) HT_.out HW_.out hHeld ?_; refine tZ8 3 (some 52) (bA 19 3135) HT_.out HW_.out hHeld ?_; refine tZ8 6 (some 55) (bA 19 3199) HT_.out HW_.out hHeld ?_; refine pZ 7 (some 56) (bA 19 3327) HT_.out ?_; refine tZ8 8 (some 57) (bA 19 3583) HT_.out HW_.out hHeld ?_; refine tZ8 9 (some 58) (bA 19 4095) HT_.out HW_.out hHeld ?_; refine tZ8 12 (some 61) (bA 19 8191) HT_.out HW_.out hHeld ?_; refine pZ 13 (some 62) (bA 19 16383) HT_.out ?_; refine tZ8 14 (some 63) (bA 19 32767) HT_.out HW_.out hHeld ?_; refine oZ 15 (some 64) (bA 19 65535) HT_.out (fun K hK => ?_); refine gZ Try.func156 #[.agg #[.int .i64 a0, .int .i64 a3, .int .i64 a4, .slice Ao54 x206003_1.length co54], .string (rdOf ByteArray.empty l1 ((rd_T51 t196 x16_1).f0))] ?_
              with_reducible refine (spec_reValue.calls k1 a0 a3 a4 _ _ x206003_1 (rdOf ByteArray.empty l1 ((rd_T51 t196 x16_1).f0)) t210 _ ?side1 ?side2 A43.out).mono ?_
              (case side1 => exact Cz ((Kd.R_reads' HO_206003.out).2.2))
              (case side2 => exact (Kd.R_reads' HO_206003.out).2.1)
              rintro e w55 ⟨rfl, hb⟩; refine ⟨_, rfl, ?_⟩; have n0_ := Rb HO_13 hb; have n1_ := am (Kd.S_below (by (with_reducible repeat (first | apply Kd.S_alloc | apply Kd.S_drewN | apply Kd.S_drew)); exact HO_196001.out) hb); have n2_ := Rb HO_206003 hb; have n3_ := Kb BK190 hb; have n4_ := Kb BK195 hb; have n5_ := Kb BK205 hb; have n6_ := Kb BK207 hb; have n7_ := Bc HB hb; clear HO_13 HO_196001 HO_206003 BK190 BK195 BK205 BK207 HB; revert n0_ n1_ n2_ n3_ n4_ n5_ n6_ n7_; intro HO_13 HO_196001 HO_206003 BK190 BK195 BK205 BK207 HB
              (try clear hb)
              (try clear hb2)
              (try clear hk)
              (try clear hi)
              have p46 : 0 ≤ (((rd_T51 t196 x16_1).f1) : Int) := dT; have q46 : (((rd_T51 t196 x16_1).f1) : Int) < ((x206003_1.length : Int) : Int) := dT; obtain ⟨go46, co46, eo46, gb46, gl46, cl46, HG46⟩ := Kd.R_form HO_206003.out (by omega)
              (first | cases eo46 | (injection eo46 with ea_ en_ ec_; (first | subst ea_ | (injection ea_ with ea_; subst ea_)); subst ec_; clear en_))
              have GB46 := am gb46; have GG46 := am HG46; clear gb46 gl46 HG46; obtain ⟨hx46_0, hf46_0⟩ := Kd.R_celln 0 HO_206003.out (((rd_T51 t196 x16_1).f1) : Int) p46 q46; replace p46 := eq_true p46; replace q46 := eq_true q46; have HP56 := Kd.R_putn HO_206003.out (((rd_T51 t196 x16_1).f1) : Int) (Go.bits .xor .i64 (rd l2 ((rd_T51 t196 x16_1).f0)) t210); rw [← Ny211.out] at HP56; have HQ56 := am HP56; clear HP56; refine hK.out _ _ ⟨cz BK205 0, cz BK205 1, cz BK205 2, cz BK205 3, cz BK207 0, cz BK207 1, ((HB.out.cell (World.block_lt_of_cell? w _ hw208_0)).trans hw208_0), ((HB.out.cell (World.block_lt_of_cell? w _ hw209_0)).trans hw209_0)⟩ (fun hHeld => ?_); clear hK K; refine norm_ (a' := ?_) ?_ ?_; rotate_left; show Act.put _ (some 64) _ = _; simp only [aP, i64_w, i32_w]; rfl; refine pZ 16 (some 65) (bA 19 131071) HT_.out ?_; refine pZ 17 (some 66) (bA 19 262143) HT_.out ?_; refine lZ 18 none (bA 19 524287) HT_.out (fun K hK => ?_); refine skip_ (w1 := ?_) (by rfl) rfl ?_ ?_
              rotate_left
              ·go_simp
               rfl
              refine hK.out _ _ ?_; clear hK K; refine done_ (done_of HT_.out (by kernel_rfl)) ?_
              try go_wp2
              go_roundg k1
              case measure => have := HK1.out; omega
              case rel => exact ⟨(wrap64 (x16_1 - 1)), (y211), (.slice (some ⟨go46, 0, none⟩) x206003_1.length co54), wZ, H', ⟨by have := HK1.out; omega⟩, ⟨Rz (Kd.R_mono (Kd.R_far (p := ⟨go46, (((rd_T51 t196 x16_1).f1) : Int).toNat, none⟩) (Kd.R_types HO_13.out GG46.out (by decide)) (fun _ hk => hk.2) (.int .i64 (Go.bits .xor .i64 (rd l2 ((rd_T51 t196 x16_1).f0)) t210))) (fun _ hk => trivial))⟩, ⟨by (with_reducible repeat (first | apply Kd.S_alloc | apply Kd.S_drewN | apply Kd.S_drew)); exact Kd.S_mono (Kd.S_far (p := ⟨go46, (((rd_T51 t196 x16_1).f1) : Int).toNat, none⟩) (Kd.S_mono HO_196001.out (fun k_ hk => (⟨hk, fun e_ => hk (by rw [e_]; rfl)⟩ : _ ∧ k_ ≠ go46))) (fun _ hk => hk.2) (.int .i64 (Go.bits .xor .i64 (rd l2 ((rd_T51 t196 x16_1).f0)) t210))) (fun _ hk => hk.1)⟩, ⟨by first | exact HQ56.out | exact Rz HQ56.out⟩, ⟨by (with_reducible repeat (first | refine blk_drewN ?_ _ | refine blk_drew ?_ | refine blk_alloc ?_ _)); refine blk_far ?_ (by have h_ := Kd.R_ne HO_206003.out BK190.out (by decide); intro e_; exact h_ (by rw [e_]; rfl)) _; (with_reducible repeat (first | refine blk_drewN ?_ _ | refine blk_drew ?_ | refine blk_alloc ?_ _)); exact BK190.out⟩, ⟨by (with_reducible repeat (first | refine blk_drewN ?_ _ | refine blk_drew ?_ | refine blk_alloc ?_ _)); refine blk_far ?_ (by have h_ := Kd.R_ne HO_206003.out BK195.out (by decide); intro e_; exact h_ (by rw [e_]; rfl)) _; (with_reducible repeat (first | refine blk_drewN ?_ _ | refine blk_drew ?_ | refine blk_alloc ?_ _)); exact BK195.out⟩, ⟨by (with_reducible repeat (first | refine blk_drewN ?_ _ | refine blk_drew ?_ | refine blk_alloc ?_ _)); refine blk_far ?_ (by have h_ := Kd.R_ne HO_206003.out BK205.out (by decide); intro e_; exact h_ (by rw [e_]; rfl)) _; (with_reducible repeat (first | refine blk_drewN ?_ _ | refine blk_drew ?_ | refine blk_alloc ?_ _)); exact BK205.out⟩, ⟨Bq⟩⟩
             ·rw [if_neg c45] at H
              exact absurd H (by simp)
            ·rw [if_neg c44] at H
             exact absurd H (by simp)
           ·rw [if_neg c42] at H
            exact absurd H (by simp)
          ·rw [if_neg c41] at H
           exact absurd H (by simp)
         ·rw [if_neg c40] at H
          exact absurd H (by simp)
        ·rw [if_neg c39] at H
         exact absurd H (by simp)
       ·rw [if_neg c38] at H
        exact absurd H (by simp)
      ·rw [if_neg c37] at H
       have c37b0 : decide (0 ≤ x16_1) = false := decide_eq_false c37; clear c37
       simp only [Option.some.injEq, Prod.mk.injEq] at H
       obtain ⟨rfl, rfl, rfl, rfl, rfl⟩ := H; have hnb57 := NB205_190.out; have hnc57 := NB190_205.out; have hnb58 := NB205_195.out; have hnc58 := NB195_205.out; obtain ⟨hcz59_0, hcz59_1, hcz59_2, hcz59_3, hfz59_0, hfz59_1, hfz59_2, hfz59_3⟩ := cf4 (w := wr) BK205; have hnb60 := NB190_195.out; have hnc60 := NB195_190.out; obtain ⟨hcz61_0, hcz61_1, hcz61_2, hcz61_3, hfz61_0, hfz61_1, hfz61_2, hfz61_3⟩ := cf4 (w := wr) BK190; obtain ⟨Ao62, co62, eo62⟩ := Kd.R_slice HO_206003.out; subst eo62
       go_wp2
       refine bodyPost_ret (results_ct rfl _ _ gb190 70 #[.int .i64 a0, .int .i64 a3, .int .i64 a4, .slice Ao62 x206003_1.length co62] (0, 0) _ rfl (by (with_reducible repeat (first | refine blk_drewN ?_ _ | refine blk_drew ?_ | refine blk_alloc ?_ _)); refine blk_put (cs := #[.int .i64 a0, .int .i64 a3, .int .i64 a4, .slice none 0 0]) ?_ 3 _ rfl; (with_reducible repeat (first | refine blk_drewN ?_ _ | refine blk_drew ?_ | refine blk_alloc ?_ _)); refine blk_put (cs := #[.int .i64 a0, .int .i64 a3, .int .i64 0, .slice none 0 0]) ?_ 2 _ rfl; (with_reducible repeat (first | refine blk_drewN ?_ _ | refine blk_drew ?_ | refine blk_alloc ?_ _)); refine blk_put (cs := #[.int .i64 a0, .int .i64 0, .int .i64 0, .slice none 0 0]) ?_ 1 _ rfl; (with_reducible repeat (first | refine blk_drewN ?_ _ | refine blk_drew ?_ | refine blk_alloc ?_ _)); refine blk_put (cs := #[.int .i64 0, .int .i64 0, .int .i64 0, .slice none 0 0]) ?_ 0 _ rfl; exact Kz BK190.out) Try.underlying70 rfl (by kernel_rfl)) rfl ?_; exact ⟨_, by first | rfl | (simp [errW_none, errW_some] <;> rfl) | (simp only [← hji18]; first | rfl | (simp [errW_none, errW_some] <;> rfl)) | (simp [*, errW_none, errW_some] <;> rfl), Rz (Kd.R_mono (Kd.R_far (p := ⟨gb190, 3, none⟩) (Kd.R_far (p := ⟨gb190, 2, none⟩) (Kd.R_far (p := ⟨gb190, 1, none⟩) (Kd.R_far (p := ⟨gb190, 0, none⟩) (Kd.R_types HO_206003.out BK190.out (by decide)) (fun _ hk => hk.2) (.int .i64 a0)) (fun _ hk => hk.2) (.int .i64 a3)) (fun _ hk => hk.2) (.int .i64 a4)) (fun _ hk => hk.2) (.slice Ao62 x206003_1.length co62)) (fun _ hk => trivial)), Bq⟩
   ·rw [if_neg c20] at H
    exact absurd H (by simp)
  ·rw [if_neg c19] at H
   exact absurd H (by simp)

mutual
def spec_PrintFilterOf.j0 : Nat → Int → List ByteArray → Int → Int → Bool → Option (Int × Int × Int × List Int × Bool)
 | 0, _, _, _, _, _ => none
 | k + 1, x0, x1, x2, x3, x22 => if x22 = true then (some (0, 0, 0, ([] : List Int), false)) else (spec_PrintFilterOf.l0 k x0 x1 x2 x3 ([] : List Int) x1 (x1.length : Int) 0)
def spec_PrintFilterOf.l0 : Nat → Int → List ByteArray → Int → Int → List Int → List ByteArray → Int → Int → Option (Int × Int × Int × List Int × Bool)
 | 0, _, _, _, _, _, _, _, _ => none
 | k + 1, x0, x1, x2, x3, x10, x24, x25, x26 => if x26 < x25 then (if 0 ≤ x26 then (if x26 < (x24.length : Int) then ((spec_fiPrint.f k x0 x3 (rdOf ByteArray.empty x24 x26)).bind fun t216 => (if x10.length < 17592186044416 then (spec_PrintFilterOf.l0 k x0 x1 x2 x3 (x10 ++ [t216]) x24 x25 (wrap64 (x26 + 1))) else (none))) else (none)) else (none)) else ((spec_rePeeled.f k x0 x1 x10 x2 x3).bind fun bt220 => (some (bt220.1, bt220.2.1, bt220.2.2.1, bt220.2.2.2.1, bt220.2.2.2.2)))
end
def spec_PrintFilterOf.f (k : Nat) (a0 : Int) (l1 : List ByteArray) (a2 : Int) (a3 : Int) : Option (Int × Int × Int × List Int × Bool) := (spec_peKeyed.f k a0 l1 a2).bind fun t213 => (if t213 = true then ((spec_reWidth.f a3).bind fun t214 => (spec_PrintFilterOf.j0 k a0 l1 a2 a3 (!t214))) else (spec_PrintFilterOf.j0 k a0 l1 a2 a3 true))
theorem spec_PrintFilterOf.calls (k : Nat) (a0 : Int) (A1 : Option Addr) (c1 : Nat) (l1 : List ByteArray) (a2 : Int) (a3 : Int) (r1 : Int) (r2 : Int) (r3 : Int) (r4 : List Int) (r5 : Bool) (w : World) (hr1 : Kd.C Kd.string w A1 l1.length l1) (hc1 : l1.length ≤ c1) (h : spec_PrintFilterOf.f k a0 l1 a2 a3 = some (r1, r2, r3, r4, r5)) :
  Calls Try.prog 57 #[.int .i64 a0, .slice A1 l1.length c1, .int .i64 a2, .int .i64 a3] w fun e w' => ∃ v3_ : Value, e = .returned (.tuple #[.agg #[.int .i64 r1, .int .i64 r2, .int .i64 r3, v3_], .bool r5]) ∧ Kd.R (Kd.int .i64) 3 w' w.heap.size (fun _ => True) v3_ r4 ∧ Below w.heap.size w w' := by
 have hu70 := Try.underlying70; have HR1 := am hr1; have HC1 := am hc1; clear hr1 hc1; have HB := am (Below.refl w.heap.size w); have H : ((spec_peKeyed.f k a0 l1 a2).bind fun t213 => (if t213 = true then ((spec_reWidth.f a3).bind fun t214 => (spec_PrintFilterOf.j0 k a0 l1 a2 a3 (!t214))) else (spec_PrintFilterOf.j0 k a0 l1 a2 a3 true))) = some (r1, r2, r3, r4, r5) := h; clear h; have HC5 := am H; clear H
 go_enter Try.func57, Try.ntmps57
 go_upto_region 1 with (first | ((with_reducible refine gate_dst (N := 8) rfl ?_); refine bE 8 #[.int .i64 0, .int .i64 0, .int .i64 0, .slice none 0 0] 70 ?_; intro gb212 hg w6 hbox hb; have n0_ := Bb HB hb; have n1_ := am (hbox); have n2_ := Gl HB hg; have n3_ := Gl HB hg; clear HB; revert n0_ n1_ n2_ n3_; intro HB BK212 GW212 GE212; clear hb hbox hg))
 (try simp only [aP])
 go_cut [22] (fun v22 wc => ∃ (kq : Nat) (x22_4 : Bool), v22 = .bool x22_4 ∧ Aside0 (spec_PrintFilterOf.j0 kq a0 l1 a2 a3 x22_4 = some (r1, r2, r3, r4, r5)) ∧ Aside0 (kq ≤ k) ∧ Aside0 (wc.heap[gb212]? = some (.cells #[.int .i64 0, .int .i64 0, .int .i64 0, (.slice none 0 0)] 70 (0, 0))) ∧ Aside0 (Below w.heap.size w wc))
 case first =>
  have H := HC5.out; clear HC5; replace H := Option.bind_eq_some_iff.mp H; obtain ⟨t213, A70, H⟩ := H; (try dsimp -simprocs only at H); have A7 := am A70; clear A70
  by_cases c8 : t213 = true
  ·subst c8
   rw [if_pos rfl] at H; replace H := Option.bind_eq_some_iff.mp H; obtain ⟨t214, A90, H⟩ := H; (try dsimp -simprocs only at H); have A9 := am A90; clear A90; have H' := am H; clear H
   go_wp2_with (first | ((with_reducible refine gate_callee (f := 114) rfl ?_); refine gL (some 16) Try.func114 #[.int .i64 a0, .slice A1 l1.length c1, .int .i64 a2] ?_; (with_reducible refine (spec_peKeyed.calls k a0 _ _ l1 a2 true _ ?side1 ?side2 A7.out).mono ?_); (case side1 => exact Cz (Kd.C_below HR1.out HB.out)); (case side2 => exact HC1.out); rintro e w' ⟨rfl, ⟨nd, rfl⟩⟩; refine ⟨_, rfl, ?_⟩) | (go_at_call 128; (with_reducible refine (spec_reWidth.calls a3 t214 _ A9.out).mono ?_); rintro e w' ⟨rfl, ⟨nd, rfl⟩⟩))
   go_meet
   case rel => exact ⟨_, (!t214), wZ, H', ⟨by first | omega | exact Nat.le_refl _⟩, ⟨Kz BK212.out⟩, ⟨Bq⟩⟩
  ·replace c8 := Bool.eq_false_iff.mpr c8
   subst c8
   rw [if_neg (show ¬ (false = true) by decide)] at H; have H' := am H; clear H
   go_wp2_with (first | ((with_reducible refine gate_callee (f := 114) rfl ?_); refine gL (some 16) Try.func114 #[.int .i64 a0, .slice A1 l1.length c1, .int .i64 a2] ?_; (with_reducible refine (spec_peKeyed.calls k a0 _ _ l1 a2 false _ ?side1 ?side2 A7.out).mono ?_); (case side1 => exact Cz (Kd.C_below HR1.out HB.out)); (case side2 => exact HC1.out); rintro e w' ⟨rfl, ⟨nd, rfl⟩⟩; refine ⟨_, rfl, ?_⟩))
   go_meet
   case rel => exact ⟨_, (true), wZ, H', ⟨by first | omega | exact Nat.le_refl _⟩, ⟨Kz BK212.out⟩, ⟨Bq⟩⟩
 case rest =>
  clear HC5
  try clear c1
  try clear p2
  try clear c5
  try clear c8
  obtain ⟨kq, x22_4, rfl, HA, HJ4, BK212, HB⟩ := hcut; cases kq with
  | zero => exact absurd HA.out (by simp [spec_PrintFilterOf.j0])
  | succ kj4 =>
   have H := HA.out; clear HA
   simp only [spec_PrintFilterOf.j0] at H
   by_cases c10 : x22_4 = true
   ·subst c10
    rw [if_pos rfl] at H
    simp only [Option.some.injEq, Prod.mk.injEq] at H
    obtain ⟨rfl, rfl, rfl, rfl, rfl⟩ := H; obtain ⟨hcz11_0, hcz11_1, hcz11_2, hcz11_3, hfz11_0, hfz11_1, hfz11_2, hfz11_3⟩ := cf4 (w := wc) BK212
    go_wp2
    refine bodyPost_ret (results_ct rfl _ _ gb212 70 #[.int .i64 0, .int .i64 0, .int .i64 0, .slice none 0 0] (0, 0) _ rfl (by (with_reducible repeat (first | refine blk_drewN ?_ _ | refine blk_drew ?_ | refine blk_alloc ?_ _)); refine blk_put (cs := #[.int .i64 0, .int .i64 0, .int .i64 0, .slice none 0 0]) ?_ 3 _ rfl; (with_reducible repeat (first | refine blk_drewN ?_ _ | refine blk_drew ?_ | refine blk_alloc ?_ _)); refine blk_put (cs := #[.int .i64 0, .int .i64 0, .int .i64 0, .slice none 0 0]) ?_ 2 _ rfl; (with_reducible repeat (first | refine blk_drewN ?_ _ | refine blk_drew ?_ | refine blk_alloc ?_ _)); refine blk_put (cs := #[.int .i64 0, .int .i64 0, .int .i64 0, .slice none 0 0]) ?_ 1 _ rfl; (with_reducible repeat (first | refine blk_drewN ?_ _ | refine blk_drew ?_ | refine blk_alloc ?_ _)); refine blk_put (cs := #[.int .i64 0, .int .i64 0, .int .i64 0, .slice none 0 0]) ?_ 0 _ rfl; exact Kz BK212.out) Try.underlying70 rfl (by kernel_rfl)) rfl ?_; exact ⟨_, eZ, nZ, Bq⟩
   ·replace c10 := Bool.eq_false_iff.mpr c10
    subst c10
    rw [if_neg (show ¬ (false = true) by decide)] at H; have H' := am H; clear H
    go_wp2
    go_loopg [10, 26] kj4 (fun kq v10 v26 w' => ∃ (x10_2 : List Int) (x26_2 : Int), v26 = .int .i64 x26_2 ∧ Aside0 (spec_PrintFilterOf.l0 kq a0 l1 a2 a3 x10_2 l1 (l1.length : Int) x26_2 = some (r1, r2, r3, r4, r5)) ∧ Aside0 (kq ≤ kj4) ∧ Aside0 (Kd.R (Kd.int .i64) 3 w' w.heap.size (fun _ => True) v10 x10_2) ∧ Aside0 (w'.heap[gb212]? = some (.cells #[.int .i64 0, .int .i64 0, .int .i64 0, (.slice none 0 0)] 70 (0, 0))) ∧ Aside0 (Below w.heap.size w w'))
    case atStart => exact ⟨(([] : List Int)), (0), wZ, H', ⟨Nat.le_refl _⟩, ⟨nZ⟩, ⟨Kz BK212.out⟩, ⟨Bq⟩⟩
    case round =>
     clear H'
     try clear c1
     try clear p2
     try clear c5
     try clear c8
     try clear c10
     try clear c11
     try clear hcz11_0
     try clear hcz11_1
     try clear hcz11_2
     try clear hcz11_3
     try clear hfz11_0
     try clear hfz11_1
     try clear hfz11_2
     try clear hfz11_3
     try clear p2
     obtain ⟨x10_2, x26_2, rfl, HA, HK2, HO_10, BK212, HB⟩ := hrel; cases gk with
     | zero => exact absurd HA.out (by simp [spec_PrintFilterOf.l0])
     | succ k2 =>
      have H := HA.out; clear HA
      simp only [spec_PrintFilterOf.l0] at H
      by_cases c12 : x26_2 < (l1.length : Int)
      ·rw [if_pos c12] at H
       have c12b0 : decide (x26_2 < (l1.length : Int)) = true := decide_eq_true c12; clear c12
       by_cases c13 : 0 ≤ x26_2
       ·rw [if_pos c13] at H
        have c13b0 : decide (0 ≤ x26_2) = true := decide_eq_true c13; clear c13
        by_cases c14 : x26_2 < (l1.length : Int)
        ·rw [if_pos c14] at H
         have c14b0 : decide (x26_2 < (l1.length : Int)) = true := decide_eq_true c14; clear c14; replace H := Option.bind_eq_some_iff.mp H; obtain ⟨t216, A150, H⟩ := H; (try dsimp -simprocs only at H); have A15 := am A150; clear A150
         by_cases c16 : x10_2.length < 17592186044416
         ·rw [if_pos c16] at H
          have LMc16 := am c16; clear c16; obtain ⟨y217, hy217⟩ : ∃ y_ : List Int, y_ = (x10_2 ++ [t216]) := ⟨_, rfl⟩
          replace H : (spec_PrintFilterOf.l0 k2 a0 l1 a2 a3 y217 l1 (l1.length : Int) (wrap64 (x26_2 + 1))) = some (r1, r2, r3, r4, r5) := by first | (rw [hy217]; with_reducible exact H) | (have H2_ := (Option.bind_some _ _).symm.trans H; rw [hy217]; with_reducible exact H2_) | (have H2_ := (Option.bind_some _ _).symm.trans H; with_reducible exact H2_) | with_reducible exact H | (rw [hy217]; exact H) | exact H
          have Ny217 := am hy217; clear hy217; have H' := am H; clear H; have p215 : 0 ≤ (x26_2 : Int) := dT; have q215 : x26_2 < (l1.length : Int) := dT; obtain ⟨ad215, e215, hx215_0⟩ := Kd.at_string HR1.out x26_2 p215 q215; cases e215; replace hx215_0 := (HB.out.cell (World.block_lt_of_cell? w _ hx215_0)).trans hx215_0; replace p215 := eq_true p215; replace q215 := eq_true q215
          go_wp2_with (first | ((with_reducible refine gate_callee (f := 129) rfl ?_); refine gL (some 34) Try.func129 #[.int .i64 a0, .int .i64 a3, .string (rdOf ByteArray.empty l1 x26_2)] ?_; (with_reducible refine (spec_fiPrint.calls k2 a0 a3 (rdOf ByteArray.empty l1 x26_2) t216 _ A15.out).mono ?_); rintro e w' ⟨rfl, ⟨nd, rfl⟩⟩; refine ⟨_, rfl, ?_⟩) | ((with_reducible refine gate_builtin (b := .append) (xs := #[.tmp 30, .tmp 35]) rfl ?_); at_builtin; refine Kd.R_append (Kd.int .i64) (w0 := w) w.heap.size rfl (.tmp 30) (.tmp 35) 32 3 (.int .i64 0) 8 rfl Try.underlying32 info3 rfl (by decide) (by omega) u10 x10_2 t216 [.int .i64 t216] (fun _ => True) (fun _ => False) rfl rfl ?aP (fun _ hk => hk.elim) ?aF ?aO ?aB ?aS ?aL ?_; (case aP => exact rfl); (case aB => exact (Bq)); (case aF => exact (fun _ _ => trivial)); (case aO => exact (Rz HO_10.out)); (case aS => exact (below_size (w := w) (Bq))); (case aL => have := LMc16.out; omega); intro v218 w17 ho hb hg hat; rw [← Ny217.out] at ho; have n0_ := am (blk_grown (g := gb212) (o := .cells #[.int .i64 0, .int .i64 0, .int .i64 0, .slice none 0 0] 70 (0, 0)) (Kz BK212.out) hg (Kd.R_ne HO_10.out BK212.out (by decide))); have n1_ := am (hb); have n2_ := am (ho); clear BK212 HB HO_10; revert n0_ n1_ n2_; intro BK212 HB HO219; clear ho hb hg hat))
          go_roundg k2
          case measure => have := HJ4.out; have := HK2.out; omega
          case rel => exact ⟨(y217), (wrap64 (x26_2 + 1)), wZ, H', ⟨by have := HJ4.out; have := HK2.out; omega⟩, ⟨Rz HO219.out⟩, ⟨Kz BK212.out⟩, ⟨Bq⟩⟩
         ·rw [if_neg c16] at H
          exact absurd H (by simp)
        ·rw [if_neg c14] at H
         exact absurd H (by simp)
       ·rw [if_neg c13] at H
        exact absurd H (by simp)
      ·rw [if_neg c12] at H
       have c12b0 : decide (x26_2 < (l1.length : Int)) = false := decide_eq_false c12; clear c12; replace H := Option.bind_eq_some_iff.mp H; obtain ⟨⟨t220, t221, t222, t223, t226⟩, A180, H⟩ := H; (try dsimp -simprocs only at H); have A18 := am A180; clear A180
       simp only [Option.some.injEq, Prod.mk.injEq] at H
       obtain ⟨rfl, rfl, rfl, rfl, rfl⟩ := H; obtain ⟨Ao19, co19, eo19⟩ := Kd.R_slice HO_10.out; subst eo19
       go_wp2_with (first | ((with_reducible refine gate_callee (f := 130) rfl ?_); refine gL (some 43) Try.func130 #[.int .i64 a0, .slice A1 l1.length c1, .slice Ao19 x10_2.length co19, .int .i64 a2, .int .i64 a3] ?_; (with_reducible refine (spec_rePeeled.calls k2 a0 _ _ l1 _ _ x10_2 a2 a3 t220 t221 t222 t223 t226 _ ?side1 ?side2 ?side3 ?side4 A18.out).mono ?_); (case side1 => exact Cz (Kd.C_below HR1.out HB.out)); (case side2 => exact HC1.out); (case side3 => exact Cz ((Kd.R_reads' HO_10.out).2.2)); (case side4 => exact (Kd.R_reads' HO_10.out).2.1); rintro e w20 ⟨v224, rfl, ho0, hb⟩; refine ⟨_, rfl, ?_⟩; have n0_ := Re HO_10 (Kd.R_base ho0) hb; have n1_ := Rm (Kd.R_new' ho0 (Kd.R_lt (Rz HO_10.out))) HB; have n2_ := Kb BK212 hb; have n3_ := Bc HB hb; clear HO_10 BK212 HB; revert n0_ n1_ n2_ n3_; intro HO_10 HO225 BK212 HB; (try clear hb); (try clear hb2); (try clear hk); (try clear hi); (try clear ho0); obtain ⟨hcz21_0, hcz21_1, hcz21_2, hcz21_3, hfz21_0, hfz21_1, hfz21_2, hfz21_3⟩ := cf4 (w := w20) BK212; obtain ⟨Ao22, co22, eo22⟩ := Kd.R_slice HO225.out; subst eo22))
       refine bodyPost_ret (results_ct rfl _ _ gb212 70 #[.int .i64 t220, .int .i64 t221, .int .i64 t222, .slice Ao22 t223.length co22] (0, 0) _ rfl (by (with_reducible repeat (first | refine blk_drewN ?_ _ | refine blk_drew ?_ | refine blk_alloc ?_ _)); refine blk_put (cs := #[.int .i64 t220, .int .i64 t221, .int .i64 t222, .slice none 0 0]) ?_ 3 _ rfl; (with_reducible repeat (first | refine blk_drewN ?_ _ | refine blk_drew ?_ | refine blk_alloc ?_ _)); refine blk_put (cs := #[.int .i64 t220, .int .i64 t221, .int .i64 0, .slice none 0 0]) ?_ 2 _ rfl; (with_reducible repeat (first | refine blk_drewN ?_ _ | refine blk_drew ?_ | refine blk_alloc ?_ _)); refine blk_put (cs := #[.int .i64 t220, .int .i64 0, .int .i64 0, .slice none 0 0]) ?_ 1 _ rfl; (with_reducible repeat (first | refine blk_drewN ?_ _ | refine blk_drew ?_ | refine blk_alloc ?_ _)); refine blk_put (cs := #[.int .i64 0, .int .i64 0, .int .i64 0, .slice none 0 0]) ?_ 0 _ rfl; exact Kz BK212.out) Try.underlying70 rfl (by kernel_rfl)) rfl ?_; exact ⟨_, eZ, Rz (Kd.R_mono (Kd.R_far (p := ⟨gb212, 3, none⟩) (Kd.R_far (p := ⟨gb212, 2, none⟩) (Kd.R_far (p := ⟨gb212, 1, none⟩) (Kd.R_far (p := ⟨gb212, 0, none⟩) (Kd.R_types HO225.out BK212.out (by decide)) (fun _ hk => hk.2) (.int .i64 t220)) (fun _ hk => hk.2) (.int .i64 t221)) (fun _ hk => hk.2) (.int .i64 t222)) (fun _ hk => hk.2) (.slice Ao22 t223.length co22)) (fun _ hk => trivial)), Bq⟩

def laws_toStringS.l0 : Nat → List ByteArray → List ByteArray → Int → Option (List ByteArray)
 | 0, _, _, _ => none
 | k + 1, x0, x3, x4 => if x4 < (x0.length : Int) then (if 0 ≤ x4 then (if x4 < (x3.length : Int) then (laws_toStringS.l0 k x0 (x3.set (x4 : Int).toNat (rdOf ByteArray.empty x0 x4)) (wrap64 (x4 + 1))) else (none)) else (none)) else (some x3)
def laws_toStringS.f (k : Nat) (l0 : List ByteArray) : Option (List ByteArray) := if 0 ≤ (l0.length : Int) then (if ((l0.length : Int) : Int).toNat ≤ 17592186044416 then (laws_toStringS.l0 k l0 (List.replicate ((l0.length : Int) : Int).toNat (⟨#[]⟩ : ByteArray)) 0) else (none)) else (none)
theorem laws_toStringS.calls (k : Nat) (A0 : Option Addr) (c0 : Nat) (l0 : List ByteArray) (r : List ByteArray) (w : World) (hr0 : Kd.C Kd.string w A0 l0.length l0) (hc0 : l0.length ≤ c0) (h : laws_toStringS.f k l0 = some r) :
  Calls Try.prog 58 #[.slice A0 l0.length c0] w fun e w' => ∃ v0_ : Value, e = .returned (v0_) ∧ Kd.R Kd.string 9 w' w.heap.size (fun _ => True) v0_ r ∧ Below w.heap.size w w' := by
 have HR0 := am hr0; have HC0 := am hc0; clear hr0 hc0; have HB := am (Below.refl w.heap.size w); have H : (if 0 ≤ (l0.length : Int) then (if ((l0.length : Int) : Int).toNat ≤ 17592186044416 then (laws_toStringS.l0 k l0 (List.replicate ((l0.length : Int) : Int).toNat (⟨#[]⟩ : ByteArray)) 0) else (none)) else (none)) = some r := h; clear h
 by_cases c2 : 0 ≤ (l0.length : Int)
 ·rw [if_pos c2] at H
  have c2b0 := eq_true c2; have c2b1 : decide (0 ≤ (l0.length : Int)) = true := decide_eq_true c2; clear c2
  by_cases c3 : ((l0.length : Int) : Int).toNat ≤ 17592186044416
  ·rw [if_pos c3] at H
   have c3b0 := eq_true c3; have c3b1 : decide (((l0.length : Int) : Int).toNat ≤ 17592186044416) = true := decide_eq_true c3; clear c3; obtain ⟨y227, hy227⟩ : ∃ y_ : List ByteArray, y_ = (List.replicate ((l0.length : Int) : Int).toNat (⟨#[]⟩ : ByteArray)) := ⟨_, rfl⟩
   replace H : (laws_toStringS.l0 k l0 y227 0) = some r := by first | (rw [hy227]; with_reducible exact H) | (have H2_ := (Option.bind_some _ _).symm.trans H; rw [hy227]; with_reducible exact H2_) | (have H2_ := (Option.bind_some _ _).symm.trans H; with_reducible exact H2_) | with_reducible exact H | (rw [hy227]; exact H) | exact H
   have Ny227 := am hy227; clear hy227; have H' := am H; clear H
   go_enter Try.func58, Try.ntmps58
   go_wp2_with (first | ((with_reducible refine gate_dst (N := 7) rfl ?_); refine Kd.R_make Kd.string _ 9 rfl (N := 7) rfl 24 _ _ rfl (l0.length : Int) rfl rfl Try.underlying24 (.string ⟨#[]⟩) 16 info9 rfl (by decide) (by omega) (⟨#[]⟩ : ByteArray) (ok := fun _ => True) (okp := fun _ => True) rfl (fun _ hk => hk) trivial (dT) (Nat.le_trans (Nat.mul_le_mul_right _ (dT : (l0.length : Int).toNat ≤ 17592186044416)) (by omega)) (Below.refl _ _) (Nat.le_refl _) ?_; intro v228 w4 ho5 hb hg_ hnew_; clear hg_ hnew_; (first | rw [← Ny227.out] at ho5 | (simp only [Int.reduceToNat] at ho5; rw [← Ny227.out] at ho5)); have n0_ := Rl ho5 HB; have n1_ := Bb HB hb; clear HB; revert n0_ n1_; intro HO229 HB; clear hb ho5))
   (try simp only [aP])
   go_loopg [4] k (fun kq v4 w' => ∃ (x3_1 : List ByteArray) (x4_1 : Int), v4 = .int .i64 x4_1 ∧ Aside0 (laws_toStringS.l0 kq l0 x3_1 x4_1 = some r) ∧ Aside0 (kq ≤ k) ∧ Aside0 (Kd.R Kd.string 9 w' w.heap.size (fun _ => True) v228 x3_1) ∧ Aside0 (Below w.heap.size w w'))
   case atStart => exact ⟨(y227), (0), wZ, H', ⟨Nat.le_refl _⟩, ⟨Rz HO229.out⟩, ⟨Bz HB.out⟩⟩
   case round =>
    clear H'
    try clear c2
    try clear c2b0
    try clear c2b1
    try clear p2
    try clear c3
    try clear c3b0
    try clear c3b1
    try clear c5
    obtain ⟨x3_1, x4_1, rfl, HA, HK1, HO_3, HB⟩ := hrel; cases gk with
    | zero => exact absurd HA.out (by simp [laws_toStringS.l0])
    | succ k1 =>
     have H := HA.out; clear HA
     simp only [laws_toStringS.l0] at H
     by_cases c6 : x4_1 < (l0.length : Int)
     ·rw [if_pos c6] at H
      have c6b0 : decide (x4_1 < (l0.length : Int)) = true := decide_eq_true c6; clear c6
      by_cases c7 : 0 ≤ x4_1
      ·rw [if_pos c7] at H
       have c7b0 : decide (0 ≤ x4_1) = true := decide_eq_true c7; clear c7
       by_cases c8 : x4_1 < (x3_1.length : Int)
       ·rw [if_pos c8] at H
        have c8b0 : decide (x4_1 < (x3_1.length : Int)) = true := decide_eq_true c8; clear c8; obtain ⟨y231, hy231⟩ : ∃ y_ : List ByteArray, y_ = (x3_1.set (x4_1 : Int).toNat (rdOf ByteArray.empty l0 x4_1)) := ⟨_, rfl⟩
        replace H : (laws_toStringS.l0 k1 l0 y231 (wrap64 (x4_1 + 1))) = some r := by first | (rw [hy231]; with_reducible exact H) | (have H2_ := (Option.bind_some _ _).symm.trans H; rw [hy231]; with_reducible exact H2_) | (have H2_ := (Option.bind_some _ _).symm.trans H; with_reducible exact H2_) | with_reducible exact H | (rw [hy231]; exact H) | exact H
        have Ny231 := am hy231; clear hy231; have H' := am H; clear H; have p230 : 0 ≤ (x4_1 : Int) := dT; have q230 : x4_1 < (l0.length : Int) := dT; obtain ⟨ad230, e230, hx230_0⟩ := Kd.at_string HR0.out x4_1 p230 q230; cases e230; replace hx230_0 := (HB.out.cell (World.block_lt_of_cell? w _ hx230_0)).trans hx230_0; replace p230 := eq_true p230; replace q230 := eq_true q230; have p9 : 0 ≤ (x4_1 : Int) := dT; have q9 : (x4_1 : Int) < ((x3_1.length : Int) : Int) := dT; obtain ⟨go9, co9, eo9, gb9, gl9, cl9, HG9⟩ := Kd.R_form HO_3.out (by omega)
        (first | cases eo9 | (injection eo9 with ea_ en_ ec_; (first | subst ea_ | (injection ea_ with ea_; subst ea_)); subst ec_; clear en_))
        have GB9 := am gb9; have GG9 := am HG9; clear gb9 gl9 HG9; obtain ⟨hx9_0, hf9_0⟩ := Kd.R_celln (⟨#[]⟩ : ByteArray) HO_3.out (x4_1 : Int) p9 q9; replace p9 := eq_true p9; replace q9 := eq_true q9; have HP10 := Kd.R_putg HO_3.out (x4_1 : Int) (rdOf ByteArray.empty l0 x4_1)
        go_wp2_with (first | ((with_reducible refine gate_store (t := 9) (p := 20) rfl ?_); refine store_event (t := 9) (p := 20) (v := ?vo_w11) (w1 := (wr.setCell ⟨go9, (x4_1 : Int).toNat, none⟩ (.string (rdOf ByteArray.empty l0 x4_1)))) ?hg ?ho ?hn ?hr ?_; (case ho => rfl); (case hg => rfl); (case hn => rfl); (case hr => first | (go_simp; done) | (go_simp; rfl)); intro w11 hw; have hg : wr.grownBy w11 (some go9) := (by rw [hw]; exact HP10.2); have hp_ : Kd.R Kd.string 9 w11 w.heap.size (fun _ => True) (.slice (some ⟨go9, 0, none⟩) x3_1.length co9) y231 := (by rw [hw, Ny231.out]; exact HP10.1); clear HP10; have n0_ := am (hp_); have n1_ := am ((by rw [hw]; exact below_set (HB.out) GB9.out : Below w.heap.size w w11)); clear HO_3 HB; revert n0_ n1_; intro HO_3 HB; clear hg hw hp_))
        go_roundg k1
        case measure => have := HK1.out; omega
        case rel => exact ⟨(y231), (wrap64 (x4_1 + 1)), wZ, H', ⟨by have := HK1.out; omega⟩, ⟨Rz HO_3.out⟩, ⟨Bz HB.out⟩⟩
       ·rw [if_neg c8] at H
        exact absurd H (by simp)
      ·rw [if_neg c7] at H
       exact absurd H (by simp)
     ·rw [if_neg c6] at H
      have c6b0 : decide (x4_1 < (l0.length : Int)) = false := decide_eq_false c6; clear c6; obtain rfl := Option.some.inj H
      go_wp2
      go_ret
      exact ⟨_, eZ, Rz HO_3.out, Bz HB.out⟩
  ·rw [if_neg c3] at H
   exact absurd H (by simp)
 ·rw [if_neg c2] at H
  exact absurd H (by simp)

end Go.Proofs.Ythkcgimnagpmaaa.PP
-- printed by a program of this session (wip/gp) out of the translation; Lean checks it
namespace Go.Proofs.Ythkcgimnagpmaaa.PP
open Go.RowKit Go.Proofs.YthkcgimnagpmaaaW.PrintWords Go.Proofs.YthkcgimnagpmaaaW.PrintLast Go.Proofs.YthkcgimnagpmaaaW.PrintMore Go.Proofs.YthkcgimnagpmaaaSq
attribute [local go_sem] max2_int min2_int max_two min_two max_three min_three max_four min_four   -- for this text's walks alone
attribute [local go_sem] Go.Proofs.YthkcgimnagpmaaaGp.str_geq Go.Proofs.YthkcgimnagpmaaaGp.str_gtr Go.Proofs.YthkcgimnagpmaaaGp.str_leq
set_option linter.unusedVariables false
set_option linter.unusedSimpArgs false

set_option maxHeartbeats 8000000
set_option maxRecDepth 100000
def impl_in.f (a0 : Int) (a1 : Int) (a2 : Int) : Option (Bool) := if a0 ≥ a1 then (some (decide (a0 ≤ a2))) else (some false)
theorem impl_in.calls (a0 : Int) (a1 : Int) (a2 : Int) (r : Bool) (w : World) (h : impl_in.f a0 a1 a2 = some r) :
  Calls Try.prog 70 #[.int .i64 a0, .int .i64 a1, .int .i64 a2] w fun e w' => e = .returned (.bool r) ∧ Drawn0 w w' := by
 have H : (if a0 ≥ a1 then (some (decide (a0 ≤ a2))) else (some false)) = some r := h; clear h
 by_cases c4 : a0 ≥ a1
 ·rw [if_pos c4] at H
  have c4b0 : decide (a1 ≤ a0) = true := decide_eq_true c4; clear c4; obtain rfl := Option.some.inj H
  go_enter Try.func70, Try.ntmps70
  go_wp2
  go_ret
  exact ⟨by first | rfl | (simp; done) | (simp [*]; done), by repeat (first | exact Drawn0.refl _ | apply Drawn0.step)⟩
 ·rw [if_neg c4] at H
  have c4b0 : decide (a1 ≤ a0) = false := decide_eq_false c4; clear c4; obtain rfl := Option.some.inj H
  go_enter Try.func70, Try.ntmps70
  go_wp2
  go_ret
  exact ⟨by first | rfl | (simp; done) | (simp [*]; done), by repeat (first | exact Drawn0.refl _ | apply Drawn0.step)⟩

def impl_IsKey.l0 : Nat → ByteArray → Int → Int → Option (Bool)
 | 0, _, _, _ => none
 | k + 1, x0, x5, x6 => if x6 < x5 then (if 0 ≤ x6 then (if x6 < (x0.size : Int) then (if (bt x0 x6) < 33 then (some false) else (if (bt x0 x6) > 125 then (some false) else (impl_IsKey.l0 k x0 x5 (wrap64 (x6 + 1))))) else (none)) else (none)) else ((impl_in.f (x0.size : Int) 1 12).bind fun t232 => (some t232))
def impl_IsKey.f (k : Nat) (a0 : ByteArray) : Option (Bool) := impl_IsKey.l0 k a0 (a0.size : Int) 0
theorem impl_IsKey.calls (k : Nat) (a0 : ByteArray) (r : Bool) (w : World) (h : impl_IsKey.f k a0 = some r) :
  Calls Try.prog 81 #[.string a0] w fun e w' => e = .returned (.bool r) ∧ Drawn0 w w' := by
 have H : (impl_IsKey.l0 k a0 (a0.size : Int) 0) = some r := h; clear h; have H' := am H; clear H
 go_enter Try.func81, Try.ntmps81
 go_wp2
 go_loopg [6] k (fun kq v6 w' => ∃ (x6_1 : Int), v6 = .int .i64 x6_1 ∧ Aside0 (impl_IsKey.l0 kq a0 (a0.size : Int) x6_1 = some r) ∧ Aside0 (kq ≤ k) ∧ Drawn0 w w')
 case atStart => exact ⟨(0), wZ, H', ⟨Nat.le_refl _⟩, by repeat (first | exact Drawn0.refl _ | apply Drawn0.step)⟩
 case round =>
  clear H'; obtain ⟨x6_1, rfl, HA, HK1, ⟨m1, rfl⟩⟩ := hrel; cases gk with
  | zero => exact absurd HA.out (by simp [impl_IsKey.l0])
  | succ k1 =>
   have H := HA.out; clear HA
   simp only [impl_IsKey.l0] at H
   by_cases c2 : x6_1 < (a0.size : Int)
   ·rw [if_pos c2] at H
    have c2b0 : decide (x6_1 < (a0.size : Int)) = true := decide_eq_true c2; clear c2
    by_cases c3 : 0 ≤ x6_1
    ·rw [if_pos c3] at H
     have c3b0 : decide (0 ≤ x6_1) = true := decide_eq_true c3; clear c3
     by_cases c4 : x6_1 < (a0.size : Int)
     ·rw [if_pos c4] at H
      have c4b0 : decide (x6_1 < (a0.size : Int)) = true := decide_eq_true c4; clear c4
      by_cases c6 : (bt a0 x6_1) < 33
      ·rw [if_pos c6] at H
       have c6b0 : decide ((bt a0 x6_1) < 33) = true := decide_eq_true c6; clear c6; obtain rfl := Option.some.inj H; have p5 : 0 ≤ (x6_1 : Int) := dT; have q5 : x6_1 < (a0.size : Int) := dT; have hx5 := bt_at a0 x6_1; replace p5 := eq_true p5; replace q5 := eq_true q5
       go_wp2
       go_ret
       exact ⟨by first | rfl | (simp; done) | (simp [*]; done), by repeat (first | exact Drawn0.refl _ | apply Drawn0.step)⟩
      ·rw [if_neg c6] at H
       have c6b0 : decide ((bt a0 x6_1) < 33) = false := decide_eq_false c6; clear c6
       by_cases c8 : (bt a0 x6_1) > 125
       ·rw [if_pos c8] at H
        have c8b0 : decide (125 < (bt a0 x6_1)) = true := decide_eq_true c8; clear c8; obtain rfl := Option.some.inj H; have p5 : 0 ≤ (x6_1 : Int) := dT; have q5 : x6_1 < (a0.size : Int) := dT; have hx5 := bt_at a0 x6_1; replace p5 := eq_true p5; replace q5 := eq_true q5; have p7 : 0 ≤ (x6_1 : Int) := dT; have q7 : x6_1 < (a0.size : Int) := dT; have hx7 := bt_at a0 x6_1; replace p7 := eq_true p7; replace q7 := eq_true q7
        go_wp2
        go_ret
        exact ⟨by first | rfl | (simp; done) | (simp [*]; done), by repeat (first | exact Drawn0.refl _ | apply Drawn0.step)⟩
       ·rw [if_neg c8] at H
        have c8b0 : decide (125 < (bt a0 x6_1)) = false := decide_eq_false c8; clear c8; have H' := am H; clear H; have p5 : 0 ≤ (x6_1 : Int) := dT; have q5 : x6_1 < (a0.size : Int) := dT; have hx5 := bt_at a0 x6_1; replace p5 := eq_true p5; replace q5 := eq_true q5; have p7 : 0 ≤ (x6_1 : Int) := dT; have q7 : x6_1 < (a0.size : Int) := dT; have hx7 := bt_at a0 x6_1; replace p7 := eq_true p7; replace q7 := eq_true q7
        go_wp2
        go_roundg k1
        case measure => have := HK1.out; omega
        case rel => exact ⟨(wrap64 (x6_1 + 1)), wZ, H', ⟨by have := HK1.out; omega⟩, by repeat (first | exact Drawn0.refl _ | apply Drawn0.step)⟩
     ·rw [if_neg c4] at H
      exact absurd H (by simp)
    ·rw [if_neg c3] at H
     exact absurd H (by simp)
   ·rw [if_neg c2] at H
    have c2b0 : decide (x6_1 < (a0.size : Int)) = false := decide_eq_false c2; clear c2; replace H := Option.bind_eq_some_iff.mp H; obtain ⟨t232, A90, H⟩ := H; (try dsimp -simprocs only at H); have A9 := am A90; clear A90; obtain rfl := Option.some.inj H
    go_wp2_with (first | ((with_reducible refine gate_callee (f := 70) rfl ?_); refine gL (some 22) Try.func70 #[.int .i64 (a0.size : Int), .int .i64 1, .int .i64 12] ?_; (with_reducible refine (impl_in.calls (a0.size : Int) 1 12 t232 _ A9.out).mono ?_); rintro e w' ⟨rfl, ⟨nd, rfl⟩⟩; refine ⟨_, rfl, ?_⟩))
    go_ret
    exact ⟨by first | rfl | (simp; done) | (simp [*]; done), by repeat (first | exact Drawn0.refl _ | apply Drawn0.step)⟩

def impl_AreKeys.l0 : Nat → List ByteArray → List ByteArray → Int → Int → Option (Bool)
 | 0, _, _, _, _ => none
 | k + 1, x0, x5, x6, x7 => if x7 < x6 then (if 0 ≤ x7 then (if x7 < (x5.length : Int) then ((impl_IsKey.f k (rdOf ByteArray.empty x5 x7)).bind fun t234 => (if t234 = true then (if x7 > 0 then (if 0 ≤ (wrap64 (x7 - 1)) then (if (wrap64 (x7 - 1)) < (x0.length : Int) then (if ((Op.bytesLess ((rdOf ByteArray.empty x0 (wrap64 (x7 - 1))).toList) ((rdOf ByteArray.empty x5 x7).toList)) = true) then (impl_AreKeys.l0 k x0 x5 x6 (wrap64 (x7 + 1))) else (some false)) else (none)) else (none)) else (impl_AreKeys.l0 k x0 x5 x6 (wrap64 (x7 + 1)))) else (some false))) else (none)) else (none)) else (some (decide ((x0.length : Int) ≤ 40)))
def impl_AreKeys.f (k : Nat) (l0 : List ByteArray) : Option (Bool) := impl_AreKeys.l0 k l0 l0 (l0.length : Int) 0
theorem impl_AreKeys.calls (k : Nat) (A0 : Option Addr) (c0 : Nat) (l0 : List ByteArray) (r : Bool) (w : World) (hr0 : Kd.C Kd.string w A0 l0.length l0) (hc0 : l0.length ≤ c0) (h : impl_AreKeys.f k l0 = some r) :
  Calls Try.prog 69 #[.slice A0 l0.length c0] w fun e w' => e = .returned (.bool r) ∧ Drawn0 w w' := by
 have HR0 := am hr0; have HC0 := am hc0; clear hr0 hc0; have H : (impl_AreKeys.l0 k l0 l0 (l0.length : Int) 0) = some r := h; clear h; have H' := am H; clear H
 go_enter Try.func69, Try.ntmps69
 go_wp2
 go_loopg [7] k (fun kq v7 w' => ∃ (x7_1 : Int), v7 = .int .i64 x7_1 ∧ Aside0 (impl_AreKeys.l0 kq l0 l0 (l0.length : Int) x7_1 = some r) ∧ Aside0 (kq ≤ k) ∧ Drawn0 w w')
 case atStart => exact ⟨(0), wZ, H', ⟨Nat.le_refl _⟩, by repeat (first | exact Drawn0.refl _ | apply Drawn0.step)⟩
 case round =>
  clear H'; obtain ⟨x7_1, rfl, HA, HK1, ⟨m1, rfl⟩⟩ := hrel; cases gk with
  | zero => exact absurd HA.out (by simp [impl_AreKeys.l0])
  | succ k1 =>
   have H := HA.out; clear HA
   simp only [impl_AreKeys.l0] at H
   by_cases c2 : x7_1 < (l0.length : Int)
   ·rw [if_pos c2] at H
    have c2b0 : decide (x7_1 < (l0.length : Int)) = true := decide_eq_true c2; clear c2
    by_cases c3 : 0 ≤ x7_1
    ·rw [if_pos c3] at H
     have c3b0 : decide (0 ≤ x7_1) = true := decide_eq_true c3; clear c3
     by_cases c4 : x7_1 < (l0.length : Int)
     ·rw [if_pos c4] at H
      have c4b0 : decide (x7_1 < (l0.length : Int)) = true := decide_eq_true c4; clear c4; replace H := Option.bind_eq_some_iff.mp H; obtain ⟨t234, A50, H⟩ := H; (try dsimp -simprocs only at H); have A5 := am A50; clear A50
      by_cases c6 : t234 = true
      ·subst c6
       rw [if_pos rfl] at H
       by_cases c7 : x7_1 > 0
       ·rw [if_pos c7] at H
        have c7b0 : decide (0 < x7_1) = true := decide_eq_true c7; clear c7; obtain ⟨ji8, hji8⟩ : ∃ j_ : Int, (wrap64 (x7_1 - 1)) = j_ := ⟨_, rfl⟩
        replace H : (if 0 ≤ (ji8) then (if (ji8) < (l0.length : Int) then (if ((Op.bytesLess ((rdOf ByteArray.empty l0 (ji8)).toList) ((rdOf ByteArray.empty l0 x7_1).toList)) = true) then (impl_AreKeys.l0 k1 l0 l0 (l0.length : Int) (wrap64 (x7_1 + 1))) else (some false)) else (none)) else (none)) = some r := by first | (rw [hji8] at H; exact H) | (simp only [hji8] at H ⊢; exact H)
        (try rw [hji8] at A5)
        have hji8w : (IntKind.i64.wrap (x7_1 - 1)) = ji8 := (i64_w _).trans hji8
        by_cases c9 : 0 ≤ (ji8)
        ·rw [if_pos c9] at H
         have c9b0 : decide (0 ≤ (ji8)) = true := decide_eq_true c9; clear c9
         by_cases c10 : (ji8) < (l0.length : Int)
         ·rw [if_pos c10] at H
          have c10b0 : decide ((ji8) < (l0.length : Int)) = true := decide_eq_true c10; clear c10
          by_cases c11 : ((Op.bytesLess ((rdOf ByteArray.empty l0 (ji8)).toList) ((rdOf ByteArray.empty l0 x7_1).toList)) = true)
          ·rw [if_pos c11] at H
           have c11b0 : (Op.bytesLess ((rdOf ByteArray.empty l0 (ji8)).toList) ((rdOf ByteArray.empty l0 x7_1).toList)) = true := c11; clear c11; have H' := am H; clear H; obtain ⟨ad233, e233, hx233_0⟩ := Kd.at_string HR0.out x7_1 dT dT; cases e233; have p233 := eT (0 ≤ (x7_1 : Int)); have q233 := eT (x7_1 < (l0.length : Int))
           go_wp2_with (first | ((with_reducible refine gate_callee (f := 81) rfl ?_); refine gL (some 13) Try.func81 #[.string (rdOf ByteArray.empty l0 x7_1)] ?_; (with_reducible refine (impl_IsKey.calls k1 (rdOf ByteArray.empty l0 x7_1) true _ A5.out).mono ?_); rintro e w' ⟨rfl, ⟨nd, rfl⟩⟩; refine ⟨_, rfl, ?_⟩; have p235 : 0 ≤ ((ji8) : Int) := dT; have q235 : (ji8) < (l0.length : Int) := dT; obtain ⟨ad235, e235, hx235_0⟩ := Kd.at_string HR0.out (ji8) p235 q235; obtain rfl : ad233 = ad235 := (by injection e235); replace p235 := eq_true p235; replace q235 := eq_true q235))
           go_roundg k1
           case measure => have := HK1.out; omega
           case rel => exact ⟨(wrap64 (x7_1 + 1)), wZ, H', ⟨by have := HK1.out; omega⟩, by repeat (first | exact Drawn0.refl _ | apply Drawn0.step)⟩
          ·rw [if_neg c11] at H
           have c11b0 : (Op.bytesLess ((rdOf ByteArray.empty l0 (ji8)).toList) ((rdOf ByteArray.empty l0 x7_1).toList)) = false := by simpa using c11
           clear c11; obtain rfl := Option.some.inj H; obtain ⟨ad233, e233, hx233_0⟩ := Kd.at_string HR0.out x7_1 dT dT; cases e233; have p233 := eT (0 ≤ (x7_1 : Int)); have q233 := eT (x7_1 < (l0.length : Int))
           go_wp2_with (first | ((with_reducible refine gate_callee (f := 81) rfl ?_); refine gL (some 13) Try.func81 #[.string (rdOf ByteArray.empty l0 x7_1)] ?_; (with_reducible refine (impl_IsKey.calls k1 (rdOf ByteArray.empty l0 x7_1) true _ A5.out).mono ?_); rintro e w' ⟨rfl, ⟨nd, rfl⟩⟩; refine ⟨_, rfl, ?_⟩; have p235 : 0 ≤ ((ji8) : Int) := dT; have q235 : (ji8) < (l0.length : Int) := dT; obtain ⟨ad235, e235, hx235_0⟩ := Kd.at_string HR0.out (ji8) p235 q235; obtain rfl : ad233 = ad235 := (by injection e235); replace p235 := eq_true p235; replace q235 := eq_true q235))
           go_ret
           exact ⟨by first | rfl | (simp; done) | (simp only [← hji8] <;> (first | rfl | simp)) | (simp [*]; done), by repeat (first | exact Drawn0.refl _ | apply Drawn0.step)⟩
         ·rw [if_neg c10] at H
          exact absurd H (by simp)
        ·rw [if_neg c9] at H
         exact absurd H (by simp)
       ·rw [if_neg c7] at H
        have c7b0 : decide (0 < x7_1) = false := decide_eq_false c7; clear c7; have H' := am H; clear H; obtain ⟨ad233, e233, hx233_0⟩ := Kd.at_string HR0.out x7_1 dT dT; cases e233; have p233 := eT (0 ≤ (x7_1 : Int)); have q233 := eT (x7_1 < (l0.length : Int))
        go_wp2_with (first | ((with_reducible refine gate_callee (f := 81) rfl ?_); refine gL (some 13) Try.func81 #[.string (rdOf ByteArray.empty l0 x7_1)] ?_; (with_reducible refine (impl_IsKey.calls k1 (rdOf ByteArray.empty l0 x7_1) true _ A5.out).mono ?_); rintro e w' ⟨rfl, ⟨nd, rfl⟩⟩; refine ⟨_, rfl, ?_⟩))
        go_roundg k1
        case measure => have := HK1.out; omega
        case rel => exact ⟨(wrap64 (x7_1 + 1)), wZ, H', ⟨by have := HK1.out; omega⟩, by repeat (first | exact Drawn0.refl _ | apply Drawn0.step)⟩
      ·replace c6 := Bool.eq_false_iff.mpr c6
       subst c6
       rw [if_neg (show ¬ (false = true) by decide)] at H; obtain rfl := Option.some.inj H; obtain ⟨ad233, e233, hx233_0⟩ := Kd.at_string HR0.out x7_1 dT dT; cases e233; have p233 := eT (0 ≤ (x7_1 : Int)); have q233 := eT (x7_1 < (l0.length : Int))
       go_wp2_with (first | ((with_reducible refine gate_callee (f := 81) rfl ?_); refine gL (some 13) Try.func81 #[.string (rdOf ByteArray.empty l0 x7_1)] ?_; (with_reducible refine (impl_IsKey.calls k1 (rdOf ByteArray.empty l0 x7_1) false _ A5.out).mono ?_); rintro e w' ⟨rfl, ⟨nd, rfl⟩⟩; refine ⟨_, rfl, ?_⟩))
       go_ret
       exact ⟨by first | rfl | (simp; done) | (simp [*]; done), by repeat (first | exact Drawn0.refl _ | apply Drawn0.step)⟩
     ·rw [if_neg c4] at H
      exact absurd H (by simp)
    ·rw [if_neg c3] at H
     exact absurd H (by simp)
   ·rw [if_neg c2] at H
    have c2b0 : decide (x7_1 < (l0.length : Int)) = false := decide_eq_false c2; clear c2; obtain rfl := Option.some.inj H
    go_wp2
    go_ret
    exact ⟨by first | rfl | (simp; done) | (simp [*]; done), by repeat (first | exact Drawn0.refl _ | apply Drawn0.step)⟩

mutual
def impl_hash.l0 : Nat → ByteArray → Int → Int → Int → Option (Int)
 | 0, _, _, _, _ => none
 | k + 1, x2, x7, x18, x19 => if x19 < x18 then (if 0 ≤ x19 then (if x19 < (x2.size : Int) then (impl_hash.l0 k x2 (Int.tmod (wrap64 ((wrap64 (263 * x7)) + (wrap64 (bt x2 x19)))) 65521) x18 (wrap64 (x19 + 1))) else (none)) else (none)) else (impl_hash.l1 k x7 1 0)
def impl_hash.l1 : Nat → Int → Int → Int → Option (Int)
 | 0, _, _, _ => none
 | k + 1, x7, x9, x31 => if x31 < 11 then (impl_hash.l1 k x7 (Int.tmod (wrap64 (x9 * x7)) 65521) (wrap64 (x31 + 1))) else (some x9)
end
def impl_hash.f (k : Nat) (a0 : Int) (a1 : Int) (a2 : ByteArray) : Option (Int) := impl_hash.l0 k a2 (Int.tmod (wrap64 ((wrap64 ((wrap64 (31 * a0)) + (wrap64 (977 * a1)))) + 7)) 65521) (a2.size : Int) 0
theorem impl_hash.calls (k : Nat) (a0 : Int) (a1 : Int) (a2 : ByteArray) (r : Int) (w : World) (h : impl_hash.f k a0 a1 a2 = some r) :
  Calls Try.prog 140 #[.int .i64 a0, .int .i64 a1, .string a2] w fun e w' => e = .returned (.int .i64 r) ∧ Drawn0 w w' := by
 have H : (impl_hash.l0 k a2 (Int.tmod (wrap64 ((wrap64 ((wrap64 (31 * a0)) + (wrap64 (977 * a1)))) + 7)) 65521) (a2.size : Int) 0) = some r := h; clear h; have H' := am H; clear H
 go_enter Try.func140, Try.ntmps140
 go_wp2
 go_loopg [7, 19] k (fun kq v7 v19 w' => ∃ (x7_1 : Int) (x19_1 : Int), v7 = .int .i64 x7_1 ∧ v19 = .int .i64 x19_1 ∧ Aside0 (impl_hash.l0 kq a2 x7_1 (a2.size : Int) x19_1 = some r) ∧ Aside0 (kq ≤ k) ∧ Drawn0 w w')
 case atStart => exact ⟨(Int.tmod (wrap64 ((wrap64 ((wrap64 (31 * a0)) + (wrap64 (977 * a1)))) + 7)) 65521), (0), wZ, wZ, H', ⟨Nat.le_refl _⟩, by repeat (first | exact Drawn0.refl _ | apply Drawn0.step)⟩
 case round =>
  clear H'
  try clear c1
  try clear p2
  obtain ⟨x7_1, x19_1, rfl, rfl, HA, HK1, ⟨m1, rfl⟩⟩ := hrel; cases gk with
  | zero => exact absurd HA.out (by simp [impl_hash.l0])
  | succ k1 =>
   have H := HA.out; clear HA
   simp only [impl_hash.l0] at H
   by_cases c4 : x19_1 < (a2.size : Int)
   ·rw [if_pos c4] at H
    have c4b0 : decide (x19_1 < (a2.size : Int)) = true := decide_eq_true c4; clear c4
    by_cases c5 : 0 ≤ x19_1
    ·rw [if_pos c5] at H
     have c5b0 : decide (0 ≤ x19_1) = true := decide_eq_true c5; clear c5
     by_cases c6 : x19_1 < (a2.size : Int)
     ·rw [if_pos c6] at H
      have c6b0 : decide (x19_1 < (a2.size : Int)) = true := decide_eq_true c6; clear c6; have H' := am H; clear H; have p7 : 0 ≤ (x19_1 : Int) := dT; have q7 : x19_1 < (a2.size : Int) := dT; have hx7 := bt_at a2 x19_1; replace p7 := eq_true p7; replace q7 := eq_true q7
      go_wp2
      go_roundg k1
      case measure => have := HK1.out; omega
      case rel => exact ⟨(Int.tmod (wrap64 ((wrap64 (263 * x7_1)) + (wrap64 (bt a2 x19_1)))) 65521), (wrap64 (x19_1 + 1)), wZ, wZ, H', ⟨by have := HK1.out; omega⟩, by repeat (first | exact Drawn0.refl _ | apply Drawn0.step)⟩
     ·rw [if_neg c6] at H
      exact absurd H (by simp)
    ·rw [if_neg c5] at H
     exact absurd H (by simp)
   ·rw [if_neg c4] at H
    have c4b0 : decide (x19_1 < (a2.size : Int)) = false := decide_eq_false c4; clear c4; have H' := am H; clear H
    go_wp2
    go_loopg [9, 31] k1 (fun kq v9 v31 w' => ∃ (x9_2 : Int) (x31_2 : Int), v9 = .int .i64 x9_2 ∧ v31 = .int .i64 x31_2 ∧ Aside0 (impl_hash.l1 kq x7_1 x9_2 x31_2 = some r) ∧ Aside0 (kq ≤ k1) ∧ Drawn0 w w')
    case atStart => exact ⟨(1), (0), wZ, wZ, H', ⟨Nat.le_refl _⟩, by repeat (first | exact Drawn0.refl _ | apply Drawn0.step)⟩
    case round =>
     clear H'
     try clear c1
     try clear p2
     try clear c4
     try clear c4b0
     try clear c5
     try clear c5b0
     try clear c6
     try clear c6b0
     try clear p6
     try clear p7
     try clear q7
     try clear hx7
     try clear p2
     try clear p7
     try clear q7
     obtain ⟨x9_2, x31_2, rfl, rfl, HA, HK2, ⟨m2, rfl⟩⟩ := hrel; cases gk with
     | zero => exact absurd HA.out (by simp [impl_hash.l1])
     | succ k2 =>
      have H := HA.out; clear HA
      simp only [impl_hash.l1] at H
      by_cases c8 : x31_2 < 11
      ·rw [if_pos c8] at H
       have c8b0 : decide (x31_2 < 11) = true := decide_eq_true c8; clear c8; have H' := am H; clear H
       go_wp2
       go_roundg k2
       case measure => have := HK1.out; have := HK2.out; omega
       case rel => exact ⟨(Int.tmod (wrap64 (x9_2 * x7_1)) 65521), (wrap64 (x31_2 + 1)), wZ, wZ, H', ⟨by have := HK1.out; have := HK2.out; omega⟩, by repeat (first | exact Drawn0.refl _ | apply Drawn0.step)⟩
      ·rw [if_neg c8] at H
       have c8b0 : decide (x31_2 < 11) = false := decide_eq_false c8; clear c8; obtain rfl := Option.some.inj H
       go_wp2
       go_ret
       exact ⟨by first | rfl | (simp; done) | (simp [*]; done), by repeat (first | exact Drawn0.refl _ | apply Drawn0.step)⟩

def impl_place.f (k : Nat) (a0 : Int) (a1 : Int) (a2 : ByteArray) (a3 : Int) : Option (Int) := (impl_hash.f k a0 a1 a2).bind fun t236 => (some (wrap64 (Int.tdiv (wrap64 (t236 * a3)) 65521)))
theorem impl_place.calls (k : Nat) (a0 : Int) (a1 : Int) (a2 : ByteArray) (a3 : Int) (r : Int) (w : World) (h : impl_place.f k a0 a1 a2 a3 = some r) :
  Calls Try.prog 73 #[.int .i64 a0, .int .i64 a1, .string a2, .int .i64 a3] w fun e w' => e = .returned (.int .i64 r) ∧ Drawn0 w w' := by
 have H : ((impl_hash.f k a0 a1 a2).bind fun t236 => (some (wrap64 (Int.tdiv (wrap64 (t236 * a3)) 65521)))) = some r := h; clear h; replace H := Option.bind_eq_some_iff.mp H; obtain ⟨t236, A50, H⟩ := H; (try dsimp -simprocs only at H); have A5 := am A50; clear A50; obtain rfl := Option.some.inj H
 go_enter Try.func73, Try.ntmps73
 go_wp2_with (first | ((with_reducible refine gate_callee (f := 140) rfl ?_); refine gL (some 12) Try.func140 #[.int .i64 a0, .int .i64 a1, .string a2] ?_; (with_reducible refine (impl_hash.calls k a0 a1 a2 t236 _ A5.out).mono ?_); rintro e w' ⟨rfl, ⟨nd, rfl⟩⟩; refine ⟨_, rfl, ?_⟩))
 go_ret
 exact ⟨by first | rfl | (simp; done) | (simp [*]; done), by repeat (first | exact Drawn0.refl _ | apply Drawn0.step)⟩

def impl_isSeed.f (a0 : Int) : Option (Bool) := (impl_in.f a0 0 9999).bind fun t237 => (some t237)
theorem impl_isSeed.calls (a0 : Int) (r : Bool) (w : World) (h : impl_isSeed.f a0 = some r) :
  Calls Try.prog 80 #[.int .i64 a0] w fun e w' => e = .returned (.bool r) ∧ Drawn0 w w' := by
 have H : ((impl_in.f a0 0 9999).bind fun t237 => (some t237)) = some r := h; clear h; replace H := Option.bind_eq_some_iff.mp H; obtain ⟨t237, A20, H⟩ := H; (try dsimp -simprocs only at H); have A2 := am A20; clear A20; obtain rfl := Option.some.inj H
 go_enter Try.func80, Try.ntmps80
 go_wp2_with (first | ((with_reducible refine gate_callee (f := 70) rfl ?_); refine gL (some 4) Try.func70 #[.int .i64 a0, .int .i64 0, .int .i64 9999] ?_; (with_reducible refine (impl_in.calls a0 0 9999 t237 _ A2.out).mono ?_); rintro e w' ⟨rfl, ⟨nd, rfl⟩⟩; refine ⟨_, rfl, ?_⟩))
 go_ret
 exact ⟨by first | rfl | (simp; done) | (simp [*]; done), by repeat (first | exact Drawn0.refl _ | apply Drawn0.step)⟩

def impl_widthOk.f (a0 : Int) : Option (Bool) := (impl_in.f a0 1 8).bind fun t238 => (some t238)
theorem impl_widthOk.calls (a0 : Int) (r : Bool) (w : World) (h : impl_widthOk.f a0 = some r) :
  Calls Try.prog 131 #[.int .i64 a0] w fun e w' => e = .returned (.bool r) ∧ Drawn0 w w' := by
 have H : ((impl_in.f a0 1 8).bind fun t238 => (some t238)) = some r := h; clear h; replace H := Option.bind_eq_some_iff.mp H; obtain ⟨t238, A20, H⟩ := H; (try dsimp -simprocs only at H); have A2 := am A20; clear A20; obtain rfl := Option.some.inj H
 go_enter Try.func131, Try.ntmps131
 go_wp2_with (first | ((with_reducible refine gate_callee (f := 70) rfl ?_); refine gL (some 4) Try.func70 #[.int .i64 a0, .int .i64 1, .int .i64 8] ?_; (with_reducible refine (impl_in.calls a0 1 8 t238 _ A2.out).mono ?_); rintro e w' ⟨rfl, ⟨nd, rfl⟩⟩; refine ⟨_, rfl, ?_⟩))
 go_ret
 exact ⟨by first | rfl | (simp; done) | (simp [*]; done), by repeat (first | exact Drawn0.refl _ | apply Drawn0.step)⟩

def impl_threePlaces.l0 : Nat → Int → ByteArray → Int → List Int → Int → Option (List Int)
 | 0, _, _, _, _, _ => none
 | k + 1, x0, x1, x2, x7, x10 => if x10 < 3 then ((impl_place.f k x0 x10 x1 x2).bind fun t242 => (if x7.length < 17592186044416 then (impl_threePlaces.l0 k x0 x1 x2 (x7 ++ [wrap64 (t242 + (wrap64 (x10 * x2)))]) (wrap64 (x10 + 1))) else (none))) else (some x7)
def impl_threePlaces.f (k : Nat) (a0 : Int) (a1 : ByteArray) (a2 : Int) : Option (List Int) := impl_threePlaces.l0 k a0 a1 a2 (([] : List Int)) 0
theorem impl_threePlaces.calls (k : Nat) (a0 : Int) (a1 : ByteArray) (a2 : Int) (r : List Int) (w : World) (h : impl_threePlaces.f k a0 a1 a2 = some r) :
  Calls Try.prog 152 #[.int .i64 a0, .string a1, .int .i64 a2] w fun e w' => ∃ v0_ : Value, e = .returned (v0_) ∧ Kd.R (Kd.int .i64) 3 w' w.heap.size (fun _ => True) v0_ r ∧ Below w.heap.size w w' := by
 have HB := am (Below.refl w.heap.size w); have H : (impl_threePlaces.l0 k a0 a1 a2 (([] : List Int)) 0) = some r := h; clear h; obtain ⟨y239, hy239⟩ : ∃ y_ : List Int, y_ = (([] : List Int)) := ⟨_, rfl⟩
 replace H : (impl_threePlaces.l0 k a0 a1 a2 y239 0) = some r := by first | (rw [hy239]; with_reducible exact H) | (have H2_ := (Option.bind_some _ _).symm.trans H; rw [hy239]; with_reducible exact H2_) | (have H2_ := (Option.bind_some _ _).symm.trans H; with_reducible exact H2_) | with_reducible exact H | (rw [hy239]; exact H) | exact H
 have Ny239 := am hy239; clear hy239; have H' := am H; clear H
 go_enter Try.func152, Try.ntmps152
 go_wp2_with (first | ((with_reducible refine gate_dst (N := 9) rfl ?_); refine Kd.R_lit (Kd.int .i64) _ 3 ?hg (N := 9) ?hd (xs := ([] : List Int)) (inner := []) (ok := fun _ => True) (okp := fun _ => True) ?hr ?hp (fun _ hk => hk) trivial (Below.refl _ _) (Nat.le_refl _) (by simp) ?_; (case hd => rfl); (case hg => rfl); (case hr => first | (go_simp; done) | (go_simp; rfl)); (case hp => exact (Reps.none _ _)); intro v240 w4 ho5 hb hg_ hnew_; clear hg_ hnew_; (first | rw [← Ny239.out] at ho5 | (simp only [Int.reduceToNat] at ho5; rw [← Ny239.out] at ho5)); have n0_ := Rl ho5 HB; have n1_ := Bb HB hb; clear HB; revert n0_ n1_; intro HO241 HB; clear hb ho5))
 (try simp only [aP])
 go_loopg [7, 10] k (fun kq v7 v10 w' => ∃ (x7_1 : List Int) (x10_1 : Int), v10 = .int .i64 x10_1 ∧ Aside0 (impl_threePlaces.l0 kq a0 a1 a2 x7_1 x10_1 = some r) ∧ Aside0 (kq ≤ k) ∧ Aside0 (Kd.R (Kd.int .i64) 3 w' w.heap.size (fun _ => True) v7 x7_1) ∧ Aside0 (Below w.heap.size w w'))
 case atStart => exact ⟨(y239), (0), wZ, H', ⟨Nat.le_refl _⟩, ⟨Rz HO241.out⟩, ⟨Bz HB.out⟩⟩
 case round =>
  clear H'
  try clear c1
  try clear p2
  obtain ⟨x7_1, x10_1, rfl, HA, HK1, HO_7, HB⟩ := hrel; cases gk with
  | zero => exact absurd HA.out (by simp [impl_threePlaces.l0])
  | succ k1 =>
   have H := HA.out; clear HA
   simp only [impl_threePlaces.l0] at H
   by_cases c6 : x10_1 < 3
   ·rw [if_pos c6] at H
    have c6b0 : decide (x10_1 < 3) = true := decide_eq_true c6; clear c6; replace H := Option.bind_eq_some_iff.mp H; obtain ⟨t242, A70, H⟩ := H; (try dsimp -simprocs only at H); have A7 := am A70; clear A70
    by_cases c8 : x7_1.length < 17592186044416
    ·rw [if_pos c8] at H
     have LMc8 := am c8; clear c8; obtain ⟨y243, hy243⟩ : ∃ y_ : List Int, y_ = (x7_1 ++ [wrap64 (t242 + (wrap64 (x10_1 * a2)))]) := ⟨_, rfl⟩
     replace H : (impl_threePlaces.l0 k1 a0 a1 a2 y243 (wrap64 (x10_1 + 1))) = some r := by first | (rw [hy243]; with_reducible exact H) | (have H2_ := (Option.bind_some _ _).symm.trans H; rw [hy243]; with_reducible exact H2_) | (have H2_ := (Option.bind_some _ _).symm.trans H; with_reducible exact H2_) | with_reducible exact H | (rw [hy243]; exact H) | exact H
     have Ny243 := am hy243; clear hy243; have H' := am H; clear H
     go_wp2_with (first | ((with_reducible refine gate_callee (f := 73) rfl ?_); refine gL (some 18) Try.func73 #[.int .i64 a0, .int .i64 x10_1, .string a1, .int .i64 a2] ?_; (with_reducible refine (impl_place.calls k1 a0 x10_1 a1 a2 t242 _ A7.out).mono ?_); rintro e w' ⟨rfl, ⟨nd, rfl⟩⟩; refine ⟨_, rfl, ?_⟩) | ((with_reducible refine gate_builtin (b := .append) (xs := #[.tmp 13, .tmp 23]) rfl ?_); at_builtin; refine Kd.R_append (Kd.int .i64) (w0 := w) w.heap.size rfl (.tmp 13) (.tmp 23) 32 3 (.int .i64 0) 8 rfl Try.underlying32 info3 rfl (by decide) (by omega) u7 x7_1 (wrap64 (t242 + (wrap64 (x10_1 * a2)))) [.int .i64 (wrap64 (t242 + (wrap64 (x10_1 * a2))))] (fun _ => True) (fun _ => False) rfl rfl ?aP (fun _ hk => hk.elim) ?aF ?aO ?aB ?aS ?aL ?_; (case aP => exact rfl); (case aB => exact (Bz HB.out)); (case aF => exact (fun _ _ => trivial)); (case aO => exact (Rz HO_7.out)); (case aS => exact (below_size (Bz HB.out))); (case aL => have := LMc8.out; omega); intro v244 w9 ho hb hg hat; rw [← Ny243.out] at ho; have n0_ := am (hb); have n1_ := am (ho); clear HB HO_7; revert n0_ n1_; intro HB HO245; clear ho hb hg hat))
     go_roundg k1
     case measure => have := HK1.out; omega
     case rel => exact ⟨(y243), (wrap64 (x10_1 + 1)), wZ, H', ⟨by have := HK1.out; omega⟩, ⟨Rz HO245.out⟩, ⟨Bz HB.out⟩⟩
    ·rw [if_neg c8] at H
     exact absurd H (by simp)
   ·rw [if_neg c6] at H
    have c6b0 : decide (x10_1 < 3) = false := decide_eq_false c6; clear c6; obtain rfl := Option.some.inj H
    go_wp2
    go_ret
    exact ⟨_, eZ, Rz HO_7.out, Bz HB.out⟩

def impl_hyper.l0 : Nat → Int → Int → List ByteArray → Int → Int → Int → List (List Int) → Option (Int × (List (List Int)))
 | 0, _, _, _, _, _, _, _ => none
 | k + 1, x0, x2, x13, x14, x15, x248000, x248001 => if x15 < x14 then (if 0 ≤ x15 then (if x15 < (x13.length : Int) then ((impl_threePlaces.f k x0 (rdOf ByteArray.empty x13 x15) x2).bind fun t249 => (if x248001.length < 5864062014805 then (impl_hyper.l0 k x0 x2 x13 x14 (wrap64 (x15 + 1)) x248000 (x248001 ++ [t249])) else (none))) else (none)) else (none)) else (some (x248000, x248001))
def impl_hyper.f (k : Nat) (a0 : Int) (l1 : List ByteArray) (a2 : Int) : Option (Int × (List (List Int))) := impl_hyper.l0 k a0 a2 l1 (l1.length : Int) 0 (wrap64 (3 * a2)) ([] : List (List Int))
def impl_hyper.T5 : Bool × List (List Nat × List Nat) := (true, [([], []), ([0], [0]), ([], []), ([], []), ([], []), ([2, 3, 4], [2, 3, 4]), ([5], [5]), ([1, 6, 5], [1, 6]), ([0, 1, 2, 3, 4, 5, 6, 7], []), ([8, 7, 7, 0, 1, 2, 3, 4, 5, 6, 7], [7, 8])])
def impl_hyper.B5 : List Nat := [0, 1, 0, 0, 0, 28, 60, 127, 255, 511]
theorem impl_hyper.tab5 : rtab .any (opsOf Try.f116 5) = impl_hyper.T5 := by kernel_rfl
theorem impl_hyper.bits5 : waitsOk impl_hyper.T5.2 impl_hyper.B5 = true := by kernel_rfl
theorem impl_hyper.calls (k : Nat) (a0 : Int) (A1 : Option Addr) (c1 : Nat) (l1 : List ByteArray) (a2 : Int) (r1 : Int) (r2 : List (List Int)) (w : World) (hr1 : Kd.C Kd.string w A1 l1.length l1) (hc1 : l1.length ≤ c1) (h : impl_hyper.f k a0 l1 a2 = some (r1, r2)) :
  Calls Try.prog 116 #[.int .i64 a0, .slice A1 l1.length c1, .int .i64 a2] w fun e w' => ∃ v1_ : Value, e = .returned (.agg #[.int .i64 r1, v1_]) ∧ Kd.S (Kd.slice 3 (Kd.int .i64)) 32 w' w.heap.size (fun _ => True) v1_ r2 ∧ Below w.heap.size w w' := by
 have hu37 := Try.underlying37; have HR1 := am hr1; have HC1 := am hc1; clear hr1 hc1; have HB := am (Below.refl w.heap.size w); have H : (impl_hyper.l0 k a0 a2 l1 (l1.length : Int) 0 (wrap64 (3 * a2)) ([] : List (List Int))) = some (r1, r2) := h; clear h; have H' := am H; clear H
 go_enter Try.func116, Try.ntmps116
 go_wp2_with (first | ((with_reducible refine gate_dst (N := 6) rfl ?_); refine bE 6 #[.int .i64 0, .slice none 0 0] 37 ?_; intro gb246 hg w4 hbox hb; have n0_ := Bb HB hb; have n1_ := am (hbox); have n2_ := Gl HB hg; have n3_ := Gl HB hg; clear HB; revert n0_ n1_ n2_ n3_; intro HB BK246 GW246 GE246; clear hb hbox hg) | ((with_reducible refine gate_dst (N := 7) rfl ?_); refine bE 7 #[.int .i64 0, .slice none 0 0] 37 ?_; intro gb247 hg w5 hbox hb; have n0_ := Kb BK246 hb; have n1_ := Bc HB hb; have n2_ := am (hbox); have n3_ := Gm HB hg; have n4_ := Gm HB hg; have n5_ := Nl BK246 hg; have n6_ := Ng BK246 hg; clear BK246 HB; revert n0_ n1_ n2_ n3_ n4_ n5_ n6_; intro BK246 HB BK247 GW247 GE247 NB246_247 NB247_246; clear hb hbox hg; have hnb6 := NB247_246.out; have hnc6 := NB246_247.out; obtain ⟨hcz7_0, hcz7_1, hfz7_0, hfz7_1⟩ := cf2 (w := w5) BK247))
 (try simp only [aP])
 go_loopg [15] k (fun kq v15 w' => ∃ (x15_1 : Int) (x248001_1 : List (List Int)) (u248001 : Value), v15 = .int .i64 x15_1 ∧ Aside0 (impl_hyper.l0 kq a0 a2 l1 (l1.length : Int) x15_1 (wrap64 (3 * a2)) x248001_1 = some (r1, r2)) ∧ Aside0 (kq ≤ k) ∧ Aside0 (Kd.S (Kd.slice 3 (Kd.int .i64)) 32 w' w.heap.size (fun _ => True) u248001 x248001_1) ∧ Aside0 (w'.heap[gb246]? = some (.cells #[.int .i64 0, (.slice none 0 0)] 37 (0, 0))) ∧ Aside0 (w'.heap[gb247]? = some (.cells #[.int .i64 (wrap64 (3 * a2)), u248001] 37 (0, 0))) ∧ Aside0 (Below w.heap.size w w'))
 case atStart => exact ⟨(0), (([] : List (List Int))), (.slice none 0 0), wZ, H', ⟨Nat.le_refl _⟩, ⟨by first | exact Kd.S_nil _ _ _ _ _ | exact Kd.N_nil _ _ _ _ _ | exact Kd.V_nil _ _ _ _ _ | exact Kd.Q_nil _ _ _ _ _ | exact Kd.R_nil _ _ _ _ _⟩, ⟨by (with_reducible repeat (first | refine blk_drewN ?_ _ | refine blk_drew ?_ | refine blk_alloc ?_ _)); refine blk_far ?_ NB246_247.out _; (with_reducible repeat (first | refine blk_drewN ?_ _ | refine blk_drew ?_ | refine blk_alloc ?_ _)); refine blk_far ?_ NB246_247.out _; (with_reducible repeat (first | refine blk_drewN ?_ _ | refine blk_drew ?_ | refine blk_alloc ?_ _)); exact BK246.out⟩, ⟨by (with_reducible repeat (first | refine blk_drewN ?_ _ | refine blk_drew ?_ | refine blk_alloc ?_ _)); refine blk_put (cs := #[.int .i64 (wrap64 (3 * a2)), .slice none 0 0]) ?_ 1 _ rfl; (with_reducible repeat (first | refine blk_drewN ?_ _ | refine blk_drew ?_ | refine blk_alloc ?_ _)); refine blk_put (cs := #[.int .i64 0, .slice none 0 0]) ?_ 0 _ rfl; (with_reducible repeat (first | refine blk_drewN ?_ _ | refine blk_drew ?_ | refine blk_alloc ?_ _)); exact BK247.out⟩, ⟨Bq⟩⟩
 case round =>
  clear H'
  try clear c1
  try clear p2
  try clear c6
  try clear p6
  try clear hcz7_0
  try clear hcz7_1
  try clear hfz7_0
  try clear hfz7_1
  obtain ⟨x15_1, x248001_1, u248001, rfl, HA, HK1, HO_248001, BK246, BK247, HB⟩ := hrel; cases gk with
  | zero => exact absurd HA.out (by simp [impl_hyper.l0])
  | succ k1 =>
   have H := HA.out; clear HA
   simp only [impl_hyper.l0] at H
   by_cases c8 : x15_1 < (l1.length : Int)
   ·rw [if_pos c8] at H
    have c8b0 : decide (x15_1 < (l1.length : Int)) = true := decide_eq_true c8; clear c8
    by_cases c9 : 0 ≤ x15_1
    ·rw [if_pos c9] at H
     have c9b0 : decide (0 ≤ x15_1) = true := decide_eq_true c9; clear c9
     by_cases c10 : x15_1 < (l1.length : Int)
     ·rw [if_pos c10] at H
      have c10b0 : decide (x15_1 < (l1.length : Int)) = true := decide_eq_true c10; clear c10; replace H := Option.bind_eq_some_iff.mp H; obtain ⟨t249, A110, H⟩ := H; (try dsimp -simprocs only at H); have A11 := am A110; clear A110
      by_cases c12 : x248001_1.length < 5864062014805
      ·rw [if_pos c12] at H
       have LMc12 := am c12; clear c12; obtain ⟨y252, hy252⟩ : ∃ y_ : List (List Int), y_ = (x248001_1 ++ [t249]) := ⟨_, rfl⟩
       replace H : (impl_hyper.l0 k1 a0 a2 l1 (l1.length : Int) (wrap64 (x15_1 + 1)) (wrap64 (3 * a2)) y252) = some (r1, r2) := by first | (rw [hy252]; with_reducible exact H) | (have H2_ := (Option.bind_some _ _).symm.trans H; rw [hy252]; with_reducible exact H2_) | (have H2_ := (Option.bind_some _ _).symm.trans H; with_reducible exact H2_) | with_reducible exact H | (rw [hy252]; exact H) | exact H
       have Ny252 := am hy252; clear hy252; have H' := am H; clear H; have p248 : 0 ≤ (x15_1 : Int) := dT; have q248 : x15_1 < (l1.length : Int) := dT; obtain ⟨ad248, e248, hx248_0⟩ := Kd.at_string HR1.out x15_1 p248 q248; cases e248; replace hx248_0 := (HB.out.cell (World.block_lt_of_cell? w _ hx248_0)).trans hx248_0; replace p248 := eq_true p248; replace q248 := eq_true q248
       try go_wp2
       have n0_ := am (Kd.S_drew HO_248001.out); have n1_ := am (blk_drew BK246.out); have n2_ := am (blk_drew BK247.out); have n3_ := am (below_drew1 HB.out); clear HO_248001 BK246 BK247 HB; revert n0_ n1_ n2_ n3_; intro HO_248001 BK246 BK247 HB; refine start_ (n := 10) (S := fun w' => w'.cell? ⟨gb247, 0, none⟩ = some (.int .i64 (wrap64 (3 * a2))) ∧ w'.cell? ⟨gb247, 1, none⟩ = some (u248001)) (ds := [9]) (bA 10 0) (by kernel_rfl) rfl rfl ⟨cz BK247 0, cz BK247 1⟩ (fun hHeld => ?_); refine with_tabW impl_hyper.tab5 impl_hyper.bits5 (fun HT_ HW_ => ?_); generalize wr.drew = w13 at HO_248001 BK246 BK247 HB hHeld ⊢; refine pZ 0 (some 19) (bA 10 1) HT_.out ?_; refine pZ 2 (some 21) (bA 10 5) HT_.out ?_; refine pZ 3 (some 22) (bA 10 13) HT_.out ?_; refine pZ 4 (some 23) (bA 10 29) HT_.out ?_; refine tZ2 1 (some 20) (bA 10 31) HT_.out HW_.out hHeld ?_; refine oZ 5 (some 24) (bA 10 63) HT_.out (fun K hK => ?_); refine gZ Try.func152 #[.int .i64 a0, .string (rdOf ByteArray.empty l1 x15_1), .int .i64 a2] ?_
       with_reducible refine (impl_threePlaces.calls k1 a0 (rdOf ByteArray.empty l1 x15_1) a2 t249 _ A11.out).mono ?_
       rintro e w14 ⟨v250, rfl, ho0, hb⟩; refine ⟨_, rfl, ?_⟩; have n0_ := am (Kd.S_elder' (by (with_reducible repeat (first | apply Kd.S_alloc | apply Kd.S_drewN | apply Kd.S_drew)); exact HO_248001.out) (Kd.R_base ho0) hb); have n1_ := Rm ho0 HB; have n2_ := Kb BK246 hb; have n3_ := Kb BK247 hb; have n4_ := Bc HB hb; clear HO_248001 BK246 BK247 HB; revert n0_ n1_ n2_ n3_ n4_; intro HO_248001 HO251 BK246 BK247 HB
       (try clear hb)
       (try clear hb2)
       (try clear hk)
       (try clear hi)
       (try clear ho0)
       obtain ⟨Ao16, co16, eo16⟩ := Kd.R_slice HO251.out
       (first | subst eo16 | (injection eo16 with f1_ f2_ f3_; have f4_ := f1_.symm; have f5_ := f3_.symm; clear f1_ f2_ f3_; subst f4_; subst f5_))
       refine hK.out _ _ ⟨cz BK247 0, cz BK247 1⟩ (fun hHeld => ?_); clear hK K; refine norm_ (a' := ?_) ?_ ?_; rotate_left; show Act.put _ (some 24) _ = _; simp only [aP, i64_w, i32_w]; rfl; refine oZ 6 (some 25) (bA 10 127) HT_.out (fun K hK => ?_); refine value_ (w1 := ?_) (v := ?_) (by rfl) rfl ?_ ?_
       rotate_left 2
       ·go_simp
        constructor
        ·rfl
        ·rfl
       refine hK.out _ _ ⟨(blk_cell (blk_alloc BK247.out _) 0).trans rfl, (blk_cell (blk_alloc BK247.out _) 1).trans rfl⟩ (fun hHeld => ?_); clear hK K; refine norm_ (a' := ?_) ?_ ?_; rotate_left; show Act.put _ (some 25) _ = _; simp only [aP, i64_w, i32_w]; rfl; refine oZ 7 (some 26) (bA 10 255) HT_.out (fun K hK => ?_); refine Kd.S_append_step (Kd.slice 3 (Kd.int .i64)) (w0 := w) w.heap.size (by rfl) (.tmp 20) (.tmp 25) 35 32 (.slice none 0 0) 24 rfl Try.underlying35 info32 rfl (by decide) (by omega) u248001 x248001_1 t249 [.slice Ao16 t249.length co16] (fun _ => True) (fun k_ => some k_ = (.slice Ao16 t249.length co16 : Value).ownBlock) rfl rfl ?aP (fun k_ hk_ => ((Kd.R_mono (ok' := fun k_ => ((fun _ => True)) k_ ∧ some k_ ≠ (u248001 : Value).ownBlock) (Kd.R_apart' (HO251.out) (Kd.S_typed HO_248001.out) (by decide)) (fun k_ hk => ⟨trivial, hk.2⟩))).1 k_ hk_.symm) ?aF ?aO ?aB ?aS ?aL ?_
       (case aP => exact Kd.M_row (Kd.R_mono (Kd.R_tight rfl (Kd.R_mono (ok' := fun k_ => ((fun _ => True)) k_ ∧ some k_ ≠ (u248001 : Value).ownBlock) (Kd.R_apart' (HO251.out) (Kd.S_typed HO_248001.out) (by decide)) (fun k_ hk => ⟨trivial, hk.2⟩))) (fun _ h_ => h_)))
       (case aB => exact (Bq))
       (case aF => exact (fun _ _ => trivial))
       (case aO => exact (by (with_reducible repeat (first | apply Kd.S_alloc | apply Kd.S_drewN | apply Kd.S_drew)); exact Kd.S_mono HO_248001.out (fun k_ hk => ⟨trivial, fun e_ => hk.2 e_⟩)))
       (case aS => exact (below_size (w := w) (Bq)))
       (case aL => have := LMc12.out; omega)
       intro v253 w15 ho hb hg hat; rw [← Ny252.out] at ho; have n0_ := am (blk_grown (g := gb246) (o := .cells #[.int .i64 0, .slice none 0 0] 37 (0, 0)) (Kz BK246.out) hg (Kd.S_ne HO_248001.out BK246.out (by decide))); have n1_ := am (blk_grown (g := gb247) (o := .cells #[.int .i64 (wrap64 (3 * a2)), u248001] 37 (0, 0)) (Kz BK247.out) hg (Kd.S_ne HO_248001.out BK247.out (by decide))); have n2_ := am (hb); have n3_ := am (ho); clear BK246 BK247 HB HO_248001 HO251; revert n0_ n1_ n2_ n3_; intro BK246 BK247 HB HO254; clear ho hb hg hat; obtain ⟨Ao17, co17, eo17⟩ := Kd.S_slice HO254.out
       (first | subst eo17 | (injection eo17 with f1_ f2_ f3_; have f4_ := f1_.symm; have f5_ := f3_.symm; clear f1_ f2_ f3_; subst f4_; subst f5_))
       refine hK.out _ _ ⟨cz BK247 0, cz BK247 1⟩ (fun hHeld => ?_); clear hK K; refine norm_ (a' := ?_) ?_ ?_; rotate_left; show Act.put _ (some 26) _ = _; simp only [aP, i64_w, i32_w]; rfl; refine pZ 8 (some 27) (bA 10 511) HT_.out ?_; refine lZ 9 none (bA 10 1023) HT_.out (fun K hK => ?_); have hs18 : w15.cell? ⟨gb247, 1, none⟩ = some (u248001) := cz BK247 1; have hfs18 := blk_frozen BK247.out 1; have hns18_0 := NB246_247.out; have hms18_0 := NB247_246.out; refine skip_ (w1 := ?_) (by rfl) rfl ?_ ?_
       rotate_left
       ·go_simp
        rfl
       refine hK.out _ _ ?_; clear hK K; refine done_ (done_of HT_.out (by kernel_rfl)) ?_
       try go_wp2
       go_roundg k1
       case measure => have := HK1.out; omega
       case rel => exact ⟨(wrap64 (x15_1 + 1)), (y252), (.slice Ao17 y252.length co17), wZ, H', ⟨by have := HK1.out; omega⟩, ⟨by (with_reducible repeat (first | apply Kd.S_alloc | apply Kd.S_drewN | apply Kd.S_drew)); exact Kd.S_mono (Kd.S_far (p := ⟨gb247, 1, none⟩) (Kd.S_types HO254.out BK247.out (by decide)) (fun _ hk => hk.2) (.slice Ao17 y252.length co17)) (fun _ hk => trivial)⟩, ⟨by (with_reducible repeat (first | refine blk_drewN ?_ _ | refine blk_drew ?_ | refine blk_alloc ?_ _)); refine blk_far ?_ NB246_247.out _; (with_reducible repeat (first | refine blk_drewN ?_ _ | refine blk_drew ?_ | refine blk_alloc ?_ _)); exact BK246.out⟩, ⟨by (with_reducible repeat (first | refine blk_drewN ?_ _ | refine blk_drew ?_ | refine blk_alloc ?_ _)); refine blk_put (cs := #[.int .i64 (wrap64 (3 * a2)), u248001]) ?_ 1 _ rfl; (with_reducible repeat (first | refine blk_drewN ?_ _ | refine blk_drew ?_ | refine blk_alloc ?_ _)); exact BK247.out⟩, ⟨Bq⟩⟩
      ·rw [if_neg c12] at H
       exact absurd H (by simp)
     ·rw [if_neg c10] at H
      exact absurd H (by simp)
    ·rw [if_neg c9] at H
     exact absurd H (by simp)
   ·rw [if_neg c8] at H
    have c8b0 : decide (x15_1 < (l1.length : Int)) = false := decide_eq_false c8; clear c8
    simp only [Option.some.injEq, Prod.mk.injEq] at H
    obtain ⟨rfl, rfl⟩ := H; have hnb19 := NB247_246.out; have hnc19 := NB246_247.out; obtain ⟨hcz20_0, hcz20_1, hfz20_0, hfz20_1⟩ := cf2 (w := wr) BK247; obtain ⟨hcz21_0, hcz21_1, hfz21_0, hfz21_1⟩ := cf2 (w := wr) BK246; obtain ⟨Ao22, co22, eo22⟩ := Kd.S_slice HO_248001.out; subst eo22
    go_wp2
    refine bodyPost_ret (results_cell_row rfl _ _ gb246 37 #[.int .i64 (wrap64 (3 * a2)), .slice Ao22 x248001_1.length co22] (0, 0) _ rfl (by (with_reducible repeat (first | refine blk_drewN ?_ _ | refine blk_drew ?_ | refine blk_alloc ?_ _)); refine blk_put (cs := #[.int .i64 (wrap64 (3 * a2)), .slice none 0 0]) ?_ 1 _ rfl; (with_reducible repeat (first | refine blk_drewN ?_ _ | refine blk_drew ?_ | refine blk_alloc ?_ _)); refine blk_put (cs := #[.int .i64 0, .slice none 0 0]) ?_ 0 _ rfl; exact Kz BK246.out) Try.underlying37 rfl (by kernel_rfl)) rfl ?_; exact ⟨_, eZ, by (with_reducible repeat (first | apply Kd.S_alloc | apply Kd.S_drewN | apply Kd.S_drew)); exact Kd.S_mono (Kd.S_far (p := ⟨gb246, 1, none⟩) (Kd.S_far (p := ⟨gb246, 0, none⟩) (Kd.S_types HO_248001.out BK246.out (by decide)) (fun _ hk => hk.2) (.int .i64 (wrap64 (3 * a2)))) (fun _ hk => hk.2) (.slice Ao22 x248001_1.length co22)) (fun _ hk => trivial), Bq⟩

def impl_Hyper_none.f (a0_0 : Int) (l0_1 : List (List Int)) : Option (List Bool) := if 0 ≤ (l0_1.length : Int) then (if ((l0_1.length : Int) : Int).toNat ≤ 281474976710656 then (some (List.replicate ((l0_1.length : Int) : Int).toNat false)) else (none)) else (none)
theorem impl_Hyper_none.calls (g0 : Nat) (a0_0 : Int) (A0_1 : Option Addr) (c0_1 : Nat) (l0_1 : List (List Int)) (r : List Bool) (w : World) (hb0 : w.heap[g0]? = some (.cells #[.int .i64 a0_0, .slice A0_1 l0_1.length c0_1] 37 (0, 0))) (hr0_1 : Kd.C (Kd.slice 3 (Kd.int .i64)) w A0_1 l0_1.length l0_1) (hc0_1 : l0_1.length ≤ c0_1) (h : impl_Hyper_none.f a0_0 l0_1 = some r) :
  Calls Try.prog 83 #[.pointer (some ⟨g0, 0, none⟩)] w fun e w' => ∃ v0_ : Value, e = .returned (v0_) ∧ Kd.R Kd.bool 4 w' w.heap.size (fun _ => True) v0_ r ∧ Below w.heap.size w w' := by
 have HR0_1 := am hr0_1; have HC0_1 := am hc0_1; clear hr0_1 hc0_1; have BK0 := am hb0; clear hb0; have HB := am (Below.refl w.heap.size w); have H : (if 0 ≤ (l0_1.length : Int) then (if ((l0_1.length : Int) : Int).toNat ≤ 281474976710656 then (some (List.replicate ((l0_1.length : Int) : Int).toNat false)) else (none)) else (none)) = some r := h; clear h
 by_cases c2 : 0 ≤ (l0_1.length : Int)
 ·rw [if_pos c2] at H
  have c2b0 := eq_true c2; have c2b1 : decide (0 ≤ (l0_1.length : Int)) = true := decide_eq_true c2; clear c2
  by_cases c3 : ((l0_1.length : Int) : Int).toNat ≤ 281474976710656
  ·rw [if_pos c3] at H
   have c3b0 := eq_true c3; have c3b1 : decide (((l0_1.length : Int) : Int).toNat ≤ 281474976710656) = true := decide_eq_true c3; clear c3; obtain ⟨y255, hy255⟩ : ∃ y_ : List Bool, y_ = (List.replicate ((l0_1.length : Int) : Int).toNat false) := ⟨_, rfl⟩
   replace H : (some y255) = some r := by first | (rw [hy255]; with_reducible exact H) | (have H2_ := (Option.bind_some _ _).symm.trans H; rw [hy255]; with_reducible exact H2_) | (have H2_ := (Option.bind_some _ _).symm.trans H; with_reducible exact H2_) | with_reducible exact H | (rw [hy255]; exact H) | exact H
   have Ny255 := am hy255; clear hy255; obtain rfl := Option.some.inj H; obtain ⟨hcz4_0, hcz4_1, hfz4_0, hfz4_1⟩ := cf2 (w := w) BK0
   go_enter Try.func83, Try.ntmps83
   go_wp2_with (first | ((with_reducible refine gate_dst (N := 8) rfl ?_); refine Kd.R_make Kd.bool _ 4 rfl (N := 8) rfl 96 _ _ rfl (l0_1.length : Int) rfl rfl Try.underlying96 (.bool false) 1 info4 rfl (by decide) (by omega) false (ok := fun _ => True) (okp := fun _ => True) rfl (fun _ hk => hk) trivial (dT) (Nat.le_trans (Nat.mul_le_mul_right _ (dT : (l0_1.length : Int).toNat ≤ 281474976710656)) (by omega)) (Below.refl _ _) (Nat.le_refl _) ?_; intro v256 w5 ho6 hb hg_ hnew_; clear hg_ hnew_; (first | rw [← Ny255.out] at ho6 | (simp only [Int.reduceToNat] at ho6; rw [← Ny255.out] at ho6)); have n0_ := Rm ho6 HB; have n1_ := Kb BK0 hb; have n2_ := Bc HB hb; clear BK0 HB; revert n0_ n1_ n2_; intro HO257 BK0 HB; clear hb ho6))
   go_ret
   exact ⟨_, eZ, Rz HO257.out, Bq⟩
  ·rw [if_neg c3] at H
   exact absurd H (by simp)
 ·rw [if_neg c2] at H
  exact absurd H (by simp)

mutual
def impl_Hyper_degrees.l0 : Nat → List Bool → List Int → List (List Int) → Int → Int → Option (List Int)
 | 0, _, _, _, _, _ => none
 | k + 1, x1, x5, x18, x19, x20 => if x20 < x19 then (if 0 ≤ x20 then (if x20 < (x18.length : Int) then (if x20 < (x1.length : Int) then (if rdOf false x1 x20 = true then (impl_Hyper_degrees.l0 k x1 x5 x18 x19 (wrap64 (x20 + 1))) else (impl_Hyper_degrees.l1 k x1 x5 x18 x19 x20 (rd_L2 x18 x20) ((rd_L2 x18 x20).length : Int) 0)) else (none)) else (none)) else (none)) else (some x5)
def impl_Hyper_degrees.l1 : Nat → List Bool → List Int → List (List Int) → Int → Int → List Int → Int → Int → Option (List Int)
 | 0, _, _, _, _, _, _, _, _ => none
 | k + 1, x1, x5, x18, x19, x20, x29, x30, x31 => if x31 < x30 then (if 0 ≤ x31 then (if x31 < (x29.length : Int) then (if 0 ≤ (rd x29 x31) then (if (rd x29 x31) < (x5.length : Int) then (impl_Hyper_degrees.l1 k x1 (x5.set ((rd x29 x31) : Int).toNat (wrap64 ((rd x5 (rd x29 x31)) + 1))) x18 x19 x20 x29 x30 (wrap64 (x31 + 1))) else (none)) else (none)) else (none)) else (none)) else (impl_Hyper_degrees.l0 k x1 x5 x18 x19 (wrap64 (x20 + 1)))
end
def impl_Hyper_degrees.f (k : Nat) (a0_0 : Int) (l0_1 : List (List Int)) (l1 : List Bool) : Option (List Int) := if 0 ≤ a0_0 then (if (a0_0 : Int).toNat ≤ 35184372088832 then (impl_Hyper_degrees.l0 k l1 (List.replicate (a0_0 : Int).toNat 0) l0_1 (l0_1.length : Int) 0) else (none)) else (none)
theorem impl_Hyper_degrees.calls (k : Nat) (g0 : Nat) (a0_0 : Int) (A0_1 : Option Addr) (c0_1 : Nat) (l0_1 : List (List Int)) (A1 : Option Addr) (c1 : Nat) (l1 : List Bool) (r : List Int) (w : World) (hb0 : w.heap[g0]? = some (.cells #[.int .i64 a0_0, .slice A0_1 l0_1.length c0_1] 37 (0, 0))) (hr0_1 : Kd.C (Kd.slice 3 (Kd.int .i64)) w A0_1 l0_1.length l0_1) (hc0_1 : l0_1.length ≤ c0_1) (hr1 : Kd.C Kd.bool w A1 l1.length l1) (hc1 : l1.length ≤ c1) (h : impl_Hyper_degrees.f k a0_0 l0_1 l1 = some r) :
  Calls Try.prog 84 #[.pointer (some ⟨g0, 0, none⟩), .slice A1 l1.length c1] w fun e w' => ∃ v0_ : Value, e = .returned (v0_) ∧ Kd.R (Kd.int .i64) 3 w' w.heap.size (fun _ => True) v0_ r ∧ Below w.heap.size w w' := by
 have HR0_1 := am hr0_1; have HC0_1 := am hc0_1; clear hr0_1 hc0_1; have HR1 := am hr1; have HC1 := am hc1; clear hr1 hc1; have BK0 := am hb0; clear hb0; have HB := am (Below.refl w.heap.size w); have H : (if 0 ≤ a0_0 then (if (a0_0 : Int).toNat ≤ 35184372088832 then (impl_Hyper_degrees.l0 k l1 (List.replicate (a0_0 : Int).toNat 0) l0_1 (l0_1.length : Int) 0) else (none)) else (none)) = some r := h; clear h
 by_cases c3 : 0 ≤ a0_0
 ·rw [if_pos c3] at H
  have c3b0 := eq_true c3; have c3b1 : decide (0 ≤ a0_0) = true := decide_eq_true c3; clear c3
  by_cases c4 : (a0_0 : Int).toNat ≤ 35184372088832
  ·rw [if_pos c4] at H
   have c4b0 := eq_true c4; have c4b1 : decide ((a0_0 : Int).toNat ≤ 35184372088832) = true := decide_eq_true c4; clear c4; obtain ⟨y258, hy258⟩ : ∃ y_ : List Int, y_ = (List.replicate (a0_0 : Int).toNat 0) := ⟨_, rfl⟩
   replace H : (impl_Hyper_degrees.l0 k l1 y258 l0_1 (l0_1.length : Int) 0) = some r := by first | (rw [hy258]; with_reducible exact H) | (have H2_ := (Option.bind_some _ _).symm.trans H; rw [hy258]; with_reducible exact H2_) | (have H2_ := (Option.bind_some _ _).symm.trans H; with_reducible exact H2_) | with_reducible exact H | (rw [hy258]; exact H) | exact H
   have Ny258 := am hy258; clear hy258; have H' := am H; clear H; obtain ⟨hcz5_0, hcz5_1, hfz5_0, hfz5_1⟩ := cf2 (w := w) BK0
   go_enter Try.func84, Try.ntmps84
   go_wp2_with (first | ((with_reducible refine gate_dst (N := 14) rfl ?_); refine Kd.R_make (Kd.int .i64) _ 3 rfl (N := 14) rfl 32 _ _ rfl a0_0 rfl rfl Try.underlying32 (.int .i64 0) 8 info3 rfl (by decide) (by omega) 0 (ok := fun _ => True) (okp := fun _ => True) rfl (fun _ hk => hk) trivial (dT) (Nat.le_trans (Nat.mul_le_mul_right _ (dT : a0_0.toNat ≤ 35184372088832)) (by omega)) (Below.refl _ _) (Nat.le_refl _) ?_; intro v259 w6 ho7 hb hg_ hnew_; clear hg_ hnew_; (first | rw [← Ny258.out] at ho7 | (simp only [Int.reduceToNat] at ho7; rw [← Ny258.out] at ho7)); have n0_ := Rm ho7 HB; have n1_ := Kb BK0 hb; have n2_ := Bc HB hb; clear BK0 HB; revert n0_ n1_ n2_; intro HO260 BK0 HB; clear hb ho7; obtain ⟨hcz8_0, hcz8_1, hfz8_0, hfz8_1⟩ := cf2 (w := w6) BK0))
   (try simp only [aP])
   go_loopg [20] k (fun kq v20 w' => ∃ (x5_1 : List Int) (x20_1 : Int), v20 = .int .i64 x20_1 ∧ Aside0 (impl_Hyper_degrees.l0 kq l1 x5_1 l0_1 (l0_1.length : Int) x20_1 = some r) ∧ Aside0 (kq ≤ k) ∧ Aside0 (Kd.R (Kd.int .i64) 3 w' w.heap.size (fun _ => True) v259 x5_1) ∧ Aside0 (w'.heap[g0]? = some (.cells #[.int .i64 a0_0, (.slice A0_1 l0_1.length c0_1)] 37 (0, 0))) ∧ Aside0 (Below w.heap.size w w'))
   case atStart => exact ⟨(y258), (0), wZ, H', ⟨Nat.le_refl _⟩, ⟨Rz HO260.out⟩, ⟨Kz BK0.out⟩, ⟨Bq⟩⟩
   case round =>
    clear H'
    try clear c1
    try clear p2
    try clear c3
    try clear c3b0
    try clear c3b1
    try clear c4
    try clear c4b0
    try clear c4b1
    try clear c8
    try clear hcz5_0
    try clear hcz5_1
    try clear hcz8_0
    try clear hcz8_1
    try clear hfz5_0
    try clear hfz5_1
    try clear hfz8_0
    try clear hfz8_1
    obtain ⟨x5_1, x20_1, rfl, HA, HK1, HO_5, BK0, HB⟩ := hrel; cases gk with
    | zero => exact absurd HA.out (by simp [impl_Hyper_degrees.l0])
    | succ k1 =>
     have H := HA.out; clear HA
     simp only [impl_Hyper_degrees.l0] at H
     by_cases c9 : x20_1 < (l0_1.length : Int)
     ·rw [if_pos c9] at H
      have c9b0 : decide (x20_1 < (l0_1.length : Int)) = true := decide_eq_true c9; clear c9
      by_cases c10 : 0 ≤ x20_1
      ·rw [if_pos c10] at H
       have c10b0 : decide (0 ≤ x20_1) = true := decide_eq_true c10; clear c10
       by_cases c11 : x20_1 < (l0_1.length : Int)
       ·rw [if_pos c11] at H
        have c11b0 : decide (x20_1 < (l0_1.length : Int)) = true := decide_eq_true c11; clear c11
        by_cases c12 : x20_1 < (l1.length : Int)
        ·rw [if_pos c12] at H
         have c12b0 : decide (x20_1 < (l1.length : Int)) = true := decide_eq_true c12; clear c12; obtain ⟨bq13, hbq13⟩ : ∃ b_ : Bool, b_ = (rdOf false l1 x20_1) := ⟨_, rfl⟩
         replace H : (if bq13 = true then (impl_Hyper_degrees.l0 k1 l1 x5_1 l0_1 (l0_1.length : Int) (wrap64 (x20_1 + 1))) else (impl_Hyper_degrees.l1 k1 l1 x5_1 l0_1 (l0_1.length : Int) x20_1 (rd_L2 l0_1 x20_1) ((rd_L2 l0_1 x20_1).length : Int) 0)) = some r := by rw [← hbq13] at H; exact H
         have Nbq13 := am hbq13; clear hbq13
         by_cases c14 : bq13 = true
         ·subst c14
          rw [if_pos rfl] at H; have H' := am H; clear H; have p261 : 0 ≤ (x20_1 : Int) := dT; have q261 : x20_1 < (l0_1.length : Int) := dT; obtain ⟨ad261, A261_0, c261_0, e261, hx261_0, hl261_0, hi261_0⟩ := at_L2 HR0_1.out x20_1 p261 q261; cases e261; replace hx261_0 := (HB.out.cell (World.block_lt_of_cell? w _ hx261_0)).trans hx261_0; have HR261_0 := am hi261_0; have HC261_0 := am hl261_0; clear hi261_0 hl261_0; replace p261 := eq_true p261; replace q261 := eq_true q261; have p262 : 0 ≤ (x20_1 : Int) := dT; have q262 : x20_1 < (l1.length : Int) := dT; obtain ⟨ad262, e262, hx262_0⟩ := Kd.at_bool HR1.out x20_1 p262 q262
          (try rw [← Nbq13.out] at hx262_0)
          cases e262; replace hx262_0 := (HB.out.cell (World.block_lt_of_cell? w _ hx262_0)).trans hx262_0; replace p262 := eq_true p262; replace q262 := eq_true q262
          go_wp2
          go_roundg k1
          case measure => have := HK1.out; omega
          case rel => exact ⟨(x5_1), (wrap64 (x20_1 + 1)), wZ, H', ⟨by have := HK1.out; omega⟩, ⟨Rz HO_5.out⟩, ⟨Kz BK0.out⟩, ⟨Bq⟩⟩
         ·replace c14 := Bool.eq_false_iff.mpr c14
          subst c14
          rw [if_neg (show ¬ (false = true) by decide)] at H; have H' := am H; clear H; have p261 : 0 ≤ (x20_1 : Int) := dT; have q261 : x20_1 < (l0_1.length : Int) := dT; obtain ⟨ad261, A261_0, c261_0, e261, hx261_0, hl261_0, hi261_0⟩ := at_L2 HR0_1.out x20_1 p261 q261; cases e261; replace hx261_0 := (HB.out.cell (World.block_lt_of_cell? w _ hx261_0)).trans hx261_0; have HR261_0 := am hi261_0; have HC261_0 := am hl261_0; clear hi261_0 hl261_0; replace p261 := eq_true p261; replace q261 := eq_true q261; have p262 : 0 ≤ (x20_1 : Int) := dT; have q262 : x20_1 < (l1.length : Int) := dT; obtain ⟨ad262, e262, hx262_0⟩ := Kd.at_bool HR1.out x20_1 p262 q262
          (try rw [← Nbq13.out] at hx262_0)
          cases e262; replace hx262_0 := (HB.out.cell (World.block_lt_of_cell? w _ hx262_0)).trans hx262_0; replace p262 := eq_true p262; replace q262 := eq_true q262
          go_wp2
          go_loopg [31] k1 (fun kq v31 w' => ∃ (x5_2 : List Int) (x31_2 : Int), v31 = .int .i64 x31_2 ∧ Aside0 (impl_Hyper_degrees.l1 kq l1 x5_2 l0_1 (l0_1.length : Int) x20_1 (rd_L2 l0_1 x20_1) ((rd_L2 l0_1 x20_1).length : Int) x31_2 = some r) ∧ Aside0 (kq ≤ k1) ∧ Aside0 (Kd.R (Kd.int .i64) 3 w' w.heap.size (fun _ => True) v259 x5_2) ∧ Aside0 (w'.heap[g0]? = some (.cells #[.int .i64 a0_0, (.slice (some ad261) l0_1.length c0_1)] 37 (0, 0))) ∧ Aside0 (Below w.heap.size w w'))
          case atStart => exact ⟨(x5_1), (0), wZ, H', ⟨Nat.le_refl _⟩, ⟨Rz HO_5.out⟩, ⟨Kz BK0.out⟩, ⟨Bq⟩⟩
          case round =>
           clear H'
           try clear c1
           try clear q1
           try clear c2
           try clear p2
           try clear q2
           try clear hx2
           try clear c3
           try clear c3b0
           try clear c3b1
           try clear c4
           try clear c4b0
           try clear c4b1
           try clear p6
           try clear c8
           try clear c9
           try clear c9b0
           try clear c10
           try clear c10b0
           try clear c11
           try clear c11b0
           try clear c12
           try clear c12b0
           try clear q13
           try clear c14
           try clear hcz5_0
           try clear hcz5_1
           try clear hcz8_0
           try clear hcz8_1
           try clear hfz5_0
           try clear hfz5_1
           try clear hfz8_0
           try clear hfz8_1
           try clear hx261_0
           try clear hx262_0
           try clear p2
           try clear p261
           try clear p262
           try clear q261
           try clear q262
           obtain ⟨x5_2, x31_2, rfl, HA, HK2, HO_5, BK0, HB⟩ := hrel; cases gk with
           | zero => exact absurd HA.out (by simp [impl_Hyper_degrees.l1])
           | succ k2 =>
            have H := HA.out; clear HA
            simp only [impl_Hyper_degrees.l1] at H
            by_cases c15 : x31_2 < ((rd_L2 l0_1 x20_1).length : Int)
            ·rw [if_pos c15] at H
             have c15b0 : decide (x31_2 < ((rd_L2 l0_1 x20_1).length : Int)) = true := decide_eq_true c15; clear c15
             by_cases c16 : 0 ≤ x31_2
             ·rw [if_pos c16] at H
              have c16b0 : decide (0 ≤ x31_2) = true := decide_eq_true c16; clear c16
              by_cases c17 : x31_2 < ((rd_L2 l0_1 x20_1).length : Int)
              ·rw [if_pos c17] at H
               have c17b0 : decide (x31_2 < ((rd_L2 l0_1 x20_1).length : Int)) = true := decide_eq_true c17; clear c17
               by_cases c18 : 0 ≤ (rd (rd_L2 l0_1 x20_1) x31_2)
               ·rw [if_pos c18] at H
                have c18b0 : decide (0 ≤ (rd (rd_L2 l0_1 x20_1) x31_2)) = true := decide_eq_true c18; clear c18
                by_cases c19 : (rd (rd_L2 l0_1 x20_1) x31_2) < (x5_2.length : Int)
                ·rw [if_pos c19] at H
                 have c19b0 : decide ((rd (rd_L2 l0_1 x20_1) x31_2) < (x5_2.length : Int)) = true := decide_eq_true c19; clear c19; obtain ⟨y265, hy265⟩ : ∃ y_ : List Int, y_ = (x5_2.set ((rd (rd_L2 l0_1 x20_1) x31_2) : Int).toNat (wrap64 ((rd x5_2 (rd (rd_L2 l0_1 x20_1) x31_2)) + 1))) := ⟨_, rfl⟩
                 replace H : (impl_Hyper_degrees.l1 k2 l1 y265 l0_1 (l0_1.length : Int) x20_1 (rd_L2 l0_1 x20_1) ((rd_L2 l0_1 x20_1).length : Int) (wrap64 (x31_2 + 1))) = some r := by first | (rw [hy265]; with_reducible exact H) | (have H2_ := (Option.bind_some _ _).symm.trans H; rw [hy265]; with_reducible exact H2_) | (have H2_ := (Option.bind_some _ _).symm.trans H; with_reducible exact H2_) | with_reducible exact H | (rw [hy265]; exact H) | exact H
                 have Ny265 := am hy265; clear hy265; have H' := am H; clear H; have p263 : 0 ≤ (x31_2 : Int) := dT; have q263 : x31_2 < ((rd_L2 l0_1 x20_1).length : Int) := dT; obtain ⟨ad263, e263, hx263_0⟩ := Kd.at_int HR261_0.out x31_2 p263 q263; cases e263; replace hx263_0 := (HB.out.cell (World.block_lt_of_cell? w _ hx263_0)).trans hx263_0; replace p263 := eq_true p263; replace q263 := eq_true q263; obtain ⟨Ao21, co21, eo21⟩ := Kd.R_slice HO_5.out; subst eo21; obtain ⟨ad264, e264, hx264_0⟩ := Kd.at_int (Kd.R_reads' HO_5.out).2.2 (rd (rd_L2 l0_1 x20_1) x31_2) dT dT; cases e264; have p264 := eT (0 ≤ ((rd (rd_L2 l0_1 x20_1) x31_2) : Int)); have q264 := eT ((rd (rd_L2 l0_1 x20_1) x31_2) < (x5_2.length : Int)); have p20 : 0 ≤ ((rd (rd_L2 l0_1 x20_1) x31_2) : Int) := dT; have q20 : ((rd (rd_L2 l0_1 x20_1) x31_2) : Int) < ((x5_2.length : Int) : Int) := dT; obtain ⟨go20, co20, eo20, gb20, gl20, cl20, HG20⟩ := Kd.R_form HO_5.out (by omega)
                 (first | cases eo20 | (injection eo20 with ea_ en_ ec_; (first | subst ea_ | (injection ea_ with ea_; subst ea_)); subst ec_; clear en_))
                 have GB20 := am gb20; have GG20 := am HG20; clear gb20 gl20 HG20
                 (first | simp only [add_plain] at hx264_0 | skip)
                 obtain ⟨hx20_0, hf20_0⟩ := Kd.R_celln 0 HO_5.out ((rd (rd_L2 l0_1 x20_1) x31_2) : Int) p20 q20; replace p20 := eq_true p20; replace q20 := eq_true q20; have HP22 := Kd.R_putg HO_5.out ((rd (rd_L2 l0_1 x20_1) x31_2) : Int) (wrap64 ((rd x5_2 (rd (rd_L2 l0_1 x20_1) x31_2)) + 1))
                 go_wp2_with (first | ((with_reducible refine gate_store (t := 3) (p := 40) rfl ?_); refine store_event (t := 3) (p := 40) (v := ?vo_w23) (w1 := (wr.setCell ⟨go20, ((rd (rd_L2 l0_1 x20_1) x31_2) : Int).toNat, none⟩ (.int .i64 (wrap64 ((rd x5_2 (rd (rd_L2 l0_1 x20_1) x31_2)) + 1))))) ?hg ?ho ?hn ?hr ?_; (case ho => rfl); (case hg => rfl); (case hn => rfl); (case hr => first | (go_simp; done) | (go_simp; rfl)); intro w23 hw; have hg : wr.grownBy w23 (some go20) := (by rw [hw]; exact HP22.2); have hp_ : Kd.R (Kd.int .i64) 3 w23 w.heap.size (fun _ => True) (.slice (some ⟨go20, 0, none⟩) x5_2.length co21) y265 := (by rw [hw, Ny265.out]; exact HP22.1); clear HP22; have n0_ := am (hp_); have n1_ := am (blk_grown (g := g0) (o := .cells #[.int .i64 a0_0, .slice (some ad261) l0_1.length c0_1] 37 (0, 0)) (Kz BK0.out) hg (Kd.R_ne HO_5.out BK0.out (by decide))); have n2_ := am ((by rw [hw]; exact below_set (HB.out) GB20.out : Below w.heap.size w w23)); clear HO_5 BK0 HB; revert n0_ n1_ n2_; intro HO_5 BK0 HB; clear hg hw hp_))
                 go_roundg k2
                 case measure => have := HK1.out; have := HK2.out; omega
                 case rel => exact ⟨(y265), (wrap64 (x31_2 + 1)), wZ, H', ⟨by have := HK1.out; have := HK2.out; omega⟩, ⟨Rz HO_5.out⟩, ⟨Kz BK0.out⟩, ⟨Bq⟩⟩
                ·rw [if_neg c19] at H
                 exact absurd H (by simp)
               ·rw [if_neg c18] at H
                exact absurd H (by simp)
              ·rw [if_neg c17] at H
               exact absurd H (by simp)
             ·rw [if_neg c16] at H
              exact absurd H (by simp)
            ·rw [if_neg c15] at H
             have c15b0 : decide (x31_2 < ((rd_L2 l0_1 x20_1).length : Int)) = false := decide_eq_false c15; clear c15; have H' := am H; clear H
             go_wp2
             go_roundg k2
             case measure => have := HK1.out; have := HK2.out; omega
             case rel => exact ⟨(x5_2), (wrap64 (x20_1 + 1)), wZ, H', ⟨by have := HK1.out; have := HK2.out; omega⟩, ⟨Rz HO_5.out⟩, ⟨Kz BK0.out⟩, ⟨Bq⟩⟩
        ·rw [if_neg c12] at H
         exact absurd H (by simp)
       ·rw [if_neg c11] at H
        exact absurd H (by simp)
      ·rw [if_neg c10] at H
       exact absurd H (by simp)
     ·rw [if_neg c9] at H
      have c9b0 : decide (x20_1 < (l0_1.length : Int)) = false := decide_eq_false c9; clear c9; obtain rfl := Option.some.inj H
      go_wp2
      go_ret
      exact ⟨_, eZ, Rz HO_5.out, Bq⟩
  ·rw [if_neg c4] at H
   exact absurd H (by simp)
 ·rw [if_neg c3] at H
  exact absurd H (by simp)

def impl_Hyper_singles.l0 : Nat → List Int → List Int → Int → Int → Option (List Int)
 | 0, _, _, _, _ => none
 | k + 1, x5, x11, x12, x13 => if x13 < x12 then (if 0 ≤ x13 then (if x13 < (x11.length : Int) then (if (rd x11 x13) = 1 then (if x5.length < 17592186044416 then (impl_Hyper_singles.l0 k (x5 ++ [x13]) x11 x12 (wrap64 (x13 + 1))) else (none)) else (impl_Hyper_singles.l0 k x5 x11 x12 (wrap64 (x13 + 1)))) else (none)) else (none)) else (some x5)
def impl_Hyper_singles.f (k : Nat) (a0_0 : Int) (l0_1 : List (List Int)) (l1 : List Bool) : Option (List Int) := (impl_Hyper_degrees.f k a0_0 l0_1 l1).bind fun t269 => (impl_Hyper_singles.l0 k (([] : List Int)) t269 (t269.length : Int) 0)
theorem impl_Hyper_singles.calls (k : Nat) (g0 : Nat) (a0_0 : Int) (A0_1 : Option Addr) (c0_1 : Nat) (l0_1 : List (List Int)) (A1 : Option Addr) (c1 : Nat) (l1 : List Bool) (r : List Int) (w : World) (hb0 : w.heap[g0]? = some (.cells #[.int .i64 a0_0, .slice A0_1 l0_1.length c0_1] 37 (0, 0))) (hr0_1 : Kd.C (Kd.slice 3 (Kd.int .i64)) w A0_1 l0_1.length l0_1) (hc0_1 : l0_1.length ≤ c0_1) (hr1 : Kd.C Kd.bool w A1 l1.length l1) (hc1 : l1.length ≤ c1) (h : impl_Hyper_singles.f k a0_0 l0_1 l1 = some r) :
  Calls Try.prog 94 #[.pointer (some ⟨g0, 0, none⟩), .slice A1 l1.length c1] w fun e w' => ∃ v0_ : Value, e = .returned (v0_) ∧ Kd.R (Kd.int .i64) 3 w' w.heap.size (fun _ => True) v0_ r ∧ Below w.heap.size w w' := by
 have HR0_1 := am hr0_1; have HC0_1 := am hc0_1; clear hr0_1 hc0_1; have HR1 := am hr1; have HC1 := am hc1; clear hr1 hc1; have BK0 := am hb0; clear hb0; have HB := am (Below.refl w.heap.size w); have H : ((impl_Hyper_degrees.f k a0_0 l0_1 l1).bind fun t269 => (impl_Hyper_singles.l0 k (([] : List Int)) t269 (t269.length : Int) 0)) = some r := h; clear h; obtain ⟨y266, hy266⟩ : ∃ y_ : List Int, y_ = (([] : List Int)) := ⟨_, rfl⟩
 replace H : ((impl_Hyper_degrees.f k a0_0 l0_1 l1).bind fun t269 => (impl_Hyper_singles.l0 k y266 t269 (t269.length : Int) 0)) = some r := by first | (rw [hy266]; with_reducible exact H) | (have H2_ := (Option.bind_some _ _).symm.trans H; rw [hy266]; with_reducible exact H2_) | (have H2_ := (Option.bind_some _ _).symm.trans H; with_reducible exact H2_) | with_reducible exact H | (rw [hy266]; exact H) | exact H
 have Ny266 := am hy266; clear hy266; replace H := Option.bind_eq_some_iff.mp H; obtain ⟨t269, A30, H⟩ := H; (try dsimp -simprocs only at H); have A3 := am A30; clear A30; have H' := am H; clear H
 go_enter Try.func94, Try.ntmps94
 go_wp2_with (first | ((with_reducible refine gate_dst (N := 8) rfl ?_); refine Kd.R_lit (Kd.int .i64) _ 3 ?hg (N := 8) ?hd (xs := ([] : List Int)) (inner := []) (ok := fun _ => True) (okp := fun _ => True) ?hr ?hp (fun _ hk => hk) trivial (Below.refl _ _) (Nat.le_refl _) (by simp) ?_; (case hd => rfl); (case hg => rfl); (case hr => first | (go_simp; done) | (go_simp; rfl)); (case hp => exact (Reps.none _ _)); intro v267 w4 ho5 hb hg_ hnew_; clear hg_ hnew_; (first | rw [← Ny266.out] at ho5 | (simp only [Int.reduceToNat] at ho5; rw [← Ny266.out] at ho5)); have n0_ := Rm ho5 HB; have n1_ := Kb BK0 hb; have n2_ := Bc HB hb; clear BK0 HB; revert n0_ n1_ n2_; intro HO268 BK0 HB; clear hb ho5) | ((with_reducible refine gate_callee (f := 84) rfl ?_); refine gL (some 11) Try.func84 #[.pointer (some ⟨g0, 0, none⟩), .slice A1 l1.length c1] ?_; (with_reducible refine (impl_Hyper_degrees.calls k g0 a0_0 A0_1 c0_1 l0_1 _ _ l1 t269 _ ?side1 ?side2 ?side3 ?side4 ?side5 A3.out).mono ?_); (case side1 => exact Kz BK0.out); (case side2 => exact Cz (Kd.C_below HR0_1.out HB.out)); (case side3 => exact HC0_1.out); (case side4 => exact Cz (Kd.C_below HR1.out HB.out)); (case side5 => exact HC1.out); rintro e w6 ⟨v270, rfl, ho0, hb⟩; refine ⟨_, rfl, ?_⟩; have n0_ := Re HO268 (Kd.R_base ho0) hb; have n1_ := Rm (Kd.R_new' ho0 (Kd.R_lt (Rz HO268.out))) HB; have n2_ := Kb BK0 hb; have n3_ := Bc HB hb; clear HO268 BK0 HB; revert n0_ n1_ n2_ n3_; intro HO268 HO271 BK0 HB; (try clear hb); (try clear hb2); (try clear hk); (try clear hi); (try clear ho0); obtain ⟨Ao7, co7, eo7⟩ := Kd.R_slice HO271.out; subst eo7))
 (try simp only [aP])
 go_loopg [5, 13] k (fun kq v5 v13 w' => ∃ (x5_1 : List Int) (x13_1 : Int), v13 = .int .i64 x13_1 ∧ Aside0 (impl_Hyper_singles.l0 kq x5_1 t269 (t269.length : Int) x13_1 = some r) ∧ Aside0 (kq ≤ k) ∧ Aside0 (Kd.R (Kd.int .i64) 3 w' w.heap.size (fun k_ => some k_ ≠ ((.slice Ao7 t269.length co7) : Value).ownBlock) v5 x5_1) ∧ Aside0 (Kd.R (Kd.int .i64) 3 w' w.heap.size (fun k_ => some k_ ≠ (v5 : Value).ownBlock) (.slice Ao7 t269.length co7) t269) ∧ Aside0 (w'.heap[g0]? = some (.cells #[.int .i64 a0_0, (.slice A0_1 l0_1.length c0_1)] 37 (0, 0))) ∧ Aside0 (Below w.heap.size w w'))
 case atStart => exact ⟨(y266), (0), wZ, H', ⟨Nat.le_refl _⟩, ⟨Rz (Kd.R_mono HO268.out (fun _ hk => hk.2))⟩, ⟨Rz (Kd.R_mono HO271.out (fun _ hk => hk.2))⟩, ⟨Kz BK0.out⟩, ⟨Bq⟩⟩
 case round =>
  clear H'
  try clear c1
  try clear p2
  obtain ⟨x5_1, x13_1, rfl, HA, HK1, HO_5, HO_11, BK0, HB⟩ := hrel; cases gk with
  | zero => exact absurd HA.out (by simp [impl_Hyper_singles.l0])
  | succ k1 =>
   have H := HA.out; clear HA
   simp only [impl_Hyper_singles.l0] at H
   by_cases c8 : x13_1 < (t269.length : Int)
   ·rw [if_pos c8] at H
    have c8b0 : decide (x13_1 < (t269.length : Int)) = true := decide_eq_true c8; clear c8
    by_cases c9 : 0 ≤ x13_1
    ·rw [if_pos c9] at H
     have c9b0 : decide (0 ≤ x13_1) = true := decide_eq_true c9; clear c9
     by_cases c10 : x13_1 < (t269.length : Int)
     ·rw [if_pos c10] at H
      have c10b0 : decide (x13_1 < (t269.length : Int)) = true := decide_eq_true c10; clear c10
      by_cases c11 : (rd t269 x13_1) = 1
      ·rw [if_pos c11] at H
       have c11b0 : ((rd t269 x13_1) == 1) = true := beq_iff_eq.mpr c11; have c11b1 : ((rd t269 x13_1) != 1) = false := bne_eq_false_iff_eq.mpr c11; clear c11
       by_cases c12 : x5_1.length < 17592186044416
       ·rw [if_pos c12] at H
        have LMc12 := am c12; clear c12; obtain ⟨y273, hy273⟩ : ∃ y_ : List Int, y_ = (x5_1 ++ [x13_1]) := ⟨_, rfl⟩
        replace H : (impl_Hyper_singles.l0 k1 y273 t269 (t269.length : Int) (wrap64 (x13_1 + 1))) = some r := by first | (rw [hy273]; with_reducible exact H) | (have H2_ := (Option.bind_some _ _).symm.trans H; rw [hy273]; with_reducible exact H2_) | (have H2_ := (Option.bind_some _ _).symm.trans H; with_reducible exact H2_) | with_reducible exact H | (rw [hy273]; exact H) | exact H
        have Ny273 := am hy273; clear hy273; have H' := am H; clear H; obtain ⟨ad272, e272, hx272_0⟩ := Kd.at_int (Kd.R_reads' HO_11.out).2.2 x13_1 dT dT; cases e272; have p272 := eT (0 ≤ (x13_1 : Int)); have q272 := eT (x13_1 < (t269.length : Int))
        go_wp2_with (first | ((with_reducible refine gate_builtin (b := .append) (xs := #[.tmp 20, .tmp 22]) rfl ?_); at_builtin; refine Kd.R_append (Kd.int .i64) (w0 := w) w.heap.size rfl (.tmp 20) (.tmp 22) 32 3 (.int .i64 0) 8 rfl Try.underlying32 info3 rfl (by decide) (by omega) u5 x5_1 x13_1 [.int .i64 x13_1] (fun k_ => some k_ ≠ (.slice (some ad272) t269.length co7 : Value).ownBlock) (fun _ => False) rfl rfl ?aP (fun _ hk => hk.elim) ?aF ?aO ?aB ?aS ?aL ?_; (case aP => exact rfl); (case aB => exact (Bq)); (case aF => exact (fun k_ hk => Kd.fresh' (Kd.R_lt (Rz HO_11.out)) k_ hk)); (case aO => exact (Rz HO_5.out)); (case aS => exact (below_size (w := w) (Bq))); (case aL => have := LMc12.out; omega); intro v274 w13 ho hb hg hat; rw [← Ny273.out] at ho; have n0_ := am (Kd.R_after (ok := (fun _ => True)) (Rz (Kd.R_mono HO_11.out (fun _ hk => ⟨trivial, hk⟩))) hg hat); have n1_ := am (blk_grown (g := g0) (o := .cells #[.int .i64 a0_0, .slice A0_1 l0_1.length c0_1] 37 (0, 0)) (Kz BK0.out) hg (Kd.R_ne HO_5.out BK0.out (by decide))); have n2_ := am (hb); have n3_ := am (ho); clear HO_11 BK0 HB HO_5; revert n0_ n1_ n2_ n3_; intro HO_11 BK0 HB HO275; clear ho hb hg hat))
        go_roundg k1
        case measure => have := HK1.out; omega
        case rel => exact ⟨(y273), (wrap64 (x13_1 + 1)), wZ, H', ⟨by have := HK1.out; omega⟩, ⟨Rz HO275.out⟩, ⟨Rz (Kd.R_mono HO_11.out (fun _ hk => hk.2))⟩, ⟨Kz BK0.out⟩, ⟨Bq⟩⟩
       ·rw [if_neg c12] at H
        exact absurd H (by simp)
      ·rw [if_neg c11] at H
       have c11b0 : ((rd t269 x13_1) == 1) = false := beq_eq_false_iff_ne.mpr c11; have c11b1 : ((rd t269 x13_1) != 1) = true := bne_iff_ne.mpr c11; have H' := am H; clear H; obtain ⟨ad272, e272, hx272_0⟩ := Kd.at_int (Kd.R_reads' HO_11.out).2.2 x13_1 dT dT; cases e272; have p272 := eT (0 ≤ (x13_1 : Int)); have q272 := eT (x13_1 < (t269.length : Int))
       go_wp2
       go_roundg k1
       case measure => have := HK1.out; omega
       case rel => exact ⟨(x5_1), (wrap64 (x13_1 + 1)), wZ, H', ⟨by have := HK1.out; omega⟩, ⟨Rz HO_5.out⟩, ⟨Rz HO_11.out⟩, ⟨Kz BK0.out⟩, ⟨Bq⟩⟩
     ·rw [if_neg c10] at H
      exact absurd H (by simp)
    ·rw [if_neg c9] at H
     exact absurd H (by simp)
   ·rw [if_neg c8] at H
    have c8b0 : decide (x13_1 < (t269.length : Int)) = false := decide_eq_false c8; clear c8; obtain rfl := Option.some.inj H
    go_wp2
    go_ret
    exact ⟨_, eZ, Rz (Kd.R_mono HO_5.out (fun _ hk => trivial)), Bq⟩

def slices_Index_int_int.l0 : Nat → List Int → Int → Int → Int → Option (Int)
 | 0, _, _, _, _ => none
 | k + 1, x0, x1, x7, x8 => if x8 < x7 then (if 0 ≤ x8 then (if x8 < (x0.length : Int) then (if x1 = (rd x0 x8) then (some x8) else (slices_Index_int_int.l0 k x0 x1 x7 (wrap64 (x8 + 1)))) else (none)) else (none)) else (some (-1))
def slices_Index_int_int.f (k : Nat) (l0 : List Int) (a1 : Int) : Option (Int) := slices_Index_int_int.l0 k l0 a1 (l0.length : Int) 0
theorem slices_Index_int_int.calls (k : Nat) (A0 : Option Addr) (c0 : Nat) (l0 : List Int) (a1 : Int) (r : Int) (w : World) (hr0 : Kd.C (Kd.int .i64) w A0 l0.length l0) (hc0 : l0.length ≤ c0) (h : slices_Index_int_int.f k l0 a1 = some r) :
  Calls Try.prog 151 #[.slice A0 l0.length c0, .int .i64 a1] w fun e w' => e = .returned (.int .i64 r) ∧ Drawn0 w w' := by
 have HR0 := am hr0; have HC0 := am hc0; clear hr0 hc0; have H : (slices_Index_int_int.l0 k l0 a1 (l0.length : Int) 0) = some r := h; clear h; have H' := am H; clear H
 go_enter Try.func151, Try.ntmps151
 go_wp2
 go_loopg [8] k (fun kq v8 w' => ∃ (x8_1 : Int), v8 = .int .i64 x8_1 ∧ Aside0 (slices_Index_int_int.l0 kq l0 a1 (l0.length : Int) x8_1 = some r) ∧ Aside0 (kq ≤ k) ∧ Drawn0 w w')
 case atStart => exact ⟨(0), wZ, H', ⟨Nat.le_refl _⟩, by repeat (first | exact Drawn0.refl _ | apply Drawn0.step)⟩
 case round =>
  clear H'
  try clear c1
  try clear p2
  obtain ⟨x8_1, rfl, HA, HK1, ⟨m1, rfl⟩⟩ := hrel; cases gk with
  | zero => exact absurd HA.out (by simp [slices_Index_int_int.l0])
  | succ k1 =>
   have H := HA.out; clear HA
   simp only [slices_Index_int_int.l0] at H
   by_cases c3 : x8_1 < (l0.length : Int)
   ·rw [if_pos c3] at H
    have c3b0 : decide (x8_1 < (l0.length : Int)) = true := decide_eq_true c3; clear c3
    by_cases c4 : 0 ≤ x8_1
    ·rw [if_pos c4] at H
     have c4b0 : decide (0 ≤ x8_1) = true := decide_eq_true c4; clear c4
     by_cases c5 : x8_1 < (l0.length : Int)
     ·rw [if_pos c5] at H
      have c5b0 : decide (x8_1 < (l0.length : Int)) = true := decide_eq_true c5; clear c5
      by_cases c6 : a1 = (rd l0 x8_1)
      ·rw [if_pos c6] at H
       have c6b0 : (a1 == (rd l0 x8_1)) = true := beq_iff_eq.mpr c6; have c6b1 : (a1 != (rd l0 x8_1)) = false := bne_eq_false_iff_eq.mpr c6; clear c6; obtain rfl := Option.some.inj H; obtain ⟨ad276, e276, hx276_0⟩ := Kd.at_int HR0.out x8_1 dT dT; cases e276; have p276 := eT (0 ≤ (x8_1 : Int)); have q276 := eT (x8_1 < (l0.length : Int))
       go_wp2
       go_ret
       exact ⟨by first | rfl | (simp; done) | (simp [*]; done), by repeat (first | exact Drawn0.refl _ | apply Drawn0.step)⟩
      ·rw [if_neg c6] at H
       have c6b0 : (a1 == (rd l0 x8_1)) = false := beq_eq_false_iff_ne.mpr c6; have c6b1 : (a1 != (rd l0 x8_1)) = true := bne_iff_ne.mpr c6; have H' := am H; clear H; obtain ⟨ad276, e276, hx276_0⟩ := Kd.at_int HR0.out x8_1 dT dT; cases e276; have p276 := eT (0 ≤ (x8_1 : Int)); have q276 := eT (x8_1 < (l0.length : Int))
       go_wp2
       go_roundg k1
       case measure => have := HK1.out; omega
       case rel => exact ⟨(wrap64 (x8_1 + 1)), wZ, H', ⟨by have := HK1.out; omega⟩, by repeat (first | exact Drawn0.refl _ | apply Drawn0.step)⟩
     ·rw [if_neg c5] at H
      exact absurd H (by simp)
    ·rw [if_neg c4] at H
     exact absurd H (by simp)
   ·rw [if_neg c3] at H
    have c3b0 : decide (x8_1 < (l0.length : Int)) = false := decide_eq_false c3; clear c3; obtain rfl := Option.some.inj H
    go_wp2
    go_ret
    exact ⟨by first | rfl | (simp; done) | (simp [*]; done), by repeat (first | exact Drawn0.refl _ | apply Drawn0.step)⟩

def slices_Contains_int_int.f (k : Nat) (l0 : List Int) (a1 : Int) : Option (Bool) := (slices_Index_int_int.f k l0 a1).bind fun t277 => (some (decide (t277 ≥ 0)))
theorem slices_Contains_int_int.calls (k : Nat) (A0 : Option Addr) (c0 : Nat) (l0 : List Int) (a1 : Int) (r : Bool) (w : World) (hr0 : Kd.C (Kd.int .i64) w A0 l0.length l0) (hc0 : l0.length ≤ c0) (h : slices_Contains_int_int.f k l0 a1 = some r) :
  Calls Try.prog 109 #[.slice A0 l0.length c0, .int .i64 a1] w fun e w' => e = .returned (.bool r) ∧ Drawn0 w w' := by
 have HR0 := am hr0; have HC0 := am hc0; clear hr0 hc0; have H : ((slices_Index_int_int.f k l0 a1).bind fun t277 => (some (decide (t277 ≥ 0)))) = some r := h; clear h; replace H := Option.bind_eq_some_iff.mp H; obtain ⟨t277, A30, H⟩ := H; (try dsimp -simprocs only at H); have A3 := am A30; clear A30; obtain rfl := Option.some.inj H
 go_enter Try.func109, Try.ntmps109
 go_wp2_with (first | ((with_reducible refine gate_callee (f := 151) rfl ?_); refine gL (some 7) Try.func151 #[.slice A0 l0.length c0, .int .i64 a1] ?_; (with_reducible refine (slices_Index_int_int.calls k _ _ l0 a1 t277 _ ?side1 ?side2 A3.out).mono ?_); (case side1 => exact Cz HR0.out); (case side2 => exact HC0.out); rintro e w' ⟨rfl, ⟨nd, rfl⟩⟩; refine ⟨_, rfl, ?_⟩))
 go_ret
 exact ⟨by first | rfl | (simp; done) | (simp [*]; done), by repeat (first | exact Drawn0.refl _ | apply Drawn0.step)⟩

def impl_Hyper_edgeAt.l0 : Nat → List Bool → Int → Int → Int → List (List Int) → Option (Int)
 | 0, _, _, _, _, _ => none
 | k + 1, x1, x2, x7, x1000, x1001 => if 0 ≤ x7 then (if x7 < (x1.length : Int) then (if rdOf false x1 x7 = true then (impl_Hyper_edgeAt.l0 k x1 x2 (wrap64 (x7 + 1)) x1000 x1001) else (if x7 < (x1001.length : Int) then ((slices_Contains_int_int.f k (rd_L2 x1001 x7) x2).bind fun t280 => (if t280 = true then (some x7) else (impl_Hyper_edgeAt.l0 k x1 x2 (wrap64 (x7 + 1)) x1000 x1001))) else (none))) else (none)) else (none)
def impl_Hyper_edgeAt.f (k : Nat) (a0_0 : Int) (l0_1 : List (List Int)) (l1 : List Bool) (a2 : Int) : Option (Int) := impl_Hyper_edgeAt.l0 k l1 a2 0 a0_0 l0_1
theorem impl_Hyper_edgeAt.calls (k : Nat) (g0 : Nat) (a0_0 : Int) (A0_1 : Option Addr) (c0_1 : Nat) (l0_1 : List (List Int)) (A1 : Option Addr) (c1 : Nat) (l1 : List Bool) (a2 : Int) (r : Int) (w : World) (hb0 : w.heap[g0]? = some (.cells #[.int .i64 a0_0, .slice A0_1 l0_1.length c0_1] 37 (0, 0))) (hr0_1 : Kd.C (Kd.slice 3 (Kd.int .i64)) w A0_1 l0_1.length l0_1) (hc0_1 : l0_1.length ≤ c0_1) (hr1 : Kd.C Kd.bool w A1 l1.length l1) (hc1 : l1.length ≤ c1) (h : impl_Hyper_edgeAt.f k a0_0 l0_1 l1 a2 = some r) :
  Calls Try.prog 95 #[.pointer (some ⟨g0, 0, none⟩), .slice A1 l1.length c1, .int .i64 a2] w fun e w' => e = .returned (.int .i64 r) ∧ Drawn0 w w' := by
 have HR0_1 := am hr0_1; have HC0_1 := am hc0_1; clear hr0_1 hc0_1; have HR1 := am hr1; have HC1 := am hc1; clear hr1 hc1; have BK0 := am hb0; clear hb0; have H : (impl_Hyper_edgeAt.l0 k l1 a2 0 a0_0 l0_1) = some r := h; clear h; have H' := am H; clear H
 go_enter Try.func95, Try.ntmps95
 go_wp2
 go_loopg [7] k (fun kq v7 w' => ∃ (x7_1 : Int), v7 = .int .i64 x7_1 ∧ Aside0 (impl_Hyper_edgeAt.l0 kq l1 a2 x7_1 a0_0 l0_1 = some r) ∧ Aside0 (kq ≤ k) ∧ Aside0 (w'.heap[g0]? = some (.cells #[.int .i64 a0_0, (.slice A0_1 l0_1.length c0_1)] 37 (0, 0))) ∧ Drawn0 w w')
 case atStart => exact ⟨(0), wZ, H', ⟨Nat.le_refl _⟩, ⟨Kz BK0.out⟩, by repeat (first | exact Drawn0.refl _ | apply Drawn0.step)⟩
 case round =>
  clear H'
  try clear c1
  try clear p2
  obtain ⟨x7_1, rfl, HA, HK1, BK0, ⟨m1, rfl⟩⟩ := hrel; cases gk with
  | zero => exact absurd HA.out (by simp [impl_Hyper_edgeAt.l0])
  | succ k1 =>
   have H := HA.out; clear HA
   simp only [impl_Hyper_edgeAt.l0] at H
   by_cases c4 : 0 ≤ x7_1
   ·rw [if_pos c4] at H
    have c4b0 : decide (0 ≤ x7_1) = true := decide_eq_true c4; clear c4
    by_cases c5 : x7_1 < (l1.length : Int)
    ·rw [if_pos c5] at H
     have c5b0 : decide (x7_1 < (l1.length : Int)) = true := decide_eq_true c5; clear c5; obtain ⟨bq6, hbq6⟩ : ∃ b_ : Bool, b_ = (rdOf false l1 x7_1) := ⟨_, rfl⟩
     replace H : (if bq6 = true then (impl_Hyper_edgeAt.l0 k1 l1 a2 (wrap64 (x7_1 + 1)) a0_0 l0_1) else (if x7_1 < (l0_1.length : Int) then ((slices_Contains_int_int.f k1 (rd_L2 l0_1 x7_1) a2).bind fun t280 => (if t280 = true then (some x7_1) else (impl_Hyper_edgeAt.l0 k1 l1 a2 (wrap64 (x7_1 + 1)) a0_0 l0_1))) else (none))) = some r := by rw [← hbq6] at H; exact H
     have Nbq6 := am hbq6; clear hbq6
     by_cases c7 : bq6 = true
     ·subst c7
      rw [if_pos rfl] at H; have H' := am H; clear H; have p278 : 0 ≤ (x7_1 : Int) := dT; have q278 : x7_1 < (l1.length : Int) := dT; obtain ⟨ad278, e278, hx278_0⟩ := Kd.at_bool HR1.out x7_1 p278 q278
      (try rw [← Nbq6.out] at hx278_0)
      cases e278; replace p278 := eq_true p278; replace q278 := eq_true q278
      go_wp2
      go_roundg k1
      case measure => have := HK1.out; omega
      case rel => exact ⟨(wrap64 (x7_1 + 1)), wZ, H', ⟨by have := HK1.out; omega⟩, ⟨Kz BK0.out⟩, by repeat (first | exact Drawn0.refl _ | apply Drawn0.step)⟩
     ·replace c7 := Bool.eq_false_iff.mpr c7
      subst c7
      rw [if_neg (show ¬ (false = true) by decide)] at H
      by_cases c8 : x7_1 < (l0_1.length : Int)
      ·rw [if_pos c8] at H
       have c8b0 : decide (x7_1 < (l0_1.length : Int)) = true := decide_eq_true c8; clear c8; replace H := Option.bind_eq_some_iff.mp H; obtain ⟨t280, A90, H⟩ := H; (try dsimp -simprocs only at H); have A9 := am A90; clear A90
       by_cases c10 : t280 = true
       ·subst c10
        rw [if_pos rfl] at H; obtain rfl := Option.some.inj H; have p278 : 0 ≤ (x7_1 : Int) := dT; have q278 : x7_1 < (l1.length : Int) := dT; obtain ⟨ad278, e278, hx278_0⟩ := Kd.at_bool HR1.out x7_1 p278 q278
        (try rw [← Nbq6.out] at hx278_0)
        cases e278; replace p278 := eq_true p278; replace q278 := eq_true q278; have hcz11_0 : (_ : World).cell? ⟨g0, 0, none⟩ = some (.int .i64 a0_0) := cz BK0 0; have hcz11_1 : (_ : World).cell? ⟨g0, 1, none⟩ = some (.slice A0_1 l0_1.length c0_1) := cz BK0 1; have hfz11_0 := blk_frozen BK0.out 0; have hfz11_1 := blk_frozen BK0.out 1; have p279 : 0 ≤ (x7_1 : Int) := dT; have q279 : x7_1 < (l0_1.length : Int) := dT; obtain ⟨ad279, A279_0, c279_0, e279, hx279_0, hl279_0, hi279_0⟩ := at_L2 HR0_1.out x7_1 p279 q279; cases e279; have HR279_0 := am hi279_0; have HC279_0 := am hl279_0; clear hi279_0 hl279_0; replace p279 := eq_true p279; replace q279 := eq_true q279
        go_wp2_with (first | (go_at_call 109; (with_reducible refine (slices_Contains_int_int.calls k1 _ _ (rd_L2 l0_1 x7_1) a2 true _ ?side1 ?side2 A9.out).mono ?_); (case side1 => exact Cz HR279_0.out); (case side2 => exact HC279_0.out); rintro e w' ⟨rfl, ⟨nd, rfl⟩⟩))
        go_ret
        exact ⟨by first | rfl | (simp; done) | (simp [*]; done), by repeat (first | exact Drawn0.refl _ | apply Drawn0.step)⟩
       ·replace c10 := Bool.eq_false_iff.mpr c10
        subst c10
        rw [if_neg (show ¬ (false = true) by decide)] at H; have H' := am H; clear H; have p278 : 0 ≤ (x7_1 : Int) := dT; have q278 : x7_1 < (l1.length : Int) := dT; obtain ⟨ad278, e278, hx278_0⟩ := Kd.at_bool HR1.out x7_1 p278 q278
        (try rw [← Nbq6.out] at hx278_0)
        cases e278; replace p278 := eq_true p278; replace q278 := eq_true q278; have hcz12_0 : (_ : World).cell? ⟨g0, 0, none⟩ = some (.int .i64 a0_0) := cz BK0 0; have hcz12_1 : (_ : World).cell? ⟨g0, 1, none⟩ = some (.slice A0_1 l0_1.length c0_1) := cz BK0 1; have hfz12_0 := blk_frozen BK0.out 0; have hfz12_1 := blk_frozen BK0.out 1; have p279 : 0 ≤ (x7_1 : Int) := dT; have q279 : x7_1 < (l0_1.length : Int) := dT; obtain ⟨ad279, A279_0, c279_0, e279, hx279_0, hl279_0, hi279_0⟩ := at_L2 HR0_1.out x7_1 p279 q279; cases e279; have HR279_0 := am hi279_0; have HC279_0 := am hl279_0; clear hi279_0 hl279_0; replace p279 := eq_true p279; replace q279 := eq_true q279
        go_wp2_with (first | (go_at_call 109; (with_reducible refine (slices_Contains_int_int.calls k1 _ _ (rd_L2 l0_1 x7_1) a2 false _ ?side1 ?side2 A9.out).mono ?_); (case side1 => exact Cz HR279_0.out); (case side2 => exact HC279_0.out); rintro e w' ⟨rfl, ⟨nd, rfl⟩⟩))
        go_roundg k1
        case measure => have := HK1.out; omega
        case rel => exact ⟨(wrap64 (x7_1 + 1)), wZ, H', ⟨by have := HK1.out; omega⟩, ⟨Kz BK0.out⟩, by repeat (first | exact Drawn0.refl _ | apply Drawn0.step)⟩
      ·rw [if_neg c8] at H
       exact absurd H (by simp)
    ·rw [if_neg c5] at H
     exact absurd H (by simp)
   ·rw [if_neg c4] at H
    exact absurd H (by simp)

def impl_left.l0 : Nat → List Int → List Bool → Int → Int → Option (List Int)
 | 0, _, _, _, _ => none
 | k + 1, x3, x7, x8, x9 => if x9 < x8 then (if 0 ≤ x9 then (if x9 < (x7.length : Int) then (if rdOf false x7 x9 = true then (impl_left.l0 k x3 x7 x8 (wrap64 (x9 + 1))) else (if x3.length < 17592186044416 then (impl_left.l0 k (x3 ++ [x9]) x7 x8 (wrap64 (x9 + 1))) else (none))) else (none)) else (none)) else (some x3)
def impl_left.f (k : Nat) (l0 : List Bool) : Option (List Int) := impl_left.l0 k (([] : List Int)) l0 (l0.length : Int) 0
theorem impl_left.calls (k : Nat) (A0 : Option Addr) (c0 : Nat) (l0 : List Bool) (r : List Int) (w : World) (hr0 : Kd.C Kd.bool w A0 l0.length l0) (hc0 : l0.length ≤ c0) (h : impl_left.f k l0 = some r) :
  Calls Try.prog 96 #[.slice A0 l0.length c0] w fun e w' => ∃ v0_ : Value, e = .returned (v0_) ∧ Kd.R (Kd.int .i64) 3 w' w.heap.size (fun _ => True) v0_ r ∧ Below w.heap.size w w' := by
 have HR0 := am hr0; have HC0 := am hc0; clear hr0 hc0; have HB := am (Below.refl w.heap.size w); have H : (impl_left.l0 k (([] : List Int)) l0 (l0.length : Int) 0) = some r := h; clear h; obtain ⟨y281, hy281⟩ : ∃ y_ : List Int, y_ = (([] : List Int)) := ⟨_, rfl⟩
 replace H : (impl_left.l0 k y281 l0 (l0.length : Int) 0) = some r := by first | (rw [hy281]; with_reducible exact H) | (have H2_ := (Option.bind_some _ _).symm.trans H; rw [hy281]; with_reducible exact H2_) | (have H2_ := (Option.bind_some _ _).symm.trans H; with_reducible exact H2_) | with_reducible exact H | (rw [hy281]; exact H) | exact H
 have Ny281 := am hy281; clear hy281; have H' := am H; clear H
 go_enter Try.func96, Try.ntmps96
 go_wp2_with (first | ((with_reducible refine gate_dst (N := 6) rfl ?_); refine Kd.R_lit (Kd.int .i64) _ 3 ?hg (N := 6) ?hd (xs := ([] : List Int)) (inner := []) (ok := fun _ => True) (okp := fun _ => True) ?hr ?hp (fun _ hk => hk) trivial (Below.refl _ _) (Nat.le_refl _) (by simp) ?_; (case hd => rfl); (case hg => rfl); (case hr => first | (go_simp; done) | (go_simp; rfl)); (case hp => exact (Reps.none _ _)); intro v282 w2 ho3 hb hg_ hnew_; clear hg_ hnew_; (first | rw [← Ny281.out] at ho3 | (simp only [Int.reduceToNat] at ho3; rw [← Ny281.out] at ho3)); have n0_ := Rl ho3 HB; have n1_ := Bb HB hb; clear HB; revert n0_ n1_; intro HO283 HB; clear hb ho3))
 (try simp only [aP])
 go_loopg [3, 9] k (fun kq v3 v9 w' => ∃ (x3_1 : List Int) (x9_1 : Int), v9 = .int .i64 x9_1 ∧ Aside0 (impl_left.l0 kq x3_1 l0 (l0.length : Int) x9_1 = some r) ∧ Aside0 (kq ≤ k) ∧ Aside0 (Kd.R (Kd.int .i64) 3 w' w.heap.size (fun _ => True) v3 x3_1) ∧ Aside0 (Below w.heap.size w w'))
 case atStart => exact ⟨(y281), (0), wZ, H', ⟨Nat.le_refl _⟩, ⟨Rz HO283.out⟩, ⟨Bz HB.out⟩⟩
 case round =>
  clear H'
  try clear p2
  obtain ⟨x3_1, x9_1, rfl, HA, HK1, HO_3, HB⟩ := hrel; cases gk with
  | zero => exact absurd HA.out (by simp [impl_left.l0])
  | succ k1 =>
   have H := HA.out; clear HA
   simp only [impl_left.l0] at H
   by_cases c4 : x9_1 < (l0.length : Int)
   ·rw [if_pos c4] at H
    have c4b0 : decide (x9_1 < (l0.length : Int)) = true := decide_eq_true c4; clear c4
    by_cases c5 : 0 ≤ x9_1
    ·rw [if_pos c5] at H
     have c5b0 : decide (0 ≤ x9_1) = true := decide_eq_true c5; clear c5
     by_cases c6 : x9_1 < (l0.length : Int)
     ·rw [if_pos c6] at H
      have c6b0 : decide (x9_1 < (l0.length : Int)) = true := decide_eq_true c6; clear c6; obtain ⟨bq7, hbq7⟩ : ∃ b_ : Bool, b_ = (rdOf false l0 x9_1) := ⟨_, rfl⟩
      replace H : (if bq7 = true then (impl_left.l0 k1 x3_1 l0 (l0.length : Int) (wrap64 (x9_1 + 1))) else (if x3_1.length < 17592186044416 then (impl_left.l0 k1 (x3_1 ++ [x9_1]) l0 (l0.length : Int) (wrap64 (x9_1 + 1))) else (none))) = some r := by rw [← hbq7] at H; exact H
      have Nbq7 := am hbq7; clear hbq7
      by_cases c8 : bq7 = true
      ·subst c8
       rw [if_pos rfl] at H; have H' := am H; clear H; have p284 : 0 ≤ (x9_1 : Int) := dT; have q284 : x9_1 < (l0.length : Int) := dT; obtain ⟨ad284, e284, hx284_0⟩ := Kd.at_bool HR0.out x9_1 p284 q284
       (try rw [← Nbq7.out] at hx284_0)
       cases e284; replace hx284_0 := (HB.out.cell (World.block_lt_of_cell? w _ hx284_0)).trans hx284_0; replace p284 := eq_true p284; replace q284 := eq_true q284
       go_wp2
       go_roundg k1
       case measure => have := HK1.out; omega
       case rel => exact ⟨(x3_1), (wrap64 (x9_1 + 1)), wZ, H', ⟨by have := HK1.out; omega⟩, ⟨Rz HO_3.out⟩, ⟨Bz HB.out⟩⟩
      ·replace c8 := Bool.eq_false_iff.mpr c8
       subst c8
       rw [if_neg (show ¬ (false = true) by decide)] at H
       by_cases c9 : x3_1.length < 17592186044416
       ·rw [if_pos c9] at H
        have LMc9 := am c9; clear c9; obtain ⟨y285, hy285⟩ : ∃ y_ : List Int, y_ = (x3_1 ++ [x9_1]) := ⟨_, rfl⟩
        replace H : (impl_left.l0 k1 y285 l0 (l0.length : Int) (wrap64 (x9_1 + 1))) = some r := by first | (rw [hy285]; with_reducible exact H) | (have H2_ := (Option.bind_some _ _).symm.trans H; rw [hy285]; with_reducible exact H2_) | (have H2_ := (Option.bind_some _ _).symm.trans H; with_reducible exact H2_) | with_reducible exact H | (rw [hy285]; exact H) | exact H
        have Ny285 := am hy285; clear hy285; have H' := am H; clear H; have p284 : 0 ≤ (x9_1 : Int) := dT; have q284 : x9_1 < (l0.length : Int) := dT; obtain ⟨ad284, e284, hx284_0⟩ := Kd.at_bool HR0.out x9_1 p284 q284
        (try rw [← Nbq7.out] at hx284_0)
        cases e284; replace hx284_0 := (HB.out.cell (World.block_lt_of_cell? w _ hx284_0)).trans hx284_0; replace p284 := eq_true p284; replace q284 := eq_true q284
        go_wp2_with (first | ((with_reducible refine gate_builtin (b := .append) (xs := #[.tmp 16, .tmp 18]) rfl ?_); at_builtin; refine Kd.R_append (Kd.int .i64) (w0 := w) w.heap.size rfl (.tmp 16) (.tmp 18) 32 3 (.int .i64 0) 8 rfl Try.underlying32 info3 rfl (by decide) (by omega) u3 x3_1 x9_1 [.int .i64 x9_1] (fun _ => True) (fun _ => False) rfl rfl ?aP (fun _ hk => hk.elim) ?aF ?aO ?aB ?aS ?aL ?_; (case aP => exact rfl); (case aB => exact (Bz HB.out)); (case aF => exact (fun _ _ => trivial)); (case aO => exact (Rz HO_3.out)); (case aS => exact (below_size (Bz HB.out))); (case aL => have := LMc9.out; omega); intro v286 w10 ho hb hg hat; rw [← Ny285.out] at ho; have n0_ := am (hb); have n1_ := am (ho); clear HB HO_3; revert n0_ n1_; intro HB HO287; clear ho hb hg hat))
        go_roundg k1
        case measure => have := HK1.out; omega
        case rel => exact ⟨(y285), (wrap64 (x9_1 + 1)), wZ, H', ⟨by have := HK1.out; omega⟩, ⟨Rz HO287.out⟩, ⟨Bz HB.out⟩⟩
       ·rw [if_neg c9] at H
        exact absurd H (by simp)
     ·rw [if_neg c6] at H
      exact absurd H (by simp)
    ·rw [if_neg c5] at H
     exact absurd H (by simp)
   ·rw [if_neg c4] at H
    have c4b0 : decide (x9_1 < (l0.length : Int)) = false := decide_eq_false c4; clear c4; obtain rfl := Option.some.inj H
    go_wp2
    go_ret
    exact ⟨_, eZ, Rz HO_3.out, Bz HB.out⟩

def impl_Hyper_peel.l0 : Nat → List (S51) → List Bool → Int → List (List Int) → Option ((List (S51)) × List Int)
 | 0, _, _, _, _ => none
 | k + 1, x4, x5, x1000, x1001 => (impl_Hyper_singles.f k x1000 x1001 x5).bind fun t294 => (if (t294.length : Int) = 0 then ((impl_left.f k x5).bind fun t297 => (some (x4, t297))) else (if 0 < (t294.length : Int) then ((impl_Hyper_edgeAt.f k x1000 x1001 x5 (rd t294 0)).bind fun t301 => (if 0 ≤ t301 then (if t301 < (x5.length : Int) then (if x4.length < 8796093022208 then (impl_Hyper_peel.l0 k (x4 ++ [(⟨t301, rd t294 0⟩ : S51)]) (x5.set (t301 : Int).toNat true) x1000 x1001) else (none)) else (none)) else (none))) else (none)))
def impl_Hyper_peel.f (k : Nat) (a0_0 : Int) (l0_1 : List (List Int)) : Option ((List (S51)) × List Int) := (impl_Hyper_none.f a0_0 l0_1).bind fun t291 => (impl_Hyper_peel.l0 k (([] : List (S51))) t291 a0_0 l0_1)
theorem impl_Hyper_peel.calls (k : Nat) (g0 : Nat) (a0_0 : Int) (A0_1 : Option Addr) (c0_1 : Nat) (l0_1 : List (List Int)) (r1 : List (S51)) (r2 : List Int) (w : World) (hb0 : w.heap[g0]? = some (.cells #[.int .i64 a0_0, .slice A0_1 l0_1.length c0_1] 37 (0, 0))) (hr0_1 : Kd.C (Kd.slice 3 (Kd.int .i64)) w A0_1 l0_1.length l0_1) (hc0_1 : l0_1.length ≤ c0_1) (h : impl_Hyper_peel.f k a0_0 l0_1 = some (r1, r2)) :
  Calls Try.prog 91 #[.pointer (some ⟨g0, 0, none⟩)] w fun e w' => ∃ v0_ v1_ : Value, e = .returned (.tuple #[v0_, v1_]) ∧ Kd.R k51 51 w' w.heap.size (fun _ => True) v0_ r1 ∧ Kd.R (Kd.int .i64) 3 w' w.heap.size (fun _ => True) v1_ r2 ∧ Below w.heap.size w w' := by
 have hu51 := Try.underlying51; have HR0_1 := am hr0_1; have HC0_1 := am hc0_1; clear hr0_1 hc0_1; have BK0 := am hb0; clear hb0; have HB := am (Below.refl w.heap.size w); have H : ((impl_Hyper_none.f a0_0 l0_1).bind fun t291 => (impl_Hyper_peel.l0 k (([] : List (S51))) t291 a0_0 l0_1)) = some (r1, r2) := h; clear h; obtain ⟨y288, hy288⟩ : ∃ y_ : List (S51), y_ = (([] : List (S51))) := ⟨_, rfl⟩
 replace H : ((impl_Hyper_none.f a0_0 l0_1).bind fun t291 => (impl_Hyper_peel.l0 k y288 t291 a0_0 l0_1)) = some (r1, r2) := by first | (rw [hy288]; with_reducible exact H) | (have H2_ := (Option.bind_some _ _).symm.trans H; rw [hy288]; with_reducible exact H2_) | (have H2_ := (Option.bind_some _ _).symm.trans H; with_reducible exact H2_) | with_reducible exact H | (rw [hy288]; exact H) | exact H
 have Ny288 := am hy288; clear hy288; replace H := Option.bind_eq_some_iff.mp H; obtain ⟨t291, A20, H⟩ := H; (try dsimp -simprocs only at H); have A2 := am A20; clear A20; have H' := am H; clear H
 go_enter Try.func91, Try.ntmps91
 go_wp2_with (first | ((with_reducible refine gate_dst (N := 8) rfl ?_); refine Kd.R_lit k51 _ 51 ?hg (N := 8) ?hd (xs := ([] : List (S51))) (inner := []) (ok := fun _ => True) (okp := fun _ => True) ?hr ?hp (fun _ hk => hk) trivial (Below.refl _ _) (Nat.le_refl _) (by simp) ?_; (case hd => rfl); (case hg => rfl); (case hr => first | (go_simp; done) | (go_simp; rfl)); (case hp => exact (Reps.none _ _)); intro v289 w3 ho4 hb hg_ hnew_; clear hg_ hnew_; (first | rw [← Ny288.out] at ho4 | (simp only [Int.reduceToNat] at ho4; rw [← Ny288.out] at ho4)); have n0_ := Rm ho4 HB; have n1_ := Kb BK0 hb; have n2_ := Bc HB hb; clear BK0 HB; revert n0_ n1_ n2_; intro HO290 BK0 HB; clear hb ho4) | ((with_reducible refine gate_callee (f := 83) rfl ?_); refine gL (some 10) Try.func83 #[.pointer (some ⟨g0, 0, none⟩)] ?_; (with_reducible refine (impl_Hyper_none.calls g0 a0_0 A0_1 c0_1 l0_1 t291 _ ?side1 ?side2 ?side3 A2.out).mono ?_); (case side1 => exact Kz BK0.out); (case side2 => exact Cz (Kd.C_below HR0_1.out HB.out)); (case side3 => exact HC0_1.out); rintro e w5 ⟨v292, rfl, ho0, hb⟩; refine ⟨_, rfl, ?_⟩; have n0_ := Rb HO290 hb; have n1_ := Rm ho0 HB; have n2_ := Kb BK0 hb; have n3_ := Bc HB hb; clear HO290 BK0 HB; revert n0_ n1_ n2_ n3_; intro HO290 HO293 BK0 HB; (try clear hb); (try clear hb2); (try clear hk); (try clear hi); (try clear ho0)))
 (try simp only [aP])
 go_loopg [4] k (fun kq v4 w' => ∃ (x4_1 : List (S51)) (x5_1 : List Bool), Aside0 (impl_Hyper_peel.l0 kq x4_1 x5_1 a0_0 l0_1 = some (r1, r2)) ∧ Aside0 (kq ≤ k) ∧ Aside0 (Kd.R k51 51 w' w.heap.size (fun _ => True) v4 x4_1) ∧ Aside0 (Kd.R Kd.bool 4 w' w.heap.size (fun _ => True) v292 x5_1) ∧ Aside0 (w'.heap[g0]? = some (.cells #[.int .i64 a0_0, (.slice A0_1 l0_1.length c0_1)] 37 (0, 0))) ∧ Aside0 (Below w.heap.size w w'))
 case atStart => exact ⟨(y288), (t291), H', ⟨Nat.le_refl _⟩, ⟨Rz HO290.out⟩, ⟨Rz HO293.out⟩, ⟨Kz BK0.out⟩, ⟨Bq⟩⟩
 case round =>
  clear H'
  try clear p2
  obtain ⟨x4_1, x5_1, HA, HK1, HO_4, HO_5, BK0, HB⟩ := hrel; cases gk with
  | zero => exact absurd HA.out (by simp [impl_Hyper_peel.l0])
  | succ k1 =>
   have H := HA.out; clear HA
   simp only [impl_Hyper_peel.l0] at H
   replace H := Option.bind_eq_some_iff.mp H; obtain ⟨t294, A60, H⟩ := H; (try dsimp -simprocs only at H); have A6 := am A60; clear A60
   by_cases c7 : (t294.length : Int) = 0
   ·rw [if_pos c7] at H
    have c7b0 : ((t294.length : Int) == 0) = true := beq_iff_eq.mpr c7; have c7b1 : ((t294.length : Int) != 0) = false := bne_eq_false_iff_eq.mpr c7; clear c7; replace H := Option.bind_eq_some_iff.mp H; obtain ⟨t297, A80, H⟩ := H; (try dsimp -simprocs only at H); have A8 := am A80; clear A80
    simp only [Option.some.injEq, Prod.mk.injEq] at H
    obtain ⟨rfl, rfl⟩ := H; obtain ⟨Ao9, co9, eo9⟩ := Kd.R_slice HO_5.out; subst eo9
    go_wp2_with (first | ((with_reducible refine gate_callee (f := 94) rfl ?_); refine gL (some 13) Try.func94 #[.pointer (some ⟨g0, 0, none⟩), .slice Ao9 x5_1.length co9] ?_; (with_reducible refine (impl_Hyper_singles.calls k1 g0 a0_0 A0_1 c0_1 l0_1 _ _ x5_1 t294 _ ?side1 ?side2 ?side3 ?side4 ?side5 A6.out).mono ?_); (case side1 => exact Kz BK0.out); (case side2 => exact Cz (Kd.C_below HR0_1.out HB.out)); (case side3 => exact HC0_1.out); (case side4 => exact Cz ((Kd.R_reads' HO_5.out).2.2)); (case side5 => exact (Kd.R_reads' HO_5.out).2.1); rintro e w10 ⟨v295, rfl, ho0, hb⟩; refine ⟨_, rfl, ?_⟩; have n0_ := Rb HO_4 hb; have n1_ := Rb HO_5 hb; have n2_ := Rm ho0 HB; have n3_ := Kb BK0 hb; have n4_ := Bc HB hb; clear HO_4 HO_5 BK0 HB; revert n0_ n1_ n2_ n3_ n4_; intro HO_4 HO_5 HO296 BK0 HB; (try clear hb); (try clear hb2); (try clear hk); (try clear hi); (try clear ho0); obtain ⟨Ao11, co11, eo11⟩ := Kd.R_slice HO296.out; subst eo11) | ((with_reducible refine gate_callee (f := 96) rfl ?_); refine gL (some 19) Try.func96 #[.slice Ao9 x5_1.length co9] ?_; (with_reducible refine (impl_left.calls k1 _ _ x5_1 t297 _ ?side1 ?side2 A8.out).mono ?_); (case side1 => exact Cz ((Kd.R_reads' HO_5.out).2.2)); (case side2 => exact (Kd.R_reads' HO_5.out).2.1); rintro e w12 ⟨v298, rfl, ho0, hb⟩; refine ⟨_, rfl, ?_⟩; have n0_ := Rb HO_4 hb; have n1_ := Rb HO_5 hb; have n2_ := Re HO296 (Kd.R_base ho0) hb; have n3_ := Rm (Kd.R_new' ho0 (Kd.R_lt (Rz HO296.out))) HB; have n4_ := Kb BK0 hb; have n5_ := Bc HB hb; clear HO_4 HO_5 HO296 BK0 HB; revert n0_ n1_ n2_ n3_ n4_ n5_; intro HO_4 HO_5 HO296 HO299 BK0 HB; (try clear hb); (try clear hb2); (try clear hk); (try clear hi); (try clear ho0)))
    go_ret2
    exact ⟨_, _, eZ, Rz HO_4.out, Rz (Kd.R_mono HO299.out (fun _ hk => trivial)), Bq⟩
   ·rw [if_neg c7] at H
    have c7b0 : ((t294.length : Int) == 0) = false := beq_eq_false_iff_ne.mpr c7; have c7b1 : ((t294.length : Int) != 0) = true := bne_iff_ne.mpr c7
    have c7b2 : ¬ (t294 = []) := fun h_ => c7 (by rw [h_]; rfl)
    by_cases c13 : 0 < (t294.length : Int)
    ·rw [if_pos c13] at H
     have c13b0 : decide (0 < (t294.length : Int)) = true := decide_eq_true c13; have c13b1 : decide (0 < t294.length) = true := decide_eq_true (by omega); clear c13; replace H := Option.bind_eq_some_iff.mp H; obtain ⟨t301, A140, H⟩ := H; (try dsimp -simprocs only at H); have A14 := am A140; clear A140
     by_cases c15 : 0 ≤ t301
     ·rw [if_pos c15] at H
      have c15b0 : decide (0 ≤ t301) = true := decide_eq_true c15; clear c15
      by_cases c16 : t301 < (x5_1.length : Int)
      ·rw [if_pos c16] at H
       have c16b0 : decide (t301 < (x5_1.length : Int)) = true := decide_eq_true c16; clear c16; obtain ⟨y302, hy302⟩ : ∃ y_ : List Bool, y_ = (x5_1.set (t301 : Int).toNat true) := ⟨_, rfl⟩
       replace H : (if x4_1.length < 8796093022208 then (impl_Hyper_peel.l0 k1 (x4_1 ++ [(⟨t301, rd t294 0⟩ : S51)]) y302 a0_0 l0_1) else (none)) = some (r1, r2) := by first | (rw [hy302]; with_reducible exact H) | (have H2_ := (Option.bind_some _ _).symm.trans H; rw [hy302]; with_reducible exact H2_) | (have H2_ := (Option.bind_some _ _).symm.trans H; with_reducible exact H2_) | with_reducible exact H | (rw [hy302]; exact H) | exact H
       have Ny302 := am hy302; clear hy302
       by_cases c18 : x4_1.length < 8796093022208
       ·rw [if_pos c18] at H
        have LMc18 := am c18; clear c18; obtain ⟨y304, hy304⟩ : ∃ y_ : List (S51), y_ = (x4_1 ++ [(⟨t301, rd t294 0⟩ : S51)]) := ⟨_, rfl⟩
        replace H : (impl_Hyper_peel.l0 k1 y304 y302 a0_0 l0_1) = some (r1, r2) := by first | (rw [hy304]; with_reducible exact H) | (have H2_ := (Option.bind_some _ _).symm.trans H; rw [hy304]; with_reducible exact H2_) | (have H2_ := (Option.bind_some _ _).symm.trans H; with_reducible exact H2_) | with_reducible exact H | (rw [hy304]; exact H) | exact H
        have Ny304 := am hy304; clear hy304; have H' := am H; clear H; obtain ⟨Ao19, co19, eo19⟩ := Kd.R_slice HO_5.out; subst eo19
        go_wp2_with (first | ((with_reducible refine gate_callee (f := 94) rfl ?_); refine gL (some 13) Try.func94 #[.pointer (some ⟨g0, 0, none⟩), .slice Ao19 x5_1.length co19] ?_; (with_reducible refine (impl_Hyper_singles.calls k1 g0 a0_0 A0_1 c0_1 l0_1 _ _ x5_1 t294 _ ?side1 ?side2 ?side3 ?side4 ?side5 A6.out).mono ?_); (case side1 => exact Kz BK0.out); (case side2 => exact Cz (Kd.C_below HR0_1.out HB.out)); (case side3 => exact HC0_1.out); (case side4 => exact Cz ((Kd.R_reads' HO_5.out).2.2)); (case side5 => exact (Kd.R_reads' HO_5.out).2.1); rintro e w20 ⟨v295, rfl, ho0, hb⟩; refine ⟨_, rfl, ?_⟩; have n0_ := Rb HO_4 hb; have n1_ := Rb HO_5 hb; have n2_ := Rm ho0 HB; have n3_ := Kb BK0 hb; have n4_ := Bc HB hb; clear HO_4 HO_5 BK0 HB; revert n0_ n1_ n2_ n3_ n4_; intro HO_4 HO_5 HO296 BK0 HB; (try clear hb); (try clear hb2); (try clear hk); (try clear hi); (try clear ho0); obtain ⟨Ao21, co21, eo21⟩ := Kd.R_slice HO296.out; subst eo21; have p300 : 0 ≤ (0 : Int) := (by omega); have q300 : 0 < (t294.length : Int) := dT; obtain ⟨ad300, e300, hx300_0⟩ := Kd.at_int (Kd.R_reads' HO296.out).2.2 0 p300 q300; cases e300; have qi300 : (0 < t294.length) = True := eq_true (by omega); (try rw [show ((0 : Int)).toNat = 0 from rfl] at hx300_0); (try rw [Addr.add_zero'] at hx300_0); replace p300 := eq_true p300; replace q300 := eq_true q300) | ((with_reducible refine gate_callee (f := 95) rfl ?_); refine gL (some 25) Try.func95 #[.pointer (some ⟨g0, 0, none⟩), .slice Ao19 x5_1.length co19, .int .i64 (rd t294 0)] ?_; (with_reducible refine (impl_Hyper_edgeAt.calls k1 g0 a0_0 A0_1 c0_1 l0_1 _ _ x5_1 (rd t294 0) t301 _ ?side1 ?side2 ?side3 ?side4 ?side5 A14.out).mono ?_); (case side1 => exact Kz BK0.out); (case side2 => exact Cz (Kd.C_below HR0_1.out HB.out)); (case side3 => exact HC0_1.out); (case side4 => exact Cz ((Kd.R_reads' HO_5.out).2.2)); (case side5 => exact (Kd.R_reads' HO_5.out).2.1); rintro e w' ⟨rfl, ⟨nd, rfl⟩⟩; refine ⟨_, rfl, ?_⟩; (try (rw [drewN_self w20]; generalize hq_ : World.drewN w20 _ = w20; have n0_ : Aside0 (Kd.R (Kd.int .i64) 3 w20 w.heap.size (fun _ => True) (.slice (some ad300) t294.length co21) t294) := ⟨by rw [← hq_]; exact (Rz HO296.out)⟩; have n1_ : Aside0 (Kd.R k51 51 w20 w.heap.size (fun _ => True) u4 x4_1) := ⟨by rw [← hq_]; exact (Rz HO_4.out)⟩; have n2_ : Aside0 (Kd.R Kd.bool 4 w20 w.heap.size (fun _ => True) (.slice Ao19 x5_1.length co19) x5_1) := ⟨by rw [← hq_]; exact (Rz HO_5.out)⟩; have n3_ : Aside0 (w20.heap[g0]? = some (.cells #[.int .i64 a0_0, .slice A0_1 l0_1.length c0_1] 37 (0, 0))) := ⟨by rw [← hq_]; exact (Kz BK0.out)⟩; have n4_ : Aside0 (Below w.heap.size w w20) := ⟨by rw [← hq_]; exact (Bq)⟩; clear HO296 HO_4 HO_5 BK0 HB hq_; revert n0_ n1_ n2_ n3_ n4_; intro HO296 HO_4 HO_5 BK0 HB)); have p17 : 0 ≤ (t301 : Int) := dT; have q17 : (t301 : Int) < ((x5_1.length : Int) : Int) := dT; obtain ⟨go17, co17, eo17, gb17, gl17, cl17, HG17⟩ := Kd.R_form HO_5.out (by omega); (first | cases eo17 | (injection eo17 with ea_ en_ ec_; (first | subst ea_ | (injection ea_ with ea_; subst ea_)); subst ec_; clear en_)); have GB17 := am gb17; have GG17 := am HG17; clear gb17 gl17 HG17; obtain ⟨hx17_0, hf17_0⟩ := Kd.R_celln false HO_5.out (t301 : Int) p17 q17; replace p17 := eq_true p17; replace q17 := eq_true q17; obtain ⟨hy22_, hz22_⟩ := Kd.R_celln false HO_5.out (t301 : Int) (dT) (dT); have HP22 := Kd.R_putg HO_5.out (t301 : Int) true) | ((with_reducible refine gate_store (t := 4) (p := 28) rfl ?_); refine store_event (t := 4) (p := 28) (v := ?vo_w23) (w1 := (w20.setCell ⟨go17, (t301 : Int).toNat, none⟩ (.bool true))) ?hg ?ho ?hn ?hr ?_; (case ho => rfl); (case hg => rfl); (case hn => rfl); (case hr => first | (go_simp; done) | (go_simp; rfl)); intro w23 hw; have hg : w20.grownBy w23 (some go17) := (by rw [hw]; exact HP22.2); have hp_ : Kd.R Kd.bool 4 w23 w.heap.size (fun _ => True) (.slice (some ⟨go17, 0, none⟩) x5_1.length co19) y302 := (by rw [hw, Ny302.out]; exact HP22.1); clear HP22; have n0_ := am (Kd.R_over' (v := (.slice (some ⟨go17, 0, none⟩) x5_1.length co19)) (Rz HO_4.out) (Kd.R_typed HO_5.out) (by decide) hg); have n1_ := am (hp_); have n2_ := am (blk_grown (g := g0) (o := .cells #[.int .i64 a0_0, .slice A0_1 l0_1.length c0_1] 37 (0, 0)) (Kz BK0.out) hg (Kd.R_ne HO_5.out BK0.out (by decide))); have n3_ := am (Kd.R_over' (v := (.slice (some ⟨go17, 0, none⟩) x5_1.length co19)) (Rz HO296.out) (Kd.R_typed HO_5.out) (by decide) hg); have n4_ := am ((by rw [hw]; exact below_set (HB.out) GB17.out : Below w.heap.size w w23)); clear HO_4 HO_5 BK0 HO296 HB; revert n0_ n1_ n2_ n3_ n4_; intro HO_4 HO_5 BK0 HO296 HB; clear hg hw hp_; have p303 : 0 ≤ (0 : Int) := (by omega); have q303 : 0 < (t294.length : Int) := dT; obtain ⟨ad303, e303, hx303_0⟩ := Kd.at_int (Kd.R_reads' HO296.out).2.2 0 p303 q303; obtain rfl : ad300 = ad303 := (by injection e303); have qi303 : (0 < t294.length) = True := eq_true (by omega); (try rw [show ((0 : Int)).toNat = 0 from rfl] at hx303_0); (try rw [Addr.add_zero'] at hx303_0); replace p303 := eq_true p303; replace q303 := eq_true q303) | ((with_reducible refine gate_builtin (b := .append) (xs := #[.tmp 29, .tmp 35]) rfl ?_); at_builtin; refine Kd.R_append k51 (w0 := w) w.heap.size rfl (.tmp 29) (.tmp 35) 46 51 (.agg #[(.int .i64 0), (.int .i64 0)]) 16 rfl Try.underlying46 info51 rfl (by decide) (by omega) u4 x4_1 (⟨t301, rd t294 0⟩ : S51) [.int .i64 t301, .int .i64 (rd t294 0)] (fun _ => True) (fun _ => False) rfl rfl ?aP (fun _ hk => hk.elim) ?aF ?aO ?aB ?aS ?aL ?_; (case aP => exact k51_mkM _ _ _ (⟨t301, rd t294 0⟩ : S51)); (case aB => exact (Bq)); (case aF => exact (fun _ _ => trivial)); (case aO => exact (Rz HO_4.out)); (case aS => exact (below_size (w := w) (Bq))); (case aL => have := LMc18.out; omega); intro v305 w24 ho hb hg hat; rw [← Ny304.out] at ho; have n0_ := am (Kd.R_over' (Rz HO_5.out) (Kd.R_typed (Rz HO_4.out)) (by decide) hg); have n1_ := am (blk_grown (g := g0) (o := .cells #[.int .i64 a0_0, .slice A0_1 l0_1.length c0_1] 37 (0, 0)) (Kz BK0.out) hg (Kd.R_ne HO_4.out BK0.out (by decide))); have n2_ := am (Kd.R_over' (Rz HO296.out) (Kd.R_typed (Rz HO_4.out)) (by decide) hg); have n3_ := am (hb); have n4_ := am (ho); clear HO_5 BK0 HO296 HB HO_4; revert n0_ n1_ n2_ n3_ n4_; intro HO_5 BK0 HO296 HB HO306; clear ho hb hg hat))
        go_roundg k1
        case measure => have := HK1.out; omega
        case rel => exact ⟨(y304), (y302), H', ⟨by have := HK1.out; omega⟩, ⟨Rz HO306.out⟩, ⟨Rz HO_5.out⟩, ⟨Kz BK0.out⟩, ⟨Bq⟩⟩
       ·rw [if_neg c18] at H
        exact absurd H (by simp)
      ·rw [if_neg c16] at H
       exact absurd H (by simp)
     ·rw [if_neg c15] at H
      exact absurd H (by simp)
    ·rw [if_neg c13] at H
     exact absurd H (by simp)

def impl_Hyper_order.f (k : Nat) (a0_0 : Int) (l0_1 : List (List Int)) : Option ((List (S51)) × Bool) := (impl_Hyper_peel.f k a0_0 l0_1).bind fun bt307 => (some (bt307.1, ((bt307.2.length : Int) == 0)))
theorem impl_Hyper_order.calls (k : Nat) (g0 : Nat) (a0_0 : Int) (A0_1 : Option Addr) (c0_1 : Nat) (l0_1 : List (List Int)) (r1 : List (S51)) (r2 : Bool) (w : World) (hb0 : w.heap[g0]? = some (.cells #[.int .i64 a0_0, .slice A0_1 l0_1.length c0_1] 37 (0, 0))) (hr0_1 : Kd.C (Kd.slice 3 (Kd.int .i64)) w A0_1 l0_1.length l0_1) (hc0_1 : l0_1.length ≤ c0_1) (h : impl_Hyper_order.f k a0_0 l0_1 = some (r1, r2)) :
  Calls Try.prog 117 #[.pointer (some ⟨g0, 0, none⟩)] w fun e w' => ∃ v0_ : Value, e = .returned (.tuple #[v0_, .bool r2]) ∧ Kd.R k51 51 w' w.heap.size (fun _ => True) v0_ r1 ∧ Below w.heap.size w w' := by
 have HR0_1 := am hr0_1; have HC0_1 := am hc0_1; clear hr0_1 hc0_1; have BK0 := am hb0; clear hb0; have HB := am (Below.refl w.heap.size w); have H : ((impl_Hyper_peel.f k a0_0 l0_1).bind fun bt307 => (some (bt307.1, ((bt307.2.length : Int) == 0)))) = some (r1, r2) := h; clear h; replace H := Option.bind_eq_some_iff.mp H; obtain ⟨⟨t307, t308⟩, A20, H⟩ := H; (try dsimp -simprocs only at H); have A2 := am A20; clear A20
 simp only [Option.some.injEq, Prod.mk.injEq] at H
 obtain ⟨rfl, rfl⟩ := H
 go_enter Try.func117, Try.ntmps117
 go_wp2_with (first | ((with_reducible refine gate_callee (f := 91) rfl ?_); refine gL (some 8) Try.func91 #[.pointer (some ⟨g0, 0, none⟩)] ?_; (with_reducible refine (impl_Hyper_peel.calls k g0 a0_0 A0_1 c0_1 l0_1 t307 t308 _ ?side1 ?side2 ?side3 A2.out).mono ?_); (case side1 => exact Kz BK0.out); (case side2 => exact Cz HR0_1.out); (case side3 => exact HC0_1.out); rintro e w3 ⟨v309, v311, rfl, ho0, ho1, hb⟩; refine ⟨_, rfl, ?_⟩; have n0_ := Rm ho0 HB; have n1_ := Rm ho1 HB; have n2_ := Kb BK0 hb; have n3_ := Bc HB hb; clear BK0 HB; revert n0_ n1_ n2_ n3_; intro HO310 HO312 BK0 HB; (try clear hb); (try clear hb2); (try clear hk); (try clear hi); (try clear ho0); (try clear ho1); obtain ⟨Ao4, co4, eo4⟩ := Kd.R_slice HO312.out; subst eo4))
 go_ret2
 exact ⟨_, eZ, Rz HO310.out, Bq⟩

-- NOT PRINTED: function 145 (slices_IndexFunc_int_int)

-- NOT PRINTED: function 85 (slices_ContainsFunc_int_int)

def impl_segmentOk.f (a0 : Int) : Option (Bool) := (impl_in.f a0 1 24).bind fun t313 => (some t313)
theorem impl_segmentOk.calls (a0 : Int) (r : Bool) (w : World) (h : impl_segmentOk.f a0 = some r) :
  Calls Try.prog 112 #[.int .i64 a0] w fun e w' => e = .returned (.bool r) ∧ Drawn0 w w' := by
 have H : ((impl_in.f a0 1 24).bind fun t313 => (some t313)) = some r := h; clear h; replace H := Option.bind_eq_some_iff.mp H; obtain ⟨t313, A20, H⟩ := H; (try dsimp -simprocs only at H); have A2 := am A20; clear A20; obtain rfl := Option.some.inj H
 go_enter Try.func112, Try.ntmps112
 go_wp2_with (first | ((with_reducible refine gate_callee (f := 70) rfl ?_); refine gL (some 4) Try.func70 #[.int .i64 a0, .int .i64 1, .int .i64 24] ?_; (with_reducible refine (impl_in.calls a0 1 24 t313 _ A2.out).mono ?_); rintro e w' ⟨rfl, ⟨nd, rfl⟩⟩; refine ⟨_, rfl, ?_⟩))
 go_ret
 exact ⟨by first | rfl | (simp; done) | (simp [*]; done), by repeat (first | exact Drawn0.refl _ | apply Drawn0.step)⟩

-- NOT PRINTED: function 165 (impl_valuesOk_1)

def impl_valuesOk_1.f (a0 : Int) (a1_0 : Int) : Option (Bool) := if 0 ≤ a1_0 then ((impl_in.f a0 0 (wrap64 ((shl .i64 1 a1_0) - 1))).bind fun t320 => (some (!t320))) else (none)
theorem impl_valuesOk_1.calls (a0 : Int) (g1 : Nat) (a1_0 : Int) (r : Bool) (w : World) (hb1 : w.heap[g1]? = some (.cells #[.int .i64 a1_0] 3 (0, 0))) (h : impl_valuesOk_1.f a0 a1_0 = some r) :
  Calls Try.prog 165 #[.int .i64 a0, .pointer (some ⟨g1, 0, none⟩)] w fun e w' => e = .returned (.bool r) ∧ Drawn0 w w' := by
 have BK1 := am hb1; clear hb1; have H : (if 0 ≤ a1_0 then ((impl_in.f a0 0 (wrap64 ((shl .i64 1 a1_0) - 1))).bind fun t320 => (some (!t320))) else (none)) = some r := h; clear h
 by_cases c3 : 0 ≤ a1_0
 ·rw [if_pos c3] at H
  have c3b0 := eq_true c3; have c3b1 : decide (0 ≤ a1_0) = true := decide_eq_true c3; clear c3; obtain ⟨ji4, hji4⟩ : ∃ j_ : Int, (shl .i64 1 a1_0) = j_ := ⟨_, rfl⟩
  replace H : ((impl_in.f a0 0 (wrap64 ((ji4) - 1))).bind fun t320 => (some (!t320))) = some r := by first | (rw [hji4] at H; exact H) | (simp only [hji4] at H ⊢; exact H)
  have hji4_ : (IntKind.i64.wrap (1 * 2 ^ min a1_0.toNat 64)) = ji4 := hji4; have hji4z : a1_0 ≤ 64 → (IntKind.i64.wrap (1 * 2 ^ a1_0.toNat)) = ji4 := shl_small hji4
  have hji4u : (IntKind.i64.wrap (2 ^ min a1_0.toNat 64)) = ji4 := by have h_ := hji4_; rw [Int.one_mul] at h_; exact h_
  have hji4v : a1_0 ≤ 64 → (IntKind.i64.wrap (2 ^ a1_0.toNat)) = ji4 := fun hle_ => by have h_ := hji4z hle_; rw [Int.one_mul] at h_; exact h_
  have hji4y : (wrap64 (1 * 2 ^ min a1_0.toNat 64)) = ji4 := (i64_w _).symm.trans hji4_
  have hji4x : a1_0 ≤ 64 → (wrap64 (1 * 2 ^ a1_0.toNat)) = ji4 := fun h_ => (i64_w _).symm.trans (hji4z h_)
  replace H := Option.bind_eq_some_iff.mp H; obtain ⟨t320, A50, H⟩ := H; (try dsimp -simprocs only at H); have A5 := am A50; clear A50; obtain rfl := Option.some.inj H; obtain ⟨hcz6_0, hfz6_0⟩ := cf1 (w := w) BK1
  go_enter Try.func165, Try.ntmps165
  go_wp2_with (first | ((with_reducible refine gate_callee (f := 70) rfl ?_); refine goesL_ (some 8) rfl rfl Try.func70 (by kernel_rfl) rfl #[.int .i64 a0, .int .i64 0, .int .i64 (wrap64 ((ji4) - 1))] rfl (by (try simp only [List.map_toArray, List.map_cons, List.map_nil]); first | done | (simp only [hji4]; rfl) | rfl | (simp only [List.length_drop, List.length_take]; rfl)) ?_; (with_reducible refine (impl_in.calls a0 0 (wrap64 ((ji4) - 1)) t320 _ A5.out).mono ?_); rintro e w' ⟨rfl, ⟨nd, rfl⟩⟩; refine ⟨_, rfl, ?_⟩))
  go_ret
  exact ⟨by first | rfl | (simp; done) | (simp only [← hji4] <;> (first | rfl | simp)) | (simp [*]; done), by repeat (first | exact Drawn0.refl _ | apply Drawn0.step)⟩
 ·rw [if_neg c3] at H
  exact absurd H (by simp)

def slices_IndexFunc_int_int_at_impl_valuesOk_1.l0 : Nat → List Int → Int → Int → Int → Option (Int)
 | 0, _, _, _, _ => none
 | k + 1, x0, x7, x8, x3000 => if x8 < x7 then (if 0 ≤ x8 then (if x8 < (x0.length : Int) then ((impl_valuesOk_1.f (rd x0 x8) x3000).bind fun t322 => (if t322 = true then (some x8) else (slices_IndexFunc_int_int_at_impl_valuesOk_1.l0 k x0 x7 (wrap64 (x8 + 1)) x3000))) else (none)) else (none)) else (some (-1))
def slices_IndexFunc_int_int_at_impl_valuesOk_1.f (k : Nat) (l0 : List Int)  (a2_0 : Int) : Option (Int) := slices_IndexFunc_int_int_at_impl_valuesOk_1.l0 k l0 (l0.length : Int) 0 a2_0
theorem slices_IndexFunc_int_int_at_impl_valuesOk_1.calls (k : Nat) (A0 : Option Addr) (c0 : Nat) (l0 : List Int)  (g2 : Nat) (a2_0 : Int) (r : Int) (w : World) (hr0 : Kd.C (Kd.int .i64) w A0 l0.length l0) (hc0 : l0.length ≤ c0) (hb2 : w.heap[g2]? = some (.cells #[.int .i64 a2_0] 3 (0, 0))) (h : slices_IndexFunc_int_int_at_impl_valuesOk_1.f k l0 a2_0 = some r) :
  Calls Try.prog 145 #[.slice A0 l0.length c0, .func (.func 165) #[] #[.pointer (some ⟨g2, 0, none⟩)]] w fun e w' => e = .returned (.int .i64 r) ∧ Drawn0 w w' := by
 have HR0 := am hr0; have HC0 := am hc0; clear hr0 hc0; have BK2 := am hb2; clear hb2; have H : (slices_IndexFunc_int_int_at_impl_valuesOk_1.l0 k l0 (l0.length : Int) 0 a2_0) = some r := h; clear h; have H' := am H; clear H
 go_enter Try.func145, Try.ntmps145
 go_wp2
 go_loopg [8] k (fun kq v8 w' => ∃ (x8_1 : Int), v8 = .int .i64 x8_1 ∧ Aside0 (slices_IndexFunc_int_int_at_impl_valuesOk_1.l0 kq l0 (l0.length : Int) x8_1 a2_0 = some r) ∧ Aside0 (kq ≤ k) ∧ Aside0 (w'.heap[g2]? = some (.cells #[.int .i64 a2_0] 3 (0, 0))) ∧ Drawn0 w w')
 case atStart => exact ⟨(0), wZ, H', ⟨Nat.le_refl _⟩, ⟨Kz BK2.out⟩, by repeat (first | exact Drawn0.refl _ | apply Drawn0.step)⟩
 case round =>
  clear H'
  try clear c1
  try clear p2
  obtain ⟨x8_1, rfl, HA, HK1, BK2, ⟨m1, rfl⟩⟩ := hrel; cases gk with
  | zero => exact absurd HA.out (by simp [slices_IndexFunc_int_int_at_impl_valuesOk_1.l0])
  | succ k1 =>
   have H := HA.out; clear HA
   simp only [slices_IndexFunc_int_int_at_impl_valuesOk_1.l0] at H
   by_cases c4 : x8_1 < (l0.length : Int)
   ·rw [if_pos c4] at H
    have c4b0 : decide (x8_1 < (l0.length : Int)) = true := decide_eq_true c4; clear c4
    by_cases c5 : 0 ≤ x8_1
    ·rw [if_pos c5] at H
     have c5b0 : decide (0 ≤ x8_1) = true := decide_eq_true c5; clear c5
     by_cases c6 : x8_1 < (l0.length : Int)
     ·rw [if_pos c6] at H
      have c6b0 : decide (x8_1 < (l0.length : Int)) = true := decide_eq_true c6; clear c6; replace H := Option.bind_eq_some_iff.mp H; obtain ⟨t322, A70, H⟩ := H; (try dsimp -simprocs only at H); have A7 := am A70; clear A70
      by_cases c8 : t322 = true
      ·subst c8
       rw [if_pos rfl] at H; obtain rfl := Option.some.inj H; obtain ⟨ad321, e321, hx321_0⟩ := Kd.at_int HR0.out x8_1 dT dT; cases e321; have p321 := eT (0 ≤ (x8_1 : Int)); have q321 := eT (x8_1 < (l0.length : Int))
       go_wp2_with (first | (go_at_call 165; (with_reducible refine (impl_valuesOk_1.calls (rd l0 x8_1) g2 a2_0 true _ ?side1 A7.out).mono ?_); (case side1 => exact Kz BK2.out); rintro e w' ⟨rfl, ⟨nd, rfl⟩⟩))
       go_ret
       exact ⟨by first | rfl | (simp; done) | (simp [*]; done), by repeat (first | exact Drawn0.refl _ | apply Drawn0.step)⟩
      ·replace c8 := Bool.eq_false_iff.mpr c8
       subst c8
       rw [if_neg (show ¬ (false = true) by decide)] at H; have H' := am H; clear H; obtain ⟨ad321, e321, hx321_0⟩ := Kd.at_int HR0.out x8_1 dT dT; cases e321; have p321 := eT (0 ≤ (x8_1 : Int)); have q321 := eT (x8_1 < (l0.length : Int))
       go_wp2_with (first | (go_at_call 165; (with_reducible refine (impl_valuesOk_1.calls (rd l0 x8_1) g2 a2_0 false _ ?side1 A7.out).mono ?_); (case side1 => exact Kz BK2.out); rintro e w' ⟨rfl, ⟨nd, rfl⟩⟩))
       go_roundg k1
       case measure => have := HK1.out; omega
       case rel => exact ⟨(wrap64 (x8_1 + 1)), wZ, H', ⟨by have := HK1.out; omega⟩, ⟨Kz BK2.out⟩, by repeat (first | exact Drawn0.refl _ | apply Drawn0.step)⟩
     ·rw [if_neg c6] at H
      exact absurd H (by simp)
    ·rw [if_neg c5] at H
     exact absurd H (by simp)
   ·rw [if_neg c4] at H
    have c4b0 : decide (x8_1 < (l0.length : Int)) = false := decide_eq_false c4; clear c4; obtain rfl := Option.some.inj H
    go_wp2
    go_ret
    exact ⟨by first | rfl | (simp; done) | (simp [*]; done), by repeat (first | exact Drawn0.refl _ | apply Drawn0.step)⟩

def slices_ContainsFunc_int_int_at_impl_valuesOk_1.f (k : Nat) (l0 : List Int)  (a2_0 : Int) : Option (Bool) := (slices_IndexFunc_int_int_at_impl_valuesOk_1.f k l0 a2_0).bind fun t323 => (some (decide (t323 ≥ 0)))
theorem slices_ContainsFunc_int_int_at_impl_valuesOk_1.calls (k : Nat) (A0 : Option Addr) (c0 : Nat) (l0 : List Int)  (g2 : Nat) (a2_0 : Int) (r : Bool) (w : World) (hr0 : Kd.C (Kd.int .i64) w A0 l0.length l0) (hc0 : l0.length ≤ c0) (hb2 : w.heap[g2]? = some (.cells #[.int .i64 a2_0] 3 (0, 0))) (h : slices_ContainsFunc_int_int_at_impl_valuesOk_1.f k l0 a2_0 = some r) :
  Calls Try.prog 85 #[.slice A0 l0.length c0, .func (.func 165) #[] #[.pointer (some ⟨g2, 0, none⟩)]] w fun e w' => e = .returned (.bool r) ∧ Drawn0 w w' := by
 have HR0 := am hr0; have HC0 := am hc0; clear hr0 hc0; have BK2 := am hb2; clear hb2; have H : ((slices_IndexFunc_int_int_at_impl_valuesOk_1.f k l0 a2_0).bind fun t323 => (some (decide (t323 ≥ 0)))) = some r := h; clear h; replace H := Option.bind_eq_some_iff.mp H; obtain ⟨t323, A40, H⟩ := H; (try dsimp -simprocs only at H); have A4 := am A40; clear A40; obtain rfl := Option.some.inj H
 go_enter Try.func85, Try.ntmps85
 go_wp2_with (first | ((with_reducible refine gate_callee (f := 145) rfl ?_); refine gL (some 7) Try.func145 #[.slice A0 l0.length c0, .func (.func 165) #[] #[.pointer (some ⟨g2, 0, none⟩)]] ?_; (with_reducible refine (slices_IndexFunc_int_int_at_impl_valuesOk_1.calls k _ _ l0  g2 a2_0 t323 _ ?side1 ?side2 ?side3 A4.out).mono ?_); (case side1 => exact Cz HR0.out); (case side2 => exact HC0.out); (case side3 => exact Kz BK2.out); rintro e w' ⟨rfl, ⟨nd, rfl⟩⟩; refine ⟨_, rfl, ?_⟩))
 go_ret
 exact ⟨by first | rfl | (simp; done) | (simp [*]; done), by repeat (first | exact Drawn0.refl _ | apply Drawn0.step)⟩

end Go.Proofs.Ythkcgimnagpmaaa.PP
