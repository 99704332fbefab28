import Derived.Test.YtmehagedoaopeaaGreatCZ1
import Derived.Test.YtmehagedoaopeaaGreatCZ3
-- printed by a program of this session (wip/gp) out of the translation; Lean checks it
namespace Go.Proofs.YtmehagedoaopeaaGreat.PZ
open Go.RowKit Go.Proofs.YtmehagedoaopeaaGreatW.PrintWords Go.Proofs.YtmehagedoaopeaaGreatW.PrintLast Go.Proofs.YtmehagedoaopeaaGreatW.PrintMore Go.Proofs.YtmehagedoaopeaaGreatSq
attribute [local go_sem] max2_int min2_int max_two min_two max_three min_three max_four min_four   -- for this text's walks alone
attribute [local go_sem] Go.Proofs.YtmehagedoaopeaaGreatGp.str_geq Go.Proofs.YtmehagedoaopeaaGreatGp.str_gtr Go.Proofs.YtmehagedoaopeaaGreatGp.str_leq
set_option linter.unusedVariables false
set_option linter.unusedSimpArgs false

set_option maxHeartbeats 8000000
set_option maxRecDepth 100000
mutual
def spec_pePeel.l0 : Nat → List Int → Bool → List (S71) → List Int → Int → Int → List (List Int) → Option ((List (S71)) × List Int)
 | 0, _, _, _, _, _, _, _ => none
 | k + 1, x1, x2, x8, x9, x10, x457000, x457001 => if x2 = true then (spec_pePeel.j1 k x1 x2 x8 x9 x10 true x457000 x457001) else (spec_pePeel.j1 k x1 x2 x8 x9 x10 (decide (x10 < (x1.length : Int))) x457000 x457001)
def spec_pePeel.j1 : Nat → List Int → Bool → List (S71) → List Int → Int → Bool → Int → List (List Int) → Option ((List (S71)) × List Int)
 | 0, _, _, _, _, _, _, _, _ => none
 | k + 1, x1, x2, x8, x9, x10, x22, x457000, x457001 => if x22 = true then ((spec_peFree.f k x457000 x457001 x9).bind fun t460 => (if (t460.length : Int) = 0 then (some (x8, x9)) else (if x10 < (x1.length : Int) then (if 0 ≤ x10 then (if 0 ≤ (Int.tmod (rd x1 x10) (t460.length : Int)) then (if (Int.tmod (rd x1 x10) (t460.length : Int)) < (t460.length : Int) then ((spec_peWith.f k x457000 x457001 x9 (rd t460 (Int.tmod (rd x1 x10) (t460.length : Int)))).bind fun t465 => (if x8.length < 8796093022208 then ((spec_l1Drop.f k x9 t465).bind fun t471 => (spec_pePeel.l0 k x1 x2 (x8 ++ [(⟨t465, rd t460 (Int.tmod (rd x1 x10) (t460.length : Int))⟩ : S71)]) t471 (wrap64 (x10 + 1)) x457000 x457001)) else (none))) else (none)) else (none)) else (none)) else (if 0 < (t460.length : Int) then ((spec_peWith.f k x457000 x457001 x9 (rd t460 0)).bind fun t475 => (if x8.length < 8796093022208 then ((spec_l1Drop.f k x9 t475).bind fun t481 => (spec_pePeel.l0 k x1 x2 (x8 ++ [(⟨t475, rd t460 0⟩ : S71)]) t481 (wrap64 (x10 + 1)) x457000 x457001)) else (none))) else (none))))) else (some (x8, x9))
end
def spec_pePeel.f (k : Nat) (a0_0 : Int) (l0_1 : List (List Int)) (l1 : List Int) (a2 : Bool) : Option ((List (S71)) × List Int) := (spec_peAll.f k a0_0 l0_1).bind fun t457 => (spec_pePeel.l0 k l1 a2 ([] : List (S71)) t457 0 a0_0 l0_1)
def spec_pePeel.T11 : Bool × List (List Nat × List Nat) := (true, [([], []), ([], []), ([], []), ([], []), ([2, 3], [2, 3]), ([4], [4]), ([0, 1, 5], [0, 1, 5]), ([], []), ([], []), ([7, 8], [7, 8]), ([9], [9]), ([6, 10], [6, 10]), ([], []), ([12, 11, 6, 0, 1, 2, 3, 4, 5, 6, 7, 8, 9, 10, 11, 12], [11, 12])])
def spec_pePeel.B11 : List Nat := [0, 0, 0, 0, 12, 28, 63, 0, 0, 384, 896, 2047, 0, 8191]
theorem spec_pePeel.tab11 : rtab .any (opsOf Tryz.f34 11) = spec_pePeel.T11 := by kernel_rfl
theorem spec_pePeel.bits11 : waitsOk spec_pePeel.T11.2 spec_pePeel.B11 = true := by kernel_rfl
theorem spec_pePeel.calls (k : Nat) (a0_0 : Int) (A0_1 : Option Addr) (c0_1 : Nat) (l0_1 : List (List Int)) (A1 : Option Addr) (c1 : Nat) (l1 : List Int) (a2 : Bool) (r1 : List (S71)) (r2 : List Int) (w : World) (hr0_1 : Kd.C (Kd.slice 3 (Kd.int .i64)) w A0_1 l0_1.length l0_1) (hc0_1 : l0_1.length ≤ c0_1) (hr1 : Kd.C (Kd.int .i64) w A1 l1.length l1) (hc1 : l1.length ≤ c1) (h : spec_pePeel.f k a0_0 l0_1 l1 a2 = some (r1, r2)) :
  Calls Tryz.prog 34 #[.agg #[.int .i64 a0_0, .slice A0_1 l0_1.length c0_1], .slice A1 l1.length c1, .bool a2] w fun e w' => ∃ v0_ v1_ : Value, e = .returned (.tuple #[v0_, v1_]) ∧ Kd.R k71 71 w' w.heap.size (fun _ => True) v0_ r1 ∧ Kd.R (Kd.int .i64) 3 w' w.heap.size (fun _ => True) v1_ r2 ∧ Below w.heap.size w w' := by
 have hu35 := Tryz.underlying35; have hu71 := Tryz.underlying71; have HR0_1 := am hr0_1; have HC0_1 := am hc0_1; clear hr0_1 hc0_1; have HR1 := am hr1; have HC1 := am hc1; clear hr1 hc1; have HB := am (Below.refl w.heap.size w); have H : ((spec_peAll.f k a0_0 l0_1).bind fun t457 => (spec_pePeel.l0 k l1 a2 ([] : List (S71)) t457 0 a0_0 l0_1)) = some (r1, r2) := h; clear h; replace H := Option.bind_eq_some_iff.mp H; obtain ⟨t457, A40, H⟩ := H; (try dsimp -simprocs only at H); have A4 := am A40; clear A40; have H' := am H; clear H
 go_enter Tryz.func34, Tryz.ntmps34
 go_wp2_with (first | ((with_reducible refine gate_dst (N := 3) rfl ?_); (try (refine gate_guard (by rfl) ?_; dsimp only)); refine bE 3 #[.int .i64 a0_0, .slice A0_1 l0_1.length c0_1] 35 ?_; intro gb456 hg w5 hbox hb; have n0_ := Bb HB hb; have n1_ := am (hbox); have n2_ := Gl HB hg; have n3_ := Gl HB hg; clear HB; revert n0_ n1_ n2_ n3_; intro HB BK456 GW456 GE456; clear hb hbox hg; obtain ⟨hcz6_0, hcz6_1, hfz6_0, hfz6_1⟩ := cf2 (w := w5) BK456) | ((with_reducible refine gate_callee (f := 71) rfl ?_); refine gL (some 15) Tryz.func71 #[.agg #[.int .i64 a0_0, .slice A0_1 l0_1.length c0_1]] ?_; (with_reducible refine (spec_peAll.calls k a0_0 _ _ l0_1 t457 _ ?side1 ?side2 A4.out).mono ?_); (case side1 => exact Cz (Kd.C_below HR0_1.out HB.out)); (case side2 => exact HC0_1.out); rintro e w7 ⟨v458, rfl, ho0, hb⟩; refine ⟨_, rfl, ?_⟩; have n0_ := Rm ho0 HB; have n1_ := Kb BK456 hb; have n2_ := Bc HB hb; clear BK456 HB; revert n0_ n1_ n2_; intro HO459 BK456 HB; (try clear hb); (try clear hb2); (try clear hk); (try clear hi); (try clear ho0)))
 (try simp only [aP])
 go_loopg [8, 9, 10] k (fun kq v8 v9 v10 w' => ∃ (x8_1 : List (S71)) (x9_1 : List Int) (x10_1 : Int), v10 = .int .i64 x10_1 ∧ Aside0 (spec_pePeel.l0 kq l1 a2 x8_1 x9_1 x10_1 a0_0 l0_1 = some (r1, r2)) ∧ Aside0 (kq ≤ k) ∧ Aside0 (Kd.R k71 71 w' w.heap.size (fun _ => True) v8 x8_1) ∧ Aside0 (Kd.R (Kd.int .i64) 3 w' w.heap.size (fun _ => True) v9 x9_1) ∧ Aside0 (w'.heap[gb456]? = some (.cells #[.int .i64 a0_0, (.slice A0_1 l0_1.length c0_1)] 35 (0, 0))) ∧ Aside0 (Below w.heap.size w w'))
 case atStart => exact ⟨(([] : List (S71))), (t457), (0), wZ, H', ⟨Nat.le_refl _⟩, ⟨nZ⟩, ⟨Rz HO459.out⟩, ⟨Kz BK456.out⟩, ⟨Bq⟩⟩
 case round =>
  clear H'
  try clear c1
  try clear p2
  try clear c3
  try clear c7
  try clear hcz6_0
  try clear hcz6_1
  try clear hfz6_0
  try clear hfz6_1
  obtain ⟨x8_1, x9_1, x10_1, rfl, HA, HK1, HO_8, HO_9, BK456, HB⟩ := hrel; cases gk with
  | zero => exact absurd HA.out (by simp [spec_pePeel.l0])
  | succ k1 =>
   have H := HA.out; clear HA
   simp only [spec_pePeel.l0] at H
   have HC8 := am H; clear H
   go_upto_region 4 with (fail)
   go_cut [22] (fun v22 wc => ∃ (kq : Nat) (x22_7 : Bool), v22 = .bool x22_7 ∧ Aside0 (spec_pePeel.j1 kq l1 a2 x8_1 x9_1 x10_1 x22_7 a0_0 l0_1 = some (r1, r2)) ∧ Aside0 (kq ≤ k1) ∧ Aside0 (Kd.R k71 71 wc w.heap.size (fun _ => True) u8 x8_1) ∧ Aside0 (Kd.R (Kd.int .i64) 3 wc w.heap.size (fun _ => True) u9 x9_1) ∧ Aside0 (wc.heap[gb456]? = some (.cells #[.int .i64 a0_0, (.slice A0_1 l0_1.length c0_1)] 35 (0, 0))) ∧ Aside0 (Below w.heap.size w wc))
   case first =>
    have H := HC8.out; clear HC8
    by_cases c9 : a2 = true
    ·subst c9
     rw [if_pos rfl] at H; have H' := am H; clear H
     go_wp2
     go_meet
     case rel => exact ⟨_, (true), wZ, H', ⟨by have := HK1.out; first | omega | exact Nat.le_refl _⟩, ⟨Rz HO_8.out⟩, ⟨Rz HO_9.out⟩, ⟨Kz BK456.out⟩, ⟨Bq⟩⟩
    ·replace c9 := Bool.eq_false_iff.mpr c9
     subst c9
     rw [if_neg (show ¬ (false = true) by decide)] at H; have H' := am H; clear H
     go_wp2
     go_meet
     case rel => exact ⟨_, (decide (x10_1 < (l1.length : Int))), wZ, H', ⟨by have := HK1.out; first | omega | exact Nat.le_refl _⟩, ⟨Rz HO_8.out⟩, ⟨Rz HO_9.out⟩, ⟨Kz BK456.out⟩, ⟨Bq⟩⟩
   case rest =>
    clear HC8
    try clear c1
    try clear p2
    try clear c3
    try clear c7
    try clear c9
    try clear hcz6_0
    try clear hcz6_1
    try clear hfz6_0
    try clear hfz6_1
    try clear p2
    obtain ⟨kq, x22_7, rfl, HA, HJ7, HO_8, HO_9, BK456, HB⟩ := hcut; cases kq with
    | zero => exact absurd HA.out (by simp [spec_pePeel.j1])
    | succ kj7 =>
     have H := HA.out; clear HA
     simp only [spec_pePeel.j1] at H
     by_cases c10 : x22_7 = true
     ·subst c10
      rw [if_pos rfl] at H; replace H := Option.bind_eq_some_iff.mp H; obtain ⟨t460, A110, H⟩ := H; (try dsimp -simprocs only at H); have A11 := am A110; clear A110
      by_cases c12 : (t460.length : Int) = 0
      ·rw [if_pos c12] at H
       have c12b0 : ((t460.length : Int) == 0) = true := beq_iff_eq.mpr c12; have c12b1 : ((t460.length : Int) != 0) = false := bne_eq_false_iff_eq.mpr c12; clear c12
       simp only [Option.some.injEq, Prod.mk.injEq] at H
       obtain ⟨rfl, rfl⟩ := H; obtain ⟨hcz13_0, hcz13_1, hfz13_0, hfz13_1⟩ := cf2 (w := wc) BK456; obtain ⟨Ao14, co14, eo14⟩ := Kd.R_slice HO_9.out; subst eo14
       go_wp2_with (first | ((with_reducible refine gate_callee (f := 72) rfl ?_); refine gL (some 27) Tryz.func72 #[.agg #[.int .i64 a0_0, .slice A0_1 l0_1.length c0_1], .slice Ao14 x9_1.length co14] ?_; (with_reducible refine (spec_peFree.calls kj7 a0_0 _ _ l0_1 _ _ x9_1 t460 _ ?side1 ?side2 ?side3 ?side4 A11.out).mono ?_); (case side1 => exact Cz (Kd.C_below HR0_1.out HB.out)); (case side2 => exact HC0_1.out); (case side3 => exact Cz ((Kd.R_reads' HO_9.out).2.2)); (case side4 => exact (Kd.R_reads' HO_9.out).2.1); rintro e w15 ⟨v461, rfl, ho0, hb⟩; refine ⟨_, rfl, ?_⟩; have n0_ := Rb HO_8 hb; have n1_ := Re HO_9 (Kd.R_base ho0) hb; have n2_ := Rm (Kd.R_new' ho0 (Kd.R_lt (Rz HO_9.out))) HB; have n3_ := Kb BK456 hb; have n4_ := Bc HB hb; clear HO_8 HO_9 BK456 HB; revert n0_ n1_ n2_ n3_ n4_; intro HO_8 HO_9 HO462 BK456 HB; (try clear hb); (try clear hb2); (try clear hk); (try clear hi); (try clear ho0); obtain ⟨Ao16, co16, eo16⟩ := Kd.R_slice HO462.out; subst eo16))
       go_ret2
       exact ⟨_, _, eZ, Rz HO_8.out, Rz (Kd.R_mono HO_9.out (fun _ hk => trivial)), Bq⟩
      ·rw [if_neg c12] at H
       have c12b0 : ((t460.length : Int) == 0) = false := beq_eq_false_iff_ne.mpr c12; have c12b1 : ((t460.length : Int) != 0) = true := bne_iff_ne.mpr c12
       have c12b2 : ¬ (t460 = []) := fun h_ => c12 (by rw [h_]; rfl)
       by_cases c17 : x10_1 < (l1.length : Int)
       ·rw [if_pos c17] at H
        have c17b0 : decide (x10_1 < (l1.length : Int)) = true := decide_eq_true c17; clear c17
        by_cases c18 : 0 ≤ x10_1
        ·rw [if_pos c18] at H
         have c18b0 : decide (0 ≤ x10_1) = true := decide_eq_true c18; clear c18; obtain ⟨ji19, hji19⟩ : ∃ j_ : Int, (Int.tmod (rd l1 x10_1) (t460.length : Int)) = j_ := ⟨_, rfl⟩
         replace H : (if 0 ≤ (ji19) then (if (ji19) < (t460.length : Int) then ((spec_peWith.f kj7 a0_0 l0_1 x9_1 (rd t460 (ji19))).bind fun t465 => (if x8_1.length < 8796093022208 then ((spec_l1Drop.f kj7 x9_1 t465).bind fun t471 => (spec_pePeel.l0 kj7 l1 a2 (x8_1 ++ [(⟨t465, rd t460 (ji19)⟩ : S71)]) t471 (wrap64 (x10_1 + 1)) a0_0 l0_1)) else (none))) else (none)) else (none)) = some (r1, r2) := by first | (rw [hji19] at H; exact H) | (simp only [hji19] at H ⊢; exact H)
         (try rw [hji19] at A11)
         by_cases c20 : 0 ≤ (ji19)
         ·rw [if_pos c20] at H
          have c20b0 : decide (0 ≤ (ji19)) = true := decide_eq_true c20; clear c20
          by_cases c21 : (ji19) < (t460.length : Int)
          ·rw [if_pos c21] at H
           have c21b0 : decide ((ji19) < (t460.length : Int)) = true := decide_eq_true c21; clear c21; replace H := Option.bind_eq_some_iff.mp H; obtain ⟨t465, A220, H⟩ := H; (try dsimp -simprocs only at H); have A22 := am A220; clear A220
           by_cases c23 : x8_1.length < 8796093022208
           ·rw [if_pos c23] at H
            have LMc23 := am c23; clear c23; obtain ⟨y468, hy468⟩ : ∃ y_ : List (S71), y_ = (x8_1 ++ [(⟨t465, rd t460 (ji19)⟩ : S71)]) := ⟨_, rfl⟩
            replace H : ((spec_l1Drop.f kj7 x9_1 t465).bind fun t471 => (spec_pePeel.l0 kj7 l1 a2 y468 t471 (wrap64 (x10_1 + 1)) a0_0 l0_1)) = some (r1, r2) := by first | (rw [hy468]; with_reducible exact H) | (have H2_ := (Option.bind_some _ _).symm.trans H; rw [hy468]; with_reducible exact H2_) | (have H2_ := (Option.bind_some _ _).symm.trans H; with_reducible exact H2_) | with_reducible exact H | (rw [hy468]; exact H) | exact H
            have Ny468 := am hy468; clear hy468; replace H := Option.bind_eq_some_iff.mp H; obtain ⟨t471, A240, H⟩ := H; (try dsimp -simprocs only at H); have A24 := am A240; clear A240; have H' := am H; clear H; obtain ⟨hcz25_0, hcz25_1, hfz25_0, hfz25_1⟩ := cf2 (w := wc) BK456; obtain ⟨Ao26, co26, eo26⟩ := Kd.R_slice HO_9.out; subst eo26
            try go_wp2_with (first | ((with_reducible refine gate_callee (f := 72) rfl ?_); refine gL (some 27) Tryz.func72 #[.agg #[.int .i64 a0_0, .slice A0_1 l0_1.length c0_1], .slice Ao26 x9_1.length co26] ?_; (with_reducible refine (spec_peFree.calls kj7 a0_0 _ _ l0_1 _ _ x9_1 t460 _ ?side1 ?side2 ?side3 ?side4 A11.out).mono ?_); (case side1 => exact Cz (Kd.C_below HR0_1.out HB.out)); (case side2 => exact HC0_1.out); (case side3 => exact Cz ((Kd.R_reads' HO_9.out).2.2)); (case side4 => exact (Kd.R_reads' HO_9.out).2.1); rintro e w27 ⟨v461, rfl, ho0, hb⟩; refine ⟨_, rfl, ?_⟩; have n0_ := Rb HO_8 hb; have n1_ := Re HO_9 (Kd.R_base ho0) hb; have n2_ := Rm (Kd.R_new' ho0 (Kd.R_lt (Rz HO_9.out))) HB; have n3_ := Kb BK456 hb; have n4_ := Bc HB hb; clear HO_8 HO_9 BK456 HB; revert n0_ n1_ n2_ n3_ n4_; intro HO_8 HO_9 HO462 BK456 HB; (try clear hb); (try clear hb2); (try clear hk); (try clear hi); (try clear ho0); obtain ⟨Ao28, co28, eo28⟩ := Kd.R_slice HO462.out; subst eo28; have p463 : 0 ≤ (x10_1 : Int) := dT; have q463 : x10_1 < (l1.length : Int) := dT; obtain ⟨ad463, e463, hx463_0⟩ := Kd.at_int HR1.out x10_1 p463 q463; cases e463; replace hx463_0 := (HB.out.cell (World.block_lt_of_cell? w _ hx463_0)).trans hx463_0; replace p463 := eq_true p463; replace q463 := eq_true q463))
            have n0_ := am (Kd.R_drew HO_8.out); have n1_ := am (Kd.R_drew HO_9.out); have n2_ := am (Kd.R_drew HO462.out); have n3_ := am (blk_drew BK456.out); have n4_ := am (below_drew1 HB.out); clear HO_8 HO_9 HO462 BK456 HB; revert n0_ n1_ n2_ n3_ n4_; intro HO_8 HO_9 HO462 BK456 HB; obtain ⟨ad464, e464, hx464_0⟩ := Kd.at_int (Kd.R_reads' HO462.out).2.2 (ji19) dT dT; cases e464; have p464 := eT (0 ≤ ((ji19) : Int)); have q464 := eT ((ji19) < (t460.length : Int)); have p466 : 0 ≤ ((ji19) : Int) := dT; have q466 : (ji19) < (t460.length : Int) := dT; obtain ⟨ad466, e466, hx466_0⟩ := Kd.at_int (Kd.R_reads' HO462.out).2.2 (ji19) p466 q466; obtain rfl : ad464 = ad466 := (by injection e466); replace p466 := eq_true p466; replace q466 := eq_true q466; refine start_ (n := 14) (S := fun w' => w'.cell? ⟨gb456, 0, none⟩ = some (.int .i64 a0_0) ∧ w'.cell? ⟨gb456, 1, none⟩ = some (.slice A0_1 l0_1.length c0_1) ∧ w'.cell? (ad464.add ((ji19)).toNat) = some (.int .i64 (rd t460 (ji19))) ∧ w'.cell? (ad464.add ((ji19)).toNat) = some (.int .i64 (rd t460 (ji19)))) (ds := []) (bA 14 0) (by kernel_rfl) rfl rfl ⟨cz BK456 0, cz BK456 1, hx464_0, hx466_0⟩ (fun hHeld => ?_); refine with_tabW spec_pePeel.tab11 spec_pePeel.bits11 (fun HT_ HW_ => ?_); generalize w27.drew = w29 at HO_8 HO_9 HO462 BK456 HB hx464_0 hx466_0 hHeld ⊢; refine pZ 1 (some 43) (bA 14 2) HT_.out ?_; refine pZ 2 (some 44) (bA 14 6) HT_.out ?_; refine pZ 3 (some 45) (bA 14 14) HT_.out ?_; refine pZ 4 (some 46) (bA 14 30) HT_.out ?_; refine pZ 7 (some 49) (bA 14 158) HT_.out ?_; refine pZ 8 (some 50) (bA 14 414) HT_.out ?_; refine pZ 9 (some 51) (bA 14 926) HT_.out ?_; refine tZ4 0 (some 42) (bA 14 927) HT_.out HW_.out hHeld ?_; refine tZ4 5 (some 47) (bA 14 959) HT_.out HW_.out hHeld ?_; refine tZ4 10 (some 52) (bA 14 1983) HT_.out HW_.out hHeld ?_; refine join_ (σ := Nat) 1 (bA 14 8191) (fun s_ => [(48, .int .i64 t465), (13, .pointer (some ⟨s_, 0, none⟩)), (53, .agg #[.int .i64 t465, .int .i64 (rd t460 (ji19))])]) (fun s_ w' => (w'.cell? ⟨gb456, 0, none⟩ = some (.int .i64 a0_0) ∧ w'.cell? ⟨gb456, 1, none⟩ = some (.slice A0_1 l0_1.length c0_1) ∧ w'.cell? (ad464.add ((ji19)).toNat) = some (.int .i64 (rd t460 (ji19))) ∧ w'.cell? (ad464.add ((ji19)).toNat) = some (.int .i64 (rd t460 (ji19)))) ∧ (Kd.R (Kd.int .i64) 3 w' w.heap.size (fun k_ => some k_ ≠ (.slice Ao26 x9_1.length co26 : Value).ownBlock) (.slice (some ad464) t460.length co28) t460) ∧ (Kd.R k71 71 w' w.heap.size (fun k_ => k_ ≠ s_) u8 x8_1) ∧ (Kd.R (Kd.int .i64) 3 w' w.heap.size (fun k_ => some k_ ≠ (.slice (some ad464) t460.length co28 : Value).ownBlock) (.slice Ao26 x9_1.length co26) x9_1) ∧ (w'.heap[gb456]? = some (.cells #[.int .i64 a0_0, .slice A0_1 l0_1.length c0_1] 35 (0, 0))) ∧ (w'.heap[s_]? = some (.cells #[.int .i64 0, .int .i64 0] 71 (0, 0))) ∧ (w.heap.size ≤ s_) ∧ (w.heap.size ≤ s_) ∧ (gb456 ≠ s_) ∧ (s_ ≠ gb456) ∧ (Below w.heap.size w w')) ?_ ?_
            rotate_left
            ·intro hCont
             refine two_ (i := 6) (j := 12) (Ni := some 48) (Nj := some 13) (bA 14 2047) (bA 14 6079) rfl rfl rfl rfl (two_of HT_.out (by kernel_rfl)) (by decide) (by decide) (fun K hK => ?_) (fun K hK => ?_)
             ·skip
              refine goes_ Tryz.func73 (by kernel_rfl) rfl #[.agg #[.int .i64 a0_0, .slice A0_1 l0_1.length c0_1], .slice Ao26 x9_1.length co26, .int .i64 (rd t460 (ji19))] (by rfl) rfl rfl (by (try simp only [List.map_toArray, List.map_cons, List.map_nil]); first | done | (simp only [hji19]; rfl) | rfl | (simp only [List.length_drop, List.length_take]; rfl)) ?_
              with_reducible refine (spec_peWith.calls kj7 a0_0 _ _ l0_1 _ _ x9_1 (rd t460 (ji19)) t465 _ ?side1 ?side2 ?side3 ?side4 A22.out).mono ?_
              (case side1 => exact Cz (Kd.C_below HR0_1.out HB.out))
              (case side2 => exact HC0_1.out)
              (case side3 => exact Cz ((Kd.R_reads' HO_9.out).2.2))
              (case side4 => exact (Kd.R_reads' HO_9.out).2.1)
              rintro e w30 ⟨rfl, hb⟩; have HS2_ := (hb.cell (World.block_lt_of_cell? _ _ (hHeld.2.2.1))).trans (hHeld.2.2.1); have HS3_ := (hb.cell (World.block_lt_of_cell? _ _ (hHeld.2.2.2))).trans (hHeld.2.2.2); refine ⟨_, rfl, ?_⟩; have n0_ := Rb HO_8 hb; have n1_ := Rb HO_9 hb; have n2_ := Rb HO462 hb; have n3_ := Kb BK456 hb; have n4_ := Bc HB hb; clear HO_8 HO_9 HO462 BK456 HB; revert n0_ n1_ n2_ n3_ n4_; intro HO_8 HO_9 HO462 BK456 HB
              (try clear hb)
              (try clear hb2)
              (try clear hk)
              (try clear hi)
              refine hK.out _ _ ⟨cz BK456 0, cz BK456 1, HS2_, HS3_⟩ (fun hHeld => ?_); clear hK K; refine norm_ (a' := ?_) ?_ ?_; rotate_left; show Act.put _ (some 48) _ = _; simp only [aP, i64_w, i32_w]; rfl; refine pZ 11 (some 53) (bA 14 4095) HT_.out ?_; refine oZ 12 (some 13) (bA 14 8191) HT_.out (fun K hK => ?_); refine box_step ?hg (N := 13) ?hd (cs := #[.int .i64 0, .int .i64 0]) (t := 71) ?hr ?_; (case hd => rfl); (case hg => rfl); (case hr => first | (go_simp; done) | (go_simp; rfl)); intro gb467 hg w31 hbox hb; have HS2_ := (hb.cell (World.block_lt_of_cell? _ _ (hHeld.2.2.1))).trans (hHeld.2.2.1); have HS3_ := (hb.cell (World.block_lt_of_cell? _ _ (hHeld.2.2.2))).trans (hHeld.2.2.2); have n0_ := am (Kd.R_below (Kd.R_elderB (Rz HO_8.out) gb467 (Nat.le_of_eq hg.symm)) hb); have n1_ := Rb HO_9 hb; have n2_ := Rb HO462 hb; have n3_ := Kb BK456 hb; have n4_ := Bc HB hb; have n5_ := am (hbox); have n6_ := Gm HB hg; have n7_ := Gm HB hg; have n8_ := Nl BK456 hg; have n9_ := Ng BK456 hg; clear HO_8 HO_9 HO462 BK456 HB; revert n0_ n1_ n2_ n3_ n4_ n5_ n6_ n7_ n8_ n9_; intro HO_8 HO_9 HO462 BK456 HB BK467 GW467 GE467 NB456_467 NB467_456; clear hb hbox hg; refine hK.out _ _ ⟨cz BK456 0, cz BK456 1, HS2_, HS3_⟩ (fun hHeld => ?_); clear hK K; refine norm_ (a' := ?_) ?_ ?_; rotate_left; show Act.put _ (some 13) _ = _; simp only [aP, i64_w, i32_w]; rfl; exact norm_ (by simp only [putAll, aP]) (hCont (gb467) _ ⟨hHeld, (Rz (Kd.R_mono HO462.out (fun _ hk => hk.2))), (Rz (Kd.R_mono HO_8.out (fun _ hk => hk.2))), (Rz (Kd.R_mono HO_9.out (fun _ hk => hk.2))), (Kz BK456.out), (Kz BK467.out), GW467.out, GE467.out, NB456_467.out, NB467_456.out, (Bq)⟩)
             ·skip
              refine box_step ?hg (N := 13) ?hd (cs := #[.int .i64 0, .int .i64 0]) (t := 71) ?hr ?_; (case hd => rfl); (case hg => rfl); (case hr => first | (go_simp; done) | (go_simp; rfl)); intro gb467 hg w30 hbox hb; have HS2_ := (hb.cell (World.block_lt_of_cell? _ _ (hHeld.2.2.1))).trans (hHeld.2.2.1); have HS3_ := (hb.cell (World.block_lt_of_cell? _ _ (hHeld.2.2.2))).trans (hHeld.2.2.2); have n0_ := am (Kd.R_below (Kd.R_elderB (Rz HO_8.out) gb467 (Nat.le_of_eq hg.symm)) hb); have n1_ := Rb HO_9 hb; have n2_ := Rb HO462 hb; have n3_ := Kb BK456 hb; have n4_ := Bc HB hb; have n5_ := am (hbox); have n6_ := Gm HB hg; have n7_ := Gm HB hg; have n8_ := Nl BK456 hg; have n9_ := Ng BK456 hg; clear HO_8 HO_9 HO462 BK456 HB; revert n0_ n1_ n2_ n3_ n4_ n5_ n6_ n7_ n8_ n9_; intro HO_8 HO_9 HO462 BK456 HB BK467 GW467 GE467 NB456_467 NB467_456; clear hb hbox hg; refine hK.out _ _ ⟨cz BK456 0, cz BK456 1, HS2_, HS3_⟩ (fun hHeld => ?_); clear hK K; refine norm_ (a' := ?_) ?_ ?_; rotate_left; show Act.put _ (some 13) _ = _; simp only [aP, i64_w, i32_w]; rfl; refine oZ 6 (some 48) (bA 14 6143) HT_.out (fun K hK => ?_); refine goes_ Tryz.func73 (by kernel_rfl) rfl #[.agg #[.int .i64 a0_0, .slice A0_1 l0_1.length c0_1], .slice Ao26 x9_1.length co26, .int .i64 (rd t460 (ji19))] (by rfl) rfl rfl (by (try simp only [List.map_toArray, List.map_cons, List.map_nil]); first | done | (simp only [hji19]; rfl) | rfl | (simp only [List.length_drop, List.length_take]; rfl)) ?_
              with_reducible refine (spec_peWith.calls kj7 a0_0 _ _ l0_1 _ _ x9_1 (rd t460 (ji19)) t465 _ ?side1 ?side2 ?side3 ?side4 A22.out).mono ?_
              (case side1 => exact Cz (Kd.C_below HR0_1.out HB.out))
              (case side2 => exact HC0_1.out)
              (case side3 => exact Cz ((Kd.R_reads' HO_9.out).2.2))
              (case side4 => exact (Kd.R_reads' HO_9.out).2.1)
              rintro e w31 ⟨rfl, hb⟩; have HS2_ := (hb.cell (World.block_lt_of_cell? _ _ (hHeld.2.2.1))).trans (hHeld.2.2.1); have HS3_ := (hb.cell (World.block_lt_of_cell? _ _ (hHeld.2.2.2))).trans (hHeld.2.2.2); refine ⟨_, rfl, ?_⟩; have n0_ := Rb HO_8 hb; have n1_ := Rb HO_9 hb; have n2_ := Rb HO462 hb; have n3_ := Kb BK456 hb; have n4_ := Kb BK467 hb; have n5_ := Bc HB hb; clear HO_8 HO_9 HO462 BK456 BK467 HB; revert n0_ n1_ n2_ n3_ n4_ n5_; intro HO_8 HO_9 HO462 BK456 BK467 HB
              (try clear hb)
              (try clear hb2)
              (try clear hk)
              (try clear hi)
              refine hK.out _ _ ⟨cz BK456 0, cz BK456 1, HS2_, HS3_⟩ (fun hHeld => ?_); clear hK K; refine norm_ (a' := ?_) ?_ ?_; rotate_left; show Act.put _ (some 48) _ = _; simp only [aP, i64_w, i32_w]; rfl; refine pZ 11 (some 53) (bA 14 8191) HT_.out ?_; exact norm_ (by simp only [putAll, aP]) (hCont (gb467) _ ⟨hHeld, (Rz (Kd.R_mono HO462.out (fun _ hk => hk.2))), (Rz (Kd.R_mono HO_8.out (fun _ hk => hk.2))), (Rz (Kd.R_mono HO_9.out (fun _ hk => hk.2))), (Kz BK456.out), (Kz BK467.out), GW467.out, GE467.out, NB456_467.out, NB467_456.out, (Bq)⟩)
            rintro gb467 w32 ⟨hS_, h0_, h1_, h2_, h3_, h4_, h5_, h6_, h7_, h8_, h9_⟩; have n0_ : Aside0 (Kd.R (Kd.int .i64) 3 w32 w.heap.size (fun k_ => some k_ ≠ (.slice Ao26 x9_1.length co26 : Value).ownBlock) (.slice (some ad464) t460.length co28) t460) := ⟨h0_⟩; have n1_ : Aside0 (Kd.R k71 71 w32 w.heap.size (fun k_ => k_ ≠ gb467) u8 x8_1) := ⟨h1_⟩; have n2_ : Aside0 (Kd.R (Kd.int .i64) 3 w32 w.heap.size (fun k_ => some k_ ≠ (.slice (some ad464) t460.length co28 : Value).ownBlock) (.slice Ao26 x9_1.length co26) x9_1) := ⟨h2_⟩; have n3_ : Aside0 (w32.heap[gb456]? = some (.cells #[.int .i64 a0_0, .slice A0_1 l0_1.length c0_1] 35 (0, 0))) := ⟨h3_⟩; have n4_ : Aside0 (w32.heap[gb467]? = some (.cells #[.int .i64 0, .int .i64 0] 71 (0, 0))) := ⟨h4_⟩; have n5_ : Aside0 (w.heap.size ≤ gb467) := ⟨h5_⟩; have n6_ : Aside0 (w.heap.size ≤ gb467) := ⟨h6_⟩; have n7_ : Aside0 (gb456 ≠ gb467) := ⟨h7_⟩; have n8_ : Aside0 (gb467 ≠ gb456) := ⟨h8_⟩; have n9_ : Aside0 (Below w.heap.size w w32) := ⟨h9_⟩; clear HO_8 HO_9 HO462 BK456 HB; clear h0_ h1_ h2_ h3_ h4_ h5_ h6_ h7_ h8_ h9_; revert n0_ n1_ n2_ n3_ n4_ n5_ n6_ n7_ n8_ n9_; intro HO462 HO_8 HO_9 BK456 BK467 GW467 GE467 NB456_467 NB467_456 HB; have hHeld : w32.cell? ⟨gb456, 0, none⟩ = some (.int .i64 a0_0) ∧ w32.cell? ⟨gb456, 1, none⟩ = some (.slice A0_1 l0_1.length c0_1) ∧ w32.cell? (ad464.add ((ji19)).toNat) = some (.int .i64 (rd t460 (ji19))) ∧ w32.cell? (ad464.add ((ji19)).toNat) = some (.int .i64 (rd t460 (ji19))) := hS_; refine norm_ (a' := ?_) ?_ ?_
            rotate_left
            ·simp only [putAll, aP]
             rfl
            refine oZ 13 none (bA 14 16383) HT_.out (fun K hK => ?_); have hs33 : w32.cell? ⟨gb467, 0, none⟩ = some (.int .i64 0) := cz BK467 0; have hfs33 := blk_frozen BK467.out 0; have hns33_0 := NB456_467.out; have hms33_0 := NB467_456.out; have hs34 : w32.cell? ⟨gb467, 1, none⟩ = some (.int .i64 0) := cz BK467 1; have hfs34 := blk_frozen BK467.out 1; have hns34_0 := NB456_467.out; have hms34_0 := NB467_456.out; refine skip_ (w1 := ?_) (by rfl) rfl ?_ ?_
            rotate_left
            ·go_simp
             rfl
            refine hK.out _ _ ⟨((cell_far (p := ⟨gb467, _, none⟩) NB456_467.out _).trans (((cell_far (p := ⟨gb467, _, none⟩) NB456_467.out _).trans (hHeld.1)))), ((cell_far (p := ⟨gb467, _, none⟩) NB456_467.out _).trans (((cell_far (p := ⟨gb467, _, none⟩) NB456_467.out _).trans (hHeld.2.1)))), ((cell_far (p := ⟨gb467, _, none⟩) (by first | exact Kd.own_blk (Kd.R_ne HO462.out BK467.out (by decide)) | (rw [add_block]; exact Kd.own_blk (Kd.R_ne HO462.out BK467.out (by decide))) | (show (Addr.add _ _).block ≠ _; rw [add_block]; exact Kd.own_blk (Kd.R_ne HO462.out BK467.out (by decide))) | (dsimp only; exact Kd.own_blk (Kd.R_ne HO462.out BK467.out (by decide)))) _).trans (((cell_far (p := ⟨gb467, _, none⟩) (by first | exact Kd.own_blk (Kd.R_ne HO462.out BK467.out (by decide)) | (rw [add_block]; exact Kd.own_blk (Kd.R_ne HO462.out BK467.out (by decide))) | (show (Addr.add _ _).block ≠ _; rw [add_block]; exact Kd.own_blk (Kd.R_ne HO462.out BK467.out (by decide))) | (dsimp only; exact Kd.own_blk (Kd.R_ne HO462.out BK467.out (by decide)))) _).trans (hHeld.2.2.1)))), ((cell_far (p := ⟨gb467, _, none⟩) (by first | exact Kd.own_blk (Kd.R_ne HO462.out BK467.out (by decide)) | (rw [add_block]; exact Kd.own_blk (Kd.R_ne HO462.out BK467.out (by decide))) | (show (Addr.add _ _).block ≠ _; rw [add_block]; exact Kd.own_blk (Kd.R_ne HO462.out BK467.out (by decide))) | (dsimp only; exact Kd.own_blk (Kd.R_ne HO462.out BK467.out (by decide)))) _).trans (((cell_far (p := ⟨gb467, _, none⟩) (by first | exact Kd.own_blk (Kd.R_ne HO462.out BK467.out (by decide)) | (rw [add_block]; exact Kd.own_blk (Kd.R_ne HO462.out BK467.out (by decide))) | (show (Addr.add _ _).block ≠ _; rw [add_block]; exact Kd.own_blk (Kd.R_ne HO462.out BK467.out (by decide))) | (dsimp only; exact Kd.own_blk (Kd.R_ne HO462.out BK467.out (by decide)))) _).trans (hHeld.2.2.2))))⟩ (fun hHeld => ?_); clear hK K; refine done_ (done_of HT_.out (by kernel_rfl)) ?_; have hnb35 := NB467_456.out; have hnc35 := NB456_467.out; obtain ⟨hcz36_0, hcz36_1, hfz36_0, hfz36_1⟩ := cf2 (w := w32) BK467
            try go_wp2_with (first | ((with_reducible refine gate_builtin (b := .append) (xs := #[.tmp 54, .tmp 56]) rfl ?_); (try (refine gate_guard (by rfl) ?_; dsimp only)); at_builtin; refine Kd.R_append k71 (w0 := w) w.heap.size rfl (.tmp 54) (.tmp 56) 38 71 (.agg #[(.int .i64 0), (.int .i64 0)]) 16 rfl Tryz.underlying38 info71 rfl (by decide) (by omega) u8 x8_1 (⟨t465, rd t460 (ji19)⟩ : S71) [.int .i64 t465, .int .i64 (rd t460 (ji19))] (fun k_ => k_ ≠ gb467) (fun _ => False) rfl (by first | (go_simp; done) | (go_simp; rfl)) ?aP (fun _ hk => hk.elim) ?aF ?aO ?aB ?aS ?aL ?_; (case aP => exact k71_mkM _ _ _ (⟨t465, rd t460 (ji19)⟩ : S71)); (case aB => exact (Bq)); (case aF => exact (fun k_ hk => Kd.freshB (g := gb467) (o := .cells #[.int .i64 t465, .int .i64 (rd t460 (ji19))] 71 (0, 0)) (by (with_reducible repeat (first | refine blk_drewN ?_ _ | refine blk_drew ?_ | refine blk_alloc ?_ _)); refine blk_put (cs := #[.int .i64 t465, .int .i64 0]) ?_ 1 _ rfl; (with_reducible repeat (first | refine blk_drewN ?_ _ | refine blk_drew ?_ | refine blk_alloc ?_ _)); refine blk_put (cs := #[.int .i64 0, .int .i64 0]) ?_ 0 _ rfl; exact Kz BK467.out) k_ hk)); (case aO => exact (Rz (Kd.R_mono (Kd.R_far (p := ⟨gb467, 1, none⟩) (Kd.R_far (p := ⟨gb467, 0, none⟩) (Kd.R_mono HO_8.out (fun k_ hk => (⟨hk, hk⟩ : _ ∧ k_ ≠ gb467))) (fun _ hk => hk.2) (.int .i64 t465)) (fun _ hk => hk.2) (.int .i64 (rd t460 (ji19)))) (fun _ hk => hk.1)))); (case aS => exact (below_size (w := w) (Bq))); (case aL => have := LMc23.out; omega); intro v469 w37 ho hb hg hat; rw [← Ny468.out] at ho; have n0_ := am (Kd.R_over' (Rz (Kd.R_mono (Kd.R_far (p := ⟨gb467, 1, none⟩) (Kd.R_far (p := ⟨gb467, 0, none⟩) (Kd.R_types HO_9.out BK467.out (by decide)) (fun _ hk => hk.2) (.int .i64 t465)) (fun _ hk => hk.2) (.int .i64 (rd t460 (ji19)))) (fun _ h_ => h_.1))) (Kd.R_typed (Rz (Kd.R_mono (Kd.R_far (p := ⟨gb467, 1, none⟩) (Kd.R_far (p := ⟨gb467, 0, none⟩) (Kd.R_mono HO_8.out (fun k_ hk => (⟨hk, hk⟩ : _ ∧ k_ ≠ gb467))) (fun _ hk => hk.2) (.int .i64 t465)) (fun _ hk => hk.2) (.int .i64 (rd t460 (ji19)))) (fun _ h_ => h_.1)))) (by decide) hg); have n1_ := am (blk_grown (g := gb456) (o := .cells #[.int .i64 a0_0, .slice A0_1 l0_1.length c0_1] 35 (0, 0)) (by (with_reducible repeat (first | refine blk_drewN ?_ _ | refine blk_drew ?_ | refine blk_alloc ?_ _)); refine blk_far ?_ NB456_467.out _; (with_reducible repeat (first | refine blk_drewN ?_ _ | refine blk_drew ?_ | refine blk_alloc ?_ _)); refine blk_far ?_ NB456_467.out _; exact Kz BK456.out) hg (Kd.R_ne HO_8.out BK456.out (by decide))); have n2_ := am (Kd.R_over' (Rz (Kd.R_mono (Kd.R_far (p := ⟨gb467, 1, none⟩) (Kd.R_far (p := ⟨gb467, 0, none⟩) (Kd.R_types HO462.out BK467.out (by decide)) (fun _ hk => hk.2) (.int .i64 t465)) (fun _ hk => hk.2) (.int .i64 (rd t460 (ji19)))) (fun _ h_ => h_.1))) (Kd.R_typed (Rz (Kd.R_mono (Kd.R_far (p := ⟨gb467, 1, none⟩) (Kd.R_far (p := ⟨gb467, 0, none⟩) (Kd.R_mono HO_8.out (fun k_ hk => (⟨hk, hk⟩ : _ ∧ k_ ≠ gb467))) (fun _ hk => hk.2) (.int .i64 t465)) (fun _ hk => hk.2) (.int .i64 (rd t460 (ji19)))) (fun _ h_ => h_.1)))) (by decide) hg); have n3_ := am (blk_grown (g := gb467) (o := .cells #[.int .i64 t465, .int .i64 (rd t460 (ji19))] 71 (0, 0)) (by (with_reducible repeat (first | refine blk_drewN ?_ _ | refine blk_drew ?_ | refine blk_alloc ?_ _)); refine blk_put (cs := #[.int .i64 t465, .int .i64 0]) ?_ 1 _ rfl; (with_reducible repeat (first | refine blk_drewN ?_ _ | refine blk_drew ?_ | refine blk_alloc ?_ _)); refine blk_put (cs := #[.int .i64 0, .int .i64 0]) ?_ 0 _ rfl; exact Kz BK467.out) hg (Kd.R_away HO_8.out (fun _ hk => hk))); have n4_ := am (hb); have n5_ := am (ho); clear HO_9 BK456 HO462 BK467 HB HO_8; revert n0_ n1_ n2_ n3_ n4_ n5_; intro HO_9 BK456 HO462 BK467 HB HO470; clear ho hb hg hat; obtain ⟨hcz38_0, hcz38_1, hfz38_0, hfz38_1⟩ := cf2 (w := w37) BK467) | ((with_reducible refine gate_callee (f := 74) rfl ?_); refine gL (some 61) Tryz.func74 #[.slice Ao26 x9_1.length co26, .int .i64 t465] ?_; (with_reducible refine (spec_l1Drop.calls kj7 _ _ x9_1 t465 t471 _ ?side1 ?side2 A24.out).mono ?_); (case side1 => exact Cz ((Kd.R_reads' HO_9.out).2.2)); (case side2 => exact (Kd.R_reads' HO_9.out).2.1); rintro e w39 ⟨v472, rfl, ho0, hb⟩; refine ⟨_, rfl, ?_⟩; have n0_ := Re HO_9 (Kd.R_base ho0) hb; have n1_ := Re HO462 (Kd.R_base ho0) hb; have n2_ := Rb HO470 hb; have n3_ := Rm (Kd.R_new' (Kd.R_new' ho0 (Kd.R_lt (Rz HO_9.out))) (Kd.R_lt (Rz HO462.out))) HB; have n4_ := Kb BK456 hb; have n5_ := Kb BK467 hb; have n6_ := Bc HB hb; clear HO_9 HO462 HO470 BK456 BK467 HB; revert n0_ n1_ n2_ n3_ n4_ n5_ n6_; intro HO_9 HO462 HO470 HO473 BK456 BK467 HB; (try clear hb); (try clear hb2); (try clear hk); (try clear hi); (try clear ho0)))
            go_roundg kj7
            case measure => have := HK1.out; have := HJ7.out; omega
            case rel => exact ⟨(y468), (t471), (wrap64 (x10_1 + 1)), wZ, H', ⟨by have := HK1.out; have := HJ7.out; omega⟩, ⟨Rz (Kd.R_mono HO470.out (fun _ hk => trivial))⟩, ⟨Rz (Kd.R_mono HO473.out (fun _ hk => trivial))⟩, ⟨Kz BK456.out⟩, ⟨Bq⟩⟩
           ·rw [if_neg c23] at H
            exact absurd H (by simp)
          ·rw [if_neg c21] at H
           exact absurd H (by simp)
         ·rw [if_neg c20] at H
          exact absurd H (by simp)
        ·rw [if_neg c18] at H
         exact absurd H (by simp)
       ·rw [if_neg c17] at H
        have c17b0 : decide (x10_1 < (l1.length : Int)) = false := decide_eq_false c17; clear c17
        by_cases c40 : 0 < (t460.length : Int)
        ·rw [if_pos c40] at H
         have c40b0 : decide (0 < (t460.length : Int)) = true := decide_eq_true c40; have c40b1 : decide (0 < t460.length) = true := decide_eq_true (by omega); clear c40; replace H := Option.bind_eq_some_iff.mp H; obtain ⟨t475, A410, H⟩ := H; (try dsimp -simprocs only at H); have A41 := am A410; clear A410
         by_cases c42 : x8_1.length < 8796093022208
         ·rw [if_pos c42] at H
          have LMc42 := am c42; clear c42; obtain ⟨y478, hy478⟩ : ∃ y_ : List (S71), y_ = (x8_1 ++ [(⟨t475, rd t460 0⟩ : S71)]) := ⟨_, rfl⟩
          replace H : ((spec_l1Drop.f kj7 x9_1 t475).bind fun t481 => (spec_pePeel.l0 kj7 l1 a2 y478 t481 (wrap64 (x10_1 + 1)) a0_0 l0_1)) = some (r1, r2) := by first | (rw [hy478]; with_reducible exact H) | (have H2_ := (Option.bind_some _ _).symm.trans H; rw [hy478]; with_reducible exact H2_) | (have H2_ := (Option.bind_some _ _).symm.trans H; with_reducible exact H2_) | with_reducible exact H | (rw [hy478]; exact H) | exact H
          have Ny478 := am hy478; clear hy478; replace H := Option.bind_eq_some_iff.mp H; obtain ⟨t481, A430, H⟩ := H; (try dsimp -simprocs only at H); have A43 := am A430; clear A430; have H' := am H; clear H; obtain ⟨hcz44_0, hcz44_1, hfz44_0, hfz44_1⟩ := cf2 (w := wc) BK456; obtain ⟨Ao45, co45, eo45⟩ := Kd.R_slice HO_9.out; subst eo45
          try go_wp2_with (first | ((with_reducible refine gate_callee (f := 72) rfl ?_); refine gL (some 27) Tryz.func72 #[.agg #[.int .i64 a0_0, .slice A0_1 l0_1.length c0_1], .slice Ao45 x9_1.length co45] ?_; (with_reducible refine (spec_peFree.calls kj7 a0_0 _ _ l0_1 _ _ x9_1 t460 _ ?side1 ?side2 ?side3 ?side4 A11.out).mono ?_); (case side1 => exact Cz (Kd.C_below HR0_1.out HB.out)); (case side2 => exact HC0_1.out); (case side3 => exact Cz ((Kd.R_reads' HO_9.out).2.2)); (case side4 => exact (Kd.R_reads' HO_9.out).2.1); rintro e w46 ⟨v461, rfl, ho0, hb⟩; refine ⟨_, rfl, ?_⟩; have n0_ := Rb HO_8 hb; have n1_ := Re HO_9 (Kd.R_base ho0) hb; have n2_ := Rm (Kd.R_new' ho0 (Kd.R_lt (Rz HO_9.out))) HB; have n3_ := Kb BK456 hb; have n4_ := Bc HB hb; clear HO_8 HO_9 BK456 HB; revert n0_ n1_ n2_ n3_ n4_; intro HO_8 HO_9 HO462 BK456 HB; (try clear hb); (try clear hb2); (try clear hk); (try clear hi); (try clear ho0); obtain ⟨Ao47, co47, eo47⟩ := Kd.R_slice HO462.out; subst eo47))
          have n0_ := am (Kd.R_drew HO_8.out); have n1_ := am (Kd.R_drew HO_9.out); have n2_ := am (Kd.R_drew HO462.out); have n3_ := am (blk_drew BK456.out); have n4_ := am (below_drew1 HB.out); clear HO_8 HO_9 HO462 BK456 HB; revert n0_ n1_ n2_ n3_ n4_; intro HO_8 HO_9 HO462 BK456 HB; have p474 : 0 ≤ (0 : Int) := (by omega); have q474 : 0 < (t460.length : Int) := dT; obtain ⟨ad474, e474, hx474_0⟩ := Kd.at_int (Kd.R_reads' HO462.out).2.2 0 p474 q474; cases e474; have qi474 : (0 < t460.length) = True := eq_true (by omega)
          (try rw [show ((0 : Int)).toNat = 0 from rfl] at hx474_0)
          (try rw [Addr.add_zero'] at hx474_0)
          replace p474 := eq_true p474; replace q474 := eq_true q474; have p476 : 0 ≤ (0 : Int) := (by omega); have q476 : 0 < (t460.length : Int) := dT; obtain ⟨ad476, e476, hx476_0⟩ := Kd.at_int (Kd.R_reads' HO462.out).2.2 0 p476 q476; obtain rfl : ad474 = ad476 := (by injection e476); have qi476 : (0 < t460.length) = True := eq_true (by omega)
          (try rw [show ((0 : Int)).toNat = 0 from rfl] at hx476_0)
          (try rw [Addr.add_zero'] at hx476_0)
          replace p476 := eq_true p476; replace q476 := eq_true q476; refine start_ (n := 14) (S := fun w' => w'.cell? ⟨gb456, 0, none⟩ = some (.int .i64 a0_0) ∧ w'.cell? ⟨gb456, 1, none⟩ = some (.slice A0_1 l0_1.length c0_1) ∧ w'.cell? ad474 = some (.int .i64 (rd t460 0)) ∧ w'.cell? ad474 = some (.int .i64 (rd t460 0))) (ds := []) (bA 14 0) (by kernel_rfl) rfl rfl ⟨cz BK456 0, cz BK456 1, hx474_0, hx476_0⟩ (fun hHeld => ?_); refine with_tabW spec_pePeel.tab11 spec_pePeel.bits11 (fun HT_ HW_ => ?_); generalize w46.drew = w48 at HO_8 HO_9 HO462 BK456 HB hx474_0 hx476_0 hHeld ⊢; refine pZ 1 (some 43) (bA 14 2) HT_.out ?_; refine pZ 2 (some 44) (bA 14 6) HT_.out ?_; refine pZ 3 (some 45) (bA 14 14) HT_.out ?_; refine pZ 4 (some 46) (bA 14 30) HT_.out ?_; refine pZ 7 (some 49) (bA 14 158) HT_.out ?_; refine pZ 8 (some 50) (bA 14 414) HT_.out ?_; refine pZ 9 (some 51) (bA 14 926) HT_.out ?_; refine tZ4 0 (some 42) (bA 14 927) HT_.out HW_.out hHeld ?_; refine tZ4 5 (some 47) (bA 14 959) HT_.out HW_.out hHeld ?_; refine tZ4 10 (some 52) (bA 14 1983) HT_.out HW_.out hHeld ?_; refine join_ (σ := Nat) 1 (bA 14 8191) (fun s_ => [(48, .int .i64 t475), (13, .pointer (some ⟨s_, 0, none⟩)), (53, .agg #[.int .i64 t475, .int .i64 (rd t460 0)])]) (fun s_ w' => (w'.cell? ⟨gb456, 0, none⟩ = some (.int .i64 a0_0) ∧ w'.cell? ⟨gb456, 1, none⟩ = some (.slice A0_1 l0_1.length c0_1) ∧ w'.cell? ad474 = some (.int .i64 (rd t460 0)) ∧ w'.cell? ad474 = some (.int .i64 (rd t460 0))) ∧ (Kd.R (Kd.int .i64) 3 w' w.heap.size (fun k_ => some k_ ≠ (.slice Ao45 x9_1.length co45 : Value).ownBlock) (.slice (some ad474) t460.length co47) t460) ∧ (Kd.R k71 71 w' w.heap.size (fun k_ => k_ ≠ s_) u8 x8_1) ∧ (Kd.R (Kd.int .i64) 3 w' w.heap.size (fun k_ => some k_ ≠ (.slice (some ad474) t460.length co47 : Value).ownBlock) (.slice Ao45 x9_1.length co45) x9_1) ∧ (w'.heap[gb456]? = some (.cells #[.int .i64 a0_0, .slice A0_1 l0_1.length c0_1] 35 (0, 0))) ∧ (w'.heap[s_]? = some (.cells #[.int .i64 0, .int .i64 0] 71 (0, 0))) ∧ (w.heap.size ≤ s_) ∧ (w.heap.size ≤ s_) ∧ (gb456 ≠ s_) ∧ (s_ ≠ gb456) ∧ (Below w.heap.size w w')) ?_ ?_
          rotate_left
          ·intro hCont
           refine two_ (i := 6) (j := 12) (Ni := some 48) (Nj := some 13) (bA 14 2047) (bA 14 6079) rfl rfl rfl rfl (two_of HT_.out (by kernel_rfl)) (by decide) (by decide) (fun K hK => ?_) (fun K hK => ?_)
           ·skip
            refine gZ Tryz.func73 #[.agg #[.int .i64 a0_0, .slice A0_1 l0_1.length c0_1], .slice Ao45 x9_1.length co45, .int .i64 (rd t460 0)] ?_
            with_reducible refine (spec_peWith.calls kj7 a0_0 _ _ l0_1 _ _ x9_1 (rd t460 0) t475 _ ?side1 ?side2 ?side3 ?side4 A41.out).mono ?_
            (case side1 => exact Cz (Kd.C_below HR0_1.out HB.out))
            (case side2 => exact HC0_1.out)
            (case side3 => exact Cz ((Kd.R_reads' HO_9.out).2.2))
            (case side4 => exact (Kd.R_reads' HO_9.out).2.1)
            rintro e w49 ⟨rfl, hb⟩; have HS2_ := (hb.cell (World.block_lt_of_cell? _ _ (hHeld.2.2.1))).trans (hHeld.2.2.1); have HS3_ := (hb.cell (World.block_lt_of_cell? _ _ (hHeld.2.2.2))).trans (hHeld.2.2.2); refine ⟨_, rfl, ?_⟩; have n0_ := Rb HO_8 hb; have n1_ := Rb HO_9 hb; have n2_ := Rb HO462 hb; have n3_ := Kb BK456 hb; have n4_ := Bc HB hb; clear HO_8 HO_9 HO462 BK456 HB; revert n0_ n1_ n2_ n3_ n4_; intro HO_8 HO_9 HO462 BK456 HB
            (try clear hb)
            (try clear hb2)
            (try clear hk)
            (try clear hi)
            refine hK.out _ _ ⟨cz BK456 0, cz BK456 1, HS2_, HS3_⟩ (fun hHeld => ?_); clear hK K; refine norm_ (a' := ?_) ?_ ?_; rotate_left; show Act.put _ (some 48) _ = _; simp only [aP, i64_w, i32_w]; rfl; refine pZ 11 (some 53) (bA 14 4095) HT_.out ?_; refine oZ 12 (some 13) (bA 14 8191) HT_.out (fun K hK => ?_); refine box_step ?hg (N := 13) ?hd (cs := #[.int .i64 0, .int .i64 0]) (t := 71) ?hr ?_; (case hd => rfl); (case hg => rfl); (case hr => first | (go_simp; done) | (go_simp; rfl)); intro gb477 hg w50 hbox hb; have HS2_ := (hb.cell (World.block_lt_of_cell? _ _ (hHeld.2.2.1))).trans (hHeld.2.2.1); have HS3_ := (hb.cell (World.block_lt_of_cell? _ _ (hHeld.2.2.2))).trans (hHeld.2.2.2); have n0_ := am (Kd.R_below (Kd.R_elderB (Rz HO_8.out) gb477 (Nat.le_of_eq hg.symm)) hb); have n1_ := Rb HO_9 hb; have n2_ := Rb HO462 hb; have n3_ := Kb BK456 hb; have n4_ := Bc HB hb; have n5_ := am (hbox); have n6_ := Gm HB hg; have n7_ := Gm HB hg; have n8_ := Nl BK456 hg; have n9_ := Ng BK456 hg; clear HO_8 HO_9 HO462 BK456 HB; revert n0_ n1_ n2_ n3_ n4_ n5_ n6_ n7_ n8_ n9_; intro HO_8 HO_9 HO462 BK456 HB BK477 GW477 GE477 NB456_477 NB477_456; clear hb hbox hg; refine hK.out _ _ ⟨cz BK456 0, cz BK456 1, HS2_, HS3_⟩ (fun hHeld => ?_); clear hK K; refine norm_ (a' := ?_) ?_ ?_; rotate_left; show Act.put _ (some 13) _ = _; simp only [aP, i64_w, i32_w]; rfl; exact norm_ (by simp only [putAll, aP]) (hCont (gb477) _ ⟨hHeld, (Rz (Kd.R_mono HO462.out (fun _ hk => hk.2))), (Rz (Kd.R_mono HO_8.out (fun _ hk => hk.2))), (Rz (Kd.R_mono HO_9.out (fun _ hk => hk.2))), (Kz BK456.out), (Kz BK477.out), GW477.out, GE477.out, NB456_477.out, NB477_456.out, (Bq)⟩)
           ·skip
            refine box_step ?hg (N := 13) ?hd (cs := #[.int .i64 0, .int .i64 0]) (t := 71) ?hr ?_; (case hd => rfl); (case hg => rfl); (case hr => first | (go_simp; done) | (go_simp; rfl)); intro gb477 hg w49 hbox hb; have HS2_ := (hb.cell (World.block_lt_of_cell? _ _ (hHeld.2.2.1))).trans (hHeld.2.2.1); have HS3_ := (hb.cell (World.block_lt_of_cell? _ _ (hHeld.2.2.2))).trans (hHeld.2.2.2); have n0_ := am (Kd.R_below (Kd.R_elderB (Rz HO_8.out) gb477 (Nat.le_of_eq hg.symm)) hb); have n1_ := Rb HO_9 hb; have n2_ := Rb HO462 hb; have n3_ := Kb BK456 hb; have n4_ := Bc HB hb; have n5_ := am (hbox); have n6_ := Gm HB hg; have n7_ := Gm HB hg; have n8_ := Nl BK456 hg; have n9_ := Ng BK456 hg; clear HO_8 HO_9 HO462 BK456 HB; revert n0_ n1_ n2_ n3_ n4_ n5_ n6_ n7_ n8_ n9_; intro HO_8 HO_9 HO462 BK456 HB BK477 GW477 GE477 NB456_477 NB477_456; clear hb hbox hg; refine hK.out _ _ ⟨cz BK456 0, cz BK456 1, HS2_, HS3_⟩ (fun hHeld => ?_); clear hK K; refine norm_ (a' := ?_) ?_ ?_; rotate_left; show Act.put _ (some 13) _ = _; simp only [aP, i64_w, i32_w]; rfl; refine oZ 6 (some 48) (bA 14 6143) HT_.out (fun K hK => ?_); refine gZ Tryz.func73 #[.agg #[.int .i64 a0_0, .slice A0_1 l0_1.length c0_1], .slice Ao45 x9_1.length co45, .int .i64 (rd t460 0)] ?_
            with_reducible refine (spec_peWith.calls kj7 a0_0 _ _ l0_1 _ _ x9_1 (rd t460 0) t475 _ ?side1 ?side2 ?side3 ?side4 A41.out).mono ?_
            (case side1 => exact Cz (Kd.C_below HR0_1.out HB.out))
            (case side2 => exact HC0_1.out)
            (case side3 => exact Cz ((Kd.R_reads' HO_9.out).2.2))
            (case side4 => exact (Kd.R_reads' HO_9.out).2.1)
            rintro e w50 ⟨rfl, hb⟩; have HS2_ := (hb.cell (World.block_lt_of_cell? _ _ (hHeld.2.2.1))).trans (hHeld.2.2.1); have HS3_ := (hb.cell (World.block_lt_of_cell? _ _ (hHeld.2.2.2))).trans (hHeld.2.2.2); refine ⟨_, rfl, ?_⟩; have n0_ := Rb HO_8 hb; have n1_ := Rb HO_9 hb; have n2_ := Rb HO462 hb; have n3_ := Kb BK456 hb; have n4_ := Kb BK477 hb; have n5_ := Bc HB hb; clear HO_8 HO_9 HO462 BK456 BK477 HB; revert n0_ n1_ n2_ n3_ n4_ n5_; intro HO_8 HO_9 HO462 BK456 BK477 HB
            (try clear hb)
            (try clear hb2)
            (try clear hk)
            (try clear hi)
            refine hK.out _ _ ⟨cz BK456 0, cz BK456 1, HS2_, HS3_⟩ (fun hHeld => ?_); clear hK K; refine norm_ (a' := ?_) ?_ ?_; rotate_left; show Act.put _ (some 48) _ = _; simp only [aP, i64_w, i32_w]; rfl; refine pZ 11 (some 53) (bA 14 8191) HT_.out ?_; exact norm_ (by simp only [putAll, aP]) (hCont (gb477) _ ⟨hHeld, (Rz (Kd.R_mono HO462.out (fun _ hk => hk.2))), (Rz (Kd.R_mono HO_8.out (fun _ hk => hk.2))), (Rz (Kd.R_mono HO_9.out (fun _ hk => hk.2))), (Kz BK456.out), (Kz BK477.out), GW477.out, GE477.out, NB456_477.out, NB477_456.out, (Bq)⟩)
          rintro gb477 w51 ⟨hS_, h0_, h1_, h2_, h3_, h4_, h5_, h6_, h7_, h8_, h9_⟩; have n0_ : Aside0 (Kd.R (Kd.int .i64) 3 w51 w.heap.size (fun k_ => some k_ ≠ (.slice Ao45 x9_1.length co45 : Value).ownBlock) (.slice (some ad474) t460.length co47) t460) := ⟨h0_⟩; have n1_ : Aside0 (Kd.R k71 71 w51 w.heap.size (fun k_ => k_ ≠ gb477) u8 x8_1) := ⟨h1_⟩; have n2_ : Aside0 (Kd.R (Kd.int .i64) 3 w51 w.heap.size (fun k_ => some k_ ≠ (.slice (some ad474) t460.length co47 : Value).ownBlock) (.slice Ao45 x9_1.length co45) x9_1) := ⟨h2_⟩; have n3_ : Aside0 (w51.heap[gb456]? = some (.cells #[.int .i64 a0_0, .slice A0_1 l0_1.length c0_1] 35 (0, 0))) := ⟨h3_⟩; have n4_ : Aside0 (w51.heap[gb477]? = some (.cells #[.int .i64 0, .int .i64 0] 71 (0, 0))) := ⟨h4_⟩; have n5_ : Aside0 (w.heap.size ≤ gb477) := ⟨h5_⟩; have n6_ : Aside0 (w.heap.size ≤ gb477) := ⟨h6_⟩; have n7_ : Aside0 (gb456 ≠ gb477) := ⟨h7_⟩; have n8_ : Aside0 (gb477 ≠ gb456) := ⟨h8_⟩; have n9_ : Aside0 (Below w.heap.size w w51) := ⟨h9_⟩; clear HO_8 HO_9 HO462 BK456 HB; clear h0_ h1_ h2_ h3_ h4_ h5_ h6_ h7_ h8_ h9_; revert n0_ n1_ n2_ n3_ n4_ n5_ n6_ n7_ n8_ n9_; intro HO462 HO_8 HO_9 BK456 BK477 GW477 GE477 NB456_477 NB477_456 HB; have hHeld : w51.cell? ⟨gb456, 0, none⟩ = some (.int .i64 a0_0) ∧ w51.cell? ⟨gb456, 1, none⟩ = some (.slice A0_1 l0_1.length c0_1) ∧ w51.cell? ad474 = some (.int .i64 (rd t460 0)) ∧ w51.cell? ad474 = some (.int .i64 (rd t460 0)) := hS_; refine norm_ (a' := ?_) ?_ ?_
          rotate_left
          ·simp only [putAll, aP]
           rfl
          refine oZ 13 none (bA 14 16383) HT_.out (fun K hK => ?_); have hs52 : w51.cell? ⟨gb477, 0, none⟩ = some (.int .i64 0) := cz BK477 0; have hfs52 := blk_frozen BK477.out 0; have hns52_0 := NB456_477.out; have hms52_0 := NB477_456.out; have hs53 : w51.cell? ⟨gb477, 1, none⟩ = some (.int .i64 0) := cz BK477 1; have hfs53 := blk_frozen BK477.out 1; have hns53_0 := NB456_477.out; have hms53_0 := NB477_456.out; refine skip_ (w1 := ?_) (by rfl) rfl ?_ ?_
          rotate_left
          ·go_simp
           rfl
          refine hK.out _ _ ⟨((cell_far (p := ⟨gb477, _, none⟩) NB456_477.out _).trans (((cell_far (p := ⟨gb477, _, none⟩) NB456_477.out _).trans (hHeld.1)))), ((cell_far (p := ⟨gb477, _, none⟩) NB456_477.out _).trans (((cell_far (p := ⟨gb477, _, none⟩) NB456_477.out _).trans (hHeld.2.1)))), ((cell_far (p := ⟨gb477, _, none⟩) (by first | exact Kd.own_blk (Kd.R_ne HO462.out BK477.out (by decide)) | (rw [add_block]; exact Kd.own_blk (Kd.R_ne HO462.out BK477.out (by decide))) | (show (Addr.add _ _).block ≠ _; rw [add_block]; exact Kd.own_blk (Kd.R_ne HO462.out BK477.out (by decide))) | (dsimp only; exact Kd.own_blk (Kd.R_ne HO462.out BK477.out (by decide)))) _).trans (((cell_far (p := ⟨gb477, _, none⟩) (by first | exact Kd.own_blk (Kd.R_ne HO462.out BK477.out (by decide)) | (rw [add_block]; exact Kd.own_blk (Kd.R_ne HO462.out BK477.out (by decide))) | (show (Addr.add _ _).block ≠ _; rw [add_block]; exact Kd.own_blk (Kd.R_ne HO462.out BK477.out (by decide))) | (dsimp only; exact Kd.own_blk (Kd.R_ne HO462.out BK477.out (by decide)))) _).trans (hHeld.2.2.1)))), ((cell_far (p := ⟨gb477, _, none⟩) (by first | exact Kd.own_blk (Kd.R_ne HO462.out BK477.out (by decide)) | (rw [add_block]; exact Kd.own_blk (Kd.R_ne HO462.out BK477.out (by decide))) | (show (Addr.add _ _).block ≠ _; rw [add_block]; exact Kd.own_blk (Kd.R_ne HO462.out BK477.out (by decide))) | (dsimp only; exact Kd.own_blk (Kd.R_ne HO462.out BK477.out (by decide)))) _).trans (((cell_far (p := ⟨gb477, _, none⟩) (by first | exact Kd.own_blk (Kd.R_ne HO462.out BK477.out (by decide)) | (rw [add_block]; exact Kd.own_blk (Kd.R_ne HO462.out BK477.out (by decide))) | (show (Addr.add _ _).block ≠ _; rw [add_block]; exact Kd.own_blk (Kd.R_ne HO462.out BK477.out (by decide))) | (dsimp only; exact Kd.own_blk (Kd.R_ne HO462.out BK477.out (by decide)))) _).trans (hHeld.2.2.2))))⟩ (fun hHeld => ?_); clear hK K; refine done_ (done_of HT_.out (by kernel_rfl)) ?_; have hnb54 := NB477_456.out; have hnc54 := NB456_477.out; obtain ⟨hcz55_0, hcz55_1, hfz55_0, hfz55_1⟩ := cf2 (w := w51) BK477
          try go_wp2_with (first | ((with_reducible refine gate_builtin (b := .append) (xs := #[.tmp 54, .tmp 56]) rfl ?_); (try (refine gate_guard (by rfl) ?_; dsimp only)); at_builtin; refine Kd.R_append k71 (w0 := w) w.heap.size rfl (.tmp 54) (.tmp 56) 38 71 (.agg #[(.int .i64 0), (.int .i64 0)]) 16 rfl Tryz.underlying38 info71 rfl (by decide) (by omega) u8 x8_1 (⟨t475, rd t460 0⟩ : S71) [.int .i64 t475, .int .i64 (rd t460 0)] (fun k_ => k_ ≠ gb477) (fun _ => False) rfl (by first | (go_simp; done) | (go_simp; rfl)) ?aP (fun _ hk => hk.elim) ?aF ?aO ?aB ?aS ?aL ?_; (case aP => exact k71_mkM _ _ _ (⟨t475, rd t460 0⟩ : S71)); (case aB => exact (Bq)); (case aF => exact (fun k_ hk => Kd.freshB (g := gb477) (o := .cells #[.int .i64 t475, .int .i64 (rd t460 0)] 71 (0, 0)) (by (with_reducible repeat (first | refine blk_drewN ?_ _ | refine blk_drew ?_ | refine blk_alloc ?_ _)); refine blk_put (cs := #[.int .i64 t475, .int .i64 0]) ?_ 1 _ rfl; (with_reducible repeat (first | refine blk_drewN ?_ _ | refine blk_drew ?_ | refine blk_alloc ?_ _)); refine blk_put (cs := #[.int .i64 0, .int .i64 0]) ?_ 0 _ rfl; exact Kz BK477.out) k_ hk)); (case aO => exact (Rz (Kd.R_mono (Kd.R_far (p := ⟨gb477, 1, none⟩) (Kd.R_far (p := ⟨gb477, 0, none⟩) (Kd.R_mono HO_8.out (fun k_ hk => (⟨hk, hk⟩ : _ ∧ k_ ≠ gb477))) (fun _ hk => hk.2) (.int .i64 t475)) (fun _ hk => hk.2) (.int .i64 (rd t460 0))) (fun _ hk => hk.1)))); (case aS => exact (below_size (w := w) (Bq))); (case aL => have := LMc42.out; omega); intro v479 w56 ho hb hg hat; rw [← Ny478.out] at ho; have n0_ := am (Kd.R_over' (Rz (Kd.R_mono (Kd.R_far (p := ⟨gb477, 1, none⟩) (Kd.R_far (p := ⟨gb477, 0, none⟩) (Kd.R_types HO_9.out BK477.out (by decide)) (fun _ hk => hk.2) (.int .i64 t475)) (fun _ hk => hk.2) (.int .i64 (rd t460 0))) (fun _ h_ => h_.1))) (Kd.R_typed (Rz (Kd.R_mono (Kd.R_far (p := ⟨gb477, 1, none⟩) (Kd.R_far (p := ⟨gb477, 0, none⟩) (Kd.R_mono HO_8.out (fun k_ hk => (⟨hk, hk⟩ : _ ∧ k_ ≠ gb477))) (fun _ hk => hk.2) (.int .i64 t475)) (fun _ hk => hk.2) (.int .i64 (rd t460 0))) (fun _ h_ => h_.1)))) (by decide) hg); have n1_ := am (blk_grown (g := gb456) (o := .cells #[.int .i64 a0_0, .slice A0_1 l0_1.length c0_1] 35 (0, 0)) (by (with_reducible repeat (first | refine blk_drewN ?_ _ | refine blk_drew ?_ | refine blk_alloc ?_ _)); refine blk_far ?_ NB456_477.out _; (with_reducible repeat (first | refine blk_drewN ?_ _ | refine blk_drew ?_ | refine blk_alloc ?_ _)); refine blk_far ?_ NB456_477.out _; exact Kz BK456.out) hg (Kd.R_ne HO_8.out BK456.out (by decide))); have n2_ := am (Kd.R_over' (Rz (Kd.R_mono (Kd.R_far (p := ⟨gb477, 1, none⟩) (Kd.R_far (p := ⟨gb477, 0, none⟩) (Kd.R_types HO462.out BK477.out (by decide)) (fun _ hk => hk.2) (.int .i64 t475)) (fun _ hk => hk.2) (.int .i64 (rd t460 0))) (fun _ h_ => h_.1))) (Kd.R_typed (Rz (Kd.R_mono (Kd.R_far (p := ⟨gb477, 1, none⟩) (Kd.R_far (p := ⟨gb477, 0, none⟩) (Kd.R_mono HO_8.out (fun k_ hk => (⟨hk, hk⟩ : _ ∧ k_ ≠ gb477))) (fun _ hk => hk.2) (.int .i64 t475)) (fun _ hk => hk.2) (.int .i64 (rd t460 0))) (fun _ h_ => h_.1)))) (by decide) hg); have n3_ := am (blk_grown (g := gb477) (o := .cells #[.int .i64 t475, .int .i64 (rd t460 0)] 71 (0, 0)) (by (with_reducible repeat (first | refine blk_drewN ?_ _ | refine blk_drew ?_ | refine blk_alloc ?_ _)); refine blk_put (cs := #[.int .i64 t475, .int .i64 0]) ?_ 1 _ rfl; (with_reducible repeat (first | refine blk_drewN ?_ _ | refine blk_drew ?_ | refine blk_alloc ?_ _)); refine blk_put (cs := #[.int .i64 0, .int .i64 0]) ?_ 0 _ rfl; exact Kz BK477.out) hg (Kd.R_away HO_8.out (fun _ hk => hk))); have n4_ := am (hb); have n5_ := am (ho); clear HO_9 BK456 HO462 BK477 HB HO_8; revert n0_ n1_ n2_ n3_ n4_ n5_; intro HO_9 BK456 HO462 BK477 HB HO480; clear ho hb hg hat; obtain ⟨hcz57_0, hcz57_1, hfz57_0, hfz57_1⟩ := cf2 (w := w56) BK477) | ((with_reducible refine gate_callee (f := 74) rfl ?_); refine gL (some 61) Tryz.func74 #[.slice Ao45 x9_1.length co45, .int .i64 t475] ?_; (with_reducible refine (spec_l1Drop.calls kj7 _ _ x9_1 t475 t481 _ ?side1 ?side2 A43.out).mono ?_); (case side1 => exact Cz ((Kd.R_reads' HO_9.out).2.2)); (case side2 => exact (Kd.R_reads' HO_9.out).2.1); rintro e w58 ⟨v482, rfl, ho0, hb⟩; refine ⟨_, rfl, ?_⟩; have n0_ := Re HO_9 (Kd.R_base ho0) hb; have n1_ := Re HO462 (Kd.R_base ho0) hb; have n2_ := Rb HO480 hb; have n3_ := Rm (Kd.R_new' (Kd.R_new' ho0 (Kd.R_lt (Rz HO_9.out))) (Kd.R_lt (Rz HO462.out))) HB; have n4_ := Kb BK456 hb; have n5_ := Kb BK477 hb; have n6_ := Bc HB hb; clear HO_9 HO462 HO480 BK456 BK477 HB; revert n0_ n1_ n2_ n3_ n4_ n5_ n6_; intro HO_9 HO462 HO480 HO483 BK456 BK477 HB; (try clear hb); (try clear hb2); (try clear hk); (try clear hi); (try clear ho0)))
          go_roundg kj7
          case measure => have := HK1.out; have := HJ7.out; omega
          case rel => exact ⟨(y478), (t481), (wrap64 (x10_1 + 1)), wZ, H', ⟨by have := HK1.out; have := HJ7.out; omega⟩, ⟨Rz (Kd.R_mono HO480.out (fun _ hk => trivial))⟩, ⟨Rz (Kd.R_mono HO483.out (fun _ hk => trivial))⟩, ⟨Kz BK456.out⟩, ⟨Bq⟩⟩
         ·rw [if_neg c42] at H
          exact absurd H (by simp)
        ·rw [if_neg c40] at H
         exact absurd H (by simp)
     ·replace c10 := Bool.eq_false_iff.mpr c10
      subst c10
      rw [if_neg (show ¬ (false = true) by decide)] at H
      simp only [Option.some.injEq, Prod.mk.injEq] at H
      obtain ⟨rfl, rfl⟩ := H
      go_wp2
      go_ret2
      exact ⟨_, _, eZ, Rz HO_8.out, Rz HO_9.out, Bq⟩

def spec_peCore.f (k : Nat) (a0_0 : Int) (l0_1 : List (List Int)) : Option (List Int) := (spec_pePeel.f k a0_0 l0_1 ([] : List Int) true).bind fun bt485 => (some bt485.2)
theorem spec_peCore.calls (k : Nat) (a0_0 : Int) (A0_1 : Option Addr) (c0_1 : Nat) (l0_1 : List (List Int)) (r : List Int) (w : World) (hr0_1 : Kd.C (Kd.slice 3 (Kd.int .i64)) w A0_1 l0_1.length l0_1) (hc0_1 : l0_1.length ≤ c0_1) (h : spec_peCore.f k a0_0 l0_1 = some r) :
  Calls Tryz.prog 69 #[.agg #[.int .i64 a0_0, .slice A0_1 l0_1.length c0_1]] w fun e w' => ∃ v0_ : Value, e = .returned (v0_) ∧ Kd.R (Kd.int .i64) 3 w' w.heap.size (fun _ => True) v0_ r ∧ Below w.heap.size w w' := by
 have hu35 := Tryz.underlying35; have HR0_1 := am hr0_1; have HC0_1 := am hc0_1; clear hr0_1 hc0_1; have HB := am (Below.refl w.heap.size w); have H : ((spec_pePeel.f k a0_0 l0_1 ([] : List Int) true).bind fun bt485 => (some bt485.2)) = some r := h; clear h; replace H := Option.bind_eq_some_iff.mp H; obtain ⟨⟨t485, t488⟩, A20, H⟩ := H; (try dsimp -simprocs only at H); have A2 := am A20; clear A20; obtain rfl := Option.some.inj H
 go_enter Tryz.func69, Tryz.ntmps69
 go_wp2_with (first | ((with_reducible refine gate_dst (N := 1) rfl ?_); refine bE 1 #[.int .i64 a0_0, .slice A0_1 l0_1.length c0_1] 35 ?_; intro gb484 hg w3 hbox hb; have n0_ := Bb HB hb; have n1_ := am (hbox); have n2_ := Gl HB hg; have n3_ := Gl HB hg; clear HB; revert n0_ n1_ n2_ n3_; intro HB BK484 GW484 GE484; clear hb hbox hg; obtain ⟨hcz4_0, hcz4_1, hfz4_0, hfz4_1⟩ := cf2 (w := w3) BK484) | ((with_reducible refine gate_callee (f := 34) rfl ?_); refine gL (some 7) Tryz.func34 #[.agg #[.int .i64 a0_0, .slice A0_1 l0_1.length c0_1], .slice none 0 0, .bool true] ?_; (refine (spec_pePeel.calls k a0_0 _ _ l0_1 _ _ ([] : List Int) true t485 t488 _ ?side1 ?side2 ?side3 ?side4 A2.out).mono ?_); (case side1 => exact Cz (Kd.C_below HR0_1.out HB.out)); (case side2 => exact HC0_1.out); (case side3 => exact Kd.C_nil _ _); (case side4 => exact Nat.le_refl _); rintro e w5 ⟨v486, v489, rfl, ho0, ho1, hb⟩; refine ⟨_, rfl, ?_⟩; have n0_ := Rm ho0 HB; have n1_ := Rm ho1 HB; have n2_ := Kb BK484 hb; have n3_ := Bc HB hb; clear BK484 HB; revert n0_ n1_ n2_ n3_; intro HO487 HO490 BK484 HB; (try clear hb); (try clear hb2); (try clear hk); (try clear hi); (try clear ho0); (try clear ho1)))
 go_ret
 exact ⟨_, eZ, Rz HO490.out, Bq⟩

def spec_pePeels.f (k : Nat) (a0 : Int) (l1 : List ByteArray) (a2 : Int) : Option (Bool) := (spec_peHyper.f k a0 l1 a2).bind fun bt491 => ((spec_peCore.f k bt491.1 bt491.2).bind fun t495 => (some ((t495.length : Int) == 0)))
theorem spec_pePeels.calls (k : Nat) (a0 : Int) (A1 : Option Addr) (c1 : Nat) (l1 : List ByteArray) (a2 : Int) (r : Bool) (w : World) (hr1 : Kd.C Kd.string w A1 l1.length l1) (hc1 : l1.length ≤ c1) (h : spec_pePeels.f k a0 l1 a2 = some r) :
  Calls Tryz.prog 32 #[.int .i64 a0, .slice A1 l1.length c1, .int .i64 a2] w fun e w' => e = .returned (.bool r) ∧ Below w.heap.size w w' := by
 have HR1 := am hr1; have HC1 := am hc1; clear hr1 hc1; have HB := am (Below.refl w.heap.size w); have H : ((spec_peHyper.f k a0 l1 a2).bind fun bt491 => ((spec_peCore.f k bt491.1 bt491.2).bind fun t495 => (some ((t495.length : Int) == 0)))) = some r := h; clear h; replace H := Option.bind_eq_some_iff.mp H; obtain ⟨⟨t491, t492⟩, A40, H⟩ := H; (try dsimp -simprocs only at H); have A4 := am A40; clear A40; replace H := Option.bind_eq_some_iff.mp H; obtain ⟨t495, A50, H⟩ := H; (try dsimp -simprocs only at H); have A5 := am A50; clear A50; obtain rfl := Option.some.inj H
 go_enter Tryz.func32, Tryz.ntmps32
 go_wp2_with (first | ((with_reducible refine gate_callee (f := 33) rfl ?_); refine gL (some 10) Tryz.func33 #[.int .i64 a0, .slice A1 l1.length c1, .int .i64 a2] ?_; (with_reducible refine (spec_peHyper.calls k a0 _ _ l1 a2 t491 t492 _ ?side1 ?side2 A4.out).mono ?_); (case side1 => exact Cz HR1.out); (case side2 => exact HC1.out); rintro e w6 ⟨v493, rfl, ho0, hb⟩; refine ⟨_, rfl, ?_⟩; have n0_ := am (Kd.S_lower ho0 (below_size (Bz HB.out))); have n1_ := Bb HB hb; clear HB; revert n0_ n1_; intro HO494 HB; (try clear hb); (try clear hb2); (try clear hk); (try clear hi); (try clear ho0); obtain ⟨Ao7, co7, eo7⟩ := Kd.S_slice HO494.out; subst eo7) | ((with_reducible refine gate_callee (f := 69) rfl ?_); refine gL (some 11) Tryz.func69 #[.agg #[.int .i64 t491, .slice Ao7 t492.length co7]] ?_; (with_reducible refine (spec_peCore.calls k t491 _ _ t492 t495 _ ?side1 ?side2 A5.out).mono ?_); (case side1 => exact Cz ((Kd.S_reads' HO494.out).2.2)); (case side2 => exact (Kd.S_reads' HO494.out).2.1); rintro e w8 ⟨v496, rfl, ho0, hb⟩; refine ⟨_, rfl, ?_⟩; have n0_ := am (Kd.S_elder' (by (with_reducible repeat (first | apply Kd.S_alloc | apply Kd.S_drewN | apply Kd.S_drew)); exact HO494.out) (Kd.R_base ho0) hb); have n1_ := Rl ho0 HB; have n2_ := Bb HB hb; clear HO494 HB; revert n0_ n1_ n2_; intro HO494 HO497 HB; (try clear hb); (try clear hb2); (try clear hk); (try clear hi); (try clear ho0); obtain ⟨Ao9, co9, eo9⟩ := Kd.R_slice HO497.out; subst eo9))
 go_ret
 exact ⟨eZ, Bz HB.out⟩

def spec_pfIndex.l0 : Nat → Int → List Int → Int → Int → Option (Int)
 | 0, _, _, _, _ => none
 | k + 1, x1, x7, x8, x9 => if x9 < x8 then (if 0 ≤ x9 then (if x9 < (x7.length : Int) then (if (rd x7 x9) = x1 then (some x9) else (spec_pfIndex.l0 k x1 x7 x8 (wrap64 (x9 + 1)))) else (none)) else (none)) else (some 0)
def spec_pfIndex.f (k : Nat) (l0 : List Int) (a1 : Int) : Option (Int) := spec_pfIndex.l0 k a1 l0 (l0.length : Int) 0
theorem spec_pfIndex.calls (k : Nat) (A0 : Option Addr) (c0 : Nat) (l0 : List Int) (a1 : Int) (r : Int) (w : World) (hr0 : Kd.C (Kd.int .i64) w A0 l0.length l0) (hc0 : l0.length ≤ c0) (h : spec_pfIndex.f k l0 a1 = some r) :
  Calls Tryz.prog 35 #[.slice A0 l0.length c0, .int .i64 a1] w fun e w' => e = .returned (.int .i64 r) ∧ Drawn0 w w' := by
 have HR0 := am hr0; have HC0 := am hc0; clear hr0 hc0; have H : (spec_pfIndex.l0 k a1 l0 (l0.length : Int) 0) = some r := h; clear h; have H' := am H; clear H
 go_enter Tryz.func35, Tryz.ntmps35
 go_wp2
 go_loopg [9] k (fun kq v9 w' => ∃ (x9_1 : Int), v9 = .int .i64 x9_1 ∧ Aside0 (spec_pfIndex.l0 kq a1 l0 (l0.length : Int) x9_1 = some r) ∧ Aside0 (kq ≤ k) ∧ Drawn0 w w')
 case atStart => exact ⟨(0), wZ, H', ⟨Nat.le_refl _⟩, by repeat (first | exact Drawn0.refl _ | apply Drawn0.step)⟩
 case round =>
  clear H'
  try clear p2
  obtain ⟨x9_1, rfl, HA, HK1, ⟨m1, rfl⟩⟩ := hrel; cases gk with
  | zero => exact absurd HA.out (by simp [spec_pfIndex.l0])
  | succ k1 =>
   have H := HA.out; clear HA
   simp only [spec_pfIndex.l0] at H
   by_cases c3 : x9_1 < (l0.length : Int)
   ·rw [if_pos c3] at H
    have c3b0 : decide (x9_1 < (l0.length : Int)) = true := decide_eq_true c3; clear c3
    by_cases c4 : 0 ≤ x9_1
    ·rw [if_pos c4] at H
     have c4b0 : decide (0 ≤ x9_1) = true := decide_eq_true c4; clear c4
     by_cases c5 : x9_1 < (l0.length : Int)
     ·rw [if_pos c5] at H
      have c5b0 : decide (x9_1 < (l0.length : Int)) = true := decide_eq_true c5; clear c5
      by_cases c6 : (rd l0 x9_1) = a1
      ·rw [if_pos c6] at H
       have c6b0 : ((rd l0 x9_1) == a1) = true := beq_iff_eq.mpr c6; have c6b1 : ((rd l0 x9_1) != a1) = false := bne_eq_false_iff_eq.mpr c6; clear c6; obtain rfl := Option.some.inj H; obtain ⟨ad498, e498, hx498_0⟩ := Kd.at_int HR0.out x9_1 dT dT; cases e498; have p498 := eT (0 ≤ (x9_1 : Int)); have q498 := eT (x9_1 < (l0.length : Int))
       go_wp2
       go_ret
       exact ⟨by first | rfl | (simp; done) | (simp [*]; done), by repeat (first | exact Drawn0.refl _ | apply Drawn0.step)⟩
      ·rw [if_neg c6] at H
       have c6b0 : ((rd l0 x9_1) == a1) = false := beq_eq_false_iff_ne.mpr c6; have c6b1 : ((rd l0 x9_1) != a1) = true := bne_iff_ne.mpr c6; have H' := am H; clear H; obtain ⟨ad498, e498, hx498_0⟩ := Kd.at_int HR0.out x9_1 dT dT; cases e498; have p498 := eT (0 ≤ (x9_1 : Int)); have q498 := eT (x9_1 < (l0.length : Int))
       go_wp2
       go_roundg k1
       case measure => have := HK1.out; omega
       case rel => exact ⟨(wrap64 (x9_1 + 1)), wZ, H', ⟨by have := HK1.out; omega⟩, by repeat (first | exact Drawn0.refl _ | apply Drawn0.step)⟩
     ·rw [if_neg c5] at H
      exact absurd H (by simp)
    ·rw [if_neg c4] at H
     exact absurd H (by simp)
   ·rw [if_neg c3] at H
    have c3b0 : decide (x9_1 < (l0.length : Int)) = false := decide_eq_false c3; clear c3; obtain rfl := Option.some.inj H
    go_wp2
    go_ret
    exact ⟨by first | rfl | (simp; done) | (simp [*]; done), by repeat (first | exact Drawn0.refl _ | apply Drawn0.step)⟩

def spec_pfSum.l0 : Nat → List Int → Int → List Int → Int → Int → Option (Int)
 | 0, _, _, _, _, _ => none
 | k + 1, x0, x5, x8, x9, x10 => if x10 < x9 then (if 0 ≤ x10 then (if x10 < (x8.length : Int) then (if 0 ≤ (rd x8 x10) then (if (rd x8 x10) < (x0.length : Int) then (spec_pfSum.l0 k x0 (wrap64 (x5 + (rd x0 (rd x8 x10)))) x8 x9 (wrap64 (x10 + 1))) else (none)) else (none)) else (none)) else (none)) else (some x5)
def spec_pfSum.f (k : Nat) (l0 : List Int) (l1 : List Int) : Option (Int) := spec_pfSum.l0 k l0 0 l1 (l1.length : Int) 0
theorem spec_pfSum.calls (k : Nat) (A0 : Option Addr) (c0 : Nat) (l0 : List Int) (A1 : Option Addr) (c1 : Nat) (l1 : List Int) (r : Int) (w : World) (hr0 : Kd.C (Kd.int .i64) w A0 l0.length l0) (hc0 : l0.length ≤ c0) (hr1 : Kd.C (Kd.int .i64) w A1 l1.length l1) (hc1 : l1.length ≤ c1) (h : spec_pfSum.f k l0 l1 = some r) :
  Calls Tryz.prog 36 #[.slice A0 l0.length c0, .slice A1 l1.length c1] w fun e w' => e = .returned (.int .i64 r) ∧ Drawn0 w w' := by
 have HR0 := am hr0; have HC0 := am hc0; clear hr0 hc0; have HR1 := am hr1; have HC1 := am hc1; clear hr1 hc1; have H : (spec_pfSum.l0 k l0 0 l1 (l1.length : Int) 0) = some r := h; clear h; have H' := am H; clear H
 go_enter Tryz.func36, Tryz.ntmps36
 go_wp2
 go_loopg [5, 10] k (fun kq v5 v10 w' => ∃ (x5_1 : Int) (x10_1 : Int), v5 = .int .i64 x5_1 ∧ v10 = .int .i64 x10_1 ∧ Aside0 (spec_pfSum.l0 kq l0 x5_1 l1 (l1.length : Int) x10_1 = some r) ∧ Aside0 (kq ≤ k) ∧ Drawn0 w w')
 case atStart => exact ⟨(0), (0), wZ, wZ, H', ⟨Nat.le_refl _⟩, by repeat (first | exact Drawn0.refl _ | apply Drawn0.step)⟩
 case round =>
  clear H'
  try clear c1
  try clear p2
  obtain ⟨x5_1, x10_1, rfl, rfl, HA, HK1, ⟨m1, rfl⟩⟩ := hrel; cases gk with
  | zero => exact absurd HA.out (by simp [spec_pfSum.l0])
  | succ k1 =>
   have H := HA.out; clear HA
   simp only [spec_pfSum.l0] at H
   by_cases c3 : x10_1 < (l1.length : Int)
   ·rw [if_pos c3] at H
    have c3b0 : decide (x10_1 < (l1.length : Int)) = true := decide_eq_true c3; clear c3
    by_cases c4 : 0 ≤ x10_1
    ·rw [if_pos c4] at H
     have c4b0 : decide (0 ≤ x10_1) = true := decide_eq_true c4; clear c4
     by_cases c5 : x10_1 < (l1.length : Int)
     ·rw [if_pos c5] at H
      have c5b0 : decide (x10_1 < (l1.length : Int)) = true := decide_eq_true c5; clear c5
      by_cases c6 : 0 ≤ (rd l1 x10_1)
      ·rw [if_pos c6] at H
       have c6b0 : decide (0 ≤ (rd l1 x10_1)) = true := decide_eq_true c6; clear c6
       by_cases c7 : (rd l1 x10_1) < (l0.length : Int)
       ·rw [if_pos c7] at H
        have c7b0 : decide ((rd l1 x10_1) < (l0.length : Int)) = true := decide_eq_true c7; clear c7; have H' := am H; clear H; obtain ⟨ad499, e499, hx499_0⟩ := Kd.at_int HR1.out x10_1 dT dT; cases e499; have p499 := eT (0 ≤ (x10_1 : Int)); have q499 := eT (x10_1 < (l1.length : Int)); obtain ⟨ad500, e500, hx500_0⟩ := Kd.at_int HR0.out (rd l1 x10_1) dT dT; cases e500; have p500 := eT (0 ≤ ((rd l1 x10_1) : Int)); have q500 := eT ((rd l1 x10_1) < (l0.length : Int))
        go_wp2
        go_roundg k1
        case measure => have := HK1.out; omega
        case rel => exact ⟨(wrap64 (x5_1 + (rd l0 (rd l1 x10_1)))), (wrap64 (x10_1 + 1)), wZ, wZ, H', ⟨by have := HK1.out; omega⟩, by repeat (first | exact Drawn0.refl _ | apply Drawn0.step)⟩
       ·rw [if_neg c7] at H
        exact absurd H (by simp)
      ·rw [if_neg c6] at H
       exact absurd H (by simp)
     ·rw [if_neg c5] at H
      exact absurd H (by simp)
    ·rw [if_neg c4] at H
     exact absurd H (by simp)
   ·rw [if_neg c3] at H
    have c3b0 : decide (x10_1 < (l1.length : Int)) = false := decide_eq_false c3; clear c3; obtain rfl := Option.some.inj H
    go_wp2
    go_ret
    exact ⟨by first | rfl | (simp; done) | (simp [*]; done), by repeat (first | exact Drawn0.refl _ | apply Drawn0.step)⟩

mutual
def spec_BuildPeeled.j0 : Nat → Int → List ByteArray → Int → Bool → Option (Int × Int × List Int × Bool)
 | 0, _, _, _, _ => none
 | k + 1, x0, x1, x2, x26 => if x26 = true then (some (0, 0, ([] : List Int), false)) else ((spec_peHyper.f k x0 x1 x2).bind fun bt504 => ((spec_pePeel.f k bt504.1 bt504.2 ([] : List Int) true).bind fun bt509 => (spec_BuildPeeled.l0 k x2 bt509.1 0 bt504.1 bt504.2 x0 x2 ([] : List Int))))
def spec_BuildPeeled.l0 : Nat → Int → List (S71) → Int → Int → List (List Int) → Int → Int → List Int → Option (Int × Int × List Int × Bool)
 | 0, _, _, _, _, _, _, _, _ => none
 | k + 1, x2, x9, x12, x509000, x509001, x516000, x516001, x516002 => if x12 < (wrap64 (3 * x2)) then (if x516002.length < 17592186044416 then (spec_BuildPeeled.l0 k x2 x9 (wrap64 (x12 + 1)) x509000 x509001 x516000 x516001 (x516002 ++ [3])) else (none)) else (spec_BuildPeeled.l1 k x9 (wrap64 ((x9.length : Int) - 1)) x509000 x509001 x516000 x516001 x516002)
def spec_BuildPeeled.l1 : Nat → List (S71) → Int → Int → List (List Int) → Int → Int → List Int → Option (Int × Int × List Int × Bool)
 | 0, _, _, _, _, _, _, _ => none
 | k + 1, x9, x13, x509000, x509001, x516000, x516001, x516002 => if x13 ≥ 0 then (if 0 ≤ x13 then (if x13 < (x9.length : Int) then (if 0 ≤ ((rd_T71 x9 x13).f0) then (if ((rd_T71 x9 x13).f0) < (x509001.length : Int) then ((spec_pfIndex.f k (rd_L3 x509001 ((rd_T71 x9 x13).f0)) ((rd_T71 x9 x13).f1)).bind fun t523 => ((spec_pfSum.f k x516002 (rd_L3 x509001 ((rd_T71 x9 x13).f0))).bind fun t524 => (if 0 ≤ ((rd_T71 x9 x13).f1) then (if ((rd_T71 x9 x13).f1) < (x516002.length : Int) then (spec_BuildPeeled.l1 k x9 (wrap64 (x13 - 1)) x509000 x509001 x516000 x516001 (x516002.set (((rd_T71 x9 x13).f1) : Int).toNat (Int.tmod (wrap64 (t523 + (wrap64 (2 * t524)))) 3))) else (none)) else (none)))) else (none)) else (none)) else (none)) else (none)) else (some (x516000, x516001, x516002, true))
end
def spec_BuildPeeled.f (k : Nat) (a0 : Int) (l1 : List ByteArray) (a2 : Int) : Option (Int × Int × List Int × Bool) := (spec_peKeyed.f k a0 l1 a2).bind fun t502 => (if t502 = true then ((spec_pePeels.f k a0 l1 a2).bind fun t503 => (spec_BuildPeeled.j0 k a0 l1 a2 (!t503))) else (spec_BuildPeeled.j0 k a0 l1 a2 true))
def spec_BuildPeeled.T13 : Bool × List (List Nat × List Nat) := (true, [([], []), ([0], [0]), ([], []), ([], []), ([2, 3], [2, 3]), ([4], [4]), ([5], [5]), ([1, 6], [1, 6]), ([7], [7]), ([8, 0, 1, 2, 3, 4, 5, 6, 7, 8], [8])])
def spec_BuildPeeled.B13 : List Nat := [0, 1, 0, 0, 12, 28, 60, 127, 255, 511]
theorem spec_BuildPeeled.tab13 : rtab .any (opsOf Tryz.f7 13) = spec_BuildPeeled.T13 := by kernel_rfl
theorem spec_BuildPeeled.bits13 : waitsOk spec_BuildPeeled.T13.2 spec_BuildPeeled.B13 = true := by kernel_rfl
def spec_BuildPeeled.T14 : Bool × List (List Nat × List Nat) := (true, [([], []), ([0], [0]), ([], []), ([], []), ([2, 3], [2, 3]), ([4], [4]), ([5], [5]), ([], []), ([], []), ([], []), ([8, 9], [8, 9]), ([10], [10]), ([11], [11]), ([7, 12], [7, 12]), ([], []), ([14], [14]), ([], []), ([15, 16, 13], [15, 16]), ([17], [17]), ([13, 18], [13, 18]), ([19], [19]), ([1, 6, 0, 1, 2, 3, 4, 5, 6, 7, 8, 9, 10, 11, 12, 13, 14, 15, 16, 17, 18, 19, 20], [1, 6]), ([21, 20, 17, 0, 1, 2, 3, 4, 5, 6, 7, 8, 9, 10, 11, 12, 13, 14, 15, 16, 17, 18, 19, 20], [20, 21])])
def spec_BuildPeeled.B14 : List Nat := [0, 1, 0, 0, 12, 28, 60, 0, 0, 0, 768, 1792, 3840, 8064, 0, 16384, 0, 130944, 262016, 524160, 1048448, 2097151, 4194303]
theorem spec_BuildPeeled.tab14 : rtab .any (opsOf Tryz.f7 14) = spec_BuildPeeled.T14 := by kernel_rfl
theorem spec_BuildPeeled.bits14 : waitsOk spec_BuildPeeled.T14.2 spec_BuildPeeled.B14 = true := by kernel_rfl
theorem spec_BuildPeeled.calls (k : Nat) (a0 : Int) (A1 : Option Addr) (c1 : Nat) (l1 : List ByteArray) (a2 : Int) (r1 : Int) (r2 : Int) (r3 : List Int) (r4 : Bool) (w : World) (hr1 : Kd.C Kd.string w A1 l1.length l1) (hc1 : l1.length ≤ c1) (h : spec_BuildPeeled.f k a0 l1 a2 = some (r1, r2, r3, r4)) :
  Calls Tryz.prog 7 #[.int .i64 a0, .slice A1 l1.length c1, .int .i64 a2] w fun e w' => ∃ v2_ : Value, e = .returned (.tuple #[.agg #[.int .i64 r1, .int .i64 r2, v2_], .bool r4]) ∧ Kd.R (Kd.int .i64) 3 w' w.heap.size (fun _ => True) v2_ r3 ∧ Below w.heap.size w w' := by
 have hu29 := Tryz.underlying29; have hu35 := Tryz.underlying35; have HR1 := am hr1; have HC1 := am hc1; clear hr1 hc1; have HB := am (Below.refl w.heap.size w); have H : ((spec_peKeyed.f k a0 l1 a2).bind fun t502 => (if t502 = true then ((spec_pePeels.f k a0 l1 a2).bind fun t503 => (spec_BuildPeeled.j0 k a0 l1 a2 (!t503))) else (spec_BuildPeeled.j0 k a0 l1 a2 true))) = some (r1, r2, r3, r4) := h; clear h; have HC4 := am H; clear H
 go_enter Tryz.func7, Tryz.ntmps7
 go_upto_region 1 with (first | ((with_reducible refine gate_dst (N := 6) rfl ?_); refine bE 6 #[.int .i64 0, .int .i64 0, .slice none 0 0] 29 ?_; intro gb501 hg w5 hbox hb; have n0_ := Bb HB hb; have n1_ := am (hbox); have n2_ := Gl HB hg; have n3_ := Gl HB hg; clear HB; revert n0_ n1_ n2_ n3_; intro HB BK501 GW501 GE501; clear hb hbox hg))
 (try simp only [aP])
 go_cut [26] (fun v26 wc => ∃ (kq : Nat) (x26_3 : Bool), v26 = .bool x26_3 ∧ Aside0 (spec_BuildPeeled.j0 kq a0 l1 a2 x26_3 = some (r1, r2, r3, r4)) ∧ Aside0 (kq ≤ k) ∧ Aside0 (wc.heap[gb501]? = some (.cells #[.int .i64 0, .int .i64 0, (.slice none 0 0)] 29 (0, 0))) ∧ Aside0 (Below w.heap.size w wc))
 case first =>
  have H := HC4.out; clear HC4; replace H := Option.bind_eq_some_iff.mp H; obtain ⟨t502, A60, H⟩ := H; (try dsimp -simprocs only at H); have A6 := am A60; clear A60
  by_cases c7 : t502 = true
  ·subst c7
   rw [if_pos rfl] at H; replace H := Option.bind_eq_some_iff.mp H; obtain ⟨t503, A80, H⟩ := H; (try dsimp -simprocs only at H); have A8 := am A80; clear A80; have H' := am H; clear H
   go_wp2_with (first | ((with_reducible refine gate_callee (f := 31) rfl ?_); refine gL (some 18) Tryz.func31 #[.int .i64 a0, .slice A1 l1.length c1, .int .i64 a2] ?_; (with_reducible refine (spec_peKeyed.calls k a0 _ _ l1 a2 true _ ?side1 ?side2 A6.out).mono ?_); (case side1 => exact Cz (Kd.C_below HR1.out HB.out)); (case side2 => exact HC1.out); rintro e w' ⟨rfl, ⟨nd, rfl⟩⟩; refine ⟨_, rfl, ?_⟩) | (go_at_call 32; (with_reducible refine (spec_pePeels.calls k a0 _ _ l1 a2 t503 _ ?side1 ?side2 A8.out).mono ?_); (case side1 => exact Cz (Kd.C_below HR1.out (Bq))); (case side2 => exact HC1.out); rintro e w9 ⟨rfl, hb⟩; have n0_ := Kb BK501 hb; have n1_ := Bc HB hb; clear BK501 HB; revert n0_ n1_; intro BK501 HB; (try clear hb); (try clear hb2); (try clear hk); (try clear hi)))
   go_meet
   case rel => exact ⟨_, (!t503), wZ, H', ⟨by first | omega | exact Nat.le_refl _⟩, ⟨Kz BK501.out⟩, ⟨Bq⟩⟩
  ·replace c7 := Bool.eq_false_iff.mpr c7
   subst c7
   rw [if_neg (show ¬ (false = true) by decide)] at H; have H' := am H; clear H
   go_wp2_with (first | ((with_reducible refine gate_callee (f := 31) rfl ?_); refine gL (some 18) Tryz.func31 #[.int .i64 a0, .slice A1 l1.length c1, .int .i64 a2] ?_; (with_reducible refine (spec_peKeyed.calls k a0 _ _ l1 a2 false _ ?side1 ?side2 A6.out).mono ?_); (case side1 => exact Cz (Kd.C_below HR1.out HB.out)); (case side2 => exact HC1.out); rintro e w' ⟨rfl, ⟨nd, rfl⟩⟩; refine ⟨_, rfl, ?_⟩))
   go_meet
   case rel => exact ⟨_, (true), wZ, H', ⟨by first | omega | exact Nat.le_refl _⟩, ⟨Kz BK501.out⟩, ⟨Bq⟩⟩
 case rest =>
  clear HC4
  try clear c1
  try clear p2
  try clear c3
  try clear c7
  obtain ⟨kq, x26_3, rfl, HA, HJ3, BK501, HB⟩ := hcut; cases kq with
  | zero => exact absurd HA.out (by simp [spec_BuildPeeled.j0])
  | succ kj3 =>
   have H := HA.out; clear HA
   simp only [spec_BuildPeeled.j0] at H
   by_cases c10 : x26_3 = true
   ·subst c10
    rw [if_pos rfl] at H
    simp only [Option.some.injEq, Prod.mk.injEq] at H
    obtain ⟨rfl, rfl, rfl, rfl⟩ := H; obtain ⟨hcz11_0, hcz11_1, hcz11_2, hfz11_0, hfz11_1, hfz11_2⟩ := cf3 (w := wc) BK501
    go_wp2
    refine bodyPost_ret (results_ct rfl _ _ gb501 29 #[.int .i64 0, .int .i64 0, .slice none 0 0] (0, 0) _ rfl (by (with_reducible repeat (first | refine blk_drewN ?_ _ | refine blk_drew ?_ | refine blk_alloc ?_ _)); refine blk_put (cs := #[.int .i64 0, .int .i64 0, .slice none 0 0]) ?_ 2 _ rfl; (with_reducible repeat (first | refine blk_drewN ?_ _ | refine blk_drew ?_ | refine blk_alloc ?_ _)); refine blk_put (cs := #[.int .i64 0, .int .i64 0, .slice none 0 0]) ?_ 1 _ rfl; (with_reducible repeat (first | refine blk_drewN ?_ _ | refine blk_drew ?_ | refine blk_alloc ?_ _)); refine blk_put (cs := #[.int .i64 0, .int .i64 0, .slice none 0 0]) ?_ 0 _ rfl; exact Kz BK501.out) Tryz.underlying29 rfl (by kernel_rfl)) rfl ?_; exact ⟨_, eZ, nZ, Bq⟩
   ·replace c10 := Bool.eq_false_iff.mpr c10
    subst c10
    rw [if_neg (show ¬ (false = true) by decide)] at H; replace H := Option.bind_eq_some_iff.mp H; obtain ⟨⟨t504, t505⟩, A120, H⟩ := H; (try dsimp -simprocs only at H); have A12 := am A120; clear A120; replace H := Option.bind_eq_some_iff.mp H; obtain ⟨⟨t509, t512⟩, A130, H⟩ := H; (try dsimp -simprocs only at H); have A13 := am A130; clear A130; have H' := am H; clear H
    go_wp2_with (first | ((with_reducible refine gate_callee (f := 33) rfl ?_); refine gL (some 31) Tryz.func33 #[.int .i64 a0, .slice A1 l1.length c1, .int .i64 a2] ?_; (with_reducible refine (spec_peHyper.calls kj3 a0 _ _ l1 a2 t504 t505 _ ?side1 ?side2 A12.out).mono ?_); (case side1 => exact Cz (Kd.C_below HR1.out HB.out)); (case side2 => exact HC1.out); rintro e w14 ⟨v506, rfl, ho0, hb⟩; refine ⟨_, rfl, ?_⟩; have n0_ := am (Kd.S_lower ho0 (below_size (w := w) (Bq))); have n1_ := Kb BK501 hb; have n2_ := Bc HB hb; clear BK501 HB; revert n0_ n1_ n2_; intro HO507 BK501 HB; (try clear hb); (try clear hb2); (try clear hk); (try clear hi); (try clear ho0)) | ((with_reducible refine gate_dst (N := 8) rfl ?_); refine bE 8 #[.int .i64 0, .slice none 0 0] 35 ?_; intro gb508 hg w15 hbox hb; have n0_ := am (Kd.S_below (by (with_reducible repeat (first | apply Kd.S_alloc | apply Kd.S_drewN | apply Kd.S_drew)); exact HO507.out) hb); have n1_ := Kb BK501 hb; have n2_ := Bc HB hb; have n3_ := am (hbox); have n4_ := Gm HB hg; have n5_ := Gm HB hg; have n6_ := Nl BK501 hg; have n7_ := Ng BK501 hg; clear HO507 BK501 HB; revert n0_ n1_ n2_ n3_ n4_ n5_ n6_ n7_; intro HO507 BK501 HB BK508 GW508 GE508 NB501_508 NB508_501; clear hb hbox hg; have hnb16 := NB508_501.out; have hnc16 := NB501_508.out; obtain ⟨hcz17_0, hcz17_1, hfz17_0, hfz17_1⟩ := cf2 (w := w15) BK508; obtain ⟨Ao18, co18, eo18⟩ := Kd.S_slice HO507.out; subst eo18) | ((with_reducible refine gate_callee (f := 34) rfl ?_); refine gL (some 34) Tryz.func34 #[.agg #[.int .i64 t504, .slice Ao18 t505.length co18], .slice none 0 0, .bool true] ?_; (refine (spec_pePeel.calls kj3 t504 _ _ t505 _ _ ([] : List Int) true t509 t512 _ ?side1 ?side2 ?side3 ?side4 A13.out).mono ?_); (case side1 => refine (Kd.S_reads' (e := 27) (base := w.heap.size) (ok := fun k_ => True) (n := t505.length) (c := co18) ?_).2.2; exact (by (with_reducible repeat (first | apply Kd.S_alloc | apply Kd.S_drewN | apply Kd.S_drew)); exact (Kd.S_mono (Kd.S_far (p := ⟨gb508, 1, none⟩) (Kd.S_far (p := ⟨gb508, 0, none⟩) (Kd.S_types HO507.out BK508.out (by decide)) (fun _ hk => hk.2) (.int .i64 t504)) (fun _ hk => hk.2) (.slice Ao18 t505.length co18)) (fun _ h_ => h_.1)))); (case side2 => exact (Kd.S_reads' HO507.out).2.1); (case side3 => exact Kd.C_nil _ _); (case side4 => exact Nat.le_refl _); rintro e w19 ⟨v510, v513, rfl, ho0, ho1, hb⟩; refine ⟨_, rfl, ?_⟩; have n0_ := am (Kd.S_elder' (by (with_reducible repeat (first | apply Kd.S_alloc | apply Kd.S_drewN | apply Kd.S_drew)); exact (Kd.S_mono (Kd.S_far (p := ⟨gb508, 1, none⟩) (Kd.S_far (p := ⟨gb508, 0, none⟩) (Kd.S_types HO507.out BK508.out (by decide)) (fun _ hk => hk.2) (.int .i64 t504)) (fun _ hk => hk.2) (.slice Ao18 t505.length co18)) (fun _ h_ => h_.1))) (Kd.R_base ho1) hb); have n1_ := Rm ho0 HB; have n2_ := Rm ho1 HB; have n3_ := am (blk_below (g := gb501) (o := .cells #[.int .i64 0, .int .i64 0, .slice none 0 0] 29 (0, 0)) (by (with_reducible repeat (first | refine blk_drewN ?_ _ | refine blk_drew ?_ | refine blk_alloc ?_ _)); refine blk_far ?_ NB501_508.out _; (with_reducible repeat (first | refine blk_drewN ?_ _ | refine blk_drew ?_ | refine blk_alloc ?_ _)); refine blk_far ?_ NB501_508.out _; exact Kz BK501.out) hb); have n4_ := am (blk_below (g := gb508) (o := .cells #[.int .i64 t504, .slice Ao18 t505.length co18] 35 (0, 0)) (by (with_reducible repeat (first | refine blk_drewN ?_ _ | refine blk_drew ?_ | refine blk_alloc ?_ _)); refine blk_put (cs := #[.int .i64 t504, .slice none 0 0]) ?_ 1 _ rfl; (with_reducible repeat (first | refine blk_drewN ?_ _ | refine blk_drew ?_ | refine blk_alloc ?_ _)); refine blk_put (cs := #[.int .i64 0, .slice none 0 0]) ?_ 0 _ rfl; exact Kz BK508.out) hb); have n5_ := Bc HB hb; clear HO507 BK501 BK508 HB; revert n0_ n1_ n2_ n3_ n4_ n5_; intro HO507 HO511 HO514 BK501 BK508 HB; (try clear hb); (try clear hb2); (try clear hk); (try clear hi); (try clear ho0); (try clear ho1)) | ((with_reducible refine gate_dst (N := 11) rfl ?_); refine bE 11 #[.int .i64 0, .int .i64 0, .slice none 0 0] 29 ?_; intro gb515 hg w20 hbox hb; have n0_ := am (Kd.S_below (by (with_reducible repeat (first | apply Kd.S_alloc | apply Kd.S_drewN | apply Kd.S_drew)); exact HO507.out) hb); have n1_ := Rb HO511 hb; have n2_ := Rb HO514 hb; have n3_ := Kb BK501 hb; have n4_ := Kb BK508 hb; have n5_ := Bc HB hb; have n6_ := am (hbox); have n7_ := Gm HB hg; have n8_ := Gm HB hg; have n9_ := Nl BK501 hg; have n10_ := Ng BK501 hg; have n11_ := Nl BK508 hg; have n12_ := Ng BK508 hg; clear HO507 HO511 HO514 BK501 BK508 HB; revert n0_ n1_ n2_ n3_ n4_ n5_ n6_ n7_ n8_ n9_ n10_ n11_ n12_; intro HO507 HO511 HO514 BK501 BK508 HB BK515 GW515 GE515 NB501_515 NB515_501 NB508_515 NB515_508; clear hb hbox hg; have hnb21 := NB515_501.out; have hnc21 := NB501_515.out; have hnb22 := NB515_508.out; have hnc22 := NB508_515.out; obtain ⟨hcz23_0, hcz23_1, hcz23_2, hfz23_0, hfz23_1, hfz23_2⟩ := cf3 (w := w20) BK515))
    (try simp only [aP])
    go_loopg [12] kj3 (fun kq v12 w' => ∃ (x12_2 : Int) (x516002_2 : List Int) (u516002 : Value), v12 = .int .i64 x12_2 ∧ Aside0 (spec_BuildPeeled.l0 kq a2 t509 x12_2 t504 t505 a0 a2 x516002_2 = some (r1, r2, r3, r4)) ∧ Aside0 (kq ≤ kj3) ∧ Aside0 (Kd.R k71 71 w' w.heap.size (fun _ => True) v510 t509) ∧ Aside0 (Kd.S (Kd.slice 3 (Kd.int .i64)) 27 w' w.heap.size (fun k_ => some k_ ≠ (u516002 : Value).ownBlock) (.slice Ao18 t505.length co18) t505) ∧ Aside0 (Kd.R (Kd.int .i64) 3 w' w.heap.size (fun _ => True) u516002 x516002_2) ∧ Aside0 (w'.heap[gb501]? = some (.cells #[.int .i64 0, .int .i64 0, (.slice none 0 0)] 29 (0, 0))) ∧ Aside0 (w'.heap[gb508]? = some (.cells #[.int .i64 t504, (.slice Ao18 t505.length co18)] 35 (0, 0))) ∧ Aside0 (w'.heap[gb515]? = some (.cells #[.int .i64 a0, .int .i64 a2, u516002] 29 (0, 0))) ∧ Aside0 (Below w.heap.size w w'))
    case atStart => exact ⟨(0), (([] : List Int)), (.slice none 0 0), wZ, H', ⟨Nat.le_refl _⟩, ⟨Rz (Kd.R_mono (Kd.R_far (p := ⟨gb515, 2, none⟩) (Kd.R_far (p := ⟨gb515, 1, none⟩) (Kd.R_far (p := ⟨gb515, 0, none⟩) (Kd.R_types HO511.out BK515.out (by decide)) (fun _ hk => hk.2) (.int .i64 a0)) (fun _ hk => hk.2) (.int .i64 a2)) (fun _ hk => hk.2) (.slice none 0 0)) (fun _ hk => trivial))⟩, ⟨by (with_reducible repeat (first | apply Kd.S_alloc | apply Kd.S_drewN | apply Kd.S_drew)); exact Kd.S_mono (Kd.S_far (p := ⟨gb515, 2, none⟩) (Kd.S_far (p := ⟨gb515, 1, none⟩) (Kd.S_far (p := ⟨gb515, 0, none⟩) (Kd.S_types HO507.out BK515.out (by decide)) (fun _ hk => hk.2) (.int .i64 a0)) (fun _ hk => hk.2) (.int .i64 a2)) (fun _ hk => hk.2) (.slice none 0 0)) (fun _ hk => (by simp [Value.ownBlock]))⟩, ⟨nZ⟩, ⟨by (with_reducible repeat (first | refine blk_drewN ?_ _ | refine blk_drew ?_ | refine blk_alloc ?_ _)); refine blk_far ?_ NB501_515.out _; (with_reducible repeat (first | refine blk_drewN ?_ _ | refine blk_drew ?_ | refine blk_alloc ?_ _)); refine blk_far ?_ NB501_515.out _; (with_reducible repeat (first | refine blk_drewN ?_ _ | refine blk_drew ?_ | refine blk_alloc ?_ _)); refine blk_far ?_ NB501_515.out _; (with_reducible repeat (first | refine blk_drewN ?_ _ | refine blk_drew ?_ | refine blk_alloc ?_ _)); exact BK501.out⟩, ⟨by (with_reducible repeat (first | refine blk_drewN ?_ _ | refine blk_drew ?_ | refine blk_alloc ?_ _)); refine blk_far ?_ NB508_515.out _; (with_reducible repeat (first | refine blk_drewN ?_ _ | refine blk_drew ?_ | refine blk_alloc ?_ _)); refine blk_far ?_ NB508_515.out _; (with_reducible repeat (first | refine blk_drewN ?_ _ | refine blk_drew ?_ | refine blk_alloc ?_ _)); refine blk_far ?_ NB508_515.out _; (with_reducible repeat (first | refine blk_drewN ?_ _ | refine blk_drew ?_ | refine blk_alloc ?_ _)); exact BK508.out⟩, ⟨by (with_reducible repeat (first | refine blk_drewN ?_ _ | refine blk_drew ?_ | refine blk_alloc ?_ _)); refine blk_put (cs := #[.int .i64 a0, .int .i64 a2, .slice none 0 0]) ?_ 2 _ rfl; (with_reducible repeat (first | refine blk_drewN ?_ _ | refine blk_drew ?_ | refine blk_alloc ?_ _)); refine blk_put (cs := #[.int .i64 a0, .int .i64 0, .slice none 0 0]) ?_ 1 _ rfl; (with_reducible repeat (first | refine blk_drewN ?_ _ | refine blk_drew ?_ | refine blk_alloc ?_ _)); refine blk_put (cs := #[.int .i64 0, .int .i64 0, .slice none 0 0]) ?_ 0 _ rfl; (with_reducible repeat (first | refine blk_drewN ?_ _ | refine blk_drew ?_ | refine blk_alloc ?_ _)); exact BK515.out⟩, ⟨Bq⟩⟩
    case round =>
     clear H'
     try clear c1
     try clear c2
     try clear p2
     try clear c3
     try clear c7
     try clear c10
     try clear c16
     try clear c21
     try clear c22
     try clear hcz11_0
     try clear hcz11_1
     try clear hcz11_2
     try clear hcz17_0
     try clear hcz17_1
     try clear hcz23_0
     try clear hcz23_1
     try clear hcz23_2
     try clear hfz11_0
     try clear hfz11_1
     try clear hfz11_2
     try clear hfz17_0
     try clear hfz17_1
     try clear hfz23_0
     try clear hfz23_1
     try clear hfz23_2
     try clear p2
     obtain ⟨x12_2, x516002_2, u516002, rfl, HA, HK2, HO_9, HO_509001, HO_516002, BK501, BK508, BK515, HB⟩ := hrel; cases gk with
     | zero => exact absurd HA.out (by simp [spec_BuildPeeled.l0])
     | succ k2 =>
      have H := HA.out; clear HA
      simp only [spec_BuildPeeled.l0] at H
      by_cases c24 : x12_2 < (wrap64 (3 * a2))
      ·rw [if_pos c24] at H
       have c24b0 : decide (x12_2 < (wrap64 (3 * a2))) = true := decide_eq_true c24; clear c24
       by_cases c25 : x516002_2.length < 17592186044416
       ·rw [if_pos c25] at H
        have LMc25 := am c25; clear c25; obtain ⟨y516, hy516⟩ : ∃ y_ : List Int, y_ = (x516002_2 ++ [3]) := ⟨_, rfl⟩
        replace H : (spec_BuildPeeled.l0 k2 a2 t509 (wrap64 (x12_2 + 1)) t504 t505 a0 a2 y516) = some (r1, r2, r3, r4) := by first | (rw [hy516]; with_reducible exact H) | (have H2_ := (Option.bind_some _ _).symm.trans H; rw [hy516]; with_reducible exact H2_) | (have H2_ := (Option.bind_some _ _).symm.trans H; with_reducible exact H2_) | with_reducible exact H | (rw [hy516]; exact H) | exact H
        have Ny516 := am hy516; clear hy516; have H' := am H; clear H; have hnb26 := NB515_501.out; have hnc26 := NB501_515.out; have hnb27 := NB515_508.out; have hnc27 := NB508_515.out; obtain ⟨hcz28_0, hcz28_1, hcz28_2, hfz28_0, hfz28_1, hfz28_2⟩ := cf3 (w := wr) BK515
        go_wp2_with (first | ((with_reducible refine gate_builtin (b := .append) (xs := #[.tmp 47, .tmp 48]) rfl ?_); at_builtin; refine Kd.R_append (Kd.int .i64) (w0 := w) w.heap.size rfl (.tmp 47) (.tmp 48) 27 3 (.int .i64 0) 8 rfl Tryz.underlying27 info3 rfl (by decide) (by omega) u516002 x516002_2 3 [.int .i64 3] (fun _ => True) (fun _ => False) rfl rfl ?aP (fun _ hk => hk.elim) ?aF ?aO ?aB ?aS ?aL ?_; (case aP => exact rfl); (case aB => exact (Bq)); (case aF => exact (fun _ _ => trivial)); (case aO => exact (Rz HO_516002.out)); (case aS => exact (below_size (w := w) (Bq))); (case aL => have := LMc25.out; omega); intro v517 w29 ho hb hg hat; rw [← Ny516.out] at ho; have n0_ := am (Kd.R_over' (Rz HO_9.out) (Kd.R_typed (Rz HO_516002.out)) (by decide) hg); have n1_ := am (Kd.S_after (ok := (fun _ => True)) (by (with_reducible repeat (first | apply Kd.S_alloc | apply Kd.S_drewN | apply Kd.S_drew)); exact Kd.S_mono HO_509001.out (fun _ hk => ⟨trivial, hk⟩)) hg hat); have n2_ := am (blk_grown (g := gb501) (o := .cells #[.int .i64 0, .int .i64 0, .slice none 0 0] 29 (0, 0)) (Kz BK501.out) hg (Kd.R_ne HO_516002.out BK501.out (by decide))); have n3_ := am (blk_grown (g := gb508) (o := .cells #[.int .i64 t504, .slice Ao18 t505.length co18] 35 (0, 0)) (Kz BK508.out) hg (Kd.R_ne HO_516002.out BK508.out (by decide))); have n4_ := am (blk_grown (g := gb515) (o := .cells #[.int .i64 a0, .int .i64 a2, u516002] 29 (0, 0)) (Kz BK515.out) hg (Kd.R_ne HO_516002.out BK515.out (by decide))); have n5_ := am (hb); have n6_ := am (ho); clear HO_9 HO_509001 BK501 BK508 BK515 HB HO_516002; revert n0_ n1_ n2_ n3_ n4_ n5_ n6_; intro HO_9 HO_509001 BK501 BK508 BK515 HB HO518; clear ho hb hg hat; obtain ⟨Ao30, co30, eo30⟩ := Kd.R_slice HO518.out; subst eo30; obtain ⟨hcz31_0, hcz31_1, hcz31_2, hfz31_0, hfz31_1, hfz31_2⟩ := cf3 (w := w29) BK515))
        go_roundg k2
        case measure => have := HJ3.out; have := HK2.out; omega
        case rel => exact ⟨(wrap64 (x12_2 + 1)), (y516), (.slice Ao30 y516.length co30), wZ, H', ⟨by have := HJ3.out; have := HK2.out; omega⟩, ⟨Rz (Kd.R_mono (Kd.R_far (p := ⟨gb515, 2, none⟩) (Kd.R_types HO_9.out BK515.out (by decide)) (fun _ hk => hk.2) (.slice Ao30 y516.length co30)) (fun _ hk => trivial))⟩, ⟨by (with_reducible repeat (first | apply Kd.S_alloc | apply Kd.S_drewN | apply Kd.S_drew)); exact Kd.S_mono (Kd.S_far (p := ⟨gb515, 2, none⟩) (Kd.S_types HO_509001.out BK515.out (by decide)) (fun _ hk => hk.2) (.slice Ao30 y516.length co30)) (fun _ hk => hk.1.2)⟩, ⟨Rz (Kd.R_mono (Kd.R_far (p := ⟨gb515, 2, none⟩) (Kd.R_types HO518.out BK515.out (by decide)) (fun _ hk => hk.2) (.slice Ao30 y516.length co30)) (fun _ hk => trivial))⟩, ⟨by (with_reducible repeat (first | refine blk_drewN ?_ _ | refine blk_drew ?_ | refine blk_alloc ?_ _)); refine blk_far ?_ NB501_515.out _; (with_reducible repeat (first | refine blk_drewN ?_ _ | refine blk_drew ?_ | refine blk_alloc ?_ _)); exact BK501.out⟩, ⟨by (with_reducible repeat (first | refine blk_drewN ?_ _ | refine blk_drew ?_ | refine blk_alloc ?_ _)); refine blk_far ?_ NB508_515.out _; (with_reducible repeat (first | refine blk_drewN ?_ _ | refine blk_drew ?_ | refine blk_alloc ?_ _)); exact BK508.out⟩, ⟨by (with_reducible repeat (first | refine blk_drewN ?_ _ | refine blk_drew ?_ | refine blk_alloc ?_ _)); refine blk_put (cs := #[.int .i64 a0, .int .i64 a2, u516002]) ?_ 2 _ rfl; (with_reducible repeat (first | refine blk_drewN ?_ _ | refine blk_drew ?_ | refine blk_alloc ?_ _)); exact BK515.out⟩, ⟨Bq⟩⟩
       ·rw [if_neg c25] at H
        exact absurd H (by simp)
      ·rw [if_neg c24] at H
       have c24b0 : decide (x12_2 < (wrap64 (3 * a2))) = false := decide_eq_false c24; clear c24; have H' := am H; clear H; obtain ⟨Ao32, co32, eo32⟩ := Kd.R_slice HO_9.out; subst eo32
       go_wp2
       go_loopg [13] k2 (fun kq v13 w' => ∃ (x13_3 : Int) (x516002_3 : List Int) (u516002 : Value), v13 = .int .i64 x13_3 ∧ Aside0 (spec_BuildPeeled.l1 kq t509 x13_3 t504 t505 a0 a2 x516002_3 = some (r1, r2, r3, r4)) ∧ Aside0 (kq ≤ k2) ∧ Aside0 (Kd.R k71 71 w' w.heap.size (fun _ => True) (.slice Ao32 t509.length co32) t509) ∧ Aside0 (Kd.S (Kd.slice 3 (Kd.int .i64)) 27 w' w.heap.size (fun k_ => some k_ ≠ (u516002 : Value).ownBlock) (.slice Ao18 t505.length co18) t505) ∧ Aside0 (Kd.R (Kd.int .i64) 3 w' w.heap.size (fun _ => True) u516002 x516002_3) ∧ Aside0 (w'.heap[gb501]? = some (.cells #[.int .i64 0, .int .i64 0, (.slice none 0 0)] 29 (0, 0))) ∧ Aside0 (w'.heap[gb508]? = some (.cells #[.int .i64 t504, (.slice Ao18 t505.length co18)] 35 (0, 0))) ∧ Aside0 (w'.heap[gb515]? = some (.cells #[.int .i64 a0, .int .i64 a2, u516002] 29 (0, 0))) ∧ Aside0 (Below w.heap.size w w'))
       case atStart => exact ⟨(wrap64 ((t509.length : Int) - 1)), (x516002_2), (u516002), wZ, H', ⟨Nat.le_refl _⟩, ⟨Rz HO_9.out⟩, ⟨by (with_reducible repeat (first | apply Kd.S_alloc | apply Kd.S_drewN | apply Kd.S_drew)); exact HO_509001.out⟩, ⟨Rz HO_516002.out⟩, ⟨Kz BK501.out⟩, ⟨Kz BK508.out⟩, ⟨Kz BK515.out⟩, ⟨Bq⟩⟩
       case round =>
        clear H'
        try clear c1
        try clear c2
        try clear p2
        try clear c3
        try clear p6
        try clear c7
        try clear c10
        try clear c16
        try clear c21
        try clear c22
        try clear c24
        try clear c24b0
        try clear c25
        try clear c26
        try clear c27
        try clear c31
        try clear hcz11_0
        try clear hcz11_1
        try clear hcz11_2
        try clear hcz17_0
        try clear hcz17_1
        try clear hcz23_0
        try clear hcz23_1
        try clear hcz23_2
        try clear hcz28_0
        try clear hcz28_1
        try clear hcz28_2
        try clear hcz31_0
        try clear hcz31_1
        try clear hcz31_2
        try clear hfz11_0
        try clear hfz11_1
        try clear hfz11_2
        try clear hfz17_0
        try clear hfz17_1
        try clear hfz23_0
        try clear hfz23_1
        try clear hfz23_2
        try clear hfz28_0
        try clear hfz28_1
        try clear hfz28_2
        try clear hfz31_0
        try clear hfz31_1
        try clear hfz31_2
        try clear p2
        obtain ⟨x13_3, x516002_3, u516002, rfl, HA, HK3, HO_9, HO_509001, HO_516002, BK501, BK508, BK515, HB⟩ := hrel; cases gk with
        | zero => exact absurd HA.out (by simp [spec_BuildPeeled.l1])
        | succ k3 =>
         have H := HA.out; clear HA
         simp only [spec_BuildPeeled.l1] at H
         by_cases c33 : x13_3 ≥ 0
         ·rw [if_pos c33] at H
          have c33b0 : decide (0 ≤ x13_3) = true := decide_eq_true c33; clear c33
          by_cases c34 : 0 ≤ x13_3
          ·rw [if_pos c34] at H
           have c34b0 : decide (0 ≤ x13_3) = true := decide_eq_true c34; clear c34
           by_cases c35 : x13_3 < (t509.length : Int)
           ·rw [if_pos c35] at H
            have c35b0 : decide (x13_3 < (t509.length : Int)) = true := decide_eq_true c35; clear c35
            by_cases c36 : 0 ≤ ((rd_T71 t509 x13_3).f0)
            ·rw [if_pos c36] at H
             have c36b0 : decide (0 ≤ ((rd_T71 t509 x13_3).f0)) = true := decide_eq_true c36; clear c36
             by_cases c37 : ((rd_T71 t509 x13_3).f0) < (t505.length : Int)
             ·rw [if_pos c37] at H
              have c37b0 : decide (((rd_T71 t509 x13_3).f0) < (t505.length : Int)) = true := decide_eq_true c37; clear c37; replace H := Option.bind_eq_some_iff.mp H; obtain ⟨t523, A380, H⟩ := H; (try dsimp -simprocs only at H); have A38 := am A380; clear A380; replace H := Option.bind_eq_some_iff.mp H; obtain ⟨t524, A390, H⟩ := H; (try dsimp -simprocs only at H); have A39 := am A390; clear A390
              by_cases c40 : 0 ≤ ((rd_T71 t509 x13_3).f1)
              ·rw [if_pos c40] at H
               have c40b0 : decide (0 ≤ ((rd_T71 t509 x13_3).f1)) = true := decide_eq_true c40; clear c40
               by_cases c41 : ((rd_T71 t509 x13_3).f1) < (x516002_3.length : Int)
               ·rw [if_pos c41] at H
                have c41b0 : decide (((rd_T71 t509 x13_3).f1) < (x516002_3.length : Int)) = true := decide_eq_true c41; clear c41; obtain ⟨y525, hy525⟩ : ∃ y_ : List Int, y_ = (x516002_3.set (((rd_T71 t509 x13_3).f1) : Int).toNat (Int.tmod (wrap64 (t523 + (wrap64 (2 * t524)))) 3)) := ⟨_, rfl⟩
                replace H : (spec_BuildPeeled.l1 k3 t509 (wrap64 (x13_3 - 1)) t504 t505 a0 a2 y525) = some (r1, r2, r3, r4) := by first | (rw [hy525]; with_reducible exact H) | (have H2_ := (Option.bind_some _ _).symm.trans H; rw [hy525]; with_reducible exact H2_) | (have H2_ := (Option.bind_some _ _).symm.trans H; with_reducible exact H2_) | with_reducible exact H | (rw [hy525]; exact H) | exact H
                have Ny525 := am hy525; clear hy525; have H' := am H; clear H
                try go_wp2
                have n0_ := am (Kd.R_drew HO_9.out); have n1_ := am (Kd.S_drew HO_509001.out); have n2_ := am (Kd.R_drew HO_516002.out); have n3_ := am (blk_drew BK501.out); have n4_ := am (blk_drew BK508.out); have n5_ := am (blk_drew BK515.out); have n6_ := am (below_drew1 HB.out); clear HO_9 HO_509001 HO_516002 BK501 BK508 BK515 HB; revert n0_ n1_ n2_ n3_ n4_ n5_ n6_; intro HO_9 HO_509001 HO_516002 BK501 BK508 BK515 HB; obtain ⟨ad519, e519, hx519_0, hx519_1⟩ := at_T71 (Kd.R_reads' HO_9.out).2.2 x13_3 dT dT; cases e519; have p519 := eT (0 ≤ (x13_3 : Int)); have q519 := eT (x13_3 < (t509.length : Int)); have p520 : 0 ≤ (((rd_T71 t509 x13_3).f0) : Int) := dT; have q520 : ((rd_T71 t509 x13_3).f0) < (t505.length : Int) := dT; obtain ⟨ad520, A520_0, c520_0, e520, hx520_0, hl520_0, hi520_0⟩ := at_L3 (Kd.S_reads' HO_509001.out).2.2 ((rd_T71 t509 x13_3).f0) p520 q520; cases e520; obtain ⟨ce520, hce520, hMe520, hcc520⟩ := Kd.S_get HO_509001.out [] ((rd_T71 t509 x13_3).f0) p520 (by first | exact q520 | exact dT | (have e_ := (Kd.S_reads' HO_509001.out).1; omega)); obtain ⟨ve520_0, rfl, ge520_0⟩ := hMe520; have hv520_0 := hcc520 0 _ rfl; rw [Nat.add_zero, show ((Kd.slice 3 (Kd.int .i64))).sz = 1 from rfl, Nat.mul_one] at hv520_0; replace hv520_0 := Option.some.inj (hv520_0.symm.trans hx520_0); rw [hv520_0] at ge520_0; have HL520_0 := am (show Kd.R (Kd.int .i64) 3 _ _ _ _ (rd_L3 t505 ((rd_T71 t509 x13_3).f0)) from ge520_0); clear hv520_0 ge520_0; clear hcc520 hce520; have HR520_0 := am hi520_0; have HC520_0 := am hl520_0; clear hi520_0 hl520_0; replace p520 := eq_true p520; replace q520 := eq_true q520; refine start_ (n := 10) (S := fun w' => w'.cell? ⟨gb508, 0, none⟩ = some (.int .i64 t504) ∧ w'.cell? ⟨gb508, 1, none⟩ = some (.slice (some ad520) t505.length co18) ∧ w'.cell? (ad519.add ((x13_3).toNat * 2)) = some (.int .i64 ((rd_T71 t509 x13_3).f0)) ∧ w'.cell? ⟨(ad519.add ((x13_3).toNat * 2)).block, (ad519.add ((x13_3).toNat * 2)).off + 1, none⟩ = some (.int .i64 ((rd_T71 t509 x13_3).f1)) ∧ w'.cell? (ad520.add (((rd_T71 t509 x13_3).f0)).toNat) = some (.slice A520_0 (rd_L3 t505 ((rd_T71 t509 x13_3).f0)).length c520_0)) (ds := []) (bA 10 0) (by kernel_rfl) rfl rfl ⟨cz BK508 0, cz BK508 1, hx519_0, hx519_1, hx520_0⟩ (fun hHeld => ?_); refine with_tabW spec_BuildPeeled.tab13 spec_BuildPeeled.bits13 (fun HT_ HW_ => ?_); generalize wr.drew = w43 at HO_9 HO_509001 HO_516002 BK501 BK508 BK515 HB HL520_0 HR520_0 hx519_0 hx519_1 hx520_0 hHeld ⊢; refine pZ 0 (some 58) (bA 10 1) HT_.out ?_; refine pZ 2 (some 60) (bA 10 5) HT_.out ?_; refine pZ 3 (some 61) (bA 10 13) HT_.out ?_; refine pZ 4 (some 62) (bA 10 29) HT_.out ?_; refine pZ 5 (some 63) (bA 10 61) HT_.out ?_; refine tZ5 1 (some 59) (bA 10 63) HT_.out HW_.out hHeld ?_; refine tZ5 6 (some 64) (bA 10 127) HT_.out HW_.out hHeld ?_; refine pZ 7 (some 65) (bA 10 255) HT_.out ?_; refine tZ5 8 (some 66) (bA 10 511) HT_.out HW_.out hHeld ?_
                refine pZ 9 (some 14) (bA 10 1023) HT_.out ?_; refine done_ (done_of HT_.out (by kernel_rfl)) ?_
                try go_wp2
                have n0_ := am (Kd.R_drew HO_9.out); have n1_ := am (Kd.S_drew HO_509001.out); have n2_ := am (Kd.R_drew HO_516002.out); have n3_ := am (Kd.R_drew HL520_0.out); have n4_ := am (blk_drew BK501.out); have n5_ := am (blk_drew BK508.out); have n6_ := am (blk_drew BK515.out); have n7_ := am (Kd.C_drew HR520_0.out); have n8_ := am (below_drew1 HB.out); clear HO_9 HO_509001 HO_516002 HL520_0 BK501 BK508 BK515 HR520_0 HB; revert n0_ n1_ n2_ n3_ n4_ n5_ n6_ n7_ n8_; intro HO_9 HO_509001 HO_516002 HL520_0 BK501 BK508 BK515 HR520_0 HB; have p521 : 0 ≤ (x13_3 : Int) := dT; have q521 : x13_3 < (t509.length : Int) := dT; obtain ⟨ad521, e521, hx521_0, hx521_1⟩ := at_T71 (Kd.R_reads' HO_9.out).2.2 x13_3 p521 q521; obtain rfl : ad519 = ad521 := (by injection e521); replace p521 := eq_true p521; replace q521 := eq_true q521; have p522 : 0 ≤ (x13_3 : Int) := dT; have q522 : x13_3 < (t509.length : Int) := dT; obtain ⟨ad522, e522, hx522_0, hx522_1⟩ := at_T71 (Kd.R_reads' HO_9.out).2.2 x13_3 p522 q522; obtain rfl : ad519 = ad522 := (by injection e522); replace p522 := eq_true p522; replace q522 := eq_true q522; refine start_ (n := 23) (S := fun w' => w'.cell? ⟨gb515, 0, none⟩ = some (.int .i64 a0) ∧ w'.cell? ⟨gb515, 1, none⟩ = some (.int .i64 a2) ∧ w'.cell? ⟨gb515, 2, none⟩ = some (u516002) ∧ w'.cell? (ad519.add ((x13_3).toNat * 2)) = some (.int .i64 ((rd_T71 t509 x13_3).f0)) ∧ w'.cell? ⟨(ad519.add ((x13_3).toNat * 2)).block, (ad519.add ((x13_3).toNat * 2)).off + 1, none⟩ = some (.int .i64 ((rd_T71 t509 x13_3).f1)) ∧ w'.cell? (ad519.add ((x13_3).toNat * 2)) = some (.int .i64 ((rd_T71 t509 x13_3).f0)) ∧ w'.cell? ⟨(ad519.add ((x13_3).toNat * 2)).block, (ad519.add ((x13_3).toNat * 2)).off + 1, none⟩ = some (.int .i64 ((rd_T71 t509 x13_3).f1))) (ds := [22]) (bA 23 0) (by kernel_rfl) rfl rfl ⟨cz BK515 0, cz BK515 1, cz BK515 2, hx521_0, hx521_1, hx522_0, hx522_1⟩ (fun hHeld => ?_); refine with_tabW spec_BuildPeeled.tab14 spec_BuildPeeled.bits14 (fun HT_ HW_ => ?_); generalize w43.drew = w44 at HO_9 HO_509001 HO_516002 HL520_0 BK501 BK508 BK515 HR520_0 HB hx521_0 hx521_1 hx522_0 hx522_1 hHeld ⊢; refine pZ 0 (some 67) (bA 23 1) HT_.out ?_; refine pZ 2 (some 69) (bA 23 5) HT_.out ?_; refine pZ 3 (some 70) (bA 23 13) HT_.out ?_; refine pZ 4 (some 71) (bA 23 29) HT_.out ?_; refine pZ 5 (some 72) (bA 23 61) HT_.out ?_; refine pZ 7 (some 74) (bA 23 189) HT_.out ?_; refine pZ 8 (some 75) (bA 23 445) HT_.out ?_; refine pZ 9 (some 76) (bA 23 957) HT_.out ?_; refine pZ 10 (some 77) (bA 23 1981) HT_.out ?_; refine pZ 11 (some 78) (bA 23 4029) HT_.out ?_; refine pZ 14 (some 81) (bA 23 20413) HT_.out ?_; refine pZ 16 (some 83) (bA 23 85949) HT_.out ?_; refine tZ7 1 (some 68) (bA 23 85951) HT_.out HW_.out hHeld ?_; refine tZ7 6 (some 73) (bA 23 86015) HT_.out HW_.out hHeld ?_; refine tZ7 12 (some 79) (bA 23 90111) HT_.out HW_.out hHeld ?_; refine tZ7 15 (some 82) (bA 23 122879) HT_.out HW_.out hHeld ?_; refine oZ 13 (some 80) (bA 23 131071) HT_.out (fun K hK => ?_)
                refine gZ Tryz.func35 #[.slice A520_0 (rd_L3 t505 ((rd_T71 t509 x13_3).f0)).length c520_0, .int .i64 ((rd_T71 t509 x13_3).f1)] ?_
                with_reducible refine (spec_pfIndex.calls k3 _ _ (rd_L3 t505 ((rd_T71 t509 x13_3).f0)) ((rd_T71 t509 x13_3).f1) t523 _ ?side1 ?side2 A38.out).mono ?_
                (case side1 => repeat (first | exact (by repeat (first | (with_reducible exact HR520_0.out) | (with_reducible refine Kd.C_alloc ?_ _) | (with_reducible refine Kd.C_drewN ?_ _) | (with_reducible refine Kd.C_drew ?_) | exact HR520_0.out)) | (with_reducible refine Kd.C_alloc ?_ _) | (with_reducible refine Kd.C_drewN ?_ _) | (with_reducible refine Kd.C_drew ?_)))
                (case side2 => exact HC520_0.out)
                rintro e w' ⟨rfl, ⟨nd, rfl⟩⟩; refine ⟨_, rfl, ?_⟩; obtain ⟨Ao45, co45, eo45⟩ := Kd.R_slice HO_516002.out
                (first | subst eo45 | (injection eo45 with f1_ f2_ f3_; have f4_ := f1_.symm; have f5_ := f3_.symm; clear f1_ f2_ f3_; subst f4_; subst f5_))
                refine hK.out _ _ ⟨cz BK515 0, cz BK515 1, cz BK515 2, hHeld.2.2.2.1, hHeld.2.2.2.2.1, hHeld.2.2.2.2.2.1, hHeld.2.2.2.2.2.2⟩ (fun hHeld => ?_); clear hK K; refine norm_ (a' := ?_) ?_ ?_; rotate_left; show Act.put _ (some 80) _ = _; simp only [aP, i64_w, i32_w]; rfl; refine oZ 17 (some 84) (bA 23 262143) HT_.out (fun K hK => ?_); refine gZ Tryz.func36 #[.slice Ao45 x516002_3.length co45, .slice A520_0 (rd_L3 t505 ((rd_T71 t509 x13_3).f0)).length c520_0] ?_
                with_reducible refine (spec_pfSum.calls k3 _ _ x516002_3 _ _ (rd_L3 t505 ((rd_T71 t509 x13_3).f0)) t524 _ ?side1 ?side2 ?side3 ?side4 A39.out).mono ?_
                (case side1 => exact Cz ((Kd.R_reads' HO_516002.out).2.2))
                (case side2 => exact (Kd.R_reads' HO_516002.out).2.1)
                (case side3 => repeat (first | exact (by repeat (first | (with_reducible exact HR520_0.out) | (with_reducible refine Kd.C_alloc ?_ _) | (with_reducible refine Kd.C_drewN ?_ _) | (with_reducible refine Kd.C_drew ?_) | exact HR520_0.out)) | (with_reducible refine Kd.C_alloc ?_ _) | (with_reducible refine Kd.C_drewN ?_ _) | (with_reducible refine Kd.C_drew ?_)))
                (case side4 => exact HC520_0.out)
                rintro e w' ⟨rfl, ⟨nd, rfl⟩⟩; refine ⟨_, rfl, ?_⟩; have p42 : 0 ≤ (((rd_T71 t509 x13_3).f1) : Int) := dT; have q42 : (((rd_T71 t509 x13_3).f1) : Int) < ((x516002_3.length : Int) : Int) := dT; obtain ⟨go42, co42, eo42, gb42, gl42, cl42, HG42⟩ := Kd.R_form HO_516002.out (by omega)
                (first | cases eo42 | (injection eo42 with ea_ en_ ec_; (first | subst ea_ | (injection ea_ with ea_; subst ea_)); subst ec_; clear en_))
                have GB42 := am gb42; have GG42 := am HG42; clear gb42 gl42 HG42; obtain ⟨hx42_0, hf42_0⟩ := Kd.R_celln 0 HO_516002.out (((rd_T71 t509 x13_3).f1) : Int) p42 q42; replace p42 := eq_true p42; replace q42 := eq_true q42; have HP46 := Kd.R_putn HO_516002.out (((rd_T71 t509 x13_3).f1) : Int) (Int.tmod (wrap64 (t523 + (wrap64 (2 * t524)))) 3); rw [← Ny525.out] at HP46; have HQ46 := am HP46; clear HP46; refine hK.out _ _ ⟨cz BK515 0, cz BK515 1, cz BK515 2, hHeld.2.2.2.1, hHeld.2.2.2.2.1, hHeld.2.2.2.2.2.1, hHeld.2.2.2.2.2.2⟩ (fun hHeld => ?_); clear hK K; refine norm_ (a' := ?_) ?_ ?_; rotate_left; show Act.put _ (some 84) _ = _; simp only [aP, i64_w, i32_w]; rfl; refine pZ 18 (some 85) (bA 23 524287) HT_.out ?_; refine pZ 19 (some 86) (bA 23 1048575) HT_.out ?_; refine pZ 20 (some 87) (bA 23 2097151) HT_.out ?_; refine pZ 21 (some 88) (bA 23 4194303) HT_.out ?_; refine lZ 22 none (bA 23 8388607) HT_.out (fun K hK => ?_); refine skip_ (w1 := ?_) (by rfl) rfl ?_ ?_
                rotate_left
                ·go_simp
                 rfl
                refine hK.out _ _ ?_; clear hK K; refine done_ (done_of HT_.out (by kernel_rfl)) ?_
                try go_wp2
                go_roundg k3
                case measure => have := HJ3.out; have := HK2.out; have := HK3.out; omega
                case rel => exact ⟨(wrap64 (x13_3 - 1)), (y525), (.slice (some ⟨go42, 0, none⟩) x516002_3.length co45), wZ, H', ⟨by have := HJ3.out; have := HK2.out; have := HK3.out; omega⟩, ⟨Rz (Kd.R_mono (Kd.R_far (p := ⟨go42, (((rd_T71 t509 x13_3).f1) : Int).toNat, none⟩) (Kd.R_types HO_9.out GG42.out (by decide)) (fun _ hk => hk.2) (.int .i64 (Int.tmod (wrap64 (t523 + (wrap64 (2 * t524)))) 3))) (fun _ hk => trivial))⟩, ⟨by (with_reducible repeat (first | apply Kd.S_alloc | apply Kd.S_drewN | apply Kd.S_drew)); exact Kd.S_mono (Kd.S_far (p := ⟨go42, (((rd_T71 t509 x13_3).f1) : Int).toNat, none⟩) (Kd.S_mono HO_509001.out (fun k_ hk => (⟨hk, fun e_ => hk (by rw [e_]; rfl)⟩ : _ ∧ k_ ≠ go42))) (fun _ hk => hk.2) (.int .i64 (Int.tmod (wrap64 (t523 + (wrap64 (2 * t524)))) 3))) (fun _ hk => hk.1)⟩, ⟨by first | exact HQ46.out | exact Rz HQ46.out⟩, ⟨by (with_reducible repeat (first | refine blk_drewN ?_ _ | refine blk_drew ?_ | refine blk_alloc ?_ _)); refine blk_far ?_ (by have h_ := Kd.R_ne HO_516002.out BK501.out (by decide); intro e_; exact h_ (by rw [e_]; rfl)) _; (with_reducible repeat (first | refine blk_drewN ?_ _ | refine blk_drew ?_ | refine blk_alloc ?_ _)); exact BK501.out⟩, ⟨by (with_reducible repeat (first | refine blk_drewN ?_ _ | refine blk_drew ?_ | refine blk_alloc ?_ _)); refine blk_far ?_ (by have h_ := Kd.R_ne HO_516002.out BK508.out (by decide); intro e_; exact h_ (by rw [e_]; rfl)) _; (with_reducible repeat (first | refine blk_drewN ?_ _ | refine blk_drew ?_ | refine blk_alloc ?_ _)); exact BK508.out⟩, ⟨by (with_reducible repeat (first | refine blk_drewN ?_ _ | refine blk_drew ?_ | refine blk_alloc ?_ _)); refine blk_far ?_ (by have h_ := Kd.R_ne HO_516002.out BK515.out (by decide); intro e_; exact h_ (by rw [e_]; rfl)) _; (with_reducible repeat (first | refine blk_drewN ?_ _ | refine blk_drew ?_ | refine blk_alloc ?_ _)); exact BK515.out⟩, ⟨Bq⟩⟩
               ·rw [if_neg c41] at H
                exact absurd H (by simp)
              ·rw [if_neg c40] at H
               exact absurd H (by simp)
             ·rw [if_neg c37] at H
              exact absurd H (by simp)
            ·rw [if_neg c36] at H
             exact absurd H (by simp)
           ·rw [if_neg c35] at H
            exact absurd H (by simp)
          ·rw [if_neg c34] at H
           exact absurd H (by simp)
         ·rw [if_neg c33] at H
          have c33b0 : decide (0 ≤ x13_3) = false := decide_eq_false c33; clear c33
          simp only [Option.some.injEq, Prod.mk.injEq] at H
          obtain ⟨rfl, rfl, rfl, rfl⟩ := H; have hnb47 := NB515_501.out; have hnc47 := NB501_515.out; have hnb48 := NB515_508.out; have hnc48 := NB508_515.out; obtain ⟨hcz49_0, hcz49_1, hcz49_2, hfz49_0, hfz49_1, hfz49_2⟩ := cf3 (w := wr) BK515; have hnb50 := NB501_508.out; have hnc50 := NB508_501.out; obtain ⟨hcz51_0, hcz51_1, hcz51_2, hfz51_0, hfz51_1, hfz51_2⟩ := cf3 (w := wr) BK501; obtain ⟨Ao52, co52, eo52⟩ := Kd.R_slice HO_516002.out; subst eo52
          go_wp2
          refine bodyPost_ret (results_ct rfl _ _ gb501 29 #[.int .i64 a0, .int .i64 a2, .slice Ao52 x516002_3.length co52] (0, 0) _ rfl (by (with_reducible repeat (first | refine blk_drewN ?_ _ | refine blk_drew ?_ | refine blk_alloc ?_ _)); refine blk_put (cs := #[.int .i64 a0, .int .i64 a2, .slice none 0 0]) ?_ 2 _ rfl; (with_reducible repeat (first | refine blk_drewN ?_ _ | refine blk_drew ?_ | refine blk_alloc ?_ _)); refine blk_put (cs := #[.int .i64 a0, .int .i64 0, .slice none 0 0]) ?_ 1 _ rfl; (with_reducible repeat (first | refine blk_drewN ?_ _ | refine blk_drew ?_ | refine blk_alloc ?_ _)); refine blk_put (cs := #[.int .i64 0, .int .i64 0, .slice none 0 0]) ?_ 0 _ rfl; exact Kz BK501.out) Tryz.underlying29 rfl (by kernel_rfl)) rfl ?_; exact ⟨_, eZ, Rz (Kd.R_mono (Kd.R_far (p := ⟨gb501, 2, none⟩) (Kd.R_far (p := ⟨gb501, 1, none⟩) (Kd.R_far (p := ⟨gb501, 0, none⟩) (Kd.R_types HO_516002.out BK501.out (by decide)) (fun _ hk => hk.2) (.int .i64 a0)) (fun _ hk => hk.2) (.int .i64 a2)) (fun _ hk => hk.2) (.slice Ao52 x516002_3.length co52)) (fun _ hk => trivial)), Bq⟩

def laws_pSameInts.l0 : Nat → List Int → List Int → Int → Int → Option (Bool)
 | 0, _, _, _, _ => none
 | k + 1, x0, x1, x12, x13 => if x13 < x12 then (if 0 ≤ x13 then (if x13 < (x0.length : Int) then (if x13 < (x1.length : Int) then (if (rd x0 x13) = (rd x1 x13) then (laws_pSameInts.l0 k x0 x1 x12 (wrap64 (x13 + 1))) else (some false)) else (none)) else (none)) else (none)) else (some true)
def laws_pSameInts.f (k : Nat) (l0 : List Int) (l1 : List Int) : Option (Bool) := if (l0.length : Int) = (l1.length : Int) then (laws_pSameInts.l0 k l0 l1 (l0.length : Int) 0) else (some false)
theorem laws_pSameInts.calls (k : Nat) (A0 : Option Addr) (c0 : Nat) (l0 : List Int) (A1 : Option Addr) (c1 : Nat) (l1 : List Int) (r : Bool) (w : World) (hr0 : Kd.C (Kd.int .i64) w A0 l0.length l0) (hc0 : l0.length ≤ c0) (hr1 : Kd.C (Kd.int .i64) w A1 l1.length l1) (hc1 : l1.length ≤ c1) (h : laws_pSameInts.f k l0 l1 = some r) :
  Calls Tryz.prog 37 #[.slice A0 l0.length c0, .slice A1 l1.length c1] w fun e w' => e = .returned (.bool r) ∧ Drawn0 w w' := by
 have HR0 := am hr0; have HC0 := am hc0; clear hr0 hc0; have HR1 := am hr1; have HC1 := am hc1; clear hr1 hc1; have H : (if (l0.length : Int) = (l1.length : Int) then (laws_pSameInts.l0 k l0 l1 (l0.length : Int) 0) else (some false)) = some r := h; clear h
 by_cases c3 : (l0.length : Int) = (l1.length : Int)
 ·rw [if_pos c3] at H
  have c3b0 : ((l0.length : Int) == (l1.length : Int)) = true := beq_iff_eq.mpr c3; have c3b1 : ((l0.length : Int) != (l1.length : Int)) = false := bne_eq_false_iff_eq.mpr c3
  have c3b2 : (l0.length == l1.length) = true := by first | simpa using c3 | (simp at c3 ⊢; omega)
  clear c3; have H' := am H; clear H
  go_enter Tryz.func37, Tryz.ntmps37
  go_wp2
  repeat (go_quiet (fail); try go_wp2)
  go_loopg [13] k (fun kq v13 w' => ∃ (x13_1 : Int), v13 = .int .i64 x13_1 ∧ Aside0 (laws_pSameInts.l0 kq l0 l1 (l0.length : Int) x13_1 = some r) ∧ Aside0 (kq ≤ k) ∧ Drawn0 w w')
  case atStart => exact ⟨(0), wZ, H', ⟨Nat.le_refl _⟩, by repeat (first | exact Drawn0.refl _ | apply Drawn0.step)⟩
  case round =>
   clear H'
   try clear c1
   try clear p2
   try clear c3
   try clear c3b0
   try clear c3b1
   try clear c3b2
   obtain ⟨x13_1, rfl, HA, HK1, ⟨m1, rfl⟩⟩ := hrel; cases gk with
   | zero => exact absurd HA.out (by simp [laws_pSameInts.l0])
   | succ k1 =>
    have H := HA.out; clear HA
    simp only [laws_pSameInts.l0] at H
    by_cases c4 : x13_1 < (l0.length : Int)
    ·rw [if_pos c4] at H
     have c4b0 : decide (x13_1 < (l0.length : Int)) = true := decide_eq_true c4; clear c4
     by_cases c5 : 0 ≤ x13_1
     ·rw [if_pos c5] at H
      have c5b0 : decide (0 ≤ x13_1) = true := decide_eq_true c5; clear c5
      by_cases c6 : x13_1 < (l0.length : Int)
      ·rw [if_pos c6] at H
       have c6b0 : decide (x13_1 < (l0.length : Int)) = true := decide_eq_true c6; clear c6
       by_cases c7 : x13_1 < (l1.length : Int)
       ·rw [if_pos c7] at H
        have c7b0 : decide (x13_1 < (l1.length : Int)) = true := decide_eq_true c7; clear c7
        by_cases c8 : (rd l0 x13_1) = (rd l1 x13_1)
        ·rw [if_pos c8] at H
         have c8b0 : ((rd l0 x13_1) == (rd l1 x13_1)) = true := beq_iff_eq.mpr c8; have c8b1 : ((rd l0 x13_1) != (rd l1 x13_1)) = false := bne_eq_false_iff_eq.mpr c8; clear c8; have H' := am H; clear H; obtain ⟨ad526, e526, hx526_0⟩ := Kd.at_int HR0.out x13_1 dT dT; cases e526; have p526 := eT (0 ≤ (x13_1 : Int)); have q526 := eT (x13_1 < (l0.length : Int)); obtain ⟨ad527, e527, hx527_0⟩ := Kd.at_int HR1.out x13_1 dT dT; cases e527; have p527 := eT (0 ≤ (x13_1 : Int)); have q527 := eT (x13_1 < (l1.length : Int))
         go_wp2
         repeat (go_quiet (fail); try go_wp2)
         go_roundg k1
         case measure => have := HK1.out; omega
         case rel => exact ⟨(wrap64 (x13_1 + 1)), wZ, H', ⟨by have := HK1.out; omega⟩, by repeat (first | exact Drawn0.refl _ | apply Drawn0.step)⟩
        ·rw [if_neg c8] at H
         have c8b0 : ((rd l0 x13_1) == (rd l1 x13_1)) = false := beq_eq_false_iff_ne.mpr c8; have c8b1 : ((rd l0 x13_1) != (rd l1 x13_1)) = true := bne_iff_ne.mpr c8; obtain rfl := Option.some.inj H; obtain ⟨ad526, e526, hx526_0⟩ := Kd.at_int HR0.out x13_1 dT dT; cases e526; have p526 := eT (0 ≤ (x13_1 : Int)); have q526 := eT (x13_1 < (l0.length : Int)); obtain ⟨ad527, e527, hx527_0⟩ := Kd.at_int HR1.out x13_1 dT dT; cases e527; have p527 := eT (0 ≤ (x13_1 : Int)); have q527 := eT (x13_1 < (l1.length : Int))
         go_wp2
         repeat (go_quiet (fail); try go_wp2)
         go_ret
         exact ⟨by first | rfl | (simp; done) | (simp [*]; done), by repeat (first | exact Drawn0.refl _ | apply Drawn0.step)⟩
       ·rw [if_neg c7] at H
        exact absurd H (by simp)
      ·rw [if_neg c6] at H
       exact absurd H (by simp)
     ·rw [if_neg c5] at H
      exact absurd H (by simp)
    ·rw [if_neg c4] at H
     have c4b0 : decide (x13_1 < (l0.length : Int)) = false := decide_eq_false c4; clear c4; obtain rfl := Option.some.inj H
     go_wp2
     repeat (go_quiet (fail); try go_wp2)
     go_ret
     exact ⟨by first | rfl | (simp; done) | (simp [*]; done), by repeat (first | exact Drawn0.refl _ | apply Drawn0.step)⟩
 ·rw [if_neg c3] at H
  have c3b0 : ((l0.length : Int) == (l1.length : Int)) = false := beq_eq_false_iff_ne.mpr c3; have c3b1 : ((l0.length : Int) != (l1.length : Int)) = true := bne_iff_ne.mpr c3
  have c3b2 : (l0.length == l1.length) = false := by first | simpa using c3 | (simp at c3 ⊢; omega)
  obtain rfl := Option.some.inj H
  go_enter Tryz.func37, Tryz.ntmps37
  go_wp2
  repeat (go_quiet (fail); try go_wp2)
  go_ret
  exact ⟨by first | rfl | (simp; done) | (simp [*]; done), by repeat (first | exact Drawn0.refl _ | apply Drawn0.step)⟩

def laws_pSamePeeled.f (k : Nat) (a0_0 : Int) (a0_1 : Int) (l0_2 : List Int) (a1_0 : Int) (a1_1 : Int) (l1_2 : List Int) : Option (Bool) := if a0_0 = a1_0 then (if a0_1 = a1_1 then ((laws_pSameInts.f k l0_2 l1_2).bind fun t530 => (some t530)) else (some false)) else (some false)
theorem laws_pSamePeeled.calls (k : Nat) (a0_0 : Int) (a0_1 : Int) (A0_2 : Option Addr) (c0_2 : Nat) (l0_2 : List Int) (a1_0 : Int) (a1_1 : Int) (A1_2 : Option Addr) (c1_2 : Nat) (l1_2 : List Int) (r : Bool) (w : World) (hr0_2 : Kd.C (Kd.int .i64) w A0_2 l0_2.length l0_2) (hc0_2 : l0_2.length ≤ c0_2) (hr1_2 : Kd.C (Kd.int .i64) w A1_2 l1_2.length l1_2) (hc1_2 : l1_2.length ≤ c1_2) (h : laws_pSamePeeled.f k a0_0 a0_1 l0_2 a1_0 a1_1 l1_2 = some r) :
  Calls Tryz.prog 8 #[.agg #[.int .i64 a0_0, .int .i64 a0_1, .slice A0_2 l0_2.length c0_2], .agg #[.int .i64 a1_0, .int .i64 a1_1, .slice A1_2 l1_2.length c1_2]] w fun e w' => e = .returned (.bool r) ∧ Below w.heap.size w w' := by
 have hu29 := Tryz.underlying29; have HR0_2 := am hr0_2; have HC0_2 := am hc0_2; clear hr0_2 hc0_2; have HR1_2 := am hr1_2; have HC1_2 := am hc1_2; clear hr1_2 hc1_2; have HB := am (Below.refl w.heap.size w); have H : (if a0_0 = a1_0 then (if a0_1 = a1_1 then ((laws_pSameInts.f k l0_2 l1_2).bind fun t530 => (some t530)) else (some false)) else (some false)) = some r := h; clear h
 by_cases c3 : a0_0 = a1_0
 ·rw [if_pos c3] at H
  have c3b0 : (a0_0 == a1_0) = true := beq_iff_eq.mpr c3; have c3b1 : (a0_0 != a1_0) = false := bne_eq_false_iff_eq.mpr c3; clear c3
  by_cases c4 : a0_1 = a1_1
  ·rw [if_pos c4] at H
   have c4b0 : (a0_1 == a1_1) = true := beq_iff_eq.mpr c4; have c4b1 : (a0_1 != a1_1) = false := bne_eq_false_iff_eq.mpr c4; clear c4; replace H := Option.bind_eq_some_iff.mp H; obtain ⟨t530, A50, H⟩ := H; (try dsimp -simprocs only at H); have A5 := am A50; clear A50; obtain rfl := Option.some.inj H
   go_enter Tryz.func8, Tryz.ntmps8
   go_wp2_with (first | ((with_reducible refine gate_dst (N := 2) rfl ?_); refine bE 2 #[.int .i64 a0_0, .int .i64 a0_1, .slice A0_2 l0_2.length c0_2] 29 ?_; intro gb528 hg w6 hbox hb; have n0_ := Bb HB hb; have n1_ := am (hbox); have n2_ := Gl HB hg; have n3_ := Gl HB hg; clear HB; revert n0_ n1_ n2_ n3_; intro HB BK528 GW528 GE528; clear hb hbox hg) | ((with_reducible refine gate_dst (N := 3) rfl ?_); refine bE 3 #[.int .i64 a1_0, .int .i64 a1_1, .slice A1_2 l1_2.length c1_2] 29 ?_; intro gb529 hg w7 hbox hb; have n0_ := Kb BK528 hb; have n1_ := Bc HB hb; have n2_ := am (hbox); have n3_ := Gm HB hg; have n4_ := Gm HB hg; have n5_ := Nl BK528 hg; have n6_ := Ng BK528 hg; clear BK528 HB; revert n0_ n1_ n2_ n3_ n4_ n5_ n6_; intro BK528 HB BK529 GW529 GE529 NB528_529 NB529_528; clear hb hbox hg; have hnb8 := NB528_529.out; have hnc8 := NB529_528.out; obtain ⟨hcz9_0, hcz9_1, hcz9_2, hfz9_0, hfz9_1, hfz9_2⟩ := cf3 (w := w7) BK528; obtain ⟨hcz10_0, hcz10_1, hcz10_2, hfz10_0, hfz10_1, hfz10_2⟩ := cf3 (w := w7) BK529) | (go_at_call 37; (with_reducible refine (laws_pSameInts.calls k _ _ l0_2 _ _ l1_2 t530 _ ?side1 ?side2 ?side3 ?side4 A5.out).mono ?_); (case side1 => exact Cz (Kd.C_below HR0_2.out HB.out)); (case side2 => exact HC0_2.out); (case side3 => exact Cz (Kd.C_below HR1_2.out HB.out)); (case side4 => exact HC1_2.out); rintro e w' ⟨rfl, ⟨nd, rfl⟩⟩))
   go_ret
   exact ⟨eZ, Bq⟩
  ·rw [if_neg c4] at H
   have c4b0 : (a0_1 == a1_1) = false := beq_eq_false_iff_ne.mpr c4; have c4b1 : (a0_1 != a1_1) = true := bne_iff_ne.mpr c4; obtain rfl := Option.some.inj H
   go_enter Tryz.func8, Tryz.ntmps8
   go_wp2_with (first | ((with_reducible refine gate_dst (N := 2) rfl ?_); refine bE 2 #[.int .i64 a0_0, .int .i64 a0_1, .slice A0_2 l0_2.length c0_2] 29 ?_; intro gb528 hg w11 hbox hb; have n0_ := Bb HB hb; have n1_ := am (hbox); have n2_ := Gl HB hg; have n3_ := Gl HB hg; clear HB; revert n0_ n1_ n2_ n3_; intro HB BK528 GW528 GE528; clear hb hbox hg) | ((with_reducible refine gate_dst (N := 3) rfl ?_); refine bE 3 #[.int .i64 a1_0, .int .i64 a1_1, .slice A1_2 l1_2.length c1_2] 29 ?_; intro gb529 hg w12 hbox hb; have n0_ := Kb BK528 hb; have n1_ := Bc HB hb; have n2_ := am (hbox); have n3_ := Gm HB hg; have n4_ := Gm HB hg; have n5_ := Nl BK528 hg; have n6_ := Ng BK528 hg; clear BK528 HB; revert n0_ n1_ n2_ n3_ n4_ n5_ n6_; intro BK528 HB BK529 GW529 GE529 NB528_529 NB529_528; clear hb hbox hg; have hnb13 := NB528_529.out; have hnc13 := NB529_528.out; obtain ⟨hcz14_0, hcz14_1, hcz14_2, hfz14_0, hfz14_1, hfz14_2⟩ := cf3 (w := w12) BK528; obtain ⟨hcz15_0, hcz15_1, hcz15_2, hfz15_0, hfz15_1, hfz15_2⟩ := cf3 (w := w12) BK529))
   go_ret
   exact ⟨eZ, Bq⟩
 ·rw [if_neg c3] at H
  have c3b0 : (a0_0 == a1_0) = false := beq_eq_false_iff_ne.mpr c3; have c3b1 : (a0_0 != a1_0) = true := bne_iff_ne.mpr c3; obtain rfl := Option.some.inj H
  go_enter Tryz.func8, Tryz.ntmps8
  go_wp2_with (first | ((with_reducible refine gate_dst (N := 2) rfl ?_); refine bE 2 #[.int .i64 a0_0, .int .i64 a0_1, .slice A0_2 l0_2.length c0_2] 29 ?_; intro gb528 hg w16 hbox hb; have n0_ := Bb HB hb; have n1_ := am (hbox); have n2_ := Gl HB hg; have n3_ := Gl HB hg; clear HB; revert n0_ n1_ n2_ n3_; intro HB BK528 GW528 GE528; clear hb hbox hg) | ((with_reducible refine gate_dst (N := 3) rfl ?_); refine bE 3 #[.int .i64 a1_0, .int .i64 a1_1, .slice A1_2 l1_2.length c1_2] 29 ?_; intro gb529 hg w17 hbox hb; have n0_ := Kb BK528 hb; have n1_ := Bc HB hb; have n2_ := am (hbox); have n3_ := Gm HB hg; have n4_ := Gm HB hg; have n5_ := Nl BK528 hg; have n6_ := Ng BK528 hg; clear BK528 HB; revert n0_ n1_ n2_ n3_ n4_ n5_ n6_; intro BK528 HB BK529 GW529 GE529 NB528_529 NB529_528; clear hb hbox hg; have hnb18 := NB528_529.out; have hnc18 := NB529_528.out; obtain ⟨hcz19_0, hcz19_1, hcz19_2, hfz19_0, hfz19_1, hfz19_2⟩ := cf3 (w := w17) BK528; obtain ⟨hcz20_0, hcz20_1, hcz20_2, hfz20_0, hfz20_1, hfz20_2⟩ := cf3 (w := w17) BK529))
  go_ret
  exact ⟨eZ, Bq⟩

-- NOT PRINTED: function 104 (slices_IndexFunc_int_int_104)

-- NOT PRINTED: function 76 (slices_ContainsFunc_int_int_76)

end Go.Proofs.YtmehagedoaopeaaGreat.PZ
